/- Parts of the proof of the law StepKeeps, number 4 of 4: laws over memory, contracts of functions, walks. No condition. -/
import Derived.Maps.RangeWalk
import Derived.Test.YtofjocjljbkjgaaQStepKeeps3
set_option linter.unusedVariables false
set_option linter.unusedSimpArgs false
namespace Go.Proofs.Ytofjocjljbkjgaa
open Go.RowKit
structure GJ where
  ok : Bool
  fit : Tr → Bool
structure GJ.Of (j : GJ) (g : Gr) : Prop where
  ok : j.ok = true ↔ g.Ok
  fit : ∀ x, j.fit x = true ↔ (x.kind = g.root ∧ SubOk g x)
theorem GJ.ex (g : Gr) : ∃ j : GJ, j.Of g := by
  classical exact ⟨⟨decide g.Ok, fun x => decide (x.kind = g.root ∧ SubOk g x)⟩, ⟨by simp, fun x => by simp⟩⟩
def doJ (j : GJ) (t : Tr) (s : Stp) : Except Int Tr :=
  match applyT t s with
  | .error n => .error n
  | .ok x => if j.ok then (if j.fit x then .ok x else .error 70) else .error 50
theorem applyT_ne {t : Tr} {s : Stp} {n : Int} (h : applyT t s = .error n) : n ≠ 0 := by
  unfold applyT at h
  split at h
  · exact doT_ne h
  · injection h with h; omega
theorem doJ_ne {j : GJ} {t : Tr} {s : Stp} {n : Int} (h : doJ j t s = .error n) : n ≠ 0 := by
  unfold doJ at h
  split at h
  · rename_i m e; injection h with h; rw [← h]; exact applyT_ne e
  · split at h
    · split at h
      · cases h
      · injection h with h; omega
    · injection h with h; omega
theorem upd_nodes : ∀ (p : List Nat) (t n x : Tr), Tr.at? p t = some n → (Tr.upd p t x).nodes + n.nodes = t.nodes + x.nodes
  | [], t, n, x, h => by simp only [Tr.at?, Option.some.injEq] at h; subst h; simp only [Tr.upd]; omega
  | i :: p, t, n, x, h => by
    simp only [Tr.at?] at h
    cases hk : t.kids[i]? with
    | none => rw [hk] at h; cases h
    | some k =>
      rw [hk] at h
      have ih := upd_nodes p k n x h
      simp only [Tr.upd, hk]
      rw [Tr.nodes_eq t, Tr.nodes_eq]
      have hi := (List.getElem?_eq_some_iff.1 hk).1
      have he := (List.getElem?_eq_some_iff.1 hk).2
      have h1 : nodesL t.kids = nodesL (t.kids.take i) + k.nodes + nodesL (t.kids.drop (i + 1)) := by
        rw [← he]
        have := nodesL_append (t.kids.take i) (t.kids.drop i)
        rw [List.take_append_drop, List.drop_eq_getElem_cons hi] at this
        simp only [nodesL] at this
        omega
      have h2 : nodesL (t.kids.set i (Tr.upd p k x)) = nodesL (t.kids.take i) + (Tr.upd p k x).nodes + nodesL (t.kids.drop (i + 1)) := by
        rw [List.set_eq_take_append_cons_drop, if_pos hi, nodesL_append]
        simp only [nodesL]; omega
      simp only [] at h1 h2 ⊢
      omega
theorem insAt_nodes (l : List Tr) (k : Nat) (x : Tr) : nodesL (insAt l k x) = nodesL l + x.nodes := by
  unfold insAt
  have := nodesL_append (l.take k) (l.drop k)
  rw [List.take_append_drop] at this
  rw [nodesL_append]; simp only [nodesL]; omega
theorem ins_nodes {p : List Nat} {t n x : Tr} {k : Nat} (h : Tr.at? p t = some n) : (Tr.upd p t { n with kids := insAt n.kids k x }).nodes = t.nodes + x.nodes := by
  have h1 := upd_nodes p t n { n with kids := insAt n.kids k x } h
  rw [Tr.nodes_eq { n with kids := insAt n.kids k x }, insAt_nodes] at h1
  have := Tr.nodes_eq n
  omega
theorem insertT_ok {t x sub : Tr} {par pl : Int} (h : insertT t par pl sub = .ok x) : ∃ p n, t.path par = some p ∧ Tr.at? p t = some n ∧ (0 ≤ pl ∧ pl ≤ n.kids.length) ∧ (∀ i ∈ sub.ids, InRange i) ∧ FreshIds t.ids sub.ids ∧ x = Tr.upd p t { n with kids := insAt n.kids pl.toNat sub } := by
  unfold insertT at h
  split at h
  · cases h
  · rename_i p hp
    split at h
    · cases h
    · rename_i n hn
      split at h
      · rename_i h1
        split at h
        · rename_i h2
          split at h
          · rename_i h3
            injection h with h
            exact ⟨p, n, hp, hn, h1, h2, h3, h.symm⟩
          · cases h
        · cases h
      · cases h
theorem deleteT_ok {t x : Tr} {id : Int} (h : deleteT t id = .ok x) : t.id ≠ id ∧ ∃ y, t.out id = some (y, x) := by
  unfold deleteT at h
  split at h
  · cases h
  · split at h
    · cases h
    · rename_i h1
      split at h
      · cases h
      · rename_i y r h2
        injection h with h
        exact ⟨h1, y, by rw [h2, h]⟩
theorem textT_ok {t x : Tr} {id : Int} {tx : ByteArray} (h : textT t id tx = .ok x) : ∃ p n, t.path id = some p ∧ Tr.at? p t = some n ∧ x = Tr.upd p t { n with text := tx } := by
  unfold textT at h
  split at h
  · cases h
  · rename_i p hp
    split at h
    · cases h
    · rename_i n hn
      injection h with h
      exact ⟨p, n, hp, hn, h.symm⟩
theorem moveT_ok {t x : Tr} {id par pl : Int} (h : moveT t id par pl = .ok x) : t.id ≠ id ∧ ∃ p x0 y r q n, t.path id = some p ∧ Tr.at? p t = some x0 ∧ x0.path par = none ∧ t.out id = some (y, r) ∧ r.path par = some q ∧ Tr.at? q r = some n ∧ (0 ≤ pl ∧ pl ≤ n.kids.length) ∧ x = Tr.upd q r { n with kids := insAt n.kids pl.toNat y } := by
  unfold moveT at h
  split at h
  · rename_i p p2 hp hp2
    split at h
    · cases h
    · rename_i h1
      split at h
      · cases h
      · rename_i x0 hx0
        split at h
        · cases h
        · rename_i h2
          split at h
          · cases h
          · rename_i y r ho
            split at h
            · cases h
            · rename_i q hq
              split at h
              · cases h
              · rename_i n hn
                split at h
                · rename_i h3
                  injection h with h
                  refine ⟨h1, p, x0, y, r, q, n, hp, hx0, ?_, ho, hq, hn, h3, h.symm⟩
                  cases e : x0.path par with
                  | none => rfl
                  | some _ => rw [e] at h2; simp at h2
                · cases h
  · cases h
theorem doT_nodes {t x : Tr} {s : Stp} (h : doT t s = .ok x) : x.nodes ≤ t.nodes + s.sub.nodes := by
  unfold doT at h
  split at h
  · obtain ⟨p, n, _, hn, _, _, _, rfl⟩ := insertT_ok h
    rw [ins_nodes hn]; omega
  split at h
  · obtain ⟨_, y, hy⟩ := deleteT_ok h
    have := Tr.out_nodes _ _ _ _ hy
    omega
  split at h
  · obtain ⟨_, p, x0, y, r, q, n, _, _, _, h0, _, h1, _, rfl⟩ := moveT_ok h
    have := Tr.out_nodes _ _ _ _ h0
    rw [ins_nodes h1]; omega
  split at h
  · obtain ⟨p, n, _, hn, rfl⟩ := textT_ok h
    have h2 := upd_nodes p t n { n with text := s.text } hn
    have h3 : ({ n with text := s.text } : Tr).nodes = n.nodes := by rw [Tr.nodes_eq, Tr.nodes_eq n]
    omega
  · cases h
theorem applyT_nodes {t x : Tr} {s : Stp} (h : applyT t s = .ok x) : x.nodes ≤ 4000 := by
  unfold applyT at h
  split at h
  · have := doT_nodes h; omega
  · cases h
theorem blk9 {w : World} {b : Nat} {a0 a1 a2 a3 a4 a5 a6 a7 a8 : Value} {t : TypeId} {fr : Nat × Nat} (h : w.heap[b]? = some (.cells #[a0, a1, a2, a3, a4, a5, a6, a7, a8] t fr)) :
    w.cell? ⟨b, 0, none⟩ = some a0 ∧ w.cell? ⟨b, 1, none⟩ = some a1 ∧ w.cell? ⟨b, 2, none⟩ = some a2 ∧ w.cell? ⟨b, 3, none⟩ = some a3 ∧ w.cell? ⟨b, 4, none⟩ = some a4 ∧ w.cell? ⟨b, 5, none⟩ = some a5 ∧ w.cell? ⟨b, 6, none⟩ = some a6 ∧ w.cell? ⟨b, 7, none⟩ = some a7 ∧ w.cell? ⟨b, 8, none⟩ = some a8 := by
  simp [World.cell?, h]
set_option maxHeartbeats 4000000 in
set_option maxRecDepth 100000 in
theorem do_any (g : Gr) (j : GJ) (hj : j.Of g) (Ag : Option Addr) (cg : Nat) (t : Tr) (s : Stp) (A : Option Addr) (c : Nat) (cs : List Value) (w : World) (hG : GrC w Ag cg g.kinds) (hT : TrC (fun b => b < w.heap.size) w t [.int .i64 (Tr.id t), .int .i64 (Tr.kind t), .string (Tr.text t), .slice A (Tr.kids t).length c]) (hS : StpC (fun b => b < w.heap.size) w s cs) :
    Calls Try.prog 24 #[.agg #[.slice Ag g.kinds.length cg, .int .i64 g.root], .agg #[.int .i64 (Tr.id t), .int .i64 (Tr.kind t), .string (Tr.text t), .slice A (Tr.kids t).length c], .agg cs.toArray] w (ApplyPost (doJ j t s) w) := by
  obtain ⟨As, c', rfl, hsub, htx, hlo, hhi⟩ := hS
  obtain ⟨W, hW⟩ : ∃ W, W = (((w.alloc (.cells #[.slice Ag g.kinds.length cg, .int .i64 g.root] 43)).alloc (.cells #[.int .i64 (Tr.id t), .int .i64 (Tr.kind t), .string (Tr.text t), .slice A (Tr.kids t).length c] 24)).alloc (.cells #[.int .i8 s.op, .int .i64 s.id, .int .i64 s.par, .int .i64 s.place, .string s.text, .int .i64 s.sub.id, .int .i64 s.sub.kind, .string s.sub.text, .slice As s.sub.kids.length c'] 27)).alloc (.cells #[.int .i64 0, .int .i64 0, .string ⟨#[]⟩, .slice none 0 0] 24) := ⟨_, rfl⟩
  have hcW : Chg [] w W := by rw [hW]; exact (by with_reducible repeat (first | exact Chg.refl _ _ | apply Chg.alloc | apply Chg.drew | apply Chg.drewN | (refine Chg.setCell ?_ _ _ (by simp))))
  have b0 : W.heap[w.heap.size]? = some (.cells #[.slice Ag g.kinds.length cg, .int .i64 g.root] 43 (0, 0)) := by rw [hW]; exact heap_old (heap_old (heap_old (heap_new _ _ rfl) _) _) _
  have b1 : W.heap[w.heap.size + 1]? = some (.cells #[.int .i64 (Tr.id t), .int .i64 (Tr.kind t), .string (Tr.text t), .slice A (Tr.kids t).length c] 24 (0, 0)) := by rw [hW]; exact heap_old (heap_old (heap_new _ _ (by simp)) _) _
  have b2 : W.heap[w.heap.size + 1 + 1]? = some (.cells #[.int .i8 s.op, .int .i64 s.id, .int .i64 s.par, .int .i64 s.place, .string s.text, .int .i64 s.sub.id, .int .i64 s.sub.kind, .string s.sub.text, .slice As s.sub.kids.length c'] 27 (0, 0)) := by rw [hW]; exact heap_old (heap_new _ _ (by simp)) _
  have b3 : W.heap[w.heap.size + 1 + 1 + 1]? = some (.cells #[.int .i64 0, .int .i64 0, .string ⟨#[]⟩, .slice none 0 0] 24 (0, 0)) := by rw [hW]; exact heap_new _ _ (by simp)
  have hap := apply_any t s A c _ W ((hT.kept hcW (by simp)).weak (fun b hb _ => Nat.lt_of_lt_of_le hb hcW.size)) ⟨As, c', rfl, (hsub.kept hcW (by simp)).weak (fun b hb _ => Nat.lt_of_lt_of_le hb hcW.size), htx, hlo, hhi⟩
  obtain ⟨p0, p1, p2, p3⟩ := blk4 b1
  obtain ⟨q0, q1, q2, q3, q4, q5, q6, q7, q8⟩ := blk9 b2
  have HW := Lib.hid (And.intro hW (And.intro hcW (And.intro b0 (And.intro b3 (And.intro hap (And.intro hG hj))))))
  rw [hW] at p0 p1 p2 p3 q0 q1 q2 q3 q4 q5 q6 q7 q8
  clear hW hcW b0 b1 b2 b3 hap hG hT hsub hj
  go_enter Try.func24, Try.ntmps24
  go_wp2_with fail
  rw [← HW.out.1]
  clear p0 p1 p2 p3 q0 q1 q2 q3 q4 q5 q6 q7 q8
  have hap := HW.out.2.2.2.2.1
  cases hr : applyT t s with
  | error n =>
    have hn0 := applyT_ne hr
    have e0 : (n == 0) = false := by simpa using hn0
    have e0' : (n != 0) = true := by simpa using hn0
    have hd : doJ j t s = .error n := by unfold doJ; rw [hr]
    unfold ApplyPost at hap
    simp only [hr] at hap
    have HA := Lib.hid (And.intro hap hd)
    clear hap hd hr hn0
    refine HA.out.1.mono ?_
    rintro e X ⟨rfl, hX⟩
    have x3 := hX.at HW.out.2.2.2.1 (by simp)
    have hl3 := lt_of_block x3
    obtain ⟨r0, r1, r2, r3⟩ := blk4 x3
    have f0 := blkF x3 0
    have f1 := blkF x3 1
    have f2 := blkF x3 2
    have f3 := blkF x3 3
    have HX := Lib.hid (And.intro hX x3)
    clear hX x3
    go_wp2_with (skip; fail)
    refine bodyPost_ret (v := .tuple #[.agg #[.int .i64 0, .int .i64 0, .string ⟨#[]⟩, .slice none 0 0], .int .i64 n]) (results_row_tmp rfl _ _ (w.heap.size + 1 + 1 + 1) _ _ _ _ _ rfl rfl (heap_old (set4 HX.out.2) _) Try.underlying24 rfl szNode) rfl ?_
    unfold ApplyPost
    rw [HA.out.2]
    exact ⟨rfl, ((HW.out.2.1.trans HX.out.1).andThen (chg4 _ _ _ _ _ _) (by simp; omega)).alloc _⟩
  | ok x =>
    have hxn := applyT_nodes hr
    have hd : doJ j t s = if j.ok then (if j.fit x then .ok x else .error 70) else .error 50 := by unfold doJ; rw [hr]
    unfold ApplyPost at hap
    simp only [hr] at hap
    have HA := Lib.hid (And.intro hap (And.intro hd hxn))
    clear hap hd hr hxn
    refine HA.out.1.mono ?_
    rintro e X ⟨B, d, rfl, hV, hX⟩
    have x0 := hX.at HW.out.2.2.1 (by simp)
    have x3 := hX.at HW.out.2.2.2.1 (by simp)
    have hl3 := lt_of_block x3
    obtain ⟨Y, hY⟩ : ∃ Y, Y = X.alloc (.cells #[.int .i64 (Tr.id x), .int .i64 (Tr.kind x), .string (Tr.text x), .slice B (Tr.kids x).length d] 24) := ⟨_, rfl⟩
    have hXY : Chg [] X Y := by rw [hY]; exact (by with_reducible repeat (first | exact Chg.refl _ _ | apply Chg.alloc | apply Chg.drew | apply Chg.drewN | (refine Chg.setCell ?_ _ _ (by simp))))
    have y0 := hXY.at x0 (by simp)
    have y3 := hXY.at x3 (by simp)
    have y4 : Y.heap[X.heap.size]? = some (.cells #[.int .i64 (Tr.id x), .int .i64 (Tr.kind x), .string (Tr.text x), .slice B (Tr.kids x).length d] 24 (0, 0)) := by rw [hY]; exact heap_new _ _ rfl
    have hYs : Y.heap.size = X.heap.size + 1 := by rw [hY]; simp
    obtain ⟨a0, a1⟩ := cell2 y0
    obtain ⟨m0, m1, m2, m3⟩ := blk4 y4
    have HX := Lib.hid (And.intro (hX.trans hXY) (And.intro y3 (And.intro y4 (And.intro (hV.kept hXY (by simp)) (And.intro hXY (And.intro hYs hY))))))
    rw [hY] at a0 a1 m0 m1 m2 m3
    have htr := gtree_any g Ag cg x B d Y (HW.out.2.2.2.2.2.1.kept (HW.out.2.1.trans HX.out.1)) (HX.out.2.2.2.1.toC.weak (fun b hb _ => by have := hb.2; omega)) (by have := HA.out.2.2; omega)
    have HT := Lib.hid htr
    clear hX hV x0 x3 hXY y0 y3 y4 hY hYs htr
    go_wp2_with fail
    rw [← HX.out.2.2.2.2.2.2]
    clear a0 a1 m0 m1 m2 m3
    refine HT.out.mono ?_
    rintro e Z ⟨a, z, rfl, h1, h2, hZ⟩
    have z3 := hZ.at HX.out.2.1 (by simp)
    have z4 := hZ.at HX.out.2.2.1 (by simp)
    obtain ⟨r0, r1, r2, r3⟩ := blk4 z3
    have f0 := blkF z3 0
    have f1 := blkF z3 1
    have f2 := blkF z3 2
    have f3 := blkF z3 3
    obtain ⟨m0, m1, m2, m3⟩ := blk4 z4
    have hC4 := chg4 Z (w.heap.size + 1 + 1 + 1)
    have HZ := Lib.hid (And.intro h1 (And.intro h2 (And.intro hZ (And.intro z3 hC4))))
    have hWs := lt_of_block HW.out.2.2.2.1
    have hXs := HX.out.2.2.2.2.2.1
    clear h1 h2 hZ z3 z4 hC4
    by_cases hz : z = 0
    · subst hz
      have HO := Lib.hid (HZ.out.1.1 rfl)
      go_wp2_with (skip; fail)
      refine bodyPost_ret (v := .tuple #[.agg #[.int .i64 (Tr.id x), .int .i64 (Tr.kind x), .string (Tr.text x), .slice B (Tr.kids x).length d], .int .i64 0]) (results_row_tmp rfl _ _ (w.heap.size + 1 + 1 + 1) _ _ _ _ _ rfl rfl (set4 HZ.out.2.2.2.1) Try.underlying24 rfl szNode) rfl ?_
      unfold ApplyPost
      rw [HA.out.2.1, if_pos (HW.out.2.2.2.2.2.2.ok.2 HO.out.1), if_pos ((HW.out.2.2.2.2.2.2.fit x).2 HO.out.2)]
      have hc4 := HZ.out.2.2.2.2 (.int .i64 x.id) (.int .i64 x.kind) (.string x.text) (.slice B x.kids.length d)
      have hs := HZ.out.2.2.1.size
      have hs2 := hc4.size
      exact ⟨B, d, rfl, ((HX.out.2.2.2.1.kept HZ.out.2.2.1 (by simp)).kept hc4 (fun b hb => by simp; omega)).weak (fun b hb => ⟨by omega, by omega⟩), ((HW.out.2.1.trans HX.out.1).trans HZ.out.2.2.1).andThen hc4 (by simp; omega)⟩
    · have e0 : (z == 0) = false := by simpa using hz
      have e0' : (z != 0) = true := by simpa using hz
      have hres : (if j.ok then (if j.fit x then (.ok x : Except Int Tr) else .error 70) else .error 50) = .error z := by
        rcases HZ.out.2.1 with h | ⟨h, h'⟩ | ⟨h, h'⟩
        · exact absurd h hz
        · rw [if_neg (fun e => h' (HW.out.2.2.2.2.2.2.ok.1 e)), h]
        · rw [if_pos (HW.out.2.2.2.2.2.2.ok.2 h'), if_neg (fun e => hz (HZ.out.1.2 ⟨h', (HW.out.2.2.2.2.2.2.fit x).1 e⟩)), h]
      have HR := Lib.hid hres
      clear hz hres
      go_wp2_with (skip; fail)
      refine bodyPost_ret (v := .tuple #[.agg #[.int .i64 0, .int .i64 0, .string ⟨#[]⟩, .slice none 0 0], .int .i64 z]) (results_row_tmp rfl _ _ (w.heap.size + 1 + 1 + 1) _ _ _ _ _ rfl rfl (set4 HZ.out.2.2.2.1) Try.underlying24 rfl szNode) rfl ?_
      unfold ApplyPost
      rw [HA.out.2.1, HR.out]
      exact ⟨rfl, ((HW.out.2.1.trans HX.out.1).trans HZ.out.2.2.1).andThen (HZ.out.2.2.2.2 _ _ _ _) (by simp; omega)⟩
end Go.Proofs.Ytofjocjljbkjgaa
namespace Go.Proofs.Ytofjocjljbkjgaa
open Go.RowKit
def Tr.lab (t : Tr) : Int × Int × ByteArray := (t.id, t.kind, t.text)
mutual
def Tr.labs : Tr → List (Int × Int × ByteArray)
  | ⟨i, k, x, ks⟩ => (i, k, x) :: labsL ks
def labsL : List Tr → List (Int × Int × ByteArray)
  | [] => []
  | k :: ks => k.labs ++ labsL ks
end
theorem Tr.labs_eq (t : Tr) : t.labs = t.lab :: labsL t.kids := by cases t; rfl
theorem labsL_append (a b : List Tr) : labsL (a ++ b) = labsL a ++ labsL b := by
  induction a with
  | nil => rfl
  | cons k a ih => simp only [List.cons_append, labsL, ih, List.append_assoc]
mutual
theorem Tr.labs_ids : ∀ t : Tr, t.labs.map (·.1) = t.ids
  | ⟨i, k, x, ks⟩ => by simp only [Tr.labs, Tr.ids, List.map_cons, labsL_ids ks]
theorem labsL_ids : ∀ ks : List Tr, (labsL ks).map (·.1) = idsL ks
  | [] => rfl
  | k :: ks => by simp only [labsL, idsL, List.map_append, Tr.labs_ids k, labsL_ids ks]
end
mutual
theorem Tr.walk_labs : ∀ (t : Tr) (d : Int), (t.walk d).map (·.1.lab) = t.labs
  | ⟨i, k, x, ks⟩, d => by simp only [Tr.walk, Tr.labs, List.map_cons, walkL_labs ks (d + 1)]; rfl
theorem walkL_labs : ∀ (ks : List Tr) (d : Int), (walkL ks d).map (·.1.lab) = labsL ks
  | [], _ => rfl
  | k :: ks, d => by simp only [walkL, labsL, List.map_append, Tr.walk_labs k d, walkL_labs ks d]
end
theorem upd_labs : ∀ (p : List Nat) (t n : Tr), Tr.at? p t = some n → ∃ l1 l2, t.labs = l1 ++ n.labs ++ l2 ∧ ∀ x, (Tr.upd p t x).labs = l1 ++ x.labs ++ l2
  | [], t, n, h => by simp only [Tr.at?, Option.some.injEq] at h; subst h; exact ⟨[], [], by simp, fun x => by simp [Tr.upd]⟩
  | i :: p, t, n, h => by
    simp only [Tr.at?] at h
    cases hk : t.kids[i]? with
    | none => rw [hk] at h; cases h
    | some k =>
      rw [hk] at h
      obtain ⟨l1, l2, h1, h2⟩ := upd_labs p k n h
      have hi := (List.getElem?_eq_some_iff.1 hk).1
      have he := (List.getElem?_eq_some_iff.1 hk).2
      have h3 : t.kids = t.kids.take i ++ k :: t.kids.drop (i + 1) := by
        rw [← he, ← List.drop_eq_getElem_cons hi, List.take_append_drop]
      refine ⟨t.lab :: labsL (t.kids.take i) ++ l1, l2 ++ labsL (t.kids.drop (i + 1)), ?_, fun x => ?_⟩
      · rw [Tr.labs_eq, congrArg labsL h3, labsL_append]
        simp only [labsL, h1, List.append_assoc, List.cons_append]
      · simp only [Tr.upd, hk]
        rw [Tr.labs_eq]
        simp only [List.set_eq_take_append_cons_drop, if_pos hi, labsL_append, labsL, h2, List.append_assoc, List.cons_append]
        rfl
mutual
theorem Tr.out_labs (id : Int) : ∀ (t y r : Tr), t.out id = some (y, r) → t.labs.Perm (r.labs ++ y.labs)
  | ⟨i, k, x, ks⟩, y, r, h => by
    rw [Tr.out] at h
    cases h1 : outL id ks with
    | none => rw [h1] at h; cases h
    | some z =>
      obtain ⟨z1, z2⟩ := z
      rw [h1] at h
      simp at h
      obtain ⟨rfl, rfl⟩ := h
      exact (by simp only [Tr.labs, List.cons_append]; exact (outL_labs id ks z1 z2 h1).cons _)
theorem outL_labs (id : Int) : ∀ (ks : List Tr) (y : Tr) (rs : List Tr), outL id ks = some (y, rs) → (labsL ks).Perm (labsL rs ++ y.labs)
  | [], y, rs, h => by simp [outL] at h
  | k :: ks, y, rs, h => by
    rw [outL] at h
    by_cases hk : k.id = id
    · rw [if_pos hk] at h; simp at h; obtain ⟨rfl, rfl⟩ := h; exact (by simp only [labsL]; exact List.perm_append_comm)
    · rw [if_neg hk] at h
      cases h1 : k.out id with
      | some z =>
        obtain ⟨z1, z2⟩ := z
        rw [h1] at h; simp at h; obtain ⟨rfl, rfl⟩ := h
        have h2 := Tr.out_labs id k z1 z2 h1
        simp only [labsL, List.append_assoc]
        refine (h2.append_right _).trans ?_
        rw [List.append_assoc]
        exact (List.perm_append_comm).append_left _
      | none =>
        rw [h1] at h
        cases h2 : outL id ks with
        | none => rw [h2] at h; cases h
        | some z =>
          obtain ⟨z1, z2⟩ := z
          rw [h2] at h; simp at h; obtain ⟨rfl, rfl⟩ := h
          have h3 := outL_labs id ks z1 z2 h2
          simp only [labsL, List.append_assoc]
          exact h3.append_left _
end
theorem insAt_labs (l : List Tr) (k : Nat) (x : Tr) : (labsL (insAt l k x)).Perm (labsL l ++ x.labs) := by
  unfold insAt
  have h : labsL l = labsL (l.take k) ++ labsL (l.drop k) := by rw [← labsL_append, List.take_append_drop]
  rw [labsL_append, h]
  simp only [labsL, List.append_assoc]
  exact List.perm_append_comm.append_left _
theorem ins_labs {p : List Nat} {t n x : Tr} {k : Nat} (h : Tr.at? p t = some n) : (Tr.upd p t { n with kids := insAt n.kids k x }).labs.Perm (t.labs ++ x.labs) := by
  obtain ⟨l1, l2, h1, h2⟩ := upd_labs p t n h
  rw [h2, h1, Tr.labs_eq { n with kids := insAt n.kids k x }, Tr.labs_eq n]
  have h3 : ({ n with kids := insAt n.kids k x } : Tr).lab = n.lab := rfl
  rw [h3]
  simp only [List.append_assoc, List.cons_append]
  refine ((((insAt_labs n.kids k x).append_right l2).cons _).append_left l1).trans ?_
  simp only [List.append_assoc]
  exact (((List.perm_append_comm).append_left _).cons _).append_left l1
def nodesOf (t : Tr) : List Tr := (t.walk 1).map (·.1)
theorem nodesOf_labs (t : Tr) : (nodesOf t).map Tr.lab = t.labs := by unfold nodesOf; rw [List.map_map]; exact Tr.walk_labs t 1
theorem nodesOf_ids (t : Tr) : (nodesOf t).map (·.id) = t.ids := by unfold nodesOf; rw [List.map_map]; exact Tr.walk_ids t 1
theorem lastOf_mem {n : Int} {y : Tr} : ∀ {l : List Tr}, lastOf n l = some y → y ∈ l ∧ y.id = n
  | [], h => by simp [lastOf] at h
  | x :: l, h => by
    rw [lastOf] at h
    cases h1 : lastOf n l with
    | some z => rw [h1] at h; cases h; have := lastOf_mem h1; exact ⟨by simp [this.1], this.2⟩
    | none =>
      rw [h1] at h
      simp only [] at h
      split at h
      · cases h; exact ⟨by simp, by assumption⟩
      · cases h
theorem lastOf_none_iff (n : Int) : ∀ l : List Tr, lastOf n l = none ↔ n ∉ l.map (·.id)
  | [] => by simp [lastOf]
  | x :: l => by
    have ih := lastOf_none_iff n l
    rw [lastOf]
    cases h1 : lastOf n l with
    | some z =>
      rw [h1] at ih
      simp only [reduceCtorEq, false_iff, List.map_cons, List.mem_cons, not_or, not_and, Classical.not_not]
      intro _
      exact Classical.byContradiction fun h => by have := ih.2 h; cases this
    | none =>
      rw [h1] at ih
      have := ih.1 rfl
      simp only [List.map_cons, List.mem_cons, not_or]
      by_cases hx : x.id = n
      · simp [hx]
      · simp only [hx, if_false, true_iff]; exact ⟨fun e => hx e.symm, this⟩
theorem lastOf_lab {n : Int} {t y : Tr} (h : lastOf n (nodesOf t) = some y) : y.lab ∈ t.labs ∧ y.id = n := by
  obtain ⟨h1, h2⟩ := lastOf_mem h
  exact ⟨by rw [← nodesOf_labs]; exact List.mem_map_of_mem h1, h2⟩
theorem lastOf_ids {n : Int} {t : Tr} : lastOf n (nodesOf t) = none ↔ n ∉ t.ids := by rw [lastOf_none_iff, nodesOf_ids]
theorem lastOf_some {n : Int} {t : Tr} (h : n ∈ t.ids) : ∃ y, lastOf n (nodesOf t) = some y := by
  cases e : lastOf n (nodesOf t) with
  | none => exact absurd h (lastOf_ids.1 e)
  | some y => exact ⟨y, rfl⟩
theorem lab_uniq {l : List (Int × Int × ByteArray)} (h : (l.map (·.1)).Nodup) {a b : Int × Int × ByteArray} (ha : a ∈ l) (hb : b ∈ l) (e : a.1 = b.1) : a = b := by
  obtain ⟨i, hi, rfl⟩ := List.getElem_of_mem ha
  obtain ⟨j, hj, rfl⟩ := List.getElem_of_mem hb
  rcases Nat.lt_trichotomy i j with h1 | h1 | h1
  · exact absurd (by rw [List.getElem_map, List.getElem_map]; exact e) (List.pairwise_iff_getElem.1 h i j (by simpa using hi) (by simpa using hj) h1)
  · subst h1; rfl
  · exact absurd (by rw [List.getElem_map, List.getElem_map]; exact e.symm) (List.pairwise_iff_getElem.1 h j i (by simpa using hj) (by simpa using hi) h1)
theorem lastOf_of_lab {t : Tr} (h : t.ids.Nodup) {a : Int × Int × ByteArray} (ha : a ∈ t.labs) : ∃ z, lastOf a.1 (nodesOf t) = some z ∧ z.lab = a := by
  obtain ⟨z, hz⟩ := lastOf_some (n := a.1) (t := t) (by rw [← Tr.labs_ids]; exact List.mem_map_of_mem ha)
  obtain ⟨h1, h2⟩ := lastOf_lab hz
  exact ⟨z, hz, lab_uniq (by rw [Tr.labs_ids]; exact h) h1 ha h2⟩
mutual
theorem Tr.at_walk : ∀ (t : Tr) (p : List Nat) (y : Tr) (d : Int), Tr.at? p t = some y → ∃ e, (y, e) ∈ t.walk d
  | ⟨i, k, x, ks⟩, [], y, d, h => by simp only [Tr.at?, Option.some.injEq] at h; subst h; exact ⟨d, by simp [Tr.walk]⟩
  | ⟨i, k, x, ks⟩, j :: p, y, d, h => by
    simp only [Tr.at?] at h
    cases hk : ks[j]? with
    | none => rw [hk] at h; cases h
    | some kk =>
      rw [hk] at h
      obtain ⟨e, he⟩ := atL_walk ks j kk p y (d + 1) hk h
      exact ⟨e, by simp [Tr.walk, he]⟩
theorem atL_walk : ∀ (ks : List Tr) (j : Nat) (kk : Tr) (p : List Nat) (y : Tr) (d : Int), ks[j]? = some kk → Tr.at? p kk = some y → ∃ e, (y, e) ∈ walkL ks d
  | [], j, kk, p, y, d, h, _ => by simp at h
  | k :: ks, 0, kk, p, y, d, h, h2 => by
    simp at h; subst h
    obtain ⟨e, he⟩ := Tr.at_walk k p y d h2
    exact ⟨e, by simp [walkL, he]⟩
  | k :: ks, j + 1, kk, p, y, d, h, h2 => by
    obtain ⟨e, he⟩ := atL_walk ks j kk p y d (by simpa using h) h2
    exact ⟨e, by simp [walkL, he]⟩
end
theorem node_uniq {t a b : Tr} (h : t.ids.Nodup) (ha : a ∈ nodesOf t) (hb : b ∈ nodesOf t) (e : a.id = b.id) : a = b := by
  rw [← nodesOf_ids] at h
  obtain ⟨i, hi, rfl⟩ := List.getElem_of_mem ha
  obtain ⟨j, hj, rfl⟩ := List.getElem_of_mem hb
  rcases Nat.lt_trichotomy i j with h1 | h1 | h1
  · exact absurd (by rw [List.getElem_map, List.getElem_map]; exact e) (List.pairwise_iff_getElem.1 h i j (by simpa using hi) (by simpa using hj) h1)
  · subst h1; rfl
  · exact absurd (by rw [List.getElem_map, List.getElem_map]; exact e.symm) (List.pairwise_iff_getElem.1 h j i (by simpa using hj) (by simpa using hi) h1)
theorem upd_id {p : List Nat} {t n x : Tr} (h : Tr.at? p t = some n) (hx : x.id = n.id) : (Tr.upd p t x).id = t.id := by
  cases p with
  | nil => simp only [Tr.at?, Option.some.injEq] at h; subst h; exact hx
  | cons i p =>
    simp only [Tr.at?] at h
    cases hk : t.kids[i]? with
    | none => rw [hk] at h; cases h
    | some k => simp only [Tr.upd, hk]
theorem ids_len (t : Tr) : t.ids.length = t.nodes := by rw [← Tr.walk_ids t 1, List.length_map, Tr.walk_length]
structure Keeps (t x : Tr) (s : Stp) : Prop where
  root : x.id = t.id
  dels : s.op = 2 → ∃ d, lastOf s.id (nodesOf t) = some d ∧ ∀ i y, lastOf i (nodesOf t) = some y → ((lastOf i (nodesOf x)).isSome = !(lastOf i (nodesOf d)).isSome) ∧ ∀ z, lastOf i (nodesOf x) = some z → y.kind = z.kind ∧ y.text = z.text
  stay : s.op ≠ 2 → ∀ i y, lastOf i (nodesOf t) = some y → ∃ z, lastOf i (nodesOf x) = some z ∧ y.kind = z.kind ∧ (y.text = z.text ∨ (s.op = 4 ∧ i = s.id))
  come : ∀ i, lastOf i (nodesOf x) ≠ none → lastOf i (nodesOf t) ≠ none ∨ (s.op = 1 ∧ lastOf i (nodesOf s.sub) ≠ none)
  count : s.op = 1 → x.nodes = t.nodes + s.sub.nodes ∧ s.sub.ids.Nodup
theorem stay_of_perm {t x : Tr} {l : List (Int × Int × ByteArray)} (hx : x.ids.Nodup) (h : x.labs.Perm (t.labs ++ l)) {i : Int} {y : Tr} (hy : lastOf i (nodesOf t) = some y) : ∃ z, lastOf i (nodesOf x) = some z ∧ y.kind = z.kind ∧ y.text = z.text := by
  obtain ⟨h1, rfl⟩ := lastOf_lab hy
  obtain ⟨z, hz, hl⟩ := lastOf_of_lab hx (h.mem_iff.2 (List.mem_append_left _ h1))
  simp only [Tr.lab, Prod.mk.injEq] at hl
  exact ⟨z, hz, hl.2.1.symm, hl.2.2.symm⟩
theorem doT_keeps {t x : Tr} {s : Stp} (ht : t.ids.Nodup) (hx : x.ids.Nodup) (h : doT t s = .ok x) : Keeps t x s := by
  unfold doT at h
  split at h
  · rename_i ho
    obtain ⟨p, n, _, hn, _, _, hf, rfl⟩ := insertT_ok h
    have hp := ins_labs (k := s.place.toNat) (x := s.sub) hn
    refine ⟨upd_id hn rfl, fun h => by omega, fun _ i y hy => ?_, fun i hi => ?_, fun _ => ⟨ins_nodes hn, hf.1⟩⟩
    · obtain ⟨z, h1, h2, h3⟩ := stay_of_perm hx hp hy
      exact ⟨z, h1, h2, .inl h3⟩
    · have h1 : i ∈ (Tr.upd p t { n with kids := insAt n.kids s.place.toNat s.sub }).ids := Classical.byContradiction fun h => hi (lastOf_ids.2 h)
      rw [← Tr.labs_ids] at h1
      rw [(hp.map (·.1)).mem_iff, List.map_append, Tr.labs_ids, Tr.labs_ids] at h1
      rcases List.mem_append.1 h1 with h1 | h1
      · exact .inl fun e => lastOf_ids.1 e h1
      · exact .inr ⟨ho, fun e => lastOf_ids.1 e h1⟩
  split at h
  · rename_i ho
    obtain ⟨hne, d, hd⟩ := deleteT_ok h
    have hp := Tr.out_labs _ _ _ _ hd
    have hi := Tr.out_perm _ _ _ _ hd
    obtain ⟨q, hq, hat⟩ := Tr.out_path _ _ _ _ hd hne
    obtain ⟨e, he⟩ := Tr.at_walk t q d 1 hat
    have hdm : d ∈ nodesOf t := List.mem_map.2 ⟨(d, e), he, rfl⟩
    have hlast : lastOf s.id (nodesOf t) = some d := by
      obtain ⟨z, hz⟩ := lastOf_some (n := s.id) (t := t) (by rw [← hi.2.1, ← nodesOf_ids]; exact List.mem_map_of_mem hdm)
      have := lastOf_mem hz
      rw [hz, node_uniq ht this.1 hdm (by rw [this.2, hi.2.1])]
    have hnd : (x.ids ++ d.ids).Nodup := hi.1.nodup_iff.1 ht
    refine ⟨hi.2.2, fun _ => ⟨d, hlast, fun i y hy => ⟨?_, fun z hz => ?_⟩⟩, fun h => absurd ho h, fun i hx' => .inl fun e => ?_, fun h => by omega⟩
    · have h1 : i ∈ t.ids := by have := lastOf_lab hy; rw [← Tr.labs_ids, ← this.2]; exact List.mem_map_of_mem this.1
      rw [hi.1.mem_iff] at h1
      rw [List.nodup_append] at hnd
      rcases List.mem_append.1 h1 with h1 | h1
      · obtain ⟨z, hz⟩ := lastOf_some h1
        have : lastOf i (nodesOf d) = none := lastOf_ids.2 fun h2 => hnd.2.2 i h1 i h2 rfl
        rw [hz, this]; rfl
      · obtain ⟨z, hz⟩ := lastOf_some h1
        have : lastOf i (nodesOf x) = none := lastOf_ids.2 fun h2 => hnd.2.2 i h2 i h1 rfl
        rw [hz, this]; rfl
    · obtain ⟨h1, h2⟩ := lastOf_lab hy
      obtain ⟨h3, h4⟩ := lastOf_lab hz
      have := lab_uniq (by rw [Tr.labs_ids]; exact ht) h1 (hp.mem_iff.2 (List.mem_append_left _ h3)) (by show y.id = z.id; rw [h2, h4])
      simp only [Tr.lab, Prod.mk.injEq] at this
      exact ⟨this.2.1, this.2.2⟩
    · exact hx' (lastOf_ids.2 fun h1 => lastOf_ids.1 e (hi.1.mem_iff.2 (List.mem_append_left _ h1)))
  split at h
  · rename_i ho
    obtain ⟨hne, p, x0, y, r, q, n, _, _, _, h0, _, h1, _, rfl⟩ := moveT_ok h
    have hp : (Tr.upd q r { n with kids := insAt n.kids s.place.toNat y }).labs.Perm (t.labs ++ []) := by
      rw [List.append_nil]
      exact (ins_labs h1).trans (Tr.out_labs _ _ _ _ h0).symm
    refine ⟨(upd_id (x := { n with kids := insAt n.kids s.place.toNat y }) h1 rfl).trans (Tr.out_perm _ _ _ _ h0).2.2, fun h => by omega, fun _ i y hy => ?_, fun i hi => .inl fun e => ?_, fun h => by omega⟩
    · obtain ⟨z, h1, h2, h3⟩ := stay_of_perm hx hp hy
      exact ⟨z, h1, h2, .inl h3⟩
    · refine hi (lastOf_ids.2 fun h2 => lastOf_ids.1 e ?_)
      rw [← Tr.labs_ids] at h2 ⊢
      rw [(hp.map (·.1)).mem_iff, List.append_nil] at h2
      exact h2
  split at h
  · rename_i ho
    obtain ⟨p, n, hpn, hn, rfl⟩ := textT_ok h
    obtain ⟨l1, l2, e1, e2⟩ := upd_labs p t n hn
    have e3 := e2 { n with text := s.text }
    obtain ⟨n', hn', hid⟩ := Tr.path_at s.id t p hpn
    rw [hn] at hn'; cases hn'
    have hids : (Tr.upd p t { n with text := s.text }).ids = t.ids := by
      rw [← Tr.labs_ids, ← Tr.labs_ids, e3, e1, Tr.labs_eq { n with text := s.text }, Tr.labs_eq n]
      simp [Tr.lab]
    refine ⟨upd_id hn rfl, fun h => by omega, fun _ i y hy => ?_, fun i hi => .inl fun e => ?_, fun h => by omega⟩
    · obtain ⟨h1, rfl⟩ := lastOf_lab hy
      rw [e1, Tr.labs_eq n] at h1
      by_cases hc : y.lab ∈ l1 ++ labsL n.kids ++ l2
      · obtain ⟨z, hz, hl⟩ := lastOf_of_lab (a := y.lab) hx (by
          rw [e3, Tr.labs_eq { n with text := s.text }]
          simp only [List.mem_append, List.mem_cons] at hc ⊢
          rcases hc with (h | h) | h
          · exact .inl (.inl h)
          · exact .inl (.inr (.inr h))
          · exact .inr h)
        simp only [Tr.lab, Prod.mk.injEq] at hl
        exact ⟨z, hz, hl.2.1.symm, .inl hl.2.2.symm⟩
      · have hyn : y.lab = n.lab := by
          simp only [List.mem_append, List.mem_cons, not_or] at hc h1
          rcases h1 with (h | h | h) | h
          · exact absurd h hc.1.1
          · exact h
          · exact absurd h hc.1.2
          · exact absurd h hc.2
        simp only [Tr.lab, Prod.mk.injEq] at hyn
        obtain ⟨z, hz, hl⟩ := lastOf_of_lab (a := ({ n with text := s.text } : Tr).lab) hx (by rw [e3, Tr.labs_eq { n with text := s.text }]; simp)
        simp only [Tr.lab, Prod.mk.injEq] at hl
        exact ⟨z, by rw [hyn.1]; exact hz, by rw [hyn.2.1, hl.2.1], .inr ⟨ho, by rw [hyn.1, hid]⟩⟩
    · refine hi (lastOf_ids.2 fun h2 => lastOf_ids.1 e ?_)
      rw [hids] at h2; exact h2
  · cases h
end Go.Proofs.Ytofjocjljbkjgaa
namespace Go.Proofs.Ytofjocjljbkjgaa
open Go.RowKit
open Go.ChangeMaps (setBlock)
theorem findI_mem {l : List MapEntry} (h : KeysI l) {e : MapEntry} (he : e ∈ l) : findI l (keyInt e.key) = some e.val := by
  obtain ⟨hq, hp⟩ := h
  clear hq
  induction l with
  | nil => simp at he
  | cons a l ih =>
    obtain ⟨h1, h2⟩ := List.pairwise_cons.1 hp
    rcases List.mem_cons.1 he with rfl | he
    · simp [findI]
    · have := h1 e he
      simp only [findI]
      rw [if_neg this]
      exact ih he h2
theorem findI_some {l : List MapEntry} {n : Int} {v : Value} (h : findI l n = some v) : ∃ e ∈ l, keyInt e.key = n ∧ e.val = v := by
  induction l with
  | nil => simp [findI] at h
  | cons a l ih =>
    simp only [findI] at h
    split at h
    · rename_i e; cases h; exact ⟨a, by simp, e, rfl⟩
    · obtain ⟨e, he, h1, h2⟩ := ih h; exact ⟨e, by simp [he], h1, h2⟩
def IterI (w : World) (b r : Nat) (m : Int → Option Value) (done : List Int) : Prop :=
  ∃ es clock since seen c0, w.heap[b]? = some (.map es clock) ∧ (KeysI es.toList ∧ Go.MapKept.Stamped es clock) ∧ (∀ n, findI es.toList n = m n) ∧ w.heap[r]? = some (.mapIter (some b) since seen c0) ∧ (∀ x ∈ es.toList, x.born < since) ∧ (since ≤ c0 ∧ since ≤ clock) ∧
    ∀ x ∈ es.toList, seen.contains x.born = true ↔ keyInt x.key ∈ done
theorem IterI.map {w : World} {b r : Nat} {m : Int → Option Value} {done : List Int} (h : IterI w b r m done) : MapI w b m := by
  obtain ⟨es, clock, since, seen, c0, h1, h2, h3, _⟩ := h; exact ⟨es, clock, h1, h2, h3⟩
theorem IterI.lt {w : World} {b r : Nat} {m : Int → Option Value} {done : List Int} (h : IterI w b r m done) : r < w.heap.size := by
  obtain ⟨es, clock, since, seen, c0, _, _, _, h1, _⟩ := h; exact lt_of_block h1
theorem IterI.ne {w : World} {b r : Nat} {m : Int → Option Value} {done : List Int} (h : IterI w b r m done) : r ≠ b := by
  obtain ⟨es, clock, since, seen, c0, h1, _, _, h2, _⟩ := h
  intro e; rw [e, h1] at h2; cases h2
theorem IterI.kept {w w' : World} {b r : Nat} {m : Int → Option Value} {done : List Int} {l : List Nat} (h : IterI w b r m done) (hc : Chg l w w') (hb : b ∉ l) (hr : r ∉ l) : IterI w' b r m done := by
  obtain ⟨es, clock, since, seen, c0, h1, h2, h3, h4, h5⟩ := h
  exact ⟨es, clock, since, seen, c0, hc.at h1 hb, h2, h3, hc.at h4 hr, h5⟩
theorem IterI.left_kept {w w' : World} {b r : Nat} {m : Int → Option Value} {done : List Int} {l : List Nat} (h : IterI w b r m done) (hc : Chg l w w') (hb : b ∉ l) (hr : r ∉ l) : w'.rangeLeft b r = w.rangeLeft b r := by
  obtain ⟨es, clock, since, seen, c0, h1, h2, h3, h4, h5⟩ := h
  simp only [World.rangeLeft, h1, h4, hc.at h1 hb, hc.at h4 hr]
section
variable {P : Program} {T K E : TypeId} {w : World} {b r : Nat} {m : Int → Option Value} {done : List Int}
theorem range_run (hT : P.underlying T = some (.map K E)) (h : MapI w b m) :
    ∃ w', (Instr.range T (.map (some b))).run P w = .ok (.pointer (some ⟨w.heap.size, 0, none⟩)) w' ∧ IterI w' b w.heap.size m [] ∧ Chg [] w w' ∧ w'.heap.size = w.heap.size + 1 := by
  obtain ⟨es, clock, hb, hk, hm⟩ := h
  have hlt := lt_of_block hb
  exact ⟨_, run_range_map w T K E b es clock hT hb, ⟨es, clock, clock, #[], clock, heap_old hb _, hk, hm, heap_new _ _ rfl, hk.2.1, ⟨Nat.le_refl _, Nat.le_refl _⟩, fun x hx => by simp⟩, (Chg.refl _ _).alloc _, by simp⟩
theorem IterI.next (h : IterI w b r m done) (ty : TypeId) :
    ((∀ n v, m n = some v → n ∈ done) ∧ (Instr.next (.pointer (some ⟨r, 0, none⟩)) false ty).run P w = .ok (.tuple #[.bool false]) w) ∨
    ∃ n v w', m n = some v ∧ n ∉ done ∧ (Instr.next (.pointer (some ⟨r, 0, none⟩)) false ty).run P w = .ok (.tuple #[.bool true, .int .i64 n, v]) w' ∧ IterI w' b r m (done ++ [n]) ∧ w'.rangeLeft b r < w.rangeLeft b r ∧ Chg [r] w w' ∧ w'.heap.size = w.heap.size ∧ (Instr.entry (.pointer (some ⟨r, 0, none⟩))).run P w' = .ok (.tuple #[.int .i64 n, v]) w' := by
  have hne := h.ne
  obtain ⟨es, clock, since, seen, c0, hb, hk, hm, hr, hold, ⟨hsc, hsk⟩, hd⟩ := h
  rcases run_next_at (P := P) w ty r b since c0 seen es clock hr hb hold hsc with ⟨h0, hrun⟩ | ⟨e, he, w1, hal, hrun⟩
  · refine .inl ⟨fun n v hn => ?_, hrun⟩
    rw [← hm n] at hn
    obtain ⟨x, hx, h1, _⟩ := findI_some hn
    rw [← h1]
    exact (hd x hx).1 (all_seen es seen h0 x hx)
  · obtain ⟨hem, hes⟩ := mem_left he
    have hr1 : w1.heap[r]? = some (.mapIter (some b) since seen c0) := by rcases hal with rfl | rfl <;> exact hr
    have hb1 : w1.heap[b]? = some (.map es clock) := by rcases hal with rfl | rfl <;> exact hb
    have hset := Go.MapKept.heap_set (o' := .mapIter (some b) since (seen.push e.born) clock) hr1
    have hb' : (setBlock w1 r (.mapIter (some b) since (seen.push e.born) clock)).heap[b]? = some (.map es clock) := (hset.2 b (fun e1 => hne e1.symm)).trans hb1
    have hst := (Go.MapKept.stamped_iff es clock).1 hk.2
    have hkey := hk.1.ints e hem
    have hmn : m (keyInt e.key) = some e.val := by rw [← hm]; exact findI_mem hk.1 hem
    have hc1 : Chg [r] w (setBlock w1 r (.mapIter (some b) since (seen.push e.born) clock)) := by
      rcases hal with rfl | rfl <;> exact ⟨rfl, rfl, rfl, by simp [setBlock], fun i _ hi => hset.2 i (fun e1 => hi (by rw [e1]; simp))⟩
    refine .inr ⟨keyInt e.key, e.val, _, hmn, fun hin => ?_, by rw [← hkey]; exact hrun, ⟨es, clock, since, seen.push e.born, clock, hb', hk, hm, hset.1, hold, ⟨hsk, hsk⟩, fun x hx => ?_⟩, ?_, hc1, ?_, ?_⟩
    · have := (hd e hem).2 hin
      rw [this] at hes; cases hes
    · rw [contains_push]
      constructor
      · intro h1
        rcases Bool.or_eq_true_iff.1 h1 with h1 | h1
        · exact List.mem_append_left _ ((hd x hx).1 h1)
        · have : x = e := born_inj hst.2.1 hx hem (by simpa using h1)
          rw [this]; simp
      · intro h1
        rcases List.mem_append.1 h1 with h1 | h1
        · rw [(hd x hx).2 h1]; rfl
        · simp at h1
          have : x = e := by
            by_cases hxe : x = e
            · exact hxe
            · exfalso
              have := hk.1.apart
              obtain ⟨i, hi, rfl⟩ := List.getElem_of_mem hx
              obtain ⟨j, hj, rfl⟩ := List.getElem_of_mem hem
              rcases Nat.lt_trichotomy i j with h | h | h
              · exact List.pairwise_iff_getElem.1 this i j hi hj h h1
              · subst h; exact hxe rfl
              · exact List.pairwise_iff_getElem.1 this j i hj hi h h1.symm
          rw [this]; simp
    · have hsr : (setBlock w1 r (.mapIter (some b) since (seen.push e.born) clock)).heap[r]? = some (.mapIter (some b) since (seen.push e.born) clock) := hset.1
      simp only [World.rangeLeft, hb, hr, hb', hsr]
      exact left_shrinks es seen e he
    · rcases hal with rfl | rfl <;> simp [setBlock]
    · rw [← hkey]
      exact run_entry_at _ r b since seen es clock e hset.1 hb' hem hst.2.1
variable {ops : Array Oper} {rest : List Oper} {o : Oper} {a : Act} {Q : Exit → Act → World → Prop}
theorem wpList_range_I (hg : o.guard = none) (x : Operand) (hop : o.op = Op.range T x) (hT : P.underlying T = some (.map K E)) (h : MapI w b m) (hx : a.eval x = .map (some b))
    (k : ∀ w', IterI w' b w.heap.size m [] → Chg [] w w' → w'.heap.size = w.heap.size + 1 → wpList P ops Q rest (a.put o.dst (.pointer (some ⟨w.heap.size, 0, none⟩))) w') : wpList P ops Q (o :: rest) a w := by
  refine wpList_plain hg fun K' hK' => ?_
  obtain ⟨w', hrun, r1, r2, r3⟩ := range_run hT h
  unfold Oper.wp
  simp [execOp, hop, hx, hrun, Result.andThen]
  exact hK' _ _ (k w' r1 r2 r3)
theorem wpList_next_I (hg : o.guard = none) (it : Operand) (hop : o.op = Op.next it false) (hit : a.eval it = .pointer (some ⟨r, 0, none⟩)) (h : IterI w b r m done)
    (hDone : (∀ n v, m n = some v → n ∈ done) → wpList P ops Q rest (a.put o.dst (.tuple #[.bool false])) w)
    (hMore : ∀ n v w', m n = some v → n ∉ done → IterI w' b r m (done ++ [n]) → w'.rangeLeft b r < w.rangeLeft b r → Chg [r] w w' → w'.heap.size = w.heap.size → (Instr.entry (.pointer (some ⟨r, 0, none⟩))).run P w' = .ok (.tuple #[.int .i64 n, v]) w' → wpList P ops Q rest (a.put o.dst (.tuple #[.bool true, .int .i64 n, v])) w') : wpList P ops Q (o :: rest) a w := by
  refine wpList_plain hg fun K' hK' => ?_
  unfold Oper.wp
  rcases h.next (P := P) o.type with ⟨hl, hrun⟩ | ⟨n, v, w', h1, h2, hrun, h3, h4, h5, h6, h7⟩
  · simp [execOp, hop, hit, hrun, Result.andThen]
    exact hK' _ _ (hDone hl)
  · simp [execOp, hop, hit, hrun, Result.andThen]
    exact hK' _ _ (hMore n v w' h1 h2 h3 h4 h5 h6 h7)
theorem wpList_lookup_ok_I (hgd : o.guard = none) (x y : Operand) (ho : o.op = .lookup T x y true)
    (hT : P.underlying T = some (.map K E)) (hK : P.underlying K = some (.int .i64)) {z : Value} (hz : ∀ w, (zeroValue E).run P w = .ok z w) (h : MapI w b m) (n : Int) (hx : a.eval x = .map (some b)) (hy : a.eval y = .int .i64 n)
    {u : Value} (hu : (m n).getD z = u) {c : Bool} (hc : (m n).isSome = c) (k : wpList P ops Q rest (a.put o.dst (.tuple #[u, .bool c])) w) : wpList P ops Q (o :: rest) a w := by
  refine wpList_runv hgd (w' := w) ?_ k
  have := exec_lookup_I (P := P) (o := o) (a := a) x y true ho hT hK (hz w) h n hx hy
  rw [hu, hc] at this
  simpa using this
theorem exec_len_I {o : Oper} {a : Act} {w : World} {T K E : TypeId} (x : Operand) (ho : o.op = .call { callee := .builtin .len, args := #[x], argTypes := #[T] }) (hT : P.underlying T = some (.map K E)) (b : Nat) (es : Array MapEntry) (clock : Nat) (hx : a.eval x = .map (some b)) (hb : w.heap[b]? = some (.map es clock)) {n : Nat} (hn : es.size = n) :
    (execOp a.eval o).run P w = .ok (.value (.int .i64 n)) w := by
  subst hn
  have hrun : (Builtin.len_ #[T] o.type #[.map (some b)]).run P w = .ok (.int .i64 es.size) w := by
    simp [Builtin.len_, run_underlying hT, Go.MapKept.run_getObj_map hb, goInt, Result.andThen]
  simp [execOp, ho, resolve, invoke, builtin, hx, hrun, Result.andThen]
end
theorem MapI.count {w : World} {b : Nat} {m : Int → Option Value} (h : MapI w b m) {l : List Int} (hl : l.Nodup) (hm : ∀ n, (m n).isSome = true ↔ n ∈ l) : ∃ es clock, w.heap[b]? = some (.map es clock) ∧ es.size = l.length := by
  obtain ⟨es, clock, hb, ⟨hk, _⟩, hf⟩ := h
  refine ⟨es, clock, hb, ?_⟩
  have hp : (es.toList.map fun e => keyInt e.key).Perm l := by
    refine (List.perm_ext_iff_of_nodup (List.pairwise_map.2 hk.apart) hl).2 fun n => ?_
    rw [← hm, ← hf]
    constructor
    · intro hn
      obtain ⟨e, he, rfl⟩ := List.mem_map.1 hn
      rw [findI_mem hk he]; rfl
    · intro hn
      obtain ⟨v, hv⟩ := Option.isSome_iff_exists.1 hn
      obtain ⟨e, he, h1, _⟩ := findI_some hv
      exact List.mem_map.2 ⟨e, he, h1⟩
  have := hp.length_eq
  simpa using this
end Go.Proofs.Ytofjocjljbkjgaa
namespace Go.Proofs.Ytofjocjljbkjgaa
open Go.RowKit
def Kd.Small (k : Kd) : Prop := k.name.size ≤ 200 ∧ k.slots.length ≤ 20 ∧ ∀ (j : Nat) (s : Sl), k.slots[j]? = some s → s.kinds.length ≤ 40
def Gr.Small (g : Gr) : Prop := g.kinds.length ≤ 40 ∧ ∀ (i : Nat) (k : Kd), g.kinds[i]? = some k → k.Small
set_option maxHeartbeats 16000000 in
set_option maxRecDepth 100000 in
theorem great5_any (g : Gr) (A : Option Addr) (c : Nat) (w : World) (hG : GrC w A c g.kinds) :
    Calls Try.prog 21 #[.agg #[.slice A g.kinds.length c, .int .i64 g.root]] w (BoolIs (¬ g.Small) w) := by
  obtain ⟨W1, hW1⟩ : ∃ W1, W1 = w.alloc (.cells #[.slice A g.kinds.length c, .int .i64 g.root] 43) := ⟨_, rfl⟩
  have hch : Chg [] w W1 := by rw [hW1]; exact (by with_reducible repeat (first | exact Chg.refl _ _ | apply Chg.alloc | apply Chg.drew | apply Chg.drewN | (refine Chg.setCell ?_ _ _ (by simp))))
  have hg1 : W1.heap[w.heap.size]? = some (.cells #[.slice A g.kinds.length c, .int .i64 g.root] 43 (0, 0)) := by rw [hW1]; exact heap_new _ _ rfl
  have hgl : g.kinds.length ≤ 9223372036854775807 := by have := hG.cap; have := hG.big; omega
  have HC := Lib.hid (And.intro hch (And.intro hg1 (And.intro hW1 (hG.kept hch))))
  obtain ⟨a0, a1⟩ := cell2 hg1
  rw [hW1] at a0 a1
  clear hG hch hg1 hW1
  go_enter Try.func21, Try.ntmps21
  by_cases h40 : 40 < g.kinds.length
  · have d1 : decide (40 < (g.kinds.length : Int)) = true := decide_eq_true (by omega)
    have d1' : decide (40 < g.kinds.length) = true := decide_eq_true h40
    have HN := Lib.hid (show ¬ g.Small from fun h => by have := h.1; omega)
    go_wp2_with (skip; fail)
    go_ret
    exact ⟨true, rfl, by simp [HN.out], (by with_reducible repeat (first | exact Chg.refl _ _ | apply Chg.alloc | apply Chg.drew | apply Chg.drewN | (refine Chg.setCell ?_ _ _ (by simp))))⟩
  have d1 : decide (40 < (g.kinds.length : Int)) = false := decide_eq_false (by omega)
  have d1' : decide (40 < g.kinds.length) = false := decide_eq_false h40
  go_wp2_with (skip; fail)
  clear d1 d1' a0 a1
  rw [← HC.out.2.2.1]
  go_loopw [12] (fun iv wr => ∃ i : Nat, i ≤ g.kinds.length ∧ iv = .int .i64 i ∧ Hid (Chg [] W1 wr ∧ ∀ (j : Nat) (k : Kd), j < i → g.kinds[j]? = some k → k.Small)) (fun iv _ => g.kinds.length - (intOf iv).toNat)
  case atStart => exact ⟨0, Nat.zero_le _, rfl, Lib.hid ⟨Chg.refl _ _, fun j k hj => by omega⟩⟩
  case round =>
    obtain ⟨i, hi, rfl, H⟩ := hrel
    obtain ⟨V, hV⟩ : ∃ V, V = wr := ⟨_, rfl⟩
    subst hV
    obtain ⟨a0, a1⟩ := cell2 (H.out.1.at HC.out.2.1 (by simp))
    by_cases hlt : i < g.kinds.length
    · obtain ⟨gk, ok, hA, _, hat⟩ := (HC.out.2.2.2.kept H.out.1).row.at hlt
      obtain ⟨k, hk⟩ : ∃ k, k = g.kinds[i] := ⟨_, rfl⟩
      rw [← hk] at hat
      have hke : g.kinds[i]? = some k := by rw [hk]; exact List.getElem?_eq_getElem hlt
      obtain ⟨As, cs, hr, hnm, hsl, hrs⟩ := hat.range
      subst hA
      have e0 : V.cell? ⟨gk, ok + i * 3, none⟩ = some (.string k.name) := hr 0 _ rfl
      have e2 : V.cell? ⟨gk, ok + i * 3 + 2, none⟩ = some (.slice As k.slots.length cs) := hr 2 _ rfl
      have HK := Lib.hid (And.intro hke (And.intro hrs (And.intro e2 HC.out.2.1)))
      clear hk hat hke hr hrs
      by_cases h200 : 200 < k.name.size
      · have d1 : decide (200 < (k.name.size : Int)) = true := decide_eq_true (by omega)
        have d1' : decide (200 < k.name.size) = true := decide_eq_true h200
        have HN := Lib.hid (show ¬ g.Small from fun h => by have := (h.2 i k HK.out.1).1; omega)
        go_wp2_with (skip; fail)
        go_ret
        exact ⟨true, rfl, by simp [HN.out], HC.out.1.trans H.out.1⟩
      have d1 : decide (200 < (k.name.size : Int)) = false := decide_eq_false (by omega)
      have d1' : decide (200 < k.name.size) = false := decide_eq_false h200
      by_cases h20 : 20 < k.slots.length
      · have d2 : decide (20 < (k.slots.length : Int)) = true := decide_eq_true (by omega)
        have d2' : decide (20 < k.slots.length) = true := decide_eq_true h20
        have HN := Lib.hid (show ¬ g.Small from fun h => by have := (h.2 i k HK.out.1).2.1; omega)
        go_wp2_with (skip; fail)
        go_ret
        exact ⟨true, rfl, by simp [HN.out], HC.out.1.trans H.out.1⟩
      have d2 : decide (20 < (k.slots.length : Int)) = false := decide_eq_false (by omega)
      have d2' : decide (20 < k.slots.length) = false := decide_eq_false h20
      go_wp2_with (skip; fail)
      clear d1 d1' d2 d2' e0
      go_loopw [40] (fun iv wq => ∃ j : Nat, j ≤ k.slots.length ∧ iv = .int .i64 j ∧ Hid (Chg [] V wq ∧ ∀ (l : Nat) (s : Sl), l < j → k.slots[l]? = some s → s.kinds.length ≤ 40)) (fun iv _ => k.slots.length - (intOf iv).toNat)
      case atStart => exact ⟨0, Nat.zero_le _, rfl, Lib.hid ⟨Chg.refl _ _, fun j k hj => by omega⟩⟩
      case round =>
        obtain ⟨j, hj, rfl, HJ⟩ := hrel
        obtain ⟨U, hU⟩ : ∃ U, U = wr := ⟨_, rfl⟩
        subst hU
        clear a0 a1 e2
        obtain ⟨a0, a1⟩ := cell2 (HJ.out.1.at (H.out.1.at HC.out.2.1 (by simp)) (by simp))
        have e2 := HJ.out.1.cell HK.out.2.2.1 (by simp)
        by_cases hjl : j < k.slots.length
        · obtain ⟨gs, os, hA, _, hat⟩ := (HK.out.2.1.imp HJ.out.1.size fun _ _ _ => SlAt.kept HJ.out.1).at hjl
          obtain ⟨s, hs⟩ : ∃ s, s = k.slots[j] := ⟨_, rfl⟩
          rw [← hs] at hat
          have hse : k.slots[j]? = some s := by rw [hs]; exact List.getElem?_eq_getElem hjl
          obtain ⟨Ai, ci, hri, hci, hcm, hrw⟩ := hat.range
          subst hA
          have f0 : U.cell? ⟨gs, os + j * 3, none⟩ = some (.slice Ai s.kinds.length ci) := hri 0 _ rfl
          have HS := Lib.hid hse
          have hsl2 : s.kinds.length ≤ 9223372036854775807 := by omega
          clear hs hat hri hrw hse
          by_cases h3 : 40 < s.kinds.length
          · have d1 : decide (40 < (s.kinds.length : Int)) = true := decide_eq_true (by omega)
            have d1' : decide (40 < s.kinds.length) = true := decide_eq_true h3
            have HN := Lib.hid (show ¬ g.Small from fun h => by have := (h.2 i k HK.out.1).2.2 j s HS.out; omega)
            go_wp2_with (skip; fail)
            go_ret
            exact ⟨true, rfl, by simp [HN.out], (HC.out.1.trans H.out.1).trans HJ.out.1⟩
          have d1 : decide (40 < (s.kinds.length : Int)) = false := decide_eq_false (by omega)
          have d1' : decide (40 < s.kinds.length) = false := decide_eq_false h3
          go_wp2_with (skip; fail)
          go_roundw
          case rel =>
            refine ⟨j + 1, by omega, by go_num, Lib.hid ⟨HJ.out.1, fun l s' hl hs' => ?_⟩⟩
            by_cases e : l = j
            · subst e; rw [HS.out] at hs'; cases hs'; omega
            · exact HJ.out.2 l s' (by omega) hs'
          case measure => simp [intOf]; omega
        · obtain rfl : j = k.slots.length := by omega
          have HKS : Hid (k.Small) := Lib.hid ⟨by omega, by omega, fun l s hs => HJ.out.2 l s (List.getElem?_eq_some_iff.1 hs).1 hs⟩
          go_wp2_with (skip; fail)
          go_wp2_with (skip; fail)
          go_roundw
          case rel =>
            refine ⟨i + 1, by omega, by go_num, Lib.hid ⟨H.out.1.trans HJ.out.1, fun l k' hl hk' => ?_⟩⟩
            by_cases e : l = i
            · subst e; rw [HK.out.1] at hk'; cases hk'; exact HKS.out
            · exact H.out.2 l k' (by omega) hk'
          case measure => simp [intOf]; omega
    · obtain rfl : i = g.kinds.length := by omega
      have HN := Lib.hid (show g.Small from ⟨by omega, fun j k hk => H.out.2 j k (List.getElem?_eq_some_iff.1 hk).1 hk⟩)
      go_wp2_with (skip; fail)
      go_wp2_with (skip; fail)
      go_ret
      exact ⟨false, rfl, by simp [HN.out], HC.out.1.trans H.out.1⟩
end Go.Proofs.Ytofjocjljbkjgaa
namespace Go.Proofs.Ytofjocjljbkjgaa
open Go.RowKit
theorem cellsNode : Try.prog.cellsOf 24 = 4 := by kernel_rfl
theorem cellsInt' : Try.prog.cellsOf 3 = 1 := by kernel_rfl
theorem cellsStr : Try.prog.cellsOf 9 = 1 := by kernel_rfl
theorem cellsNDS : Try.prog.cellsOf 22 = 1 := by kernel_rfl
theorem list4 {α : Type} {l : List α} (h : l.length = 4) : ∃ a0 a1 a2 a3, l = [a0, a1, a2, a3] := by
  match l, h with
  | [a0, a1, a2, a3], _ => exact ⟨_, _, _, _, rfl⟩
theorem node_of {H : Type} {enc : TypeId × Value → H} {w : World} {base : Nat} {sp : Nat → Bool} {held : Bool} : ∀ (fuel : Nat) (cs : List Value) (x : DataW H × List MemPlace), DataW.trod enc Try.prog w base sp held fuel 24 cs = some x → ∃ t : Tr, TrC (fun b => b < w.heap.size) w t cs := by
  intro fuel
  induction fuel using Nat.strongRecOn with
  | _ fuel ih =>
  intro cs x h
  cases fuel with
  | zero => simp [DataW.trod] at h
  | succ fuel =>
    obtain ⟨hl, hfs⟩ := trod_struct Try.underlying24 h
    rw [cellsNode] at hl
    obtain ⟨a0, a1, a2, a3, rfl⟩ := list4 hl
    simp only [List.forall_mem_cons] at hfs
    obtain ⟨⟨y0, e0⟩, ⟨y1, e1⟩, ⟨y2, e2⟩, ⟨y3, e3⟩, _⟩ := hfs
    obtain ⟨k0, f0, _⟩ := trod_int Try.underlying3 e0
    obtain ⟨k1, f1, _⟩ := trod_int Try.underlying3 e1
    obtain ⟨s, f2, hs⟩ := trod_string Try.underlying9 e2
    obtain ⟨A, len, cap, n, f3, hlc, hcm, hn, hA, hel⟩ := trod_slice' Try.underlying22 (by rw [cellsNode]; omega) e3
    simp [cellsInt', cellsStr, cellsNDS] at f0 f1 f2 f3
    subst f0 f1 f2 f3
    unfold maxLen at hcm hs
    have hk : ∀ i, i < len → ∃ (k : Tr) (g o : Nat) (cs : List Value), A = some ⟨g, o, none⟩ ∧ g < w.heap.size ∧ w.rangeAt g (o + i * 4) cs ∧ TrC (fun b => b < w.heap.size) w k cs := by
      intro i hi
      obtain ⟨B, o, es, y, hA, hl, hr, ht⟩ := hel i hi
      rw [cellsNode] at hl hr
      obtain ⟨k, hT⟩ := ih n (by omega) es y ht
      exact ⟨k, B, o, es, hA, range_lt hr (by omega), hr, hT⟩
    let f : Nat → Tr := fun i => if h : i < len then (hk i h).choose else ⟨0, 0, ⟨#[]⟩, []⟩
    have hlen : ((List.range len).map f).length = len := by simp
    refine ⟨⟨k0, k1, s, (List.range len).map f⟩, ?_⟩
    have := TrC.mk (ok := fun b => b < w.heap.size) (w := w) (A := A) (c := cap) ⟨k0, k1, s, (List.range len).map f⟩ (by simpa using hlc) (by omega) (by omega) (fun i k hki => by
      have hi : i < len := by have := (List.getElem?_eq_some_iff.1 hki).1; simpa using this
      simp [hi] at hki
      have e : f i = (hk i hi).choose := by simp [f, hi]
      obtain ⟨g, o, cs, h1, h2, h3, h4⟩ := (hk i hi).choose_spec
      rw [← e, hki] at h4
      exact ⟨g, o, cs, h1, h2, h3, h4⟩)
    rw [hlen] at this
    exact this
end Go.Proofs.Ytofjocjljbkjgaa
namespace Go.Proofs.Ytofjocjljbkjgaa
open Go.RowKit
theorem cellsStep : Try.prog.cellsOf 27 = 9 := by kernel_rfl
theorem cellsI8 : Try.prog.cellsOf 25 = 1 := by kernel_rfl
theorem list9 {α : Type} {l : List α} (h : l.length = 9) : ∃ a0 a1 a2 a3 a4 a5 a6 a7 a8, l = [a0, a1, a2, a3, a4, a5, a6, a7, a8] := by
  match l, h with
  | [a0, a1, a2, a3, a4, a5, a6, a7, a8], _ => exact ⟨_, _, _, _, _, _, _, _, _, rfl⟩
theorem step_of {H : Type} {enc : TypeId × Value → H} {w : World} {base : Nat} {sp : Nat → Bool} {held : Bool} (fuel : Nat) (cs : List Value) (x : DataW H × List MemPlace) (h : DataW.trod enc Try.prog w base sp held fuel 27 cs = some x) :
    ∃ s : Stp, StpC (fun b => b < w.heap.size) w s cs := by
  cases fuel with
  | zero => simp [DataW.trod] at h
  | succ fuel =>
    obtain ⟨hl, hfs⟩ := trod_struct Try.underlying27 h
    rw [cellsStep] at hl
    obtain ⟨a0, a1, a2, a3, a4, a5, a6, a7, a8, rfl⟩ := list9 hl
    simp only [List.forall_mem_cons] at hfs
    obtain ⟨⟨y0, e0⟩, ⟨y1, e1⟩, ⟨y2, e2⟩, ⟨y3, e3⟩, ⟨y4, e4⟩, ⟨y5, e5⟩, _⟩ := hfs
    obtain ⟨k0, f0, b0⟩ := trod_int Try.underlying25 e0
    obtain ⟨k1, f1, _⟩ := trod_int Try.underlying3 e1
    obtain ⟨k2, f2, _⟩ := trod_int Try.underlying3 e2
    obtain ⟨k3, f3, _⟩ := trod_int Try.underlying3 e3
    obtain ⟨s, f4, hs⟩ := trod_string Try.underlying9 e4
    obtain ⟨t, hT⟩ := node_of _ _ _ e5
    obtain ⟨A, c, f5, _⟩ := hT.opens
    rw [f5] at hT
    simp [cellsI8, cellsInt', cellsStr, cellsNode] at f0 f1 f2 f3 f4 f5
    obtain ⟨g5, g6, g7, g8⟩ := f5
    subst f0 f1 f2 f3 f4 g5 g6 g7 g8
    unfold maxLen at hs
    simp [Lit.wf, IntKind.min, IntKind.max, IntKind.signed, IntKind.bits] at b0
    exact ⟨⟨k0, k1, k2, k3, s, t⟩, A, c, rfl, hT, by omega, b0⟩
end Go.Proofs.Ytofjocjljbkjgaa
namespace Go.Proofs.Ytofjocjljbkjgaa
open Go.RowKit
def StpsC (ok : Nat → Prop) (w : World) (B : Option Addr) (ss : List Stp) : Prop :=
  ∀ (i : Nat) s, ss[i]? = some s → ∃ g o cs, B = some ⟨g, o, none⟩ ∧ ok g ∧ w.rangeAt g (o + i * 9) cs ∧ StpC ok w s cs
theorem StpsC.nil (ok : Nat → Prop) (w : World) (B : Option Addr) : StpsC ok w B [] := fun i s h => by simp at h
theorem StpC.move {ok ok' : Nat → Prop} {w w' : World} (hb : ∀ g, ok g → g < w.heap.size → w'.heap[g]? = w.heap[g]? ∧ ok' g) {s : Stp} {cs : List Value} (h : StpC ok w s cs) : StpC ok' w' s cs := by
  obtain ⟨A, c, e, ht, hs⟩ := h; exact ⟨A, c, e, ht.move hb, hs⟩
theorem StpsC.move {ok ok' : Nat → Prop} {w w' : World} (hb : ∀ g, ok g → g < w.heap.size → w'.heap[g]? = w.heap[g]? ∧ ok' g) {B : Option Addr} {ss : List Stp} (h : StpsC ok w B ss) : StpsC ok' w' B ss := fun i s hi => by
  obtain ⟨g, o, cs, hB, hg, hr, hs⟩ := h i s hi
  have hlt := range_lt hr (by rw [hs.nine]; omega)
  refine ⟨g, o, cs, hB, (hb g hg hlt).2, fun j v hv => ?_, hs.move hb⟩
  have := hr j v hv
  simp only [World.cell?] at this ⊢
  rw [(hb g hg hlt).1]; exact this
theorem StpsC.kept {ok : Nat → Prop} {w w' : World} {l : List Nat} {B : Option Addr} {ss : List Stp} (h : StpsC ok w B ss) (hc : Chg l w w') (hl : ∀ g, ok g → g ∉ l) : StpsC ok w' B ss :=
  h.move fun g hg hlt => ⟨hc.block g hlt (hl g hg), hg⟩
theorem StpsC.weak {ok ok' : Nat → Prop} {w : World} {B : Option Addr} {ss : List Stp} (h : StpsC ok w B ss) (hl : ∀ g, ok g → g < w.heap.size → ok' g) : StpsC ok' w B ss :=
  h.move fun g hg hlt => ⟨rfl, hl g hg hlt⟩
theorem StpsC.next {w w' : World} {B : Option Addr} {ss : List Stp} (h : StpsC (fun b => b < w.heap.size) w B ss) (hc : Chg [] w w') : StpsC (fun b => b < w'.heap.size) w' B ss :=
  h.move fun g hg hlt => ⟨hc.block g hlt (by simp), Nat.lt_of_lt_of_le hlt hc.size⟩
theorem StpC.next {w w' : World} {s : Stp} {cs : List Value} (h : StpC (fun b => b < w.heap.size) w s cs) (hc : Chg [] w w') : StpC (fun b => b < w'.heap.size) w' s cs :=
  h.move fun g hg hlt => ⟨hc.block g hlt (by simp), Nat.lt_of_lt_of_le hlt hc.size⟩
theorem TrC.next {w w' : World} {t : Tr} {cs : List Value} (h : TrC (fun b => b < w.heap.size) w t cs) (hc : Chg [] w w') : TrC (fun b => b < w'.heap.size) w' t cs :=
  h.move fun g hg hlt => ⟨hc.block g hlt (by simp), Nat.lt_of_lt_of_le hlt hc.size⟩
theorem StpsC.at {ok : Nat → Prop} {w : World} {B : Option Addr} {ss : List Stp} (h : StpsC ok w B ss) {i : Nat} (hi : i < ss.length) : ∃ g o A c, B = some ⟨g, o, none⟩ ∧ ok g ∧
    w.rangeAt g (o + i * 9) [.int .i8 (ss[i]).op, .int .i64 (ss[i]).id, .int .i64 (ss[i]).par, .int .i64 (ss[i]).place, .string (ss[i]).text, .int .i64 (ss[i]).sub.id, .int .i64 (ss[i]).sub.kind, .string (ss[i]).sub.text, .slice A (ss[i]).sub.kids.length c] ∧
    TrC ok w (ss[i]).sub [.int .i64 (Tr.id (ss[i]).sub), .int .i64 (Tr.kind (ss[i]).sub), .string (Tr.text (ss[i]).sub), .slice A (Tr.kids (ss[i]).sub).length c] ∧ (ss[i]).text.size ≤ 9223372036854775807 ∧ -128 ≤ (ss[i]).op ∧ (ss[i]).op ≤ 127 := by
  obtain ⟨g, o, cs, hB, hg, hr, A, c, rfl, h1, h2⟩ := h i _ (List.getElem?_eq_getElem hi)
  exact ⟨g, o, A, c, hB, hg, hr, h1, h2⟩
theorem StpsC.take {ok : Nat → Prop} {w : World} {B : Option Addr} {ss : List Stp} (h : StpsC ok w B ss) (k : Nat) : StpsC ok w B (ss.take k) := fun i s hi => by
  rw [List.getElem?_take] at hi
  split at hi
  · exact h i s hi
  · cases hi
theorem steps_of {H : Type} {enc : TypeId × Value → H} {w : World} {base : Nat} {sp : Nat → Bool} {held : Bool} {fuel : Nat} {cs : List Value} {x : DataW H × List MemPlace} (h : DataW.trod enc Try.prog w base sp held fuel 46 cs = some x) :
    ∃ (ss : List Stp) (B : Option Addr) (d : Nat), cs = [.slice B ss.length d] ∧ StpsC (fun b => b < w.heap.size) w B ss ∧ ss.length ≤ d ∧ d ≤ 9223372036854775807 ∧ (B = none → d = 0) := by
  obtain ⟨A, len, cap, n, rfl, hlc, hcm, _, hA, hel⟩ := trod_slice' Try.underlying46 (by rw [cellsStep]; omega) h
  unfold maxLen at hcm
  have hk : ∀ i, i < len → ∃ (s : Stp) (cs : List Value) (g o : Nat), A = some ⟨g, o, none⟩ ∧ g < w.heap.size ∧ w.rangeAt g (o + i * 9) cs ∧ StpC (fun b => b < w.heap.size) w s cs := by
    intro i hi
    obtain ⟨B, o, es, y, hA, hl, hr, ht⟩ := hel i hi
    rw [cellsStep] at hl hr
    obtain ⟨s, hT⟩ := step_of _ es y ht
    exact ⟨s, es, B, o, hA, range_lt hr (by omega), hr, hT⟩
  let fs : Nat → Stp := fun i => if h : i < len then (hk i h).choose else ⟨0, 0, 0, 0, ⟨#[]⟩, ⟨0, 0, ⟨#[]⟩, []⟩⟩
  refine ⟨(List.range len).map fs, A, cap, by simp, fun i s hi => ?_, by simpa using hlc, by omega, fun h => (hA h).2⟩
  have hlt : i < len := by have := (List.getElem?_eq_some_iff.1 hi).1; simpa using this
  obtain ⟨cs, g, o, h1, h2, h3, h4⟩ := (hk i hlt).choose_spec
  simp [hlt, fs] at hi
  rw [hi] at h4
  exact ⟨g, o, cs, h1, h2, h3, h4⟩
theorem range_drop {w : World} {b o : Nat} {cs : List Value} (h : w.rangeAt b o cs) (n : Nat) : w.rangeAt b (o + n) (cs.drop n) := fun j v hv => by
  rw [List.getElem?_drop] at hv
  have := h (n + j) v hv
  rwa [← Nat.add_assoc] at this
end Go.Proofs.Ytofjocjljbkjgaa
namespace Go.Proofs.Ytofjocjljbkjgaa
open Go.RowKit
def nodesS (l : List Stp) : Nat := (l.map fun s => s.sub.nodes).sum
theorem nodesS_take (l : List Stp) (k : Nat) (h : k < l.length) : nodesS (l.take (k + 1)) = nodesS (l.take k) + (l[k]).sub.nodes := by
  unfold nodesS; rw [take_snoc' l k h, List.map_append, List.sum_append]; simp
def SmallS (ss : List Stp) : Prop := ss.length ≤ 70 ∧ (∀ s ∈ ss, s.sub.nodes ≤ 250) ∧ nodesS ss ≤ 300
def GreatSt (ss : List Stp) (w : World) (e : Ending) (w' : World) : Prop := ∃ r : Bool, e = .returned (.bool r) ∧ (r = false → SmallS ss) ∧ Chg [] w w'
set_option maxHeartbeats 4000000 in
set_option maxRecDepth 100000 in
theorem greatS_any (ss : List Stp) (B : Option Addr) (d : Nat) (w : World) (hS : StpsC (fun b => b < w.heap.size) w B ss) (hl : ss.length ≤ 9223372036854775807) : Calls Try.prog 22 #[.slice B ss.length d] w (GreatSt ss w) := by
  have HH := Lib.hid hS
  clear hS
  go_enter Try.func22, Try.ntmps22
  by_cases h70 : 70 < ss.length
  · have d1 : decide (70 < (ss.length : Int)) = true := decide_eq_true (by omega)
    have d1' : decide (70 < ss.length) = true := decide_eq_true h70
    clear h70
    go_wp2_with (skip; fail)
    go_ret
    exact ⟨true, rfl, (fun h => by cases h), Chg.refl _ _⟩
  have d1 : decide (70 < (ss.length : Int)) = false := decide_eq_false (by omega)
  have d1' : decide (70 < ss.length) = false := decide_eq_false h70
  go_wp2_with (skip; fail)
  clear d1 d1'
  go_loopw [3, 4, 11] (fun nv tv iv wr => ∃ (k : Nat) (T : Int), k ≤ ss.length ∧ iv = .int .i64 k ∧ tv = .int .i64 T ∧ 0 ≤ T ∧ T ≤ 20000 ∧ nv = .int .i64 (nodesS (ss.take k)) ∧ nodesS (ss.take k) ≤ 300 ∧ Hid (Chg [] w wr ∧ ∀ s ∈ ss.take k, s.sub.nodes ≤ 250)) (fun _ _ iv _ => ss.length - (intOf iv).toNat)
  case atStart => exact ⟨0, 0, Nat.zero_le _, rfl, rfl, by omega, by omega, rfl, by simp [nodesS], Lib.hid ⟨Chg.refl _ _, by simp⟩⟩
  case round =>
    obtain ⟨k, T, hk, rfl, rfl, hT0, hT1, rfl, hN, H⟩ := hrel
    obtain ⟨V, hV⟩ : ∃ V, V = wr := ⟨_, rfl⟩
    subst hV
    by_cases hlt : k < ss.length
    · obtain ⟨g, o, A, c, rfl, _, hr, hTr, htx, _⟩ := (HH.out.next H.out.1).at hlt
      obtain ⟨s, hs⟩ : ∃ s, s = ss[k] := ⟨_, rfl⟩
      rw [← hs] at hr hTr htx
      have hsum := nodesS_take ss k hlt
      rw [← hs] at hsum
      have hmem : ss.take (k + 1) = ss.take k ++ [s] := by rw [take_snoc' ss k hlt, hs]
      have r4 : V.cell? ⟨g, o + k * 9 + 4, none⟩ = some (.string s.text) := hr 4 _ rfl
      have hr5 : V.rangeAt g (o + k * 9 + 5) [.int .i64 (Tr.id (Stp.sub s)), .int .i64 (Tr.kind (Stp.sub s)), .string (Tr.text (Stp.sub s)), .slice A (Tr.kids (Stp.sub s)).length c] := range_drop hr 5
      have hgr := great_t s.sub A c V hTr
      have HC := Lib.hid (And.intro hgr (And.intro hr5 (And.intro hTr (And.intro hsum hmem))))
      clear hgr hr5 hTr hsum hmem hr hs
      go_wp2_with (first
        | (refine wpList_load_mid rfl 24 (.tmp 17) rfl g (o + k * 9 + 5) (by kernel_rfl) _ _ HC.out.2.1 Try.underlying24 rfl (by kernel_rfl) ?_
           ((try dsimp only); (try simp only [Act.put, List.setIfInBounds_toArray, List.set_cons_zero, List.set_cons_succ])))
        | (skip; fail))
      refine HC.out.1.mono ?_
      rintro e X ⟨r, rfl, hr, hX⟩
      have HX := Lib.hid (And.intro hr hX)
      have r4 := hX.cell r4 (by simp)
      clear hr hX
      cases r with
      | true =>
        go_wp2_with (skip; fail)
        go_ret
        exact ⟨true, rfl, (fun h => by cases h), H.out.1.trans HX.out.2⟩
      | false =>
        have HN := Lib.hid (HX.out.1 rfl)
        by_cases hb : 20000 - T < (s.text.size : Int)
        · have hbb : decide (20000 - T < (s.text.size : Int)) = true := by simpa using hb
          go_wp2_with (skip; fail)
          go_ret
          exact ⟨true, rfl, (fun h => by cases h), H.out.1.trans HX.out.2⟩
        · have hbb : decide (20000 - T < (s.text.size : Int)) = false := by simpa using hb
          have hwk := walkT_any X.heap.size 251 (by omega) s.sub A c X (HC.out.2.2.1.next HX.out.2) (Nat.le_refl _)
          have hr5 := HX.out.2.range HC.out.2.1 (by simp)
          have HW := Lib.hid (And.intro hwk hr5)
          clear hwk hr5
          go_wp2_with (first
            | (refine wpList_load_mid rfl 24 (.tmp 43) rfl g (o + k * 9 + 5) (by kernel_rfl) _ _ HW.out.2 Try.underlying24 rfl (by kernel_rfl) ?_
               ((try dsimp only); (try simp only [Act.put, List.setIfInBounds_toArray, List.set_cons_zero, List.set_cons_succ])))
            | (skip; fail))
          refine HW.out.1.mono ?_
          rintro e Y ⟨v, rfl, hR, hY⟩
          obtain ⟨A', c', rfl⟩ := hR.slice
          have hlen : ((s.sub.walk 1).take 251).length = s.sub.nodes := by rw [List.length_take, Tr.walk_length]; have := HN.out; omega
          rw [hlen]
          have hn := HN.out
          have HY := Lib.hid hY
          have hsum := HC.out.2.2.2.1
          clear hR hlen hY
          by_cases h3 : 300 < nodesS (ss.take k) + s.sub.nodes
          · have d1 : decide (300 < (nodesS (ss.take k) : Int) + (s.sub.nodes : Int)) = true := decide_eq_true (by omega)
            have d2 : decide (300 < nodesS (ss.take k) + s.sub.nodes) = true := decide_eq_true h3
            clear hsum
            go_wp2_with (skip; fail)
            go_ret
            exact ⟨true, rfl, (fun h => by cases h), (H.out.1.trans HX.out.2).trans HY.out⟩
          · have d1 : decide (300 < (nodesS (ss.take k) : Int) + (s.sub.nodes : Int)) = false := decide_eq_false (by omega)
            have d2 : decide (300 < nodesS (ss.take k) + s.sub.nodes) = false := decide_eq_false h3
            clear hsum
            go_wp2_with (skip; fail)
            go_roundw
            case rel =>
              refine ⟨k + 1, T + s.text.size, by omega, by go_num, rfl, by omega, by omega, by rw [HC.out.2.2.2.1]; go_num, by rw [HC.out.2.2.2.1]; omega, Lib.hid ⟨(H.out.1.trans HX.out.2).trans HY.out, fun x hx => ?_⟩⟩
              rw [HC.out.2.2.2.2] at hx
              rcases List.mem_append.1 hx with hx | hx
              · exact H.out.2 x hx
              · simp at hx; subst hx; exact HN.out
            case measure => simp [intOf]; omega
    · obtain rfl : k = ss.length := by omega
      have hall := H.out.2
      rw [List.take_of_length_le (Nat.le_refl _)] at hall hN
      have HA := Lib.hid (show SmallS ss from ⟨by omega, hall, hN⟩)
      clear hall
      go_wp2_with (skip; fail)
      go_ret
      exact ⟨false, rfl, fun _ => HA.out, H.out.1⟩
end Go.Proofs.Ytofjocjljbkjgaa
namespace Go.Proofs.Ytofjocjljbkjgaa
open Go.RowKit
theorem sz0 : (⟨#[]⟩ : ByteArray).size ≤ 9223372036854775807 := by decide
theorem TrC.kidsC {ok : Nat → Prop} {w : World} {t : Tr} {A : Option Addr} {c : Nat} (h : TrC ok w t [.int .i64 (Tr.id t), .int .i64 (Tr.kind t), .string (Tr.text t), .slice A (Tr.kids t).length c]) : KidsC ok w A t.kids := by
  obtain ⟨A', c', hcs, _, _, _, hK⟩ := h.opens
  simp only [List.cons.injEq, Value.slice.injEq, true_and, and_true] at hcs
  obtain ⟨rfl, rfl⟩ := hcs
  exact hK
def leafT (i : Int) : Tr := ⟨i, 0, ⟨#[]⟩, []⟩
def smallT : Tr := ⟨1, 0, ⟨#[]⟩, [leafT 2, ⟨3, 0, ⟨#[]⟩, [leafT 4]⟩]⟩
theorem small_wk (w : World) : Calls Try.prog 54 #[] w fun e w' => ∃ A c, e = .returned (.agg #[.int .i64 (Tr.id smallT), .int .i64 (Tr.kind smallT), .string (Tr.text smallT), .slice A (Tr.kids smallT).length c]) ∧ TrC (fun b => b < w'.heap.size) w' smallT [.int .i64 (Tr.id smallT), .int .i64 (Tr.kind smallT), .string (Tr.text smallT), .slice A (Tr.kids smallT).length c] ∧ Chg [] w w' := by
  go_enter Try.func54, Try.ntmps54
  go_wp2
  have k0 : (((w.alloc (.cells #[.int .i64 1, .int .i64 0, .string ⟨#[]⟩, .slice (some ⟨w.heap.size + 1 + 1, 0, none⟩) 2 2] 24)).alloc (.cells #[.int .i64 4, .int .i64 0, .string ⟨#[]⟩, .slice none 0 0] 24)).alloc (.cells #[.int .i64 2, .int .i64 0, .string ⟨#[]⟩, .slice none 0 0, .int .i64 3, .int .i64 0, .string ⟨#[]⟩, .slice (some ⟨w.heap.size + 1, 0, none⟩) 1 1] 24)).heap[w.heap.size]? = some (.cells #[.int .i64 1, .int .i64 0, .string ⟨#[]⟩, .slice (some ⟨w.heap.size + 1 + 1, 0, none⟩) 2 2] 24 (0, 0)) := heap_old (heap_old (heap_new _ _ rfl) _) _
  have k1 : (((w.alloc (.cells #[.int .i64 1, .int .i64 0, .string ⟨#[]⟩, .slice (some ⟨w.heap.size + 1 + 1, 0, none⟩) 2 2] 24)).alloc (.cells #[.int .i64 4, .int .i64 0, .string ⟨#[]⟩, .slice none 0 0] 24)).alloc (.cells #[.int .i64 2, .int .i64 0, .string ⟨#[]⟩, .slice none 0 0, .int .i64 3, .int .i64 0, .string ⟨#[]⟩, .slice (some ⟨w.heap.size + 1, 0, none⟩) 1 1] 24)).heap[w.heap.size + 1]? = some (.cells #[.int .i64 4, .int .i64 0, .string ⟨#[]⟩, .slice none 0 0] 24 (0, 0)) := heap_old (heap_new _ _ (by simp)) _
  have k2 : (((w.alloc (.cells #[.int .i64 1, .int .i64 0, .string ⟨#[]⟩, .slice (some ⟨w.heap.size + 1 + 1, 0, none⟩) 2 2] 24)).alloc (.cells #[.int .i64 4, .int .i64 0, .string ⟨#[]⟩, .slice none 0 0] 24)).alloc (.cells #[.int .i64 2, .int .i64 0, .string ⟨#[]⟩, .slice none 0 0, .int .i64 3, .int .i64 0, .string ⟨#[]⟩, .slice (some ⟨w.heap.size + 1, 0, none⟩) 1 1] 24)).heap[w.heap.size + 1 + 1]? = some (.cells #[.int .i64 2, .int .i64 0, .string ⟨#[]⟩, .slice none 0 0, .int .i64 3, .int .i64 0, .string ⟨#[]⟩, .slice (some ⟨w.heap.size + 1, 0, none⟩) 1 1] 24 (0, 0)) := heap_new _ _ (by simp)
  refine bodyPost_ret (v := .agg #[.int .i64 1, .int .i64 0, .string ⟨#[]⟩, .slice (some ⟨w.heap.size + 1 + 1, 0, none⟩) 2 2]) (results_cell_row rfl _ _ w.heap.size _ _ _ _ rfl k0 Try.underlying24 rfl szNode) rfl ⟨some ⟨w.heap.size + 1 + 1, 0, none⟩, 2, rfl, ?_, (by with_reducible repeat (first | exact Chg.refl _ _ | apply Chg.alloc | apply Chg.drew | apply Chg.drewN | (refine Chg.setCell ?_ _ _ (by simp))))⟩
  have h1 := lt_of_block k1
  have h2 := lt_of_block k2
  refine TrC.mk smallT (A := some ⟨w.heap.size + 1 + 1, 0, none⟩) (c := 2) (by simp [smallT]) (by omega) sz0 (fun i k hk => ?_)
  match i, hk with
  | 0, hk =>
    simp [smallT] at hk; subst hk
    exact ⟨_, 0, _, rfl, h2, range_of_block (cs := [.int .i64 2, .int .i64 0, .string ⟨#[]⟩, .slice none 0 0, .int .i64 3, .int .i64 0, .string ⟨#[]⟩, .slice (some ⟨w.heap.size + 1, 0, none⟩) 1 1]) k2 0 4, TrC.none (leafT 2) none 0 rfl (by omega) sz0⟩
  | 1, hk =>
    simp [smallT] at hk; subst hk
    refine ⟨_, 0, _, rfl, h2, range_of_block (cs := [.int .i64 2, .int .i64 0, .string ⟨#[]⟩, .slice none 0 0, .int .i64 3, .int .i64 0, .string ⟨#[]⟩, .slice (some ⟨w.heap.size + 1, 0, none⟩) 1 1]) k2 4 4, TrC.mk ⟨3, 0, ⟨#[]⟩, [leafT 4]⟩ (A := some ⟨w.heap.size + 1, 0, none⟩) (c := 1) (by simp) (by omega) sz0 (fun i k hk => ?_)⟩
    match i, hk with
    | 0, hk =>
      simp at hk; subst hk
      exact ⟨_, 0, _, rfl, h1, range_of_block (cs := [.int .i64 4, .int .i64 0, .string ⟨#[]⟩, .slice none 0 0]) k1 0 4, TrC.none (leafT 4) none 0 rfl (by omega) sz0⟩
    | i + 1, hk => simp at hk
  | i + 2, hk => simp [smallT] at hk
theorem w1 : applyMove smallT 2 3 1 (leafT 0) = .ok ⟨1, 0, ⟨#[]⟩, [⟨3, 0, ⟨#[]⟩, [leafT 4, leafT 2]⟩]⟩ := by rfl
theorem w2 : applyMove smallT 3 4 0 (leafT 0) = .error 91 := by rfl
theorem w3 : applyMove smallT 2 1 1 (leafT 0) = .ok ⟨1, 0, ⟨#[]⟩, [⟨3, 0, ⟨#[]⟩, [leafT 4]⟩, leafT 2]⟩ := by rfl
theorem apply_zero (t : Tr) (id par pl : Int) (A : Option Addr) (c : Nat) (w : World) (hT : TrC (fun b => b < w.heap.size) w t [.int .i64 (Tr.id t), .int .i64 (Tr.kind t), .string (Tr.text t), .slice A (Tr.kids t).length c]) :
    Calls Try.prog 19 #[.agg #[.int .i64 (Tr.id t), .int .i64 (Tr.kind t), .string (Tr.text t), .slice A (Tr.kids t).length c], .agg #[.int .i8 3, .int .i64 id, .int .i64 par, .int .i64 pl, .string ⟨#[]⟩, .int .i64 0, .int .i64 0, .string ⟨#[]⟩, .slice none 0 0]] w (ApplyPost (applyMove t id par pl (leafT 0)) w) :=
  apply_move t id par pl ⟨#[]⟩ (leafT 0) A c none 0 w hT (TrC.none (leafT 0) none 0 rfl (by omega) sz0)
set_option maxHeartbeats 4000000 in
set_option maxRecDepth 100000 in
theorem swakes_any (w : World) : Calls Try.prog 17 #[] w fun e w' => e = .returned (.bool true) ∧ Chg [] w w' := by
  go_enter Try.func17, Try.ntmps17
  go_wp2_with fail
  refine (small_wk _).mono ?_
  rintro e X ⟨A, c, rfl, hT, hX⟩
  have hc := apply_zero smallT 2 3 1 A c X hT
  rw [w1] at hc
  have HC := Lib.hid (And.intro hc hX)
  clear hc hX hT
  go_wp2_with fail
  refine HC.out.1.mono ?_
  rintro e Y ⟨A1, c1, rfl, hV1, hY⟩
  obtain ⟨g1, o1, cs1, rfl, _, hr1, hT1⟩ := hV1.toC.kidsC 0 _ rfl
  obtain ⟨A2, c2, rfl, _, _, _, hK2⟩ := hT1.opens
  obtain ⟨g2, o2, cs2, rfl, _, hr2, hT2⟩ := hK2 1 _ rfl
  obtain ⟨A3, c3, rfl, _⟩ := hT2.opens
  have a1 : Y.cell? ⟨g1, o1 + 3, none⟩ = some (.slice (some ⟨g2, o2, none⟩) 2 c2) := hr1 3 _ rfl
  have a2 : Y.cell? ⟨g2, o2 + 4, none⟩ = some (.int .i64 2) := hr2 0 _ rfl
  have HY := Lib.hid (And.intro a1 (And.intro a2 (HC.out.2.trans hY)))
  clear hV1 hY HC hr1 hT1 hK2 hr2 hT2 a1 a2
  go_wp2_with fail
  obtain ⟨Y2, hY2e⟩ : ∃ Y2, Y2 = Y.alloc (.cells #[.int .i64 1, .int .i64 0, .string ⟨#[]⟩, .slice (some ⟨g1, o1, none⟩) 1 c1] 24) := ⟨_, rfl⟩
  have hY2 : Chg [] Y Y2 := by rw [hY2e]; exact (by with_reducible repeat (first | exact Chg.refl _ _ | apply Chg.alloc | apply Chg.drew | apply Chg.drewN | (refine Chg.setCell ?_ _ _ (by simp))))
  have hb1 : Y2.heap[Y.heap.size]? = some (.cells #[.int .i64 1, .int .i64 0, .string ⟨#[]⟩, .slice (some ⟨g1, o1, none⟩) 1 c1] 24 (0, 0)) := by rw [hY2e]; exact heap_new _ _ rfl
  rw [← hY2e]
  have HY2 := Lib.hid (And.intro hY2 hb1)
  clear hY2e hY2 hb1
  refine (small_wk _).mono ?_
  rintro e X2 ⟨A4, c4, rfl, hT, hX2⟩
  have hc := apply_zero smallT 3 4 0 A4 c4 X2 hT
  rw [w2] at hc
  have HC := Lib.hid (And.intro hc hX2)
  clear hc hX2 hT
  go_wp2_with fail
  refine HC.out.1.mono ?_
  rintro e Z ⟨rfl, hZ⟩
  have HZ := Lib.hid (HC.out.2.trans hZ)
  clear hZ HC
  go_wp2_with fail
  obtain ⟨Z2, hZ2e⟩ : ∃ Z2, Z2 = Z.alloc (.cells #[.int .i64 0, .int .i64 0, .string ⟨#[]⟩, .slice none 0 0] 24) := ⟨_, rfl⟩
  have hZ2 : Chg [] Z Z2 := by rw [hZ2e]; exact (by with_reducible repeat (first | exact Chg.refl _ _ | apply Chg.alloc | apply Chg.drew | apply Chg.drewN | (refine Chg.setCell ?_ _ _ (by simp))))
  rw [← hZ2e]
  have HZ2 := Lib.hid hZ2
  clear hZ2e hZ2
  refine (small_wk _).mono ?_
  rintro e X3 ⟨A5, c5, rfl, hT, hX3⟩
  have hc := apply_zero smallT 2 1 1 A5 c5 X3 hT
  rw [w3] at hc
  have HC := Lib.hid (And.intro hc hX3)
  clear hc hX3 hT
  go_wp2_with fail
  refine HC.out.1.mono ?_
  rintro e V ⟨A6, c6, rfl, hV6, hV⟩
  obtain ⟨g6, o6, cs6, rfl, _, hr6, hT6⟩ := hV6.toC.kidsC 1 _ rfl
  obtain ⟨A7, c7, rfl, _⟩ := hT6.opens
  have hall : Chg [] Y V := HY2.out.1.trans (HZ.out.trans (HZ2.out.trans (HC.out.2.trans hV)))
  have hall2 : Chg [] Y2 V := HZ.out.trans (HZ2.out.trans (HC.out.2.trans hV))
  have hV2 : Chg [] V (V.alloc (.cells #[.int .i64 1, .int .i64 0, .string ⟨#[]⟩, .slice (some ⟨g6, o6, none⟩) 2 c6] 24)) := (by with_reducible repeat (first | exact Chg.refl _ _ | apply Chg.alloc | apply Chg.drew | apply Chg.drewN | (refine Chg.setCell ?_ _ _ (by simp))))
  have e1 := (hall.trans hV2).cell HY.out.1 (by simp)
  have e2 := (hall.trans hV2).cell HY.out.2.1 (by simp)
  have e3 : (V.alloc (.cells #[.int .i64 1, .int .i64 0, .string ⟨#[]⟩, .slice (some ⟨g6, o6, none⟩) 2 c6] 24)).cell? ⟨g6, o6 + 4, none⟩ = some (.int .i64 2) := hV2.cell (hr6 0 _ rfl) (by simp)
  have e4 := (blk4 ((hall2.trans hV2).at HY2.out.2 (by simp))).2.2.2
  have HF := Lib.hid (HY.out.2.2.trans (hall.trans hV2))
  clear hV6 hr6 hT6 hall hall2 hV2 hV HC HZ HZ2 HY HY2
  go_wp2
  go_ret
  exact ⟨rfl, HF.out⟩
end Go.Proofs.Ytofjocjljbkjgaa
namespace Go.Proofs.Ytofjocjljbkjgaa
open Go.RowKit
structure Box3 (g : Gr) (Ag : Option Addr) (cg : Nat) (t : Tr) (A : Option Addr) (c : Nat) (s : Stp) (As : Option Addr) (cs : Nat) (w W : World) : Prop where
  g : W.heap[w.heap.size]? = some (.cells #[.slice Ag g.kinds.length cg, .int .i64 g.root] 43 (0, 0))
  t : W.heap[w.heap.size + 1]? = some (.cells #[.int .i64 (Tr.id t), .int .i64 (Tr.kind t), .string (Tr.text t), .slice A (Tr.kids t).length c] 24 (0, 0))
  s : W.heap[w.heap.size + 1 + 1]? = some (.cells #[.int .i8 (Stp.op s), .int .i64 (Stp.id s), .int .i64 (Stp.par s), .int .i64 (Stp.place s), .string (Stp.text s), .int .i64 (Stp.sub s).id, .int .i64 (Stp.sub s).kind, .string (Stp.sub s).text, .slice As (Stp.sub s).kids.length cs] 27 (0, 0))
  chg : Chg [] w W
theorem Box3.kept {g : Gr} {Ag : Option Addr} {cg : Nat} {t : Tr} {A : Option Addr} {c : Nat} {s : Stp} {As : Option Addr} {cs : Nat} {w W W' : World} (h : Box3 g Ag cg t A c s As cs w W) (hc : Chg [] W W') : Box3 g Ag cg t A c s As cs w W' :=
  ⟨hc.at h.g (by simp), hc.at h.t (by simp), hc.at h.s (by simp), h.chg.trans hc⟩
theorem Box3.new (g : Gr) (Ag : Option Addr) (cg : Nat) (t : Tr) (A : Option Addr) (c : Nat) (s : Stp) (As : Option Addr) (cs : Nat) (w : World) : Box3 g Ag cg t A c s As cs w (((w.alloc (.cells #[.slice Ag g.kinds.length cg, .int .i64 g.root] 43)).alloc (.cells #[.int .i64 (Tr.id t), .int .i64 (Tr.kind t), .string (Tr.text t), .slice A (Tr.kids t).length c] 24)).alloc (.cells #[.int .i8 (Stp.op s), .int .i64 (Stp.id s), .int .i64 (Stp.par s), .int .i64 (Stp.place s), .string (Stp.text s), .int .i64 (Stp.sub s).id, .int .i64 (Stp.sub s).kind, .string (Stp.sub s).text, .slice As (Stp.sub s).kids.length cs] 27)) :=
  ⟨heap_old (heap_old (heap_new _ _ rfl) _) _, heap_old (heap_new _ _ (by simp)) _, heap_new _ _ (by simp), (by with_reducible repeat (first | exact Chg.refl _ _ | apply Chg.alloc | apply Chg.drew | apply Chg.drewN | (refine Chg.setCell ?_ _ _ (by simp))))⟩
theorem Box3.gc {g : Gr} {Ag : Option Addr} {cg : Nat} {t : Tr} {A : Option Addr} {c : Nat} {s : Stp} {As : Option Addr} {cs : Nat} {w W : World} (h : Box3 g Ag cg t A c s As cs w W) : W.cell? ⟨w.heap.size, 0, none⟩ = some (.slice Ag g.kinds.length cg) ∧ W.cell? ⟨w.heap.size, 1, none⟩ = some (.int .i64 g.root) := cell2 h.g
theorem wpList_guard {P : Program} {ops : Array Oper} {rest : List Oper} {o : Oper} {a : Act} {w : World} {Q : Exit → Act → World → Prop} {v : Value} {w' : World} (hw : Region.wanted o (yielded ops a.tmps) = true) (hrun : (execOp a.eval o).run P w = .ok (.value v) w') (h : wpList P ops Q rest (a.put o.dst v) w') : wpList P ops Q (o :: rest) a w := by
  simp only [wpList, hw, if_true]
  refine .inl ?_
  unfold Oper.wp
  rw [hrun]
  exact h
theorem StpsC.one {w W : World} {s : Stp} {cs : List Value} {b : Nat} (hb : W.heap[b]? = some (.cells cs.toArray 27 (0, 0))) (h : StpC (fun b => b < W.heap.size) W s cs) : StpsC (fun b => b < W.heap.size) W (some ⟨b, 0, none⟩) [s] := fun i x hi => by
  have : i = 0 := by have := (List.getElem?_eq_some_iff.1 hi).1; simp at this; omega
  subst this
  simp at hi; subst hi
  exact ⟨b, 0, cs, rfl, lt_of_block hb, by rw [Nat.zero_mul]; exact range_all hb, h⟩
theorem exec_slice_one {P : Program} {o : Oper} {a : Act} {w : World} (T E : TypeId) (x : Operand) (ho : o.op = .buildSlice T 1 #[(0, x)]) (hT : P.underlying T = some (.slice E)) (i : TypeInfo) (z : Value) (hi : P.info? E = some i) (hz : i.zero = some z) (hzs : z.cells.size = i.size) (hpos : 0 < i.size) (hle : i.size ≤ 16777216)
    (v : Value) (hx : a.eval x = v) (hv : v.cells.size = i.size) : (execOp a.eval o).run P w = .ok (.value (.slice (some ⟨w.heap.size, 0, none⟩) 1 1)) (w.alloc (.cells v.cells E)) := by
  simp [execOp, ho, hx, buildSlice_one T E hT i z hi hz hzs hpos hle v hv, Result.andThen]
theorem infoStep : (Try.prog.info? 27).map (fun i => (i.zero, i.size, i.bytes)) = some (some (.agg #[.int .i8 0, .int .i64 0, .int .i64 0, .int .i64 0, .string ⟨#[]⟩, .int .i64 0, .int .i64 0, .string ⟨#[]⟩, .slice none 0 0]), 9, 104) := by kernel_rfl
theorem doJ_ok {j : GJ} {t x : Tr} {s : Stp} (h : doJ j t s = .ok x) : j.ok = true ∧ j.fit x = true ∧ applyT t s = .ok x := by
  unfold doJ at h
  split at h
  · cases h
  · rename_i y e
    split at h
    · rename_i h1
      split at h
      · rename_i h2
        injection h with h
        subst h
        exact ⟨h1, h2, e⟩
      · cases h
    · cases h
theorem applyT_ok {t x : Tr} {s : Stp} (h : applyT t s = .ok x) : t.nodes ≤ 2000 ∧ s.sub.nodes ≤ 2000 ∧ doT t s = .ok x := by
  unfold applyT at h
  split at h
  · rename_i h1; exact ⟨h1.1, h1.2, h⟩
  · cases h
theorem SubOk.nodup {g : Gr} {t : Tr} (h : SubOk g t) : t.ids.Nodup := by
  rw [← Tr.walk_ids t 1]
  refine List.pairwise_iff_getElem.2 fun i j hi hj hij => ?_
  rw [List.getElem_map, List.getElem_map]
  have hj' : j < (t.walk 1).length := by simpa using hj
  have hi' : i < (t.walk 1).length := by simpa using hi
  exact (h.2 j _ hj' (List.getElem?_eq_getElem hj')).2 i _ hij (List.getElem?_eq_getElem hi')
def MapN (B : Nat) (w : World) (b : Nat) (f : Int → Option Tr) : Prop := ∃ m, MapI w b m ∧ ∀ n, IsNode B w (m n) (f n)
theorem MapN.kept {B : Nat} {w w' : World} {b : Nat} {f : Int → Option Tr} (h : MapN B w b f) (hc : Chg [] w w') : MapN B w' b f := by
  obtain ⟨m, h1, h2⟩ := h; exact ⟨m, h1.kept hc (by simp), fun n => (h2 n).kept hc (by simp)⟩
theorem MapT.toN {B : Nat} {w : World} {b : Nat} {t : Tr} (h : MapT B w b (((t.walk 1).take 1000).map (·.1))) (hn : t.nodes ≤ 1000) : MapN B w b (fun i => lastOf i (nodesOf t)) := by
  rw [List.take_of_length_le (by rw [Tr.walk_length]; exact hn)] at h
  exact h
structure KeepM (s : Stp) (la lb lm lg : Int → Option Tr) : Prop where
  one : ∀ i y, la i = some y → ((lb i).isSome = !(lg i).isSome) ∧ ∀ z, lb i = some z → y.kind = z.kind ∧ (y.text = z.text ∨ (s.op = 4 ∧ i = s.id))
  two : ∀ i, lb i ≠ none → la i ≠ none ∨ (s.op = 1 ∧ lm i ≠ none)
def NodeM (w : World) (m : Int → Option Value) (f : Int → Option Tr) : Prop := ∃ B, ∀ n, IsNode B w (m n) (f n)
theorem NodeM.at {w : World} {m : Int → Option Value} {f : Int → Option Tr} (h : NodeM w m f) {n : Int} {v : Value} (hv : m n = some v) : ∃ y A c, f n = some y ∧ v = .agg #[.int .i64 (Tr.id y), .int .i64 (Tr.kind y), .string (Tr.text y), .slice A (Tr.kids y).length c] := by
  obtain ⟨B, h⟩ := h
  have h1 := h n
  unfold IsNode at h1
  split at h1
  · rw [hv] at h1; cases h1
  · rename_i y e
    obtain ⟨A, c, h2, _⟩ := h1
    rw [hv] at h2; cases h2
    exact ⟨y, A, c, e, rfl⟩
theorem NodeM.none {w : World} {m : Int → Option Value} {f : Int → Option Tr} (h : NodeM w m f) {n : Int} (hv : f n = Option.none) : m n = Option.none := by
  obtain ⟨B, h⟩ := h
  have h1 := h n
  rw [hv] at h1
  exact h1
theorem NodeM.some {w : World} {m : Int → Option Value} {f : Int → Option Tr} (h : NodeM w m f) {n : Int} {y : Tr} (hv : f n = Option.some y) : ∃ A c, m n = Option.some (.agg #[.int .i64 (Tr.id y), .int .i64 (Tr.kind y), .string (Tr.text y), .slice A (Tr.kids y).length c]) := by
  obtain ⟨B, h⟩ := h
  have h1 := h n
  rw [hv] at h1
  obtain ⟨A, c, h2, _⟩ := h1
  exact ⟨A, c, h2⟩
theorem NodeM.iff {w : World} {m : Int → Option Value} {t : Tr} (h : NodeM w m (fun i => lastOf i (nodesOf t))) (n : Int) : (m n).isSome = true ↔ n ∈ t.ids := by
  cases e : lastOf n (nodesOf t) with
  | none =>
    have h1 := h.none (n := n) e
    rw [h1]
    simp only [Option.isSome_none, Bool.false_eq_true, false_iff]
    exact lastOf_ids.1 e
  | some y =>
    obtain ⟨A, c, h1⟩ := h.some (n := n) e
    rw [h1]
    simp only [Option.isSome_some, true_iff]
    exact Classical.byContradiction fun hn => by rw [lastOf_ids.2 hn] at e; cases e
structure KQ (s : Stp) (Q : World) (ba bb bm bg : Nat) (ma mb mm mg : Int → Option Value) (la lb lm lg : Int → Option Tr) : Prop where
  a : MapI Q ba ma
  b : MapI Q bb mb
  m : MapI Q bm mm
  g : MapI Q bg mg
  an : NodeM Q ma la
  bn : NodeM Q mb lb
  mn : NodeM Q mm lm
  gn : NodeM Q mg lg
  k : KeepM s la lb lm lg
theorem zeroN (w : World) : (zeroValue 24).run Try.prog w = .ok (.agg #[.int .i64 0, .int .i64 0, .string ⟨#[]⟩, .slice none 0 0]) w := by kernel_rfl
set_option maxHeartbeats 4000000 in
set_option maxRecDepth 100000 in
theorem keeps_any (g : Gr) (Ag : Option Addr) (cg : Nat) (t : Tr) (A : Option Addr) (c : Nat) (s : Stp) (As : Option Addr) (cs : Nat) (w : World) (hG : GrC w Ag cg g.kinds) (hT : TrC (fun b => b < w.heap.size) w t [.int .i64 (Tr.id t), .int .i64 (Tr.kind t), .string (Tr.text t), .slice A (Tr.kids t).length c]) (hS : StpC (fun b => b < w.heap.size) w s (#[.int .i8 (Stp.op s), .int .i64 (Stp.id s), .int .i64 (Stp.par s), .int .i64 (Stp.place s), .string (Stp.text s), .int .i64 (Stp.sub s).id, .int .i64 (Stp.sub s).kind, .string (Stp.sub s).text, .slice As (Stp.sub s).kids.length cs] : Array Value).toList) :
    Calls Try.prog 4 #[.agg #[.slice Ag g.kinds.length cg, .int .i64 g.root], .agg #[.int .i64 (Tr.id t), .int .i64 (Tr.kind t), .string (Tr.text t), .slice A (Tr.kids t).length c], .agg #[.int .i8 (Stp.op s), .int .i64 (Stp.id s), .int .i64 (Stp.par s), .int .i64 (Stp.place s), .string (Stp.text s), .int .i64 (Stp.sub s).id, .int .i64 (Stp.sub s).kind, .string (Stp.sub s).text, .slice As (Stp.sub s).kids.length cs]] w (fun e w' => e = .returned (.bool true) ∧ Chg [] w w') := by
  obtain ⟨j, hj⟩ := GJ.ex g
  obtain ⟨W, hW⟩ : ∃ W, W = ((w.alloc (.cells #[.slice Ag g.kinds.length cg, .int .i64 g.root] 43)).alloc (.cells #[.int .i64 (Tr.id t), .int .i64 (Tr.kind t), .string (Tr.text t), .slice A (Tr.kids t).length c] 24)).alloc (.cells #[.int .i8 (Stp.op s), .int .i64 (Stp.id s), .int .i64 (Stp.par s), .int .i64 (Stp.place s), .string (Stp.text s), .int .i64 (Stp.sub s).id, .int .i64 (Stp.sub s).kind, .string (Stp.sub s).text, .slice As (Stp.sub s).kids.length cs] 27) := ⟨_, rfl⟩
  have hB : Box3 g Ag cg t A c s As cs w W := by rw [hW]; exact Box3.new _ _ _ _ _ _ _ _ _ _
  obtain ⟨g0, g1⟩ := hB.gc
  obtain ⟨i0, hi, hz0, hz1, hz2⟩ := info_parts infoStep
  have HI := Lib.hid (And.intro hi (And.intro hz0 (And.intro hz1 hz2)))
  have HW := Lib.hid (And.intro hW (And.intro hB (And.intro hG (And.intro hT (And.intro hS hj)))))
  rw [hW] at g0 g1
  clear hW hB hG hT hS hj hi hz0 hz1 hz2
  go_enter Try.func4, Try.ntmps4
  go_wp2_with fail
  rw [← HW.out.1]
  clear g0 g1
  refine (great5_any g Ag cg W (HW.out.2.2.1.kept HW.out.2.1.chg)).mono ?_
  rintro e X ⟨b5, rfl, hsm, hX⟩
  clear hsm
  have HX := Lib.hid (HW.out.2.1.kept hX)
  clear hX
  cases b5 with
  | true =>
    go_wp2_with (go_at_call 17; refine (swakes_any _).mono ?_; rintro e V ⟨rfl, hV⟩; have HV := Lib.hid hV; clear hV)
    go_ret
    exact ⟨rfl, HX.out.chg.trans HV.out⟩
  | false =>
  obtain ⟨p0, p1, p2, p3⟩ := blk4 HX.out.t
  go_wp2_with fail
  clear p0 p1 p2 p3
  refine (great_t t A c X (HW.out.2.2.2.1.next HX.out.chg)).mono ?_
  rintro e Y ⟨bt, rfl, hbt, hY⟩
  have HY := Lib.hid (And.intro (HX.out.kept hY) hbt)
  clear hY hbt
  cases bt with
  | true =>
    go_wp2_with (go_at_call 17; refine (swakes_any _).mono ?_; rintro e V ⟨rfl, hV⟩; have HV := Lib.hid hV; clear hV)
    go_ret
    exact ⟨rfl, HY.out.1.chg.trans HV.out⟩
  | false =>
  have HTn := Lib.hid (HY.out.2 rfl)
  obtain ⟨q0, q1, q2, q3, q4, q5, q6, q7, q8⟩ := blk9 HY.out.1.s
  obtain ⟨Z, hZ⟩ : ∃ Z, Z = Y.alloc (.cells #[.int .i8 (Stp.op s), .int .i64 (Stp.id s), .int .i64 (Stp.par s), .int .i64 (Stp.place s), .string (Stp.text s), .int .i64 (Stp.sub s).id, .int .i64 (Stp.sub s).kind, .string (Stp.sub s).text, .slice As (Stp.sub s).kids.length cs] 27) := ⟨_, rfl⟩
  have hYZ : Chg [] Y Z := by rw [hZ]; exact (by with_reducible repeat (first | exact Chg.refl _ _ | apply Chg.alloc | apply Chg.drew | apply Chg.drewN | (refine Chg.setCell ?_ _ _ (by simp))))
  have hZb : Z.heap[Y.heap.size]? = some (.cells #[.int .i8 (Stp.op s), .int .i64 (Stp.id s), .int .i64 (Stp.par s), .int .i64 (Stp.place s), .string (Stp.text s), .int .i64 (Stp.sub s).id, .int .i64 (Stp.sub s).kind, .string (Stp.sub s).text, .slice As (Stp.sub s).kids.length cs] 27 (0, 0)) := by rw [hZ]; exact heap_new _ _ rfl
  have hgs := greatS_any [s] (some ⟨Y.heap.size, 0, none⟩) 1 Z (StpsC.one (w := Z) (cs := (#[.int .i8 (Stp.op s), .int .i64 (Stp.id s), .int .i64 (Stp.par s), .int .i64 (Stp.place s), .string (Stp.text s), .int .i64 (Stp.sub s).id, .int .i64 (Stp.sub s).kind, .string (Stp.sub s).text, .slice As (Stp.sub s).kids.length cs] : Array Value).toList) hZb (HW.out.2.2.2.2.1.next (HY.out.1.chg.trans hYZ))) (by simp)
  have HZ := Lib.hid (And.intro hZ (And.intro (HY.out.1.kept hYZ) hgs))
  clear hZ hYZ hZb hgs
  go_wp2_with (first
    | (refine wpList_guard rfl (exec_slice_one 46 27 (.tmp 35) rfl Try.underlying46 i0 _ HI.out.1 HI.out.2.1 (by rw [HI.out.2.2.1]; rfl) (by rw [HI.out.2.2.1]; omega) (by rw [HI.out.2.2.1]; omega) (.agg #[.int .i8 (Stp.op s), .int .i64 (Stp.id s), .int .i64 (Stp.par s), .int .i64 (Stp.place s), .string (Stp.text s), .int .i64 (Stp.sub s).id, .int .i64 (Stp.sub s).kind, .string (Stp.sub s).text, .slice As (Stp.sub s).kids.length cs]) rfl (by rw [HI.out.2.2.1]; rfl)) ?_
       ((try dsimp only); (try simp only [Act.put, List.setIfInBounds_toArray, List.set_cons_zero, List.set_cons_succ])))
    | (skip; fail))
  rw [← HZ.out.1]
  clear q0 q1 q2 q3 q4 q5 q6 q7 q8
  refine HZ.out.2.2.mono ?_
  rintro e V ⟨bs, rfl, hbs, hV⟩
  have HV := Lib.hid (And.intro (HZ.out.2.1.kept hV) hbs)
  clear hV hbs
  cases bs with
  | true =>
    go_wp2_with (go_at_call 17; refine (swakes_any _).mono ?_; rintro e V2 ⟨rfl, hV2⟩; have HV2 := Lib.hid hV2; clear hV2)
    go_ret
    exact ⟨rfl, HV.out.1.chg.trans HV2.out⟩
  | false =>
  have HSn := Lib.hid (HV.out.2 rfl)
  obtain ⟨g0, g1⟩ := HV.out.1.gc
  obtain ⟨p0, p1, p2, p3⟩ := blk4 HV.out.1.t
  have htr := rtree_any g Ag cg t A c V (HW.out.2.2.1.kept HV.out.1.chg) (HW.out.2.2.2.1.next HV.out.1.chg)
  have HR := Lib.hid htr
  clear htr
  go_wp2_with fail
  clear g0 g1 p0 p1 p2 p3
  refine HR.out.mono ?_
  rintro e U ⟨a1, z1, rfl, h1, h2, hU⟩
  have HU := Lib.hid (And.intro (HV.out.1.kept hU) h1)
  clear hU h1 h2
  by_cases hz : z1 = 0
  · subst hz
    have HO := Lib.hid (HU.out.2.1 rfl)
    obtain ⟨g0, g1⟩ := HU.out.1.gc
    obtain ⟨p0, p1, p2, p3⟩ := blk4 HU.out.1.t
    obtain ⟨q0, q1, q2, q3, q4, q5, q6, q7, q8⟩ := blk9 HU.out.1.s
    have hdo := do_any g j HW.out.2.2.2.2.2 Ag cg t s A c (#[.int .i8 (Stp.op s), .int .i64 (Stp.id s), .int .i64 (Stp.par s), .int .i64 (Stp.place s), .string (Stp.text s), .int .i64 (Stp.sub s).id, .int .i64 (Stp.sub s).kind, .string (Stp.sub s).text, .slice As (Stp.sub s).kids.length cs] : Array Value).toList U (HW.out.2.2.1.kept HU.out.1.chg) (HW.out.2.2.2.1.next HU.out.1.chg) (HW.out.2.2.2.2.1.next HU.out.1.chg)
    cases hr : doJ j t s with
    | error n =>
      have hn0 := doJ_ne hr
      have e0 : (n == 0) = false := by simpa using hn0
      have e0' : (n != 0) = true := by simpa using hn0
      unfold ApplyPost at hdo
      simp only [hr] at hdo
      have HD := Lib.hid hdo
      clear hdo hr hn0
      go_wp2_with fail
      clear g0 g1 p0 p1 p2 p3 q0 q1 q2 q3 q4 q5 q6 q7 q8
      refine HD.out.mono ?_
      rintro e D ⟨rfl, hD⟩
      have HDc := Lib.hid hD
      clear hD
      go_wp2_with (go_at_call 17; refine (swakes_any _).mono ?_; rintro e V2 ⟨rfl, hV2⟩; have HV2 := Lib.hid hV2; clear hV2)
      go_ret
      exact ⟨rfl, (((HU.out.1.chg.trans HDc.out).alloc _)).trans HV2.out⟩
    | ok x =>
      unfold ApplyPost at hdo
      simp only [hr] at hdo
      have HD := Lib.hid (And.intro hdo hr)
      clear hdo hr
      go_wp2_with fail
      clear g0 g1 p0 p1 p2 p3 q0 q1 q2 q3 q4 q5 q6 q7 q8
      refine HD.out.1.mono ?_
      rintro e D ⟨Bx, dx, rfl, hTx, hD⟩
      obtain ⟨D2, hD2⟩ : ∃ D2, D2 = D.alloc (.cells #[.int .i64 (Tr.id x), .int .i64 (Tr.kind x), .string (Tr.text x), .slice Bx (Tr.kids x).length dx] 24) := ⟨_, rfl⟩
      have hcD : Chg [] D D2 := by rw [hD2]; exact (by with_reducible repeat (first | exact Chg.refl _ _ | apply Chg.alloc | apply Chg.drew | apply Chg.drewN | (refine Chg.setCell ?_ _ _ (by simp))))
      have hbD : D2.heap[D.heap.size]? = some (.cells #[.int .i64 (Tr.id x), .int .i64 (Tr.kind x), .string (Tr.text x), .slice Bx (Tr.kids x).length dx] 24 (0, 0)) := by rw [hD2]; exact heap_new _ _ rfl
      have HE := Lib.hid (And.intro hD2 (And.intro (HU.out.1.kept (hD.trans hcD)) (And.intro hbD (hTx.kept hcD (by simp)).toC)))
      have hxT := HE.out.2.2.2.weak (ok' := fun b => b < D2.heap.size) (fun b hb hlt => hlt)
      obtain ⟨g0, g1⟩ := HE.out.2.1.gc
      obtain ⟨p0, p1, p2, p3⟩ := blk4 HE.out.2.2.1
      rw [hD2] at g0 g1 p0 p1 p2 p3
      have htr := rtree_any g Ag cg x Bx dx D2 (HW.out.2.2.1.kept HE.out.2.1.chg) hxT
      have HR2 := Lib.hid (And.intro htr hxT)
      clear hD2 hcD hbD hTx hD htr hxT
      go_wp2_with fail
      rw [← HE.out.1]
      clear g0 g1 p0 p1 p2 p3
      refine HR2.out.1.mono ?_
      rintro e Z2 ⟨a2, z2, rfl, h1, h2, hZ2⟩
      have hok := doJ_ok HD.out.2
      have hfit := HW.out.2.2.2.2.2
      have hz2 : z2 = 0 := h1.2 ⟨hfit.ok.1 hok.1, (hfit.fit x).1 hok.2.1⟩
      subst hz2
      have hxS := (hfit.fit x).1 hok.2.1
      have hap := applyT_ok hok.2.2
      have hkeep := doT_keeps HO.out.2.2.nodup hxS.2.nodup hap.2.2
      have hrt := hkeep.root
      have HK := Lib.hid (And.intro hkeep (And.intro hxS hap))
      have hE := HE.out.2.1.kept hZ2
      have hxb := hZ2.at HE.out.2.2.1 (by simp)
      have hxT := HR2.out.2.next hZ2
      obtain ⟨p0, p1, p2, p3⟩ := blk4 hE.t
      obtain ⟨x0, x1, x2, x3⟩ := blk4 hxb
      obtain ⟨q0, q1, q2, q3, q4, q5, q6, q7, q8⟩ := blk9 hE.s
      have d0 : (x.id != t.id) = false := by rw [hrt]; simp
      have HZ2 := Lib.hid (And.intro hE (And.intro hxb hxT))
      clear h1 h2 hZ2 hok hfit hxS hap hkeep hrt hE hxb hxT
      go_wp2_with (skip; fail)
      clear d0 q0 q1 q2 q3 q4
      refine wp_region_M (fun V => (V.cell? ⟨D.heap.size, 0, none⟩ = some (.int .i64 x.id) ∧ V.cell? ⟨D.heap.size, 1, none⟩ = some (.int .i64 x.kind) ∧ V.cell? ⟨D.heap.size, 2, none⟩ = some (.string x.text) ∧ V.cell? ⟨D.heap.size, 3, none⟩ = some (.slice Bx x.kids.length dx)) ∧ V.cell? ⟨w.heap.size + 1 + 1, 5, none⟩ = some (.int .i64 s.sub.id) ∧ V.cell? ⟨w.heap.size + 1 + 1, 6, none⟩ = some (.int .i64 s.sub.kind) ∧ V.cell? ⟨w.heap.size + 1 + 1, 7, none⟩ = some (.string s.sub.text) ∧ V.cell? ⟨w.heap.size + 1 + 1, 8, none⟩ = some (.slice As s.sub.kids.length cs)) (fun k => [1, 3, 6].contains k) (fun k => [6].contains k) (by kernel_rfl) ?_
      ((try dsimp only); (try simp only [Act.put, List.setIfInBounds_toArray, List.set_cons_zero, List.set_cons_succ]))
      have hS := (And.intro (And.intro x0 (And.intro x1 (And.intro x2 x3))) (And.intro q5 (And.intro q6 (And.intro q7 q8))))
      have HSx := Lib.hid hS
      refine M_take (i := 0) (v := ?_) rfl (by kernel_rfl) (by kernel_rfl) (by kernel_rfl) (by kernel_rfl) (fun _ _ _ h => h) (by rfl) ?hy ?_; (case hy => (go_simp; with_reducible rfl)); ((try dsimp only); (try simp only [Act.put, List.setIfInBounds_toArray, List.set_cons_zero, List.set_cons_succ]))
      refine M_semi (i := 2) (v := ?_) rfl (by kernel_rfl) (by kernel_rfl) (by kernel_rfl) (by kernel_rfl) (fun _ _ _ h => h) (by rfl) HSx.out ?hy ?_; (case hy => (intro w hS; go_simp; with_reducible rfl)); ((try dsimp only); (try simp only [Act.put, List.setIfInBounds_toArray, List.set_cons_zero, List.set_cons_succ]))
      refine M_pure (i := 4) (v := ?_) rfl (by kernel_rfl) (by kernel_rfl) (by kernel_rfl) (fun _ _ _ h => h) (by rfl) ?hy ?_; (case hy => (intro w; go_simp; with_reducible rfl)); ((try dsimp only); (try simp only [Act.put, List.setIfInBounds_toArray, List.set_cons_zero, List.set_cons_succ]))
      refine M_semi (i := 5) (v := ?_) rfl (by kernel_rfl) (by kernel_rfl) (by kernel_rfl) (by kernel_rfl) (fun _ _ _ h => h) (by rfl) HSx.out ?hy ?_; (case hy => (intro w hS; go_simp; with_reducible rfl)); ((try dsimp only); (try simp only [Act.put, List.setIfInBounds_toArray, List.set_cons_zero, List.set_cons_succ]))
      clear hS p0 p1 p2 p3 x0 x1 x2 x3 q5 q6 q7 q8
      have hsubT : TrC (fun b => b < w.heap.size) w s.sub [.int .i64 (Tr.id (Stp.sub s)), .int .i64 (Tr.kind (Stp.sub s)), .string (Tr.text (Stp.sub s)), .slice As (Tr.kids (Stp.sub s)).length cs] := by
        obtain ⟨As', cs', e, h, _⟩ := HW.out.2.2.2.2.1
        simp only [List.cons.injEq, Value.slice.injEq, true_and, and_true] at e
        obtain ⟨rfl, rfl⟩ := e
        exact h
      have HSub := Lib.hid hsubT
      clear hsubT
      refine M_eff (i := 1) rfl (by kernel_rfl) (by rfl) ?_
      go_wp2_with fail
      refine (ids_any t A c Z2.drew (HW.out.2.2.2.1.next HZ2.out.1.chg.drew)).mono ?_
      rintro e I1 ⟨ba, rfl, hMa, _, hI1⟩
      have hS1 : Chg [] Z2 I1 := ((Chg.refl [] Z2).drew).trans hI1
      have HI1 := Lib.hid (And.intro hS1 (hMa.toN (by have := HO.out.2.2.1; omega)))
      clear hS1 hMa hI1
      go_wp2_with fail
      refine ⟨⟨⟨HI1.out.1.cell HSx.out.1.1 (by simp), HI1.out.1.cell HSx.out.1.2.1 (by simp), HI1.out.1.cell HSx.out.1.2.2.1 (by simp), HI1.out.1.cell HSx.out.1.2.2.2 (by simp)⟩, HI1.out.1.cell HSx.out.2.1 (by simp), HI1.out.1.cell HSx.out.2.2.1 (by simp), HI1.out.1.cell HSx.out.2.2.2.1 (by simp), HI1.out.1.cell HSx.out.2.2.2.2 (by simp)⟩, ?_⟩
      ((try dsimp only); (try simp only [Act.put, List.setIfInBounds_toArray, List.set_cons_zero, List.set_cons_succ]))
      refine M_eff (i := 3) rfl (by kernel_rfl) (by rfl) ?_
      go_wp2_with fail
      refine (ids_any x Bx dx I1 (HZ2.out.2.2.next HI1.out.1)).mono ?_
      rintro e I2 ⟨bb, rfl, hMb, _, hI2⟩
      have hS2 : Chg [] Z2 I2 := HI1.out.1.trans hI2
      have HI2 := Lib.hid (And.intro hS2 (And.intro (hMb.toN (by have := HK.out.2.1.2.1; omega)) (HI1.out.2.kept hI2)))
      clear hS2 hMb hI2
      go_wp2_with fail
      refine ⟨⟨⟨HI2.out.1.cell HSx.out.1.1 (by simp), HI2.out.1.cell HSx.out.1.2.1 (by simp), HI2.out.1.cell HSx.out.1.2.2.1 (by simp), HI2.out.1.cell HSx.out.1.2.2.2 (by simp)⟩, HI2.out.1.cell HSx.out.2.1 (by simp), HI2.out.1.cell HSx.out.2.2.1 (by simp), HI2.out.1.cell HSx.out.2.2.2.1 (by simp), HI2.out.1.cell HSx.out.2.2.2.2 (by simp)⟩, ?_⟩
      ((try dsimp only); (try simp only [Act.put, List.setIfInBounds_toArray, List.set_cons_zero, List.set_cons_succ]))
      refine M_brk (i := 6) rfl (by kernel_rfl) (by rfl) (by rfl) ?_
      go_wp2_with fail
      refine (ids_any s.sub As cs I2 (HSub.out.next (HZ2.out.1.chg.trans HI2.out.1))).mono ?_
      rintro e I3 ⟨bm, rfl, hMm, _, hI3⟩
      have hsn : s.sub.nodes ≤ 1000 := by have := HSn.out.2.1 s (by simp); omega
      have HI3 := Lib.hid (And.intro (HZ2.out.1.kept (HI2.out.1.trans hI3)) (And.intro (HI2.out.2.2.kept hI3) (And.intro (HI2.out.2.1.kept hI3) (hMm.toN hsn))))
      clear hMm hI3 hsn
      go_wp2_with fail
      ((try dsimp only [EffQ]); (try simp only [Act.put, List.setIfInBounds_toArray, List.set_cons_zero, List.set_cons_succ]))
      refine M_pure (i := 7) (v := ?_) rfl (by kernel_rfl) (by kernel_rfl) (by kernel_rfl) (fun _ _ _ h => h) (by rfl) ?hy ?_; (case hy => (intro w; go_simp; with_reducible rfl)); ((try dsimp only); (try simp only [Act.put, List.setIfInBounds_toArray, List.set_cons_zero, List.set_cons_succ]))
      refine M_pure (i := 8) (v := ?_) rfl (by kernel_rfl) (by kernel_rfl) (by kernel_rfl) (fun _ _ _ h => h) (by rfl) ?hy ?_; (case hy => (intro w; go_simp; with_reducible rfl)); ((try dsimp only); (try simp only [Act.put, List.setIfInBounds_toArray, List.set_cons_zero, List.set_cons_succ]))
      refine M_pure (i := 9) (v := ?_) rfl (by kernel_rfl) (by kernel_rfl) (by kernel_rfl) (fun _ _ _ h => h) (by rfl) ?hy ?_; (case hy => (intro w; go_simp; with_reducible rfl)); ((try dsimp only); (try simp only [Act.put, List.setIfInBounds_toArray, List.set_cons_zero, List.set_cons_succ]))
      refine M_done (by kernel_rfl) ?_ _
      have hmm := @run_makeMap Try.prog
      obtain ⟨q0, q1, q2, q3, q4, q5, q6, q7, q8⟩ := blk9 HI3.out.1.s
      clear q2 q3 q4 q5 q6 q7 q8
      have hl := lt_of_block HI3.out.1.s
      have hM0 := MapI.made I3
      have HM0 := Lib.hid hM0
      clear hM0
      go_upto_if 95 with (skip; fail)
      obtain ⟨J, hJ⟩ : ∃ J, J = I3.alloc (.map #[] 0) := ⟨_, rfl⟩
      have hcJ : Chg [] I3 J := by rw [hJ]; exact (Chg.refl _ _).alloc _
      rw [← hJ] at HM0 ⊢
      have HJ := Lib.hid (And.intro (HI3.out.1.kept hcJ) (And.intro (HI3.out.2.1.kept hcJ) (And.intro (HI3.out.2.2.1.kept hcJ) (And.intro (HI3.out.2.2.2.kept hcJ) hcJ))))
      clear hJ hcJ q0 q1 hl hmm
      obtain ⟨q0, q1, q2, q3, q4, q5, q6, q7, q8⟩ := blk9 HJ.out.1.s
      clear q2 q3 q4 q5 q6 q7 q8
      go_cut [16] (fun gv wx => ∃ (bg : Nat) (lg : Int → Option Tr), gv = .map (some bg) ∧ Hid (MapN J.heap.size wx bg lg ∧ Chg [] J wx ∧ KeepM s (fun i => lastOf i (nodesOf t)) (fun i => lastOf i (nodesOf x)) (fun i => lastOf i (nodesOf s.sub)) lg))
      case first =>
        by_cases hop : s.op = 2
        · have d2 : (s.op == 2) = true := by simpa using hop
          obtain ⟨d, hd, hdel⟩ := HK.out.1.dels hop
          obtain ⟨m, hm, hmn⟩ := HJ.out.2.1
          have hn : IsNode _ J (m s.id) (lastOf s.id (nodesOf t)) := hmn s.id
          rw [hd] at hn
          have hdn : d.nodes ≤ 1000 := by
            obtain ⟨h1, _⟩ := lastOf_mem hd
            obtain ⟨⟨d', e'⟩, h2, rfl⟩ := List.mem_map.1 h1
            have := walk_nodes t 1 d' e' h2
            have := HO.out.2.2.1
            show d'.nodes ≤ 1000
            omega
          obtain ⟨Ad, cd, hmd, hTd⟩ := hn
          have HD2 := Lib.hid (And.intro hm (And.intro hmd (And.intro hTd (And.intro hdel (And.intro hdn hop)))))
          have hid := ids_any d Ad cd J (hTd.weak (fun b hb hlt => hlt))
          have HID := Lib.hid hid
          clear hop hd hdel hm hmn hmd hTd hid hdn
          go_wp2_with (first
            | (at_lookup; refine wpList_lookup_I (T := 29) (z := .agg #[.int .i64 0, .int .i64 0, .string ⟨#[]⟩, .slice none 0 0]) rfl (.tmp 96) (.tmp 98) rfl Try.underlying29 Try.underlying3 zeroN HD2.out.1 s.id rfl rfl (u := .agg #[.int .i64 (Tr.id d), .int .i64 (Tr.kind d), .string (Tr.text d), .slice Ad (Tr.kids d).length cd]) (by rw [HD2.out.2.1]; rfl) ?_
               ((try dsimp only); (try simp only [Act.put, List.setIfInBounds_toArray, List.set_cons_zero, List.set_cons_succ])))
            | (skip; fail))
          refine HID.out.mono ?_
          rintro e V ⟨bg, rfl, hMg, _, hV⟩
          have HVg := Lib.hid (And.intro hMg hV)
          clear hMg hV
          go_wp2_with (skip; fail)
          go_meet
          refine ⟨bg, fun i => lastOf i (nodesOf d), rfl, Lib.hid ⟨HVg.out.1.toN HD2.out.2.2.2.2.1, HVg.out.2, ⟨fun i y hy => ⟨(HD2.out.2.2.2.1 i y hy).1, fun z hz => ?_⟩, HK.out.1.come⟩⟩⟩
          have := (HD2.out.2.2.2.1 i y hy).2 z hz
          exact ⟨this.1, .inl this.2⟩
        · have d2 : (s.op == 2) = false := by simpa using hop
          have HN := Lib.hid hop
          clear hop
          go_wp2_with (skip; fail)
          go_meet
          refine ⟨_, fun _ => none, rfl, Lib.hid ⟨⟨_, HM0.out, fun n => rfl⟩, Chg.refl _ _, ⟨fun i y hy => ?_, HK.out.1.come⟩⟩⟩
          obtain ⟨z, h1, h2, h3⟩ := HK.out.1.stay HN.out i y hy
          refine ⟨by rw [h1]; rfl, fun z' h => ?_⟩
          rw [h1] at h; cases h
          exact ⟨h2, h3⟩
      case rest =>
      obtain ⟨bg, lg, rfl, hg⟩ := hcut
      obtain ⟨Q, hQ⟩ : ∃ Q, Q = wc := ⟨_, rfl⟩
      subst hQ
      have hJQ := hg.out.2.1
      obtain ⟨ma, hma, hna⟩ := HJ.out.2.1.kept hJQ
      obtain ⟨mb, hmb, hnb⟩ := HJ.out.2.2.1.kept hJQ
      obtain ⟨mm, hmm, hnm⟩ := HJ.out.2.2.2.1.kept hJQ
      obtain ⟨mg, hmg, hng⟩ := hg.out.1
      have HQ := Lib.hid (show KQ s Q ba bb bm bg ma mb mm mg (fun i => lastOf i (nodesOf t)) (fun i => lastOf i (nodesOf x)) (fun i => lastOf i (nodesOf s.sub)) lg from ⟨hma, hmb, hmm, hmg, ⟨_, hna⟩, ⟨_, hnb⟩, ⟨_, hnm⟩, ⟨_, hng⟩, hg.out.2.2⟩)
      have HQB := Lib.hid (HJ.out.1.kept hJQ)
      clear hg hJQ hma hna hmb hnb hmm hnm hmg hng q0 q1
      go_wp2_with (first
        | (at_range; refine wpList_range_I rfl (.tmp 101) rfl Try.underlying29 HQ.out.a rfl ?_
           intro Q1 hit0 hc0 hs0
           ((try dsimp only); (try simp only [Act.put, List.setIfInBounds_toArray, List.set_cons_zero, List.set_cons_succ])))
        | (skip; fail))
      have HQ1 := Lib.hid (And.intro hit0 (And.intro hc0 hs0))
      clear hit0 hc0 hs0
      go_loopw [] (fun wr => ∃ done, Hid (IterI wr ba Q.heap.size ma done ∧ Chg [] Q wr)) (fun wr => wr.rangeLeft ba Q.heap.size)
      case atStart => exact ⟨[], Lib.hid ⟨HQ1.out.1, HQ1.out.2.1⟩⟩
      case round =>
        obtain ⟨done, H⟩ := hrel
        obtain ⟨V, hV⟩ : ∃ V, V = wr := ⟨_, rfl⟩
        subst hV
        go_wp2_with (first
          | (at_next; refine wpList_next_I rfl (.tmp 102) rfl rfl H.out.1 ?_ ?_)
          | (skip; fail))
        · intro hall
          clear hall
          go_wp2_with (first
            | (at_range; refine wpList_range_I rfl (.tmp 151) rfl Try.underlying29 (HQ.out.b.kept H.out.2 (by simp)) rfl ?_
               intro Q2 hit0 hc0 hs0
               ((try dsimp only); (try simp only [Act.put, List.setIfInBounds_toArray, List.set_cons_zero, List.set_cons_succ])))
            | (skip; fail))
          have HQ2 := Lib.hid (And.intro hit0 (And.intro (H.out.2.trans hc0) hs0))
          have hVs := H.out.2.size
          clear hit0 hc0 hs0
          go_loopw [] (fun wr => ∃ done2, Hid (IterI wr bb V.heap.size mb done2 ∧ Chg [] Q wr)) (fun wr => wr.rangeLeft bb V.heap.size)
          case atStart => exact ⟨[], Lib.hid ⟨HQ2.out.1, HQ2.out.2.1⟩⟩
          case round =>
            obtain ⟨done2, H2⟩ := hrel
            obtain ⟨U2, hU2⟩ : ∃ U2, U2 = wr := ⟨_, rfl⟩
            subst hU2
            go_wp2_with (first
              | (at_next; refine wpList_next_I rfl (.tmp 152) rfl rfl H2.out.1 ?_ ?_)
              | (skip; fail))
            · intro hall
              clear hall
              obtain ⟨q0, q1, q2, q3, q4, q5, q6, q7, q8⟩ := blk9 (HQB.out.kept H2.out.2).s
              clear q1 q2 q3 q4 q5 q6 q7 q8
              have hend : Chg [] w U2 := (HQB.out.kept H2.out.2).chg
              have HEnd := Lib.hid hend
              clear hend
              by_cases ho : s.op = 1
              · have d3 : (s.op != 1) = false := by rw [ho]; rfl
                obtain ⟨hcn, hsd⟩ := HK.out.1.count ho
                obtain ⟨eb, kb, hbb, hbs⟩ := (HQ.out.b.kept H2.out.2 (by simp)).count HK.out.2.1.2.nodup (fun n => HQ.out.bn.iff n)
                obtain ⟨ea, ka, hba, has⟩ := (HQ.out.a.kept H2.out.2 (by simp)).count HO.out.2.2.nodup (fun n => HQ.out.an.iff n)
                obtain ⟨em, km, hbm, hms⟩ := (HQ.out.m.kept H2.out.2 (by simp)).count hsd (fun n => HQ.out.mn.iff n)
                rw [ids_len] at hbs has hms
                have b1 : t.nodes ≤ 200 := HO.out.2.2.1
                have b2 : s.sub.nodes ≤ 2000 := HK.out.2.2.2.1
                have d4 : ((x.nodes : Int) == (t.nodes : Int) + (s.sub.nodes : Int)) = true := by simp; omega
                have HC := Lib.hid (And.intro hbb (And.intro hbs (And.intro hba (And.intro has (And.intro hbm hms)))))
                clear ho hcn hsd hbb hbs hba has hbm hms
                go_wp2_with (first
                  | (refine wpList_guard rfl (exec_len_I (.tmp 184) rfl Try.underlying29 bb eb kb rfl HC.out.1 HC.out.2.1) ?_
                     ((try dsimp only); (try simp only [Act.put, List.setIfInBounds_toArray, List.set_cons_zero, List.set_cons_succ])))
                  | (refine wpList_guard rfl (exec_len_I (.tmp 186) rfl Try.underlying29 ba ea ka rfl HC.out.2.2.1 HC.out.2.2.2.1) ?_
                     ((try dsimp only); (try simp only [Act.put, List.setIfInBounds_toArray, List.set_cons_zero, List.set_cons_succ])))
                  | (refine wpList_guard rfl (exec_len_I (.tmp 188) rfl Try.underlying29 bm em km rfl HC.out.2.2.2.2.1 HC.out.2.2.2.2.2) ?_
                     ((try dsimp only); (try simp only [Act.put, List.setIfInBounds_toArray, List.set_cons_zero, List.set_cons_succ])))
                  | (go_at_call 17; refine (swakes_any _).mono ?_; rintro e V2 ⟨rfl, hV2⟩; have HV2 := Lib.hid hV2; clear hV2)
                  | (skip; fail))
                go_ret
                exact ⟨rfl, HEnd.out.trans HV2.out⟩
              · have d3 : (s.op != 1) = true := by simpa using ho
                clear ho
                go_wp2_with (first
                  | (go_at_call 17; refine (swakes_any _).mono ?_; rintro e V2 ⟨rfl, hV2⟩; have HV2 := Lib.hid hV2; clear hV2)
                  | (skip; fail))
                go_ret
                exact ⟨rfl, HEnd.out.trans HV2.out⟩
            · intro i v w1 hmi _ hit1 hlt1 hc1 hs1 hen
              obtain ⟨y0, A0, c0, hy0, rfl⟩ := HQ.out.bn.at hmi
              have htwo := HQ.out.k.two i (fun e => by have : lastOf i (nodesOf x) = some y0 := hy0; rw [e] at this; cases this)
              have hQ1 : Chg [] Q w1 := H2.out.2.andThen hc1 (by simp; omega)
              have HR1 := Lib.hid (And.intro hit1 (And.intro hlt1 (And.intro hc1 (And.intro hs1 hQ1))))
              clear hmi hit1 hlt1 hc1 hs1 hQ1 hy0
              cases hz : lastOf i (nodesOf t) with
              | none =>
                have hla := HQ.out.an.none (n := i) hz
                obtain ⟨ho, hm⟩ := htwo.resolve_left (fun h => h hz)
                obtain ⟨q, hq⟩ : ∃ q, lastOf i (nodesOf s.sub) = some q := by
                  cases e : lastOf i (nodesOf s.sub) with
                  | none => exact absurd e hm
                  | some q => exact ⟨q, rfl⟩
                obtain ⟨Aq, cq, hlm⟩ := HQ.out.mn.some (n := i) hq
                obtain ⟨q0, q1, q2, q3, q4, q5, q6, q7, q8⟩ := blk9 (HQB.out.kept ((HR1.out.2.2.2.2.alloc (.cells #[.int .i64 0, .int .i64 0, .string ⟨#[]⟩, .slice none 0 0] 24)).alloc (.cells #[.int .i64 (Tr.id q), .int .i64 (Tr.kind q), .string (Tr.text q), .slice Aq (Tr.kids q).length cq] 24))).s
                have d3 : (s.op != 1) = false := by rw [ho]; rfl
                have HL := Lib.hid (And.intro hla hlm)
                clear hz hla ho hm hq hlm htwo q1 q2 q3 q4 q5 q6 q7 q8
                go_wp2_with (first
                  | (at_lookup; refine wpList_lookup_ok_I (T := 29) (z := .agg #[.int .i64 0, .int .i64 0, .string ⟨#[]⟩, .slice none 0 0]) rfl (.tmp 158) (.tmp 159) rfl Try.underlying29 Try.underlying3 zeroN (HQ.out.a.kept HR1.out.2.2.2.2 (by simp)) i rfl rfl (u := .agg #[.int .i64 0, .int .i64 0, .string ⟨#[]⟩, .slice none 0 0]) (by rw [HL.out.1]; rfl) (c := false) (by rw [HL.out.1]; rfl) ?_
                     ((try dsimp only); (try simp only [Act.put, List.setIfInBounds_toArray, List.set_cons_zero, List.set_cons_succ])))
                  | (at_lookup; refine wpList_lookup_ok_I (T := 29) (z := .agg #[.int .i64 0, .int .i64 0, .string ⟨#[]⟩, .slice none 0 0]) rfl (.tmp 164) (.tmp 165) rfl Try.underlying29 Try.underlying3 zeroN (HQ.out.m.kept (HR1.out.2.2.2.2.alloc _) (by simp)) i rfl rfl (u := .agg #[.int .i64 (Tr.id q), .int .i64 (Tr.kind q), .string (Tr.text q), .slice Aq (Tr.kids q).length cq]) (by rw [HL.out.2]; rfl) (c := true) (by rw [HL.out.2]; rfl) ?_
                     ((try dsimp only); (try simp only [Act.put, List.setIfInBounds_toArray, List.set_cons_zero, List.set_cons_succ])))
                  | (skip; fail))
                go_roundw
                case rel => exact ⟨done2 ++ [i], Lib.hid ⟨HR1.out.1.kept (l := []) (by with_reducible repeat (first | exact Chg.refl _ _ | apply Chg.alloc | apply Chg.drew | apply Chg.drewN | (refine Chg.setCell ?_ _ _ (by simp)))) (by simp) (by simp), (HR1.out.2.2.2.2.alloc _).alloc _⟩⟩
                case measure =>
                  rw [HR1.out.1.left_kept (l := []) (show Chg [] w1 _ from (by with_reducible repeat (first | exact Chg.refl _ _ | apply Chg.alloc | apply Chg.drew | apply Chg.drewN | (refine Chg.setCell ?_ _ _ (by simp))))) (by simp) (by simp)]; exact HR1.out.2.1
              | some y =>
                obtain ⟨Ay, cy, hla⟩ := HQ.out.an.some (n := i) hz
                clear htwo hz
                cases hq : lastOf i (nodesOf s.sub) with
                | none =>
                  have hlm := HQ.out.mn.none (n := i) hq
                  have HL := Lib.hid (And.intro hla hlm)
                  clear hq hla hlm
                  go_wp2_with (first
                    | (at_lookup; refine wpList_lookup_ok_I (T := 29) (z := .agg #[.int .i64 0, .int .i64 0, .string ⟨#[]⟩, .slice none 0 0]) rfl (.tmp 158) (.tmp 159) rfl Try.underlying29 Try.underlying3 zeroN (HQ.out.a.kept HR1.out.2.2.2.2 (by simp)) i rfl rfl (u := .agg #[.int .i64 (Tr.id y), .int .i64 (Tr.kind y), .string (Tr.text y), .slice Ay (Tr.kids y).length cy]) (by rw [HL.out.1]; rfl) (c := true) (by rw [HL.out.1]; rfl) ?_
                       ((try dsimp only); (try simp only [Act.put, List.setIfInBounds_toArray, List.set_cons_zero, List.set_cons_succ])))
                    | (at_lookup; refine wpList_lookup_ok_I (T := 29) (z := .agg #[.int .i64 0, .int .i64 0, .string ⟨#[]⟩, .slice none 0 0]) rfl (.tmp 164) (.tmp 165) rfl Try.underlying29 Try.underlying3 zeroN (HQ.out.m.kept (HR1.out.2.2.2.2.alloc _) (by simp)) i rfl rfl (u := .agg #[.int .i64 0, .int .i64 0, .string ⟨#[]⟩, .slice none 0 0]) (by rw [HL.out.2]; rfl) (c := false) (by rw [HL.out.2]; rfl) ?_
                       ((try dsimp only); (try simp only [Act.put, List.setIfInBounds_toArray, List.set_cons_zero, List.set_cons_succ])))
                    | (skip; fail))
                  go_roundw
                  case rel => exact ⟨done2 ++ [i], Lib.hid ⟨HR1.out.1.kept (l := []) (by with_reducible repeat (first | exact Chg.refl _ _ | apply Chg.alloc | apply Chg.drew | apply Chg.drewN | (refine Chg.setCell ?_ _ _ (by simp)))) (by simp) (by simp), (HR1.out.2.2.2.2.alloc _).alloc _⟩⟩
                  case measure =>
                    rw [HR1.out.1.left_kept (l := []) (show Chg [] w1 _ from (by with_reducible repeat (first | exact Chg.refl _ _ | apply Chg.alloc | apply Chg.drew | apply Chg.drewN | (refine Chg.setCell ?_ _ _ (by simp))))) (by simp) (by simp)]; exact HR1.out.2.1
                | some q =>
                  obtain ⟨Aq, cq, hlm⟩ := HQ.out.mn.some (n := i) hq
                  have HL := Lib.hid (And.intro hla hlm)
                  clear hq hla hlm
                  go_wp2_with (first
                    | (at_lookup; refine wpList_lookup_ok_I (T := 29) (z := .agg #[.int .i64 0, .int .i64 0, .string ⟨#[]⟩, .slice none 0 0]) rfl (.tmp 158) (.tmp 159) rfl Try.underlying29 Try.underlying3 zeroN (HQ.out.a.kept HR1.out.2.2.2.2 (by simp)) i rfl rfl (u := .agg #[.int .i64 (Tr.id y), .int .i64 (Tr.kind y), .string (Tr.text y), .slice Ay (Tr.kids y).length cy]) (by rw [HL.out.1]; rfl) (c := true) (by rw [HL.out.1]; rfl) ?_
                       ((try dsimp only); (try simp only [Act.put, List.setIfInBounds_toArray, List.set_cons_zero, List.set_cons_succ])))
                    | (at_lookup; refine wpList_lookup_ok_I (T := 29) (z := .agg #[.int .i64 0, .int .i64 0, .string ⟨#[]⟩, .slice none 0 0]) rfl (.tmp 164) (.tmp 165) rfl Try.underlying29 Try.underlying3 zeroN (HQ.out.m.kept (HR1.out.2.2.2.2.alloc _) (by simp)) i rfl rfl (u := .agg #[.int .i64 (Tr.id q), .int .i64 (Tr.kind q), .string (Tr.text q), .slice Aq (Tr.kids q).length cq]) (by rw [HL.out.2]; rfl) (c := true) (by rw [HL.out.2]; rfl) ?_
                       ((try dsimp only); (try simp only [Act.put, List.setIfInBounds_toArray, List.set_cons_zero, List.set_cons_succ])))
                    | (skip; fail))
                  go_roundw
                  case rel => exact ⟨done2 ++ [i], Lib.hid ⟨HR1.out.1.kept (l := []) (by with_reducible repeat (first | exact Chg.refl _ _ | apply Chg.alloc | apply Chg.drew | apply Chg.drewN | (refine Chg.setCell ?_ _ _ (by simp)))) (by simp) (by simp), (HR1.out.2.2.2.2.alloc _).alloc _⟩⟩
                  case measure =>
                    rw [HR1.out.1.left_kept (l := []) (show Chg [] w1 _ from (by with_reducible repeat (first | exact Chg.refl _ _ | apply Chg.alloc | apply Chg.drew | apply Chg.drewN | (refine Chg.setCell ?_ _ _ (by simp))))) (by simp) (by simp)]; exact HR1.out.2.1
        · intro i v w1 hmi _ hit1 hlt1 hc1 hs1 hen
          obtain ⟨y, Ay, cy, hy, rfl⟩ := HQ.out.an.at hmi
          have hone := HQ.out.k.one i y hy
          have hQ1 : Chg [] Q w1 := H.out.2.andThen hc1 (by simp)
          have HR1 := Lib.hid (And.intro hit1 (And.intro hlt1 (And.intro hc1 (And.intro hs1 (And.intro hone hQ1)))))
          clear hmi hit1 hlt1 hc1 hs1 hone hQ1 hy
          cases hz : lastOf i (nodesOf x) with
          | none =>
            have hlb := HQ.out.bn.none (n := i) hz
            have hgs : (lg i).isSome = true := by have := HR1.out.2.2.2.2.1.1; simp only [hz] at this; simpa using this
            obtain ⟨q, hq⟩ := Option.isSome_iff_exists.1 hgs
            obtain ⟨Aq, cq, hlg⟩ := HQ.out.gn.some hq
            have HL := Lib.hid (And.intro hlb hlg)
            clear hz hlb hgs hq hlg
            go_wp2_with (first
              | (at_lookup; refine wpList_lookup_ok_I (T := 29) (z := .agg #[.int .i64 0, .int .i64 0, .string ⟨#[]⟩, .slice none 0 0]) rfl (.tmp 109) (.tmp 110) rfl Try.underlying29 Try.underlying3 zeroN (HQ.out.b.kept (HR1.out.2.2.2.2.2.alloc _) (by simp)) i rfl rfl (u := .agg #[.int .i64 0, .int .i64 0, .string ⟨#[]⟩, .slice none 0 0]) (by rw [HL.out.1]; rfl) (c := false) (by rw [HL.out.1]; rfl) ?_
                 ((try dsimp only); (try simp only [Act.put, List.setIfInBounds_toArray, List.set_cons_zero, List.set_cons_succ])))
              | (at_lookup; refine wpList_lookup_ok_I (T := 29) (z := .agg #[.int .i64 0, .int .i64 0, .string ⟨#[]⟩, .slice none 0 0]) rfl (.tmp 115) (.tmp 116) rfl Try.underlying29 Try.underlying3 zeroN (HQ.out.g.kept ((HR1.out.2.2.2.2.2.alloc _).alloc _) (by simp)) i rfl rfl (u := .agg #[.int .i64 (Tr.id q), .int .i64 (Tr.kind q), .string (Tr.text q), .slice Aq (Tr.kids q).length cq]) (by rw [HL.out.2]; rfl) (c := true) (by rw [HL.out.2]; rfl) ?_
                 ((try dsimp only); (try simp only [Act.put, List.setIfInBounds_toArray, List.set_cons_zero, List.set_cons_succ])))
              | (skip; fail))
            go_roundw
            case rel => exact ⟨done ++ [i], Lib.hid ⟨HR1.out.1.kept (l := []) (by with_reducible repeat (first | exact Chg.refl _ _ | apply Chg.alloc | apply Chg.drew | apply Chg.drewN | (refine Chg.setCell ?_ _ _ (by simp)))) (by simp) (by simp), ((HR1.out.2.2.2.2.2.alloc _).alloc _).alloc _⟩⟩
            case measure =>
              rw [HR1.out.1.left_kept (l := []) (show Chg [] w1 _ from (by with_reducible repeat (first | exact Chg.refl _ _ | apply Chg.alloc | apply Chg.drew | apply Chg.drewN | (refine Chg.setCell ?_ _ _ (by simp))))) (by simp) (by simp)]; exact HR1.out.2.1
          | some z =>
            obtain ⟨Az, cz, hlb⟩ := HQ.out.bn.some (n := i) hz
            have hgs : lg i = none := by have := HR1.out.2.2.2.2.1.1; simp only [hz] at this; simpa using this
            have hlg := HQ.out.gn.none hgs
            obtain ⟨hk, htx⟩ := HR1.out.2.2.2.2.1.2 z hz
            have HL := Lib.hid (And.intro hlb hlg)
            obtain ⟨zi, zk, zt, zks⟩ := z
            simp only at hk htx hlb
            subst hk
            clear hz hgs HL
            by_cases htz : y.text = zt
            · subst htz
              have HL := Lib.hid (And.intro hlb hlg)
              clear hlb hlg htx
              go_wp2_with (first
                | (at_lookup; refine wpList_lookup_ok_I (T := 29) (z := .agg #[.int .i64 0, .int .i64 0, .string ⟨#[]⟩, .slice none 0 0]) rfl (.tmp 109) (.tmp 110) rfl Try.underlying29 Try.underlying3 zeroN (HQ.out.b.kept (HR1.out.2.2.2.2.2.alloc _) (by simp)) i rfl rfl (u := .agg #[.int .i64 zi, .int .i64 y.kind, .string y.text, .slice Az zks.length cz]) (by rw [HL.out.1]; rfl) (c := true) (by rw [HL.out.1]; rfl) ?_
                   ((try dsimp only); (try simp only [Act.put, List.setIfInBounds_toArray, List.set_cons_zero, List.set_cons_succ])))
                | (at_lookup; refine wpList_lookup_ok_I (T := 29) (z := .agg #[.int .i64 0, .int .i64 0, .string ⟨#[]⟩, .slice none 0 0]) rfl (.tmp 115) (.tmp 116) rfl Try.underlying29 Try.underlying3 zeroN (HQ.out.g.kept ((HR1.out.2.2.2.2.2.alloc _).alloc _) (by simp)) i rfl rfl (u := .agg #[.int .i64 0, .int .i64 0, .string ⟨#[]⟩, .slice none 0 0]) (by rw [HL.out.2]; rfl) (c := false) (by rw [HL.out.2]; rfl) ?_
                   ((try dsimp only); (try simp only [Act.put, List.setIfInBounds_toArray, List.set_cons_zero, List.set_cons_succ])))
                | (skip; fail))
              go_roundw
              case rel => exact ⟨done ++ [i], Lib.hid ⟨HR1.out.1.kept (l := []) (by with_reducible repeat (first | exact Chg.refl _ _ | apply Chg.alloc | apply Chg.drew | apply Chg.drewN | (refine Chg.setCell ?_ _ _ (by simp)))) (by simp) (by simp), ((HR1.out.2.2.2.2.2.alloc _).alloc _).alloc _⟩⟩
              case measure =>
                rw [HR1.out.1.left_kept (l := []) (show Chg [] w1 _ from (by with_reducible repeat (first | exact Chg.refl _ _ | apply Chg.alloc | apply Chg.drew | apply Chg.drewN | (refine Chg.setCell ?_ _ _ (by simp))))) (by simp) (by simp)]; exact HR1.out.2.1
            · obtain ⟨ho, hi⟩ := htx.resolve_left htz
              have hne : ¬ y.text.toList = zt.toList := fun e => htz (text_inj e)
              have d2 : (y.text.toList != zt.toList) = true := by simpa using hne
              obtain ⟨q0, q1, q2, q3, q4, q5, q6, q7, q8⟩ := blk9 (HQB.out.kept ((((HR1.out.2.2.2.2.2.alloc (.cells #[.int .i64 (Tr.id y), .int .i64 (Tr.kind y), .string (Tr.text y), .slice Ay (Tr.kids y).length cy] 24)).alloc (.cells #[.int .i64 zi, .int .i64 y.kind, .string zt, .slice Az zks.length cz] 24)).alloc (.cells #[.int .i64 0, .int .i64 0, .string ⟨#[]⟩, .slice none 0 0] 24)))).s
              have d3 : (s.op != 4) = false := by rw [ho]; rfl
              have d4 : (i != s.id) = false := by rw [hi]; simp
              have HL := Lib.hid (And.intro hlb hlg)
              clear htz htx ho hi q2 q3 q4 q5 q6 q7 q8 hlb hlg
              go_wp2_with (first
                | (at_lookup; refine wpList_lookup_ok_I (T := 29) (z := .agg #[.int .i64 0, .int .i64 0, .string ⟨#[]⟩, .slice none 0 0]) rfl (.tmp 109) (.tmp 110) rfl Try.underlying29 Try.underlying3 zeroN (HQ.out.b.kept (HR1.out.2.2.2.2.2.alloc _) (by simp)) i rfl rfl (u := .agg #[.int .i64 zi, .int .i64 y.kind, .string zt, .slice Az zks.length cz]) (by rw [HL.out.1]; rfl) (c := true) (by rw [HL.out.1]; rfl) ?_
                   ((try dsimp only); (try simp only [Act.put, List.setIfInBounds_toArray, List.set_cons_zero, List.set_cons_succ])))
                | (at_lookup; refine wpList_lookup_ok_I (T := 29) (z := .agg #[.int .i64 0, .int .i64 0, .string ⟨#[]⟩, .slice none 0 0]) rfl (.tmp 115) (.tmp 116) rfl Try.underlying29 Try.underlying3 zeroN (HQ.out.g.kept ((HR1.out.2.2.2.2.2.alloc _).alloc _) (by simp)) i rfl rfl (u := .agg #[.int .i64 0, .int .i64 0, .string ⟨#[]⟩, .slice none 0 0]) (by rw [HL.out.2]; rfl) (c := false) (by rw [HL.out.2]; rfl) ?_
                   ((try dsimp only); (try simp only [Act.put, List.setIfInBounds_toArray, List.set_cons_zero, List.set_cons_succ])))
                | (skip; fail))
              go_roundw
              case rel => exact ⟨done ++ [i], Lib.hid ⟨HR1.out.1.kept (l := []) (by with_reducible repeat (first | exact Chg.refl _ _ | apply Chg.alloc | apply Chg.drew | apply Chg.drewN | (refine Chg.setCell ?_ _ _ (by simp)))) (by simp) (by simp), ((HR1.out.2.2.2.2.2.alloc _).alloc _).alloc _⟩⟩
              case measure =>
                rw [HR1.out.1.left_kept (l := []) (show Chg [] w1 _ from (by with_reducible repeat (first | exact Chg.refl _ _ | apply Chg.alloc | apply Chg.drew | apply Chg.drewN | (refine Chg.setCell ?_ _ _ (by simp))))) (by simp) (by simp)]; exact HR1.out.2.1
  · have e0 : (z1 == 0) = false := by simpa using hz
    have e0' : (z1 != 0) = true := by simpa using hz
    clear hz
    go_wp2_with (go_at_call 17; refine (swakes_any _).mono ?_; rintro e V2 ⟨rfl, hV2⟩; have HV2 := Lib.hid hV2; clear hV2)
    go_ret
    exact ⟨rfl, HU.out.1.chg.trans HV2.out⟩
end Go.Proofs.Ytofjocjljbkjgaa
