import Derived.Test.YtofjocjljbkjgaaStepM
import Derived.Laws.EntriesVeiled
/- The contract of step.Apply, at moves. -/
set_option linter.unusedVariables false
set_option linter.unusedSimpArgs false
namespace Go.Proofs.Ytofjocjljbkjgaa
open Go.RowKit
theorem moveT_ne {t : Tr} {id par pl n : Int} (h : moveT t id par pl = .error n) : n ≠ 0 := by
  unfold moveT at h
  repeat (first | (split at h) | (injection h with h; omega) | (cases h))
def waysV : Array Value := #[.nilFunc, .func (.func 100) #[] #[], .func (.func 101) #[] #[], .func (.func 104) #[] #[], .func (.func 105) #[] #[]]
theorem szAR : (Try.prog.info? 100).map (·.size) = some 5 := by kernel_rfl
theorem ways_any (w : World) : Calls Try.prog 55 #[] w fun e w' => e = .returned (.agg waysV) ∧ Chg [] w w' := by
  go_enter Try.func55, Try.ntmps55
  go_wp2
  refine bodyPost_ret (v := .agg waysV) (results_cell_row rfl _ _ w.heap.size _ _ _ _ rfl (heap_new _ _ rfl) Try.underlying100 rfl szAR) rfl ⟨rfl, (by with_reducible repeat (first | exact Chg.refl _ _ | apply Chg.alloc | apply Chg.drew | apply Chg.drewN | (refine Chg.setCell ?_ _ _ (by simp))))⟩
/-- What an Apply leaves: an error and no tree, or a tree that it made. -/
def ApplyPost (res : Except Int Tr) (w : World) (e : Ending) (w' : World) : Prop :=
  match res with
  | .error n => e = .returned (.tuple #[.agg #[.int .i64 0, .int .i64 0, .string ⟨#[]⟩, .slice none 0 0], .int .i64 n]) ∧ Chg [] w w'
  | .ok t' => ∃ A c, e = .returned (.tuple #[.agg #[.int .i64 (Tr.id t'), .int .i64 (Tr.kind t'), .string (Tr.text t'), .slice A (Tr.kids t').length c], .int .i64 0]) ∧ TrV w' t' [.int .i64 (Tr.id t'), .int .i64 (Tr.kind t'), .string (Tr.text t'), .slice A (Tr.kids t').length c] (fun b => w.heap.size ≤ b ∧ b < w'.heap.size) ∧ Chg [] w w'
def applyMove (t : Tr) (id par pl : Int) (sub : Tr) : Except Int Tr := if t.nodes ≤ 2000 ∧ sub.nodes ≤ 2000 then moveT t id par pl else .error 2
set_option maxHeartbeats 4000000 in
set_option maxRecDepth 100000 in
theorem apply_move (t : Tr) (id par pl : Int) (tx : ByteArray) (sub : Tr) (A : Option Addr) (c : Nat) (As : Option Addr) (cs : Nat) (w : World) (hT : TrC (fun b => b < w.heap.size) w t [.int .i64 (Tr.id t), .int .i64 (Tr.kind t), .string (Tr.text t), .slice A (Tr.kids t).length c]) (hS : TrC (fun b => b < w.heap.size) w sub [.int .i64 (Tr.id sub), .int .i64 (Tr.kind sub), .string (Tr.text sub), .slice As (Tr.kids sub).length cs]) :
    Calls Try.prog 19 #[.agg #[.int .i64 (Tr.id t), .int .i64 (Tr.kind t), .string (Tr.text t), .slice A (Tr.kids t).length c], .agg #[.int .i8 3, .int .i64 id, .int .i64 par, .int .i64 pl, .string tx, .int .i64 (Tr.id sub), .int .i64 (Tr.kind sub), .string (Tr.text sub), .slice As (Tr.kids sub).length cs]] w (ApplyPost (applyMove t id par pl sub) w) := by
  have hfn : ∀ w, (binOp .eql 99 (.func (.func 104) #[] #[]) .nilFunc).run Try.prog w = .ok (.bool false) w := fun w => by kernel_rfl
  have HH := Lib.hid (And.intro hT hS)
  have hC3 : Chg [] w (((w.alloc (.cells #[.int .i64 (Tr.id t), .int .i64 (Tr.kind t), .string (Tr.text t), .slice A (Tr.kids t).length c] 24)).alloc (.cells #[.int .i8 3, .int .i64 id, .int .i64 par, .int .i64 pl, .string tx, .int .i64 (Tr.id sub), .int .i64 (Tr.kind sub), .string (Tr.text sub), .slice As (Tr.kids sub).length cs] 27)).alloc (.cells #[.int .i64 0, .int .i64 0, .string ⟨#[]⟩, .slice none 0 0] 24)) := (by with_reducible repeat (first | exact Chg.refl _ _ | apply Chg.alloc | apply Chg.drew | apply Chg.drewN | (refine Chg.setCell ?_ _ _ (by simp))))
  have k0 : (((w.alloc (.cells #[.int .i64 (Tr.id t), .int .i64 (Tr.kind t), .string (Tr.text t), .slice A (Tr.kids t).length c] 24)).alloc (.cells #[.int .i8 3, .int .i64 id, .int .i64 par, .int .i64 pl, .string tx, .int .i64 (Tr.id sub), .int .i64 (Tr.kind sub), .string (Tr.text sub), .slice As (Tr.kids sub).length cs] 27)).alloc (.cells #[.int .i64 0, .int .i64 0, .string ⟨#[]⟩, .slice none 0 0] 24)).heap[w.heap.size]? = some (.cells #[.int .i64 (Tr.id t), .int .i64 (Tr.kind t), .string (Tr.text t), .slice A (Tr.kids t).length c] 24 (0, 0)) := heap_old (heap_old (heap_new _ _ rfl) _) _
  have k1 : (((w.alloc (.cells #[.int .i64 (Tr.id t), .int .i64 (Tr.kind t), .string (Tr.text t), .slice A (Tr.kids t).length c] 24)).alloc (.cells #[.int .i8 3, .int .i64 id, .int .i64 par, .int .i64 pl, .string tx, .int .i64 (Tr.id sub), .int .i64 (Tr.kind sub), .string (Tr.text sub), .slice As (Tr.kids sub).length cs] 27)).alloc (.cells #[.int .i64 0, .int .i64 0, .string ⟨#[]⟩, .slice none 0 0] 24)).heap[w.heap.size + 1]? = some (.cells #[.int .i8 3, .int .i64 id, .int .i64 par, .int .i64 pl, .string tx, .int .i64 (Tr.id sub), .int .i64 (Tr.kind sub), .string (Tr.text sub), .slice As (Tr.kids sub).length cs] 27 (0, 0)) := heap_old (heap_new _ _ (by simp)) _
  have k2 : (((w.alloc (.cells #[.int .i64 (Tr.id t), .int .i64 (Tr.kind t), .string (Tr.text t), .slice A (Tr.kids t).length c] 24)).alloc (.cells #[.int .i8 3, .int .i64 id, .int .i64 par, .int .i64 pl, .string tx, .int .i64 (Tr.id sub), .int .i64 (Tr.kind sub), .string (Tr.text sub), .slice As (Tr.kids sub).length cs] 27)).alloc (.cells #[.int .i64 0, .int .i64 0, .string ⟨#[]⟩, .slice none 0 0] 24)).heap[w.heap.size + 1 + 1]? = some (.cells #[.int .i64 0, .int .i64 0, .string ⟨#[]⟩, .slice none 0 0] 24 (0, 0)) := heap_new _ _ (by simp)
  have HK := Lib.hid (And.intro hC3 (And.intro k0 (And.intro k1 k2)))
  clear hT hS hC3 k0 k1 k2
  go_enter Try.func19, Try.ntmps19
  go_wp2_with (first
    | (go_at_call 55; refine (ways_any _).mono ?_; rintro e W0 ⟨rfl, hC0⟩; unfold waysV; have HC0 := Lib.hid hC0; clear hC0)
    | fail)
  obtain ⟨X, hXe⟩ : ∃ X, X = W0.alloc (.cells #[.nilFunc, .func (.func 100) #[] #[], .func (.func 101) #[] #[], .func (.func 104) #[] #[], .func (.func 105) #[] #[]] 100) := ⟨_, rfl⟩
  have hWX : Chg [] W0 X := by rw [hXe]; exact (Chg.refl _ _).alloc _
  have hX6 : X.heap[W0.heap.size]? = some (.cells #[.nilFunc, .func (.func 100) #[] #[], .func (.func 101) #[] #[], .func (.func 104) #[] #[], .func (.func 105) #[] #[]] 100 (0, 0)) := by rw [hXe]; exact heap_new _ _ rfl
  rw [← hXe]
  have hc0 := HC0.out.trans hWX
  have x0 := hc0.at HK.out.2.1 (by simp)
  have x1 := hc0.at HK.out.2.2.1 (by simp)
  have x2 := hc0.at HK.out.2.2.2 (by simp)
  have hwX : Chg [] w X := HK.out.1.trans hc0
  have hws := hwX.size
  have hl0 := lt_of_block x0
  have hl1 := lt_of_block x1
  have hl2 := lt_of_block x2
  have HX := Lib.hid (And.intro x0 (And.intro x1 (And.intro x2 (And.intro hX6 hwX))))
  have hst := small_any t w.heap.size 0 X ⟨_, range_all x0, (HH.out.1.kept hwX (by simp)).weak (fun b hb _ => by omega)⟩ hl0
  have HS1 := Lib.hid hst
  clear hXe hWX hX6 hc0 x0 x1 x2 hwX hst HC0 HK
  by_cases h1 : t.nodes ≤ 2000
  · have b1 : decide (t.nodes ≤ 2000) = true := by simpa using h1
    refine HS1.out.mono ?_
    rintro e X1 ⟨rfl, hX1⟩
    rw [b1]
    have x1 := hX1.at HX.out.2.1 (by simp)
    have hl1' := lt_of_block x1
    have hs1 := hX1.size
    have hss := small_any sub (w.heap.size + 1) 5 X1 ⟨_, range_of_block (cs := (#[.int .i8 3, .int .i64 id, .int .i64 par, .int .i64 pl, .string tx, .int .i64 (Tr.id sub), .int .i64 (Tr.kind sub), .string (Tr.text sub), .slice As (Tr.kids sub).length cs]).toList) x1 5 4, (HH.out.2.kept (HX.out.2.2.2.2.trans hX1) (by simp)).weak (fun b hb _ => by omega)⟩ hl1'
    have HS2 := Lib.hid (And.intro hss hX1)
    clear hss hX1 x1
    by_cases h2 : sub.nodes ≤ 2000
    · have b2 : decide (sub.nodes ≤ 2000) = true := by simpa using h2
      go_wp2_with fail
      refine HS2.out.1.mono ?_
      rintro e X2 ⟨rfl, hX2⟩
      rw [b2]
      have hc2 := HS2.out.2.trans hX2
      have y1 := hc2.at HX.out.2.1 (by simp)
      have y6 := hc2.at HX.out.2.2.2.1 (by simp)
      have q0 : X2.cell? ⟨w.heap.size + 1, 0, none⟩ = some (.int .i8 3) := by simp [World.cell?, y1]
      have q3 : X2.cell? ⟨W0.heap.size, 3, none⟩ = some (.func (.func 104) #[] #[]) := by simp [World.cell?, y6]
      have HX2 := Lib.hid hc2
      clear hX2 hc2 y1 y6
      have y0 := HX2.out.at HX.out.1 (by simp)
      have how := own_any t w.heap.size 0 X2 ⟨_, range_all y0, (HH.out.1.kept (HX.out.2.2.2.2.trans HX2.out) (by simp)).weak (fun b hb _ => trivial)⟩ (by omega)
      have HO := Lib.hid how
      clear how y0
      go_wp2_with (go_at_call 57; refine HO.out.mono ?_; rintro e Y ⟨AY, cY, rfl, hTY, hCY⟩; have HY := Lib.hid (And.intro hTY hCY); clear hTY hCY
                   obtain ⟨Z, hZe⟩ : ∃ Z, Z = Y.alloc (.cells #[.int .i64 (Tr.id t), .int .i64 (Tr.kind t), .string (Tr.text t), .slice AY (Tr.kids t).length cY] 24) := ⟨_, rfl⟩
                   have hYZ : Chg [] Y Z := by rw [hZe]; exact (Chg.refl _ _).alloc _
                   have hZb : Z.heap[Y.heap.size]? = some (.cells #[.int .i64 (Tr.id t), .int .i64 (Tr.kind t), .string (Tr.text t), .slice AY (Tr.kids t).length cY] 24 (0, 0)) := by rw [hZe]; exact heap_new _ _ rfl
                   have hZs : Z.heap.size = Y.heap.size + 1 := by rw [hZe]; simp
                   have hXZ := HX2.out.trans (HY.out.2.trans hYZ)
                   have z1 := hXZ.at HX.out.2.1 (by simp)
                   have z6 := hXZ.at HX.out.2.2.2.1 (by simp)
                   have q0' : (Y.alloc (.cells #[.int .i64 (Tr.id t), .int .i64 (Tr.kind t), .string (Tr.text t), .slice AY (Tr.kids t).length cY] 24)).cell? ⟨w.heap.size + 1, 0, none⟩ = some (.int .i8 3) := by rw [← hZe]; simp [World.cell?, z1]
                   have q3' : (Y.alloc (.cells #[.int .i64 (Tr.id t), .int .i64 (Tr.kind t), .string (Tr.text t), .slice AY (Tr.kids t).length cY] 24)).cell? ⟨W0.heap.size, 3, none⟩ = some (.func (.func 104) #[] #[]) := by rw [← hZe]; simp [World.cell?, z6]
                   have HZ := Lib.hid (And.intro hYZ (And.intro hZb (And.intro hXZ (And.intro z1 (And.intro hZs hZe)))))
                   clear hYZ hZb hXZ z1 z6 hZs hZe)
      rw [← HZ.out.2.2.2.2.2]
      clear q0' q3' q0 q3
      have hX2s := HX2.out.size
      have hYs := HY.out.2.size
      have hZs := HZ.out.2.2.2.2.1
      have hM : MutAt Z Y.heap.size 0 t (fun b => X2.heap.size ≤ b ∧ b < Y.heap.size) := ⟨⟨_, range_all HZ.out.2.1, HY.out.1.kept HZ.out.1 (by simp)⟩, (by intro h; omega), ⟨_, _, HZ.out.2.1⟩, fun y hy => by omega⟩
      have hmv := move_any t ⟨3, id, par, pl, tx, sub⟩ Y.heap.size 0 (w.heap.size + 1) _ As cs Z hM HZ.out.2.2.2.1 (by omega) (by intro h; omega) (by omega)
      have hres := HZ.out.2.2.1.at HX.out.2.2.1 (by simp)
      unfold DoPost at hmv
      have hap : applyMove t id par pl sub = moveT t id par pl := by unfold applyMove; rw [if_pos ⟨h1, h2⟩]
      cases hr : moveT t id par pl with
      | error n =>
        have hn0 := moveT_ne hr
        have e0 : (n == 0) = false := by simpa using hn0
        have e0' : (n != 0) = true := by simpa using hn0
        simp only [hr] at hmv
        have HV := Lib.hid (And.intro hmv (And.intro hres (hap.trans hr)))
        clear hmv hres hap hr hn0 hM
        refine HV.out.1.mono ?_
        rintro e U ⟨rfl, hfr⟩
        have hU2 := hfr.at HV.out.2.1 (by omega) (by intro h; omega)
        obtain ⟨r0, r1, r2, r3⟩ := blk4 hU2
        have f0 := blkF hU2 0
        have f1 := blkF hU2 1
        have f2 := blkF hU2 2
        have f3 := blkF hU2 3
        have HU := Lib.hid (And.intro hfr hU2)
        clear hfr hU2
        go_wp2
        refine bodyPost_ret (v := .tuple #[.agg #[.int .i64 0, .int .i64 0, .string ⟨#[]⟩, .slice none 0 0], .int .i64 n]) (results_row_tmp rfl _ _ (w.heap.size + 1 + 1) _ _ _ _ _ rfl rfl (set4 HU.out.2) Try.underlying24 rfl szNode) rfl ?_
        unfold ApplyPost
        rw [HV.out.2.2]
        refine ⟨rfl, ?_⟩
        exact (HU.out.1.chg (HX.out.2.2.2.2.trans HZ.out.2.2.1) (by omega) (fun b hb => by omega)).andThen (chg4 _ _ _ _ _ _) (by simp; omega)
      | ok t' =>
        simp only [hr] at hmv
        have HV := Lib.hid (And.intro hmv (And.intro hres (hap.trans hr)))
        clear hmv hres hap hr hM
        refine HV.out.1.mono ?_
        rintro e U ⟨rfl, hfr, Fn, hMU, hFn⟩
        have hU2 := hfr.at HV.out.2.1 (by omega) (by intro h; omega)
        obtain ⟨AU, cU, hrU, htU, hKU⟩ := hMU.open
        obtain ⟨r0, r1, r2, r3⟩ := blk4 hU2
        have f0 := blkF hU2 0
        have f1 := blkF hU2 1
        have f2 := blkF hU2 2
        have f3 := blkF hU2 3
        have HU := Lib.hid (And.intro hfr (And.intro hU2 (And.intro hrU (And.intro htU (And.intro hKU (And.intro hFn hMU.lt))))))
        clear hfr hU2 hrU htU hKU hFn hMU
        go_wp2_with (first
          | (refine wpList_load_mid rfl 24 (.tmp 7) rfl Y.heap.size 0 rfl _ _ HU.out.2.2.1 Try.underlying24 rfl szNode ?_)
          | fail)
        refine bodyPost_ret (v := .tuple #[.agg #[.int .i64 (Tr.id t'), .int .i64 (Tr.kind t'), .string (Tr.text t'), .slice AU (Tr.kids t').length cU], .int .i64 0]) (results_row_tmp rfl _ _ (w.heap.size + 1 + 1) _ _ _ _ _ rfl rfl (set4 HU.out.2.1) Try.underlying24 rfl szNode) rfl ?_
        unfold ApplyPost
        rw [HV.out.2.2]
        have hC4 := chg4 U (w.heap.size + 1 + 1) (.int .i64 t'.id) (.int .i64 t'.kind) (.string t'.text) (.slice AU t'.kids.length cU)
        refine ⟨AU, cU, rfl, ?_, (HU.out.1.chg (HX.out.2.2.2.2.trans HZ.out.2.2.1) (by omega) (fun b hb => by omega)).andThen hC4 (by simp; omega)⟩
        have hV := HU.out.2.2.2.2.1.close t' HU.out.2.2.2.1
        have hFn := HU.out.2.2.2.2.2.1
        have hlt := HU.out.2.2.2.2.2.2
        have hb : ∀ y, Fn y → w.heap.size + 1 + 1 < y := fun y hy => by
          rcases hFn y hy with h | h <;> omega
        exact (hV.kept hC4 (fun y hy => by have := hb y hy; simp; omega)).weak (fun y hy => ⟨by have := hb y hy; omega, Nat.lt_of_lt_of_le (hlt y hy) hC4.size⟩)
    · have b2 : decide (sub.nodes ≤ 2000) = false := by simpa using h2
      have hap : applyMove t id par pl sub = .error 2 := by unfold applyMove; rw [if_neg (fun h => h2 h.2)]
      have HA := Lib.hid hap
      clear hap
      go_wp2_with fail
      refine HS2.out.1.mono ?_
      rintro e X2 ⟨rfl, hX2⟩
      rw [b2]
      have hc2 := HS2.out.2.trans hX2
      have y2 := hc2.at HX.out.2.2.1 (by simp)
      obtain ⟨r0, r1, r2, r3⟩ := blk4 y2
      have f0 := blkF y2 0
      have f1 := blkF y2 1
      have f2 := blkF y2 2
      have f3 := blkF y2 3
      have HX2 := Lib.hid (And.intro hc2 y2)
      clear hX2 hc2 y2
      go_wp2
      refine bodyPost_ret (v := .tuple #[.agg #[.int .i64 0, .int .i64 0, .string ⟨#[]⟩, .slice none 0 0], .int .i64 2]) (results_row_tmp rfl _ _ (w.heap.size + 1 + 1) _ _ _ _ _ rfl rfl (set4 HX2.out.2) Try.underlying24 rfl szNode) rfl ?_
      unfold ApplyPost
      rw [HA.out]
      exact ⟨rfl, (HX.out.2.2.2.2.trans HX2.out.1).andThen (chg4 _ _ _ _ _ _) (by simp; omega)⟩
  · have b1 : decide (t.nodes ≤ 2000) = false := by simpa using h1
    have hap : applyMove t id par pl sub = .error 2 := by unfold applyMove; rw [if_neg (fun h => h1 h.1)]
    have HA := Lib.hid hap
    clear hap
    refine HS1.out.mono ?_
    rintro e X2 ⟨rfl, hX2⟩
    rw [b1]
    have y2 := hX2.at HX.out.2.2.1 (by simp)
    obtain ⟨r0, r1, r2, r3⟩ := blk4 y2
    have f0 := blkF y2 0
    have f1 := blkF y2 1
    have f2 := blkF y2 2
    have f3 := blkF y2 3
    have HX2 := Lib.hid (And.intro hX2 y2)
    clear hX2 y2
    go_wp2
    refine bodyPost_ret (v := .tuple #[.agg #[.int .i64 0, .int .i64 0, .string ⟨#[]⟩, .slice none 0 0], .int .i64 2]) (results_row_tmp rfl _ _ (w.heap.size + 1 + 1) _ _ _ _ _ rfl rfl (set4 HX2.out.2) Try.underlying24 rfl szNode) rfl ?_
    unfold ApplyPost
    rw [HA.out]
    exact ⟨rfl, (HX.out.2.2.2.2.trans HX2.out.1).andThen (chg4 _ _ _ _ _ _) (by simp; omega)⟩
end Go.Proofs.Ytofjocjljbkjgaa
