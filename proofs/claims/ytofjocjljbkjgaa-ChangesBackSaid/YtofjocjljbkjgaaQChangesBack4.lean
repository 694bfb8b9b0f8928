/- Parts of the proof of the law ChangesBack, number 4 of 6: laws over memory, contracts of functions, walks. No condition. -/
import Derived.Maps.RangeWalk
import Derived.Deep.CutRange
import Derived.Laws.EntriesVeiled
import Derived.Test.YtofjocjljbkjgaaQChangesBack3
set_option linter.unusedVariables false
set_option linter.unusedSimpArgs false
namespace Go.Proofs.Ytofjocjljbkjgaa
open Go.RowKit
def GBox (g : Gr) (Ag : Option Addr) (cg bg : Nat) (W : World) : Prop := W.heap[bg]? = some (.cells #[.slice Ag g.kinds.length cg, .int .i64 g.root] 43 (0, 0)) ∧ GrC W Ag cg g.kinds
set_option maxHeartbeats 4000000 in
set_option maxRecDepth 100000 in
theorem apply1_any (g : Gr) (j : GJ) (hj : j.Of g) (Ag : Option Addr) (cg bg : Nat) (x : Tr) (A : Option Addr) (c : Nat) (s : Stp) (As : Option Addr) (cs : Nat) (W : World) (hG : GBox g Ag cg bg W) (hT : TrC (fun b => b < W.heap.size) W x [.int .i64 (Tr.id x), .int .i64 (Tr.kind x), .string (Tr.text x), .slice A (Tr.kids x).length c]) (hS : StpC (fun b => b < W.heap.size) W s (#[.int .i8 (Stp.op s), .int .i64 (Stp.id s), .int .i64 (Stp.par s), .int .i64 (Stp.place s), .string (Stp.text s), .int .i64 (Stp.sub s).id, .int .i64 (Stp.sub s).kind, .string (Stp.sub s).text, .slice As (Stp.sub s).kids.length cs] : Array Value).toList) :
    Calls Try.prog 69 #[.agg #[.int .i64 (Tr.id x), .int .i64 (Tr.kind x), .string (Tr.text x), .slice A (Tr.kids x).length c], .agg #[.int .i8 (Stp.op s), .int .i64 (Stp.id s), .int .i64 (Stp.par s), .int .i64 (Stp.place s), .string (Stp.text s), .int .i64 (Stp.sub s).id, .int .i64 (Stp.sub s).kind, .string (Stp.sub s).text, .slice As (Stp.sub s).kids.length cs], .pointer (some ⟨bg, 0, none⟩)] W (ApplyPost (doJ j x s) W) := by
  obtain ⟨V, hV⟩ : ∃ V, V = ((W.alloc (.cells #[.int .i64 (Tr.id x), .int .i64 (Tr.kind x), .string (Tr.text x), .slice A (Tr.kids x).length c] 24)).alloc (.cells #[.int .i8 (Stp.op s), .int .i64 (Stp.id s), .int .i64 (Stp.par s), .int .i64 (Stp.place s), .string (Stp.text s), .int .i64 (Stp.sub s).id, .int .i64 (Stp.sub s).kind, .string (Stp.sub s).text, .slice As (Stp.sub s).kids.length cs] 27)).alloc (.cells #[.int .i64 0, .int .i64 0, .string ⟨#[]⟩, .slice none 0 0] 24) := ⟨_, rfl⟩
  have hc : Chg [] W V := by rw [hV]; exact (by with_reducible repeat (first | exact Chg.refl _ _ | apply Chg.alloc | apply Chg.drew | apply Chg.drewN | (refine Chg.setCell ?_ _ _ (by simp))))
  have b0 : V.heap[W.heap.size]? = some (.cells #[.int .i64 (Tr.id x), .int .i64 (Tr.kind x), .string (Tr.text x), .slice A (Tr.kids x).length c] 24 (0, 0)) := by rw [hV]; exact heap_old (heap_old (heap_new _ _ rfl) _) _
  have b1 : V.heap[W.heap.size + 1]? = some (.cells #[.int .i8 (Stp.op s), .int .i64 (Stp.id s), .int .i64 (Stp.par s), .int .i64 (Stp.place s), .string (Stp.text s), .int .i64 (Stp.sub s).id, .int .i64 (Stp.sub s).kind, .string (Stp.sub s).text, .slice As (Stp.sub s).kids.length cs] 27 (0, 0)) := by rw [hV]; exact heap_old (heap_new _ _ (by simp)) _
  have b2 : V.heap[W.heap.size + 1 + 1]? = some (.cells #[.int .i64 0, .int .i64 0, .string ⟨#[]⟩, .slice none 0 0] 24 (0, 0)) := by rw [hV]; exact heap_new _ _ (by simp)
  obtain ⟨g0, g1⟩ := cell2 (hc.at hG.1 (by simp))
  obtain ⟨p0, p1, p2, p3⟩ := blk4 b0
  obtain ⟨q0, q1, q2, q3, q4, q5, q6, q7, q8⟩ := cells9 b1
  have hdo := do_any g j hj Ag cg x s A c (#[.int .i8 (Stp.op s), .int .i64 (Stp.id s), .int .i64 (Stp.par s), .int .i64 (Stp.place s), .string (Stp.text s), .int .i64 (Stp.sub s).id, .int .i64 (Stp.sub s).kind, .string (Stp.sub s).text, .slice As (Stp.sub s).kids.length cs] : Array Value).toList V (hG.2.kept hc) (hT.next hc) (hS.next hc)
  have HV := Lib.hid (And.intro hV (And.intro hc (And.intro b2 hdo)))
  rw [hV] at g0 g1 p0 p1 p2 p3 q0 q1 q2 q3 q4 q5 q6 q7 q8
  clear hV hc b0 b1 b2 hdo hG hT hS hj
  go_enter Try.func69, Try.ntmps69
  go_wp2_with fail
  rw [← HV.out.1]
  clear g0 g1 p0 p1 p2 p3 q0 q1 q2 q3 q4 q5 q6 q7 q8
  have hdo := HV.out.2.2.2
  unfold ApplyPost at hdo
  cases hr : doJ j x s with
  | error n =>
    simp only [hr] at hdo
    have HR := Lib.hid (And.intro hdo hr)
    clear hdo hr
    refine HR.out.1.mono ?_
    rintro e X ⟨rfl, hX⟩
    have x2 := hX.at HV.out.2.2.1 (by simp)
    obtain ⟨r0, r1, r2, r3⟩ := blk4 x2
    have f0 := blkF x2 0
    have f1 := blkF x2 1
    have f2 := blkF x2 2
    have f3 := blkF x2 3
    have HX := Lib.hid (And.intro hX x2)
    clear hX x2
    go_wp2_with (skip; fail)
    refine bodyPost_ret (v := .tuple #[.agg #[.int .i64 0, .int .i64 0, .string ⟨#[]⟩, .slice none 0 0], .int .i64 n]) (results_row_tmp rfl _ _ (W.heap.size + 1 + 1) _ _ _ _ _ rfl rfl (set4 HX.out.2) Try.underlying24 rfl szNode) rfl ?_
    unfold ApplyPost
    rw [HR.out.2]
    exact ⟨rfl, (HV.out.2.1.trans HX.out.1).andThen (chg4 _ _ _ _ _ _) (by simp; omega)⟩
  | ok y =>
    simp only [hr] at hdo
    have HR := Lib.hid (And.intro hdo hr)
    clear hdo hr
    refine HR.out.1.mono ?_
    rintro e X ⟨Ay, cy, rfl, hTy, hX⟩
    have x2 := hX.at HV.out.2.2.1 (by simp)
    obtain ⟨r0, r1, r2, r3⟩ := blk4 x2
    have f0 := blkF x2 0
    have f1 := blkF x2 1
    have f2 := blkF x2 2
    have f3 := blkF x2 3
    have hl2 := lt_of_block HV.out.2.2.1
    have HX := Lib.hid (And.intro hX (And.intro x2 hTy))
    clear hX x2 hTy
    go_wp2_with (skip; fail)
    refine bodyPost_ret (v := .tuple #[.agg #[.int .i64 (Tr.id y), .int .i64 (Tr.kind y), .string (Tr.text y), .slice Ay (Tr.kids y).length cy], .int .i64 0]) (results_row_tmp rfl _ _ (W.heap.size + 1 + 1) _ _ _ _ _ rfl rfl (set4 HX.out.2.1) Try.underlying24 rfl szNode) rfl ?_
    have hc4 := chg4 X (W.heap.size + 1 + 1) (.int .i64 y.id) (.int .i64 y.kind) (.string y.text) (.slice Ay y.kids.length cy)
    have hs4 := hc4.size
    unfold ApplyPost
    rw [HR.out.2]
    exact ⟨Ay, cy, rfl, (HX.out.2.2.kept hc4 (fun b hb => by simp; omega)).weak (fun b hb => ⟨by omega, by omega⟩), (HV.out.2.1.trans HX.out.1).andThen hc4 (by simp; omega)⟩
def applyL (j : GJ) (t : Tr) (l : List Stp) : Tr × Nat × Int :=
  if checkB l then (if (foldF (doJ j) t l 0).2.2 = 0 then foldF (doJ j) t l 0 else (t, (foldF (doJ j) t l 0).2.1, (foldF (doJ j) t l 0).2.2)) else (t, 0, 3)
def ApplyL (r : Tr × Nat × Int) (w : World) (e : Ending) (w' : World) : Prop :=
  ∃ A c, e = .returned (.tuple #[.agg #[.int .i64 (Tr.id r.1), .int .i64 (Tr.kind r.1), .string (Tr.text r.1), .slice A (Tr.kids r.1).length c], .int .i64 r.2.1, .int .i64 r.2.2]) ∧ TrC (fun b => b < w'.heap.size) w' r.1 [.int .i64 (Tr.id r.1), .int .i64 (Tr.kind r.1), .string (Tr.text r.1), .slice A (Tr.kids r.1).length c] ∧ Chg [] w w'
set_option maxHeartbeats 4000000 in
set_option maxRecDepth 100000 in
theorem capply_any (g : Gr) (j : GJ) (hj : j.Of g) (Ag : Option Addr) (cg : Nat) (t : Tr) (A : Option Addr) (c : Nat) (ss : List Stp) (B : Option Addr) (d : Nat) (w : World) (hG : GrC w Ag cg g.kinds) (hT : TrC (fun b => b < w.heap.size) w t [.int .i64 (Tr.id t), .int .i64 (Tr.kind t), .string (Tr.text t), .slice A (Tr.kids t).length c]) (hS : StpsC (fun b => b < w.heap.size) w B ss) (hl : ss.length ≤ 9223372036854775807) (hn : t.nodes ≤ 100000) :
    Calls Try.prog 31 #[.agg #[.slice Ag g.kinds.length cg, .int .i64 g.root], .agg #[.int .i64 (Tr.id t), .int .i64 (Tr.kind t), .string (Tr.text t), .slice A (Tr.kids t).length c], .slice B ss.length d] w (ApplyL (applyL j t ss) w) := by
  obtain ⟨W, hW⟩ : ∃ W, W = ((w.alloc (.cells #[.slice Ag g.kinds.length cg, .int .i64 g.root] 43)).alloc (.cells #[.int .i64 (Tr.id t), .int .i64 (Tr.kind t), .string (Tr.text t), .slice A (Tr.kids t).length c] 24)).alloc (.cells #[.int .i64 0, .int .i64 0, .string ⟨#[]⟩, .slice none 0 0] 24) := ⟨_, rfl⟩
  have hcW : Chg [] w W := by rw [hW]; exact (by with_reducible repeat (first | exact Chg.refl _ _ | apply Chg.alloc | apply Chg.drew | apply Chg.drewN | (refine Chg.setCell ?_ _ _ (by simp))))
  have b0 : W.heap[w.heap.size]? = some (.cells #[.slice Ag g.kinds.length cg, .int .i64 g.root] 43 (0, 0)) := by rw [hW]; exact heap_old (heap_old (heap_new _ _ rfl) _) _
  have b1 : W.heap[w.heap.size + 1]? = some (.cells #[.int .i64 (Tr.id t), .int .i64 (Tr.kind t), .string (Tr.text t), .slice A (Tr.kids t).length c] 24 (0, 0)) := by rw [hW]; exact heap_old (heap_new _ _ (by simp)) _
  have b2 : W.heap[w.heap.size + 1 + 1]? = some (.cells #[.int .i64 0, .int .i64 0, .string ⟨#[]⟩, .slice none 0 0] 24 (0, 0)) := by rw [hW]; exact heap_new _ _ (by simp)
  have hck := check_any ss B d W (hS.next hcW) hl
  have HW := Lib.hid (And.intro hW (And.intro hcW (And.intro b0 (And.intro b1 (And.intro b2 (And.intro hck (And.intro hG (And.intro hT (And.intro hS (And.intro hj hn))))))))))
  clear hW hcW b0 b1 b2 hck hG hT hS hj hn
  go_enter Try.func31, Try.ntmps31
  go_wp2_with fail
  rw [← HW.out.1]
  refine HW.out.2.2.2.2.2.1.mono ?_
  rintro e X ⟨rfl, rfl⟩
  have hown := cown_any t A c W ((HW.out.2.2.2.2.2.2.2.1.kept HW.out.2.1 (by simp)).weak (fun _ _ _ => trivial)) HW.out.2.2.2.2.2.2.2.2.2.2
  have HO := Lib.hid hown
  obtain ⟨p0, p1, p2, p3⟩ := blk4 HW.out.2.2.2.1
  clear hown
  by_cases hch : checkB ss = true
  · have he : checkE ss = 0 := by unfold checkE; rw [hch]; rfl
    rw [he]
    have HA := Lib.hid (show applyL j t ss = if (foldF (doJ j) t ss 0).2.2 = 0 then foldF (doJ j) t ss 0 else (t, (foldF (doJ j) t ss 0).2.1, (foldF (doJ j) t ss 0).2.2) by unfold applyL; rw [hch]; rfl)
    clear hch he
    go_wp2_with fail
    refine HO.out.mono ?_
    rintro e X ⟨A1, c1, rfl, hT1, hX⟩
    have hwX := HW.out.2.1.trans hX
    have hf := fold_any 69 #[.pointer (some ⟨w.heap.size, 0, none⟩)] (enters_of Try.func69 (by kernel_rfl) rfl) (doJ j) [] (fun _ _ => True) (fun b => W.heap.size ≤ b ∧ b < X.heap.size) (fun _ _ V => Chg [] X V) ss B d t A1 c1 X hl (by simp) ((HW.out.2.2.2.2.2.2.2.2.1.next hwX).weak (fun b hb _ => ⟨hb, by simp⟩)) (fun b hb => hb.2) (fun _ _ _ _ _ _ => trivial) (fun _ _ => trivial) hT1.toC
      (fun i x V V' h hc => h.andThen hc (by simp)) (Chg.refl _ _)
      (fun i x A c s As cs V hcV hsV hJV hs hTx hSx => (apply1_any g j HW.out.2.2.2.2.2.2.2.2.2.1 Ag cg w.heap.size x A c s As cs V ⟨(hX.trans hJV).at HW.out.2.2.1 (by simp), HW.out.2.2.2.2.2.2.1.kept (hwX.trans hJV)⟩ (hTx.weak (fun b hb _ => hb.1)) (hSx.weak (fun b hb _ => Nat.lt_of_lt_of_le hb.1 hcV.size))).mono fun e V' he => by
        unfold ApplyPost at he
        unfold FoldOne
        cases hr : doJ j x s with
        | error n =>
          rw [hr] at he
          obtain ⟨rfl, hc⟩ := he
          exact ⟨_, rfl, doJ_ne hr, hc, ⟨⟨0, 0, ⟨#[]⟩, []⟩, none, 0, rfl⟩, hJV.trans hc⟩
        | ok y =>
          rw [hr] at he
          obtain ⟨Ay, cy, rfl, hTy, hc⟩ := he
          exact ⟨_, rfl, Kp.of_chg hc (by simp), ⟨Ay, cy, rfl, hTy.toC.weak (fun b hb _ => ⟨hb.1, hb.2, trivial⟩)⟩, hJV.trans hc⟩)
    have x1 := hX.at HW.out.2.2.2.1 (by simp)
    have x2 := hX.at HW.out.2.2.2.2.1 (by simp)
    have HX := Lib.hid (And.intro hwX (And.intro hf (And.intro x1 x2)))
    clear hX hT1 hf x1 x2 p0 p1 p2 p3 hwX
    go_wp2_with fail
    refine HX.out.2.1.mono ?_
    rintro e Y ⟨Af, cf, rfl, hTf, hXY, hcY⟩
    obtain ⟨r, hr⟩ : ∃ r, r = foldF (doJ j) t ss 0 := ⟨_, rfl⟩
    rw [← hr] at hTf ⊢
    obtain ⟨xf, nf, ef⟩ := r
    have y1 := hXY.at HX.out.2.2.1 (by simp)
    have y2 := hXY.at HX.out.2.2.2 (by simp)
    obtain ⟨r0, r1, r2, r3⟩ := blk4 y2
    have f0 := blkF y2 0
    have f1 := blkF y2 1
    have f2 := blkF y2 2
    have f3 := blkF y2 3
    have hc4 := chg4 Y (w.heap.size + 1 + 1) (.int .i64 xf.id) (.int .i64 xf.kind) (.string xf.text) (.slice Af xf.kids.length cf)
    have z1 := hc4.at y1 (by simp)
    obtain ⟨p0, p1, p2, p3⟩ := blk4 z1
    have z2 := set4 (v0 := .int .i64 xf.id) (v1 := .int .i64 xf.kind) (v2 := .string xf.text) (v3 := .slice Af xf.kids.length cf) y2
    obtain ⟨s0, s1, s2, s3⟩ := blk4 z2
    have g0 := blkF z2 0
    have g1 := blkF z2 1
    have g2 := blkF z2 2
    have g3 := blkF z2 3
    have hls : w.heap.size + 1 + 1 < W.heap.size := lt_of_block HW.out.2.2.2.2.1
    have HY := Lib.hid (And.intro (HX.out.1.trans hXY) (And.intro hTf (And.intro hr (And.intro hc4 (And.intro z1 z2)))))
    clear hXY hcY hTf hr y1 y2 hc4 z1 z2
    by_cases hz : ef = 0
    · subst hz
      have HE := Lib.hid (show applyL j t ss = (xf, nf, 0) by rw [HA.out, ← HY.out.2.2.1]; simp)
      go_wp2_with (skip; fail)
      refine bodyPost_ret (v := .tuple #[.agg #[.int .i64 (Tr.id xf), .int .i64 (Tr.kind xf), .string (Tr.text xf), .slice Af (Tr.kids xf).length cf], .int .i64 nf, .int .i64 0]) (results_row_tmp2 rfl _ _ (w.heap.size + 1 + 1) _ _ _ _ _ _ rfl rfl rfl (set4 HY.out.2.2.2.2.2) Try.underlying24 rfl szNode) rfl ?_
      rw [HE.out]
      have h5 := HY.out.2.2.2.1.trans (chg4 _ (w.heap.size + 1 + 1) (.int .i64 xf.id) (.int .i64 xf.kind) (.string xf.text) (.slice Af xf.kids.length cf))
      have hs5 := h5.size
      have hXl := lt_of_block HX.out.2.2.2
      exact ⟨Af, cf, rfl, (HY.out.2.1.kept h5 (fun b hb => by simp; omega)).weak (fun b hb _ => by omega), HY.out.1.andThen h5 (by simp; omega)⟩
    · have e0 : (ef == 0) = false := by simpa using hz
      have e0' : (ef != 0) = true := by simpa using hz
      have HE := Lib.hid (show applyL j t ss = (t, nf, ef) by rw [HA.out, ← HY.out.2.2.1]; simp [hz])
      clear hz
      obtain ⟨Z, hZ⟩ : ∃ Z, Z = (((Y.setCell ⟨w.heap.size + 1 + 1, 0, none⟩ (.int .i64 xf.id)).setCell ⟨w.heap.size + 1 + 1, 1, none⟩ (.int .i64 xf.kind)).setCell ⟨w.heap.size + 1 + 1, 2, none⟩ (.string xf.text)).setCell ⟨w.heap.size + 1 + 1, 3, none⟩ (.slice Af xf.kids.length cf) := ⟨_, rfl⟩
      have hYZ := HY.out.2.2.2.1
      have hz2 := HY.out.2.2.2.2.2
      rw [← hZ] at hYZ hz2
      have hwZ : Chg [] w Z := HY.out.1.andThen hYZ (by simp; omega)
      have hown := cown_any t A c Z ((HW.out.2.2.2.2.2.2.2.1.kept hwZ (by simp)).weak (fun _ _ _ => trivial)) HW.out.2.2.2.2.2.2.2.2.2.2
      have HZ := Lib.hid (And.intro hZ (And.intro hwZ (And.intro hown hz2)))
      clear hYZ hz2 hZ hwZ hown
      go_wp2_with fail
      rw [← HZ.out.1]
      clear p0 p1 p2 p3 s0 s1 s2 s3 g0 g1 g2 g3 r0 r1 r2 r3 f0 f1 f2 f3
      refine HZ.out.2.2.1.mono ?_
      rintro e V ⟨A2, c2, rfl, hT2, hV⟩
      have v2 := hV.at HZ.out.2.2.2 (by simp)
      obtain ⟨r0, r1, r2, r3⟩ := blk4 v2
      have f0 := blkF v2 0
      have f1 := blkF v2 1
      have f2 := blkF v2 2
      have f3 := blkF v2 3
      have hl3 := lt_of_block HZ.out.2.2.2
      have HV := Lib.hid (And.intro hV (And.intro v2 hT2))
      clear hV v2 hT2
      go_wp2_with (skip; fail)
      refine bodyPost_ret (v := .tuple #[.agg #[.int .i64 (Tr.id t), .int .i64 (Tr.kind t), .string (Tr.text t), .slice A2 (Tr.kids t).length c2], .int .i64 nf, .int .i64 ef]) (results_row_tmp2 rfl _ _ (w.heap.size + 1 + 1) _ _ _ _ _ _ rfl rfl rfl (set4 HV.out.2.1) Try.underlying24 rfl szNode) rfl ?_
      have hc4 := chg4 V (w.heap.size + 1 + 1) (.int .i64 t.id) (.int .i64 t.kind) (.string t.text) (.slice A2 t.kids.length c2)
      have hs4 := hc4.size
      rw [HE.out]
      exact ⟨A2, c2, rfl, (HV.out.2.2.toC.kept hc4 (fun b hb => by simp; omega)).weak (fun b hb _ => by omega), (HZ.out.2.1.trans HV.out.1).andThen hc4 (by simp; omega)⟩
  · have he : checkE ss = 3 := by unfold checkE; rw [if_neg hch]
    rw [he]
    have HA := Lib.hid (show applyL j t ss = (t, 0, 3) by unfold applyL; rw [if_neg hch])
    clear hch he
    go_wp2_with fail
    refine HO.out.mono ?_
    rintro e X ⟨A1, c1, rfl, hT1, hX⟩
    have x2 := hX.at HW.out.2.2.2.2.1 (by simp)
    obtain ⟨r0, r1, r2, r3⟩ := blk4 x2
    have f0 := blkF x2 0
    have f1 := blkF x2 1
    have f2 := blkF x2 2
    have f3 := blkF x2 3
    have hl2 := lt_of_block HW.out.2.2.2.2.1
    have HX := Lib.hid (And.intro hX (And.intro x2 hT1))
    clear hX x2 hT1
    go_wp2_with (skip; fail)
    refine bodyPost_ret (v := .tuple #[.agg #[.int .i64 (Tr.id t), .int .i64 (Tr.kind t), .string (Tr.text t), .slice A1 (Tr.kids t).length c1], .int .i64 0, .int .i64 3]) (results_row_tmp2 rfl _ _ (w.heap.size + 1 + 1) _ _ _ _ _ _ rfl rfl rfl (set4 HX.out.2.1) Try.underlying24 rfl szNode) rfl ?_
    have hc4 := chg4 X (w.heap.size + 1 + 1) (.int .i64 t.id) (.int .i64 t.kind) (.string t.text) (.slice A1 t.kids.length c1)
    have hs4 := hc4.size
    rw [HA.out]
    exact ⟨A1, c1, rfl, (HX.out.2.2.toC.kept hc4 (fun b hb => by simp; omega)).weak (fun b hb _ => by omega), (HW.out.2.1.trans HX.out.1).andThen hc4 (by simp; omega)⟩
end Go.Proofs.Ytofjocjljbkjgaa

namespace Go.Proofs.Ytofjocjljbkjgaa
open Go.RowKit
def Tr.subT (id : Int) (t : Tr) : Option Tr := match t.path id with
  | some p => Tr.at? p t
  | none => none
theorem subT_root {id : Int} {t : Tr} (h : t.id = id) : t.subT id = some t := by
  unfold Tr.subT; rw [Tr.path_eq, if_pos h]; rfl
theorem subT_some {id : Int} {t : Tr} (h : id ∈ t.ids) : ∃ x, t.subT id = some x ∧ x.id = id := by
  obtain ⟨p, hp⟩ := path_some h
  obtain ⟨x, h1, h2⟩ := Tr.path_at id t p hp
  exact ⟨x, by unfold Tr.subT; rw [hp]; exact h1, h2⟩
theorem subT_none {id : Int} {t : Tr} (h : id ∉ t.ids) : t.subT id = none := by
  unfold Tr.subT; rw [path_none h]
theorem subT_kid {id : Int} {t : Tr} (h0 : t.id ≠ id) {k : Nat} (hk : k < t.kids.length) (h1 : ∀ j (hj : j < k), id ∉ (t.kids[j]'(by omega)).ids) (h2 : id ∈ (t.kids[k]).ids) : t.subT id = (t.kids[k]).subT id := by
  obtain ⟨p, hp⟩ := path_some h2
  unfold Tr.subT
  rw [Tr.path_eq, if_neg h0, pathL_step id t.kids k 0 hk (fun j hj => path_none (h1 j hj)), hp]
  simp only [Tr.at?, Nat.zero_add, List.getElem?_eq_getElem hk]
theorem ids_out {id : Int} {t : Tr} (h0 : t.id ≠ id) (h1 : ∀ j (hj : j < t.kids.length), id ∉ (t.kids[j]).ids) : id ∉ t.ids := by
  rw [Tr.ids_eq]
  intro h
  rcases List.mem_cons.1 h with h | h
  · exact h0 h.symm
  · have : ∀ ks : List Tr, (∀ k ∈ ks, id ∉ k.ids) → id ∉ idsL ks := by
      intro ks
      induction ks with
      | nil => intro _; simp [idsL]
      | cons k ks ih => intro h; rw [idsL, List.mem_append]; rintro (h2 | h2); exact h k (by simp) h2; exact ih (fun x hx => h x (by simp [hx])) h2
    exact this t.kids (fun k hk => by obtain ⟨j, hj, rfl⟩ := List.getElem_of_mem hk; exact h1 j hj) h
end Go.Proofs.Ytofjocjljbkjgaa

namespace Go.Proofs.Ytofjocjljbkjgaa
open Go.RowKit
theorem at_append : ∀ (p q : List Nat) (t : Tr), Tr.at? (p ++ q) t = match Tr.at? p t with | some r => Tr.at? q r | none => none
  | [], q, t => rfl
  | i :: p, q, t => by
    simp only [List.cons_append, Tr.at?]
    cases t.kids[i]? with
    | none => rfl
    | some k => exact at_append p q k
theorem at_upd : ∀ (p : List Nat) (t r x : Tr), Tr.at? p t = some r → Tr.at? p (Tr.upd p t x) = some x
  | [], t, r, x, _ => rfl
  | i :: p, t, r, x, h => by
    simp only [Tr.at?] at h
    cases hk : t.kids[i]? with
    | none => rw [hk] at h; cases h
    | some k =>
      rw [hk] at h
      simp only [Tr.upd, hk, Tr.at?]
      rw [List.getElem?_set_self (List.getElem?_eq_some_iff.1 hk).1]
      exact at_upd p k r x h
theorem upd_upd : ∀ (p : List Nat) (t r x y : Tr), Tr.at? p t = some r → Tr.upd p (Tr.upd p t x) y = Tr.upd p t y
  | [], t, r, x, y, _ => rfl
  | i :: p, t, r, x, y, h => by
    simp only [Tr.at?] at h
    cases hk : t.kids[i]? with
    | none => rw [hk] at h; cases h
    | some k =>
      rw [hk] at h
      simp only [Tr.upd, hk]
      rw [List.getElem?_set_self (List.getElem?_eq_some_iff.1 hk).1]
      simp only [List.set_set, upd_upd p k r x y h]
theorem upd_self : ∀ (p : List Nat) (t r : Tr), Tr.at? p t = some r → Tr.upd p t r = t
  | [], t, r, h => by simp only [Tr.at?, Option.some.injEq] at h; subst h; rfl
  | i :: p, t, r, h => by
    simp only [Tr.at?] at h
    cases hk : t.kids[i]? with
    | none => rw [hk] at h; cases h
    | some k =>
      rw [hk] at h
      simp only [Tr.upd, hk, upd_self p k r h]
      have he := (List.getElem?_eq_some_iff.1 hk).2
      have hi := (List.getElem?_eq_some_iff.1 hk).1
      rw [← he, List.set_getElem_self]
      exact Tr.eta t
theorem upd_ids {p : List Nat} {t r : Tr} (h : Tr.at? p t = some r) : ∃ l1 l2, t.ids = l1 ++ r.ids ++ l2 ∧ ∀ x, (Tr.upd p t x).ids = l1 ++ x.ids ++ l2 := by
  obtain ⟨l1, l2, h1, h2⟩ := upd_labs p t r h
  refine ⟨l1.map (·.1), l2.map (·.1), ?_, fun x => ?_⟩
  · rw [← Tr.labs_ids, h1, List.map_append, List.map_append, Tr.labs_ids]
  · rw [← Tr.labs_ids, h2, List.map_append, List.map_append, Tr.labs_ids]
theorem kid_ids {ks : List Tr} {i : Nat} (hi : i < ks.length) : idsL ks = idsL (ks.take i) ++ (ks[i]).ids ++ idsL (ks.drop (i + 1)) := by
  have h : ks = ks.take i ++ ks[i] :: ks.drop (i + 1) := by rw [← List.drop_eq_getElem_cons hi, List.take_append_drop]
  rw [congrArg idsL h, idsL_append]
  simp [idsL]
theorem kid_apart {ks : List Tr} (hn : (idsL ks).Nodup) {i j : Nat} (hi : i < ks.length) (hj : j < i) {x : Int} (hx : x ∈ (ks[i]).ids) : x ∉ (ks[j]'(by omega)).ids := by
  rw [kid_ids hi, List.append_assoc, List.nodup_append] at hn
  intro h
  refine hn.2.2 x ?_ x (List.mem_append_left _ hx) rfl
  refine mem_idsL (k := ks[j]'(by omega)) ?_ h
  rw [List.mem_iff_getElem]
  exact ⟨j, by simp; omega, by simp⟩
theorem root_apart {t : Tr} (hn : t.ids.Nodup) {x : Int} (hx : x ∈ idsL t.kids) : t.id ≠ x := by
  rw [Tr.ids_eq, List.nodup_cons] at hn
  intro e
  exact hn.1 (by rw [e]; exact hx)
theorem path_comp {id : Int} : ∀ (p : List Nat) (t r : Tr) (q : List Nat), Tr.at? p t = some r → t.ids.Nodup → r.path id = some q → t.path id = some (p ++ q)
  | [], t, r, q, h, _, hq => by simp only [Tr.at?, Option.some.injEq] at h; subst h; exact hq
  | i :: p, t, r, q, h, hn, hq => by
    simp only [Tr.at?] at h
    cases hk : t.kids[i]? with
    | none => rw [hk] at h; cases h
    | some k =>
      rw [hk] at h
      have hi := (List.getElem?_eq_some_iff.1 hk).1
      have he := (List.getElem?_eq_some_iff.1 hk).2
      have hnk : (idsL t.kids).Nodup := by have := hn; rw [Tr.ids_eq, List.nodup_cons] at this; exact this.2
      have hkn : k.ids.Nodup := by rw [kid_ids hi, List.nodup_append, List.nodup_append] at hnk; rw [← he]; exact hnk.1.2.1
      have ih := path_comp p k r q h hkn hq
      have hid : id ∈ k.ids := (Tr.path_iff id k).1 (by rw [ih]; rfl)
      rw [← he] at hid ih
      rw [Tr.path_eq, if_neg (root_apart hn (mem_idsL (List.getElem_mem hi) hid)), pathL_step id t.kids i 0 hi (fun j hj => path_none (kid_apart hnk hi hj hid)), ih]
      simp
end Go.Proofs.Ytofjocjljbkjgaa

namespace Go.Proofs.Ytofjocjljbkjgaa
open Go.RowKit
def Kd.Small (k : Kd) : Prop := k.name.size ≤ 200 ∧ k.slots.length ≤ 20 ∧ ∀ (j : Nat) (s : Sl), k.slots[j]? = some s → s.kinds.length ≤ 40
def Gr.Small (g : Gr) : Prop := g.kinds.length ≤ 40 ∧ ∀ (i : Nat) (k : Kd), g.kinds[i]? = some k → k.Small
set_option maxHeartbeats 16000000 in
set_option maxRecDepth 100000 in
theorem great5_any (g : Gr) (A : Option Addr) (c : Nat) (w : World) (hG : GrC w A c g.kinds) :
    Calls Try.prog 21 #[.agg #[.slice A g.kinds.length c, .int .i64 g.root]] w (BoolIs (¬ g.Small) w) := by
  obtain ⟨W1, hW1⟩ : ∃ W1, W1 = w.alloc (.cells #[.slice A g.kinds.length c, .int .i64 g.root] 43) := ⟨_, rfl⟩
  have hch : Chg [] w W1 := by rw [hW1]; exact (by with_reducible repeat (first | exact Chg.refl _ _ | apply Chg.alloc | apply Chg.drew | apply Chg.drewN | (refine Chg.setCell ?_ _ _ (by simp))))
  have hg1 : W1.heap[w.heap.size]? = some (.cells #[.slice A g.kinds.length c, .int .i64 g.root] 43 (0, 0)) := by rw [hW1]; exact heap_new _ _ rfl
  have hgl : g.kinds.length ≤ 9223372036854775807 := by have := hG.cap; have := hG.big; omega
  have HC := Lib.hid (And.intro hch (And.intro hg1 (And.intro hW1 (hG.kept hch))))
  obtain ⟨a0, a1⟩ := cell2 hg1
  rw [hW1] at a0 a1
  clear hG hch hg1 hW1
  go_enter Try.func21, Try.ntmps21
  by_cases h40 : 40 < g.kinds.length
  · have d1 : decide (40 < (g.kinds.length : Int)) = true := decide_eq_true (by omega)
    have d1' : decide (40 < g.kinds.length) = true := decide_eq_true h40
    have HN := Lib.hid (show ¬ g.Small from fun h => by have := h.1; omega)
    go_wp2_with (skip; fail)
    go_ret
    exact ⟨true, rfl, by simp [HN.out], (by with_reducible repeat (first | exact Chg.refl _ _ | apply Chg.alloc | apply Chg.drew | apply Chg.drewN | (refine Chg.setCell ?_ _ _ (by simp))))⟩
  have d1 : decide (40 < (g.kinds.length : Int)) = false := decide_eq_false (by omega)
  have d1' : decide (40 < g.kinds.length) = false := decide_eq_false h40
  go_wp2_with (skip; fail)
  clear d1 d1' a0 a1
  rw [← HC.out.2.2.1]
  go_loopw [12] (fun iv wr => ∃ i : Nat, i ≤ g.kinds.length ∧ iv = .int .i64 i ∧ Hid (Chg [] W1 wr ∧ ∀ (j : Nat) (k : Kd), j < i → g.kinds[j]? = some k → k.Small)) (fun iv _ => g.kinds.length - (intOf iv).toNat)
  case atStart => exact ⟨0, Nat.zero_le _, rfl, Lib.hid ⟨Chg.refl _ _, fun j k hj => by omega⟩⟩
  case round =>
    obtain ⟨i, hi, rfl, H⟩ := hrel
    obtain ⟨V, hV⟩ : ∃ V, V = wr := ⟨_, rfl⟩
    subst hV
    obtain ⟨a0, a1⟩ := cell2 (H.out.1.at HC.out.2.1 (by simp))
    by_cases hlt : i < g.kinds.length
    · obtain ⟨gk, ok, hA, _, hat⟩ := (HC.out.2.2.2.kept H.out.1).row.at hlt
      obtain ⟨k, hk⟩ : ∃ k, k = g.kinds[i] := ⟨_, rfl⟩
      rw [← hk] at hat
      have hke : g.kinds[i]? = some k := by rw [hk]; exact List.getElem?_eq_getElem hlt
      obtain ⟨As, cs, hr, hnm, hsl, hrs⟩ := hat.range
      subst hA
      have e0 : V.cell? ⟨gk, ok + i * 3, none⟩ = some (.string k.name) := hr 0 _ rfl
      have e2 : V.cell? ⟨gk, ok + i * 3 + 2, none⟩ = some (.slice As k.slots.length cs) := hr 2 _ rfl
      have HK := Lib.hid (And.intro hke (And.intro hrs (And.intro e2 HC.out.2.1)))
      clear hk hat hke hr hrs
      by_cases h200 : 200 < k.name.size
      · have d1 : decide (200 < (k.name.size : Int)) = true := decide_eq_true (by omega)
        have d1' : decide (200 < k.name.size) = true := decide_eq_true h200
        have HN := Lib.hid (show ¬ g.Small from fun h => by have := (h.2 i k HK.out.1).1; omega)
        go_wp2_with (skip; fail)
        go_ret
        exact ⟨true, rfl, by simp [HN.out], HC.out.1.trans H.out.1⟩
      have d1 : decide (200 < (k.name.size : Int)) = false := decide_eq_false (by omega)
      have d1' : decide (200 < k.name.size) = false := decide_eq_false h200
      by_cases h20 : 20 < k.slots.length
      · have d2 : decide (20 < (k.slots.length : Int)) = true := decide_eq_true (by omega)
        have d2' : decide (20 < k.slots.length) = true := decide_eq_true h20
        have HN := Lib.hid (show ¬ g.Small from fun h => by have := (h.2 i k HK.out.1).2.1; omega)
        go_wp2_with (skip; fail)
        go_ret
        exact ⟨true, rfl, by simp [HN.out], HC.out.1.trans H.out.1⟩
      have d2 : decide (20 < (k.slots.length : Int)) = false := decide_eq_false (by omega)
      have d2' : decide (20 < k.slots.length) = false := decide_eq_false h20
      go_wp2_with (skip; fail)
      clear d1 d1' d2 d2' e0
      go_loopw [40] (fun iv wq => ∃ j : Nat, j ≤ k.slots.length ∧ iv = .int .i64 j ∧ Hid (Chg [] V wq ∧ ∀ (l : Nat) (s : Sl), l < j → k.slots[l]? = some s → s.kinds.length ≤ 40)) (fun iv _ => k.slots.length - (intOf iv).toNat)
      case atStart => exact ⟨0, Nat.zero_le _, rfl, Lib.hid ⟨Chg.refl _ _, fun j k hj => by omega⟩⟩
      case round =>
        obtain ⟨j, hj, rfl, HJ⟩ := hrel
        obtain ⟨U, hU⟩ : ∃ U, U = wr := ⟨_, rfl⟩
        subst hU
        clear a0 a1 e2
        obtain ⟨a0, a1⟩ := cell2 (HJ.out.1.at (H.out.1.at HC.out.2.1 (by simp)) (by simp))
        have e2 := HJ.out.1.cell HK.out.2.2.1 (by simp)
        by_cases hjl : j < k.slots.length
        · obtain ⟨gs, os, hA, _, hat⟩ := (HK.out.2.1.imp HJ.out.1.size fun _ _ _ => SlAt.kept HJ.out.1).at hjl
          obtain ⟨s, hs⟩ : ∃ s, s = k.slots[j] := ⟨_, rfl⟩
          rw [← hs] at hat
          have hse : k.slots[j]? = some s := by rw [hs]; exact List.getElem?_eq_getElem hjl
          obtain ⟨Ai, ci, hri, hci, hcm, hrw⟩ := hat.range
          subst hA
          have f0 : U.cell? ⟨gs, os + j * 3, none⟩ = some (.slice Ai s.kinds.length ci) := hri 0 _ rfl
          have HS := Lib.hid hse
          have hsl2 : s.kinds.length ≤ 9223372036854775807 := by omega
          clear hs hat hri hrw hse
          by_cases h3 : 40 < s.kinds.length
          · have d1 : decide (40 < (s.kinds.length : Int)) = true := decide_eq_true (by omega)
            have d1' : decide (40 < s.kinds.length) = true := decide_eq_true h3
            have HN := Lib.hid (show ¬ g.Small from fun h => by have := (h.2 i k HK.out.1).2.2 j s HS.out; omega)
            go_wp2_with (skip; fail)
            go_ret
            exact ⟨true, rfl, by simp [HN.out], (HC.out.1.trans H.out.1).trans HJ.out.1⟩
          have d1 : decide (40 < (s.kinds.length : Int)) = false := decide_eq_false (by omega)
          have d1' : decide (40 < s.kinds.length) = false := decide_eq_false h3
          go_wp2_with (skip; fail)
          go_roundw
          case rel =>
            refine ⟨j + 1, by omega, by go_num, Lib.hid ⟨HJ.out.1, fun l s' hl hs' => ?_⟩⟩
            by_cases e : l = j
            · subst e; rw [HS.out] at hs'; cases hs'; omega
            · exact HJ.out.2 l s' (by omega) hs'
          case measure => simp [intOf]; omega
        · obtain rfl : j = k.slots.length := by omega
          have HKS : Hid (k.Small) := Lib.hid ⟨by omega, by omega, fun l s hs => HJ.out.2 l s (List.getElem?_eq_some_iff.1 hs).1 hs⟩
          go_wp2_with (skip; fail)
          go_wp2_with (skip; fail)
          go_roundw
          case rel =>
            refine ⟨i + 1, by omega, by go_num, Lib.hid ⟨H.out.1.trans HJ.out.1, fun l k' hl hk' => ?_⟩⟩
            by_cases e : l = i
            · subst e; rw [HK.out.1] at hk'; cases hk'; exact HKS.out
            · exact H.out.2 l k' (by omega) hk'
          case measure => simp [intOf]; omega
    · obtain rfl : i = g.kinds.length := by omega
      have HN := Lib.hid (show g.Small from ⟨by omega, fun j k hk => H.out.2 j k (List.getElem?_eq_some_iff.1 hk).1 hk⟩)
      go_wp2_with (skip; fail)
      go_wp2_with (skip; fail)
      go_ret
      exact ⟨false, rfl, by simp [HN.out], HC.out.1.trans H.out.1⟩
end Go.Proofs.Ytofjocjljbkjgaa
namespace Go.Proofs.Ytofjocjljbkjgaa
open Go.RowKit
def nodesS (l : List Stp) : Nat := (l.map fun s => s.sub.nodes).sum
theorem nodesS_take (l : List Stp) (k : Nat) (h : k < l.length) : nodesS (l.take (k + 1)) = nodesS (l.take k) + (l[k]).sub.nodes := by
  unfold nodesS; rw [take_snoc' l k h, List.map_append, List.sum_append]; simp
def SmallS (ss : List Stp) : Prop := ss.length ≤ 70 ∧ (∀ s ∈ ss, s.sub.nodes ≤ 250) ∧ nodesS ss ≤ 300
def GreatSt (ss : List Stp) (w : World) (e : Ending) (w' : World) : Prop := ∃ r : Bool, e = .returned (.bool r) ∧ (r = false → SmallS ss) ∧ Chg [] w w'
set_option maxHeartbeats 4000000 in
set_option maxRecDepth 100000 in
theorem greatS_any (ss : List Stp) (B : Option Addr) (d : Nat) (w : World) (hS : StpsC (fun b => b < w.heap.size) w B ss) (hl : ss.length ≤ 9223372036854775807) : Calls Try.prog 22 #[.slice B ss.length d] w (GreatSt ss w) := by
  have HH := Lib.hid hS
  clear hS
  go_enter Try.func22, Try.ntmps22
  by_cases h70 : 70 < ss.length
  · have d1 : decide (70 < (ss.length : Int)) = true := decide_eq_true (by omega)
    have d1' : decide (70 < ss.length) = true := decide_eq_true h70
    clear h70
    go_wp2_with (skip; fail)
    go_ret
    exact ⟨true, rfl, (fun h => by cases h), Chg.refl _ _⟩
  have d1 : decide (70 < (ss.length : Int)) = false := decide_eq_false (by omega)
  have d1' : decide (70 < ss.length) = false := decide_eq_false h70
  go_wp2_with (skip; fail)
  clear d1 d1'
  go_loopw [3, 4, 11] (fun nv tv iv wr => ∃ (k : Nat) (T : Int), k ≤ ss.length ∧ iv = .int .i64 k ∧ tv = .int .i64 T ∧ 0 ≤ T ∧ T ≤ 20000 ∧ nv = .int .i64 (nodesS (ss.take k)) ∧ nodesS (ss.take k) ≤ 300 ∧ Hid (Chg [] w wr ∧ ∀ s ∈ ss.take k, s.sub.nodes ≤ 250)) (fun _ _ iv _ => ss.length - (intOf iv).toNat)
  case atStart => exact ⟨0, 0, Nat.zero_le _, rfl, rfl, by omega, by omega, rfl, by simp [nodesS], Lib.hid ⟨Chg.refl _ _, by simp⟩⟩
  case round =>
    obtain ⟨k, T, hk, rfl, rfl, hT0, hT1, rfl, hN, H⟩ := hrel
    obtain ⟨V, hV⟩ : ∃ V, V = wr := ⟨_, rfl⟩
    subst hV
    by_cases hlt : k < ss.length
    · obtain ⟨g, o, A, c, rfl, _, hr, hTr, htx, _⟩ := (HH.out.next H.out.1).at hlt
      obtain ⟨s, hs⟩ : ∃ s, s = ss[k] := ⟨_, rfl⟩
      rw [← hs] at hr hTr htx
      have hsum := nodesS_take ss k hlt
      rw [← hs] at hsum
      have hmem : ss.take (k + 1) = ss.take k ++ [s] := by rw [take_snoc' ss k hlt, hs]
      have r4 : V.cell? ⟨g, o + k * 9 + 4, none⟩ = some (.string s.text) := hr 4 _ rfl
      have hr5 : V.rangeAt g (o + k * 9 + 5) [.int .i64 (Tr.id (Stp.sub s)), .int .i64 (Tr.kind (Stp.sub s)), .string (Tr.text (Stp.sub s)), .slice A (Tr.kids (Stp.sub s)).length c] := range_drop hr 5
      have hgr := great_t s.sub A c V hTr
      have HC := Lib.hid (And.intro hgr (And.intro hr5 (And.intro hTr (And.intro hsum hmem))))
      clear hgr hr5 hTr hsum hmem hr hs
      go_wp2_with (first
        | (refine wpList_load_mid rfl 24 (.tmp 17) rfl g (o + k * 9 + 5) (by kernel_rfl) _ _ HC.out.2.1 Try.underlying24 rfl (by kernel_rfl) ?_
           ((try dsimp only); (try simp only [Act.put, List.setIfInBounds_toArray, List.set_cons_zero, List.set_cons_succ])))
        | (skip; fail))
      refine HC.out.1.mono ?_
      rintro e X ⟨r, rfl, hr, hX⟩
      have HX := Lib.hid (And.intro hr hX)
      have r4 := hX.cell r4 (by simp)
      clear hr hX
      cases r with
      | true =>
        go_wp2_with (skip; fail)
        go_ret
        exact ⟨true, rfl, (fun h => by cases h), H.out.1.trans HX.out.2⟩
      | false =>
        have HN := Lib.hid (HX.out.1 rfl)
        by_cases hb : 20000 - T < (s.text.size : Int)
        · have hbb : decide (20000 - T < (s.text.size : Int)) = true := by simpa using hb
          go_wp2_with (skip; fail)
          go_ret
          exact ⟨true, rfl, (fun h => by cases h), H.out.1.trans HX.out.2⟩
        · have hbb : decide (20000 - T < (s.text.size : Int)) = false := by simpa using hb
          have hwk := walkT_any X.heap.size 251 (by omega) s.sub A c X (HC.out.2.2.1.next HX.out.2) (Nat.le_refl _)
          have hr5 := HX.out.2.range HC.out.2.1 (by simp)
          have HW := Lib.hid (And.intro hwk hr5)
          clear hwk hr5
          go_wp2_with (first
            | (refine wpList_load_mid rfl 24 (.tmp 43) rfl g (o + k * 9 + 5) (by kernel_rfl) _ _ HW.out.2 Try.underlying24 rfl (by kernel_rfl) ?_
               ((try dsimp only); (try simp only [Act.put, List.setIfInBounds_toArray, List.set_cons_zero, List.set_cons_succ])))
            | (skip; fail))
          refine HW.out.1.mono ?_
          rintro e Y ⟨v, rfl, hR, hY⟩
          obtain ⟨A', c', rfl⟩ := hR.slice
          have hlen : ((s.sub.walk 1).take 251).length = s.sub.nodes := by rw [List.length_take, Tr.walk_length]; have := HN.out; omega
          rw [hlen]
          have hn := HN.out
          have HY := Lib.hid hY
          have hsum := HC.out.2.2.2.1
          clear hR hlen hY
          by_cases h3 : 300 < nodesS (ss.take k) + s.sub.nodes
          · have d1 : decide (300 < (nodesS (ss.take k) : Int) + (s.sub.nodes : Int)) = true := decide_eq_true (by omega)
            have d2 : decide (300 < nodesS (ss.take k) + s.sub.nodes) = true := decide_eq_true h3
            clear hsum
            go_wp2_with (skip; fail)
            go_ret
            exact ⟨true, rfl, (fun h => by cases h), (H.out.1.trans HX.out.2).trans HY.out⟩
          · have d1 : decide (300 < (nodesS (ss.take k) : Int) + (s.sub.nodes : Int)) = false := decide_eq_false (by omega)
            have d2 : decide (300 < nodesS (ss.take k) + s.sub.nodes) = false := decide_eq_false h3
            clear hsum
            go_wp2_with (skip; fail)
            go_roundw
            case rel =>
              refine ⟨k + 1, T + s.text.size, by omega, by go_num, rfl, by omega, by omega, by rw [HC.out.2.2.2.1]; go_num, by rw [HC.out.2.2.2.1]; omega, Lib.hid ⟨(H.out.1.trans HX.out.2).trans HY.out, fun x hx => ?_⟩⟩
              rw [HC.out.2.2.2.2] at hx
              rcases List.mem_append.1 hx with hx | hx
              · exact H.out.2 x hx
              · simp at hx; subst hx; exact HN.out
            case measure => simp [intOf]; omega
    · obtain rfl : k = ss.length := by omega
      have hall := H.out.2
      rw [List.take_of_length_le (Nat.le_refl _)] at hall hN
      have HA := Lib.hid (show SmallS ss from ⟨by omega, hall, hN⟩)
      clear hall
      go_wp2_with (skip; fail)
      go_ret
      exact ⟨false, rfl, fun _ => HA.out, H.out.1⟩
end Go.Proofs.Ytofjocjljbkjgaa
namespace Go.Proofs.Ytofjocjljbkjgaa
open Go.RowKit
theorem sz0 : (⟨#[]⟩ : ByteArray).size ≤ 9223372036854775807 := by decide
def leafT (i : Int) : Tr := ⟨i, 0, ⟨#[]⟩, []⟩
def smallT : Tr := ⟨1, 0, ⟨#[]⟩, [leafT 2, ⟨3, 0, ⟨#[]⟩, [leafT 4]⟩]⟩
theorem w1 : applyMove smallT 2 3 1 (leafT 0) = .ok ⟨1, 0, ⟨#[]⟩, [⟨3, 0, ⟨#[]⟩, [leafT 4, leafT 2]⟩]⟩ := by rfl
theorem w2 : applyMove smallT 3 4 0 (leafT 0) = .error 91 := by rfl
theorem w3 : applyMove smallT 2 1 1 (leafT 0) = .ok ⟨1, 0, ⟨#[]⟩, [⟨3, 0, ⟨#[]⟩, [leafT 4]⟩, leafT 2]⟩ := by rfl
end Go.Proofs.Ytofjocjljbkjgaa
namespace Go.Proofs.Ytofjocjljbkjgaa
open Go.RowKit
theorem infoStep : (Try.prog.info? 27).map (fun i => (i.zero, i.size, i.bytes)) = some (some (.agg #[.int .i8 0, .int .i64 0, .int .i64 0, .int .i64 0, .string ⟨#[]⟩, .int .i64 0, .int .i64 0, .string ⟨#[]⟩, .slice none 0 0]), 9, 104) := by kernel_rfl
theorem doJ_ok {j : GJ} {t x : Tr} {s : Stp} (h : doJ j t s = .ok x) : j.ok = true ∧ j.fit x = true ∧ applyT t s = .ok x := by
  unfold doJ at h
  split at h
  · cases h
  · rename_i y e
    split at h
    · rename_i h1
      split at h
      · rename_i h2
        injection h with h
        subst h
        exact ⟨h1, h2, e⟩
      · cases h
    · cases h
theorem SubOk.nodup {g : Gr} {t : Tr} (h : SubOk g t) : t.ids.Nodup := by
  rw [← Tr.walk_ids t 1]
  refine List.pairwise_iff_getElem.2 fun i j hi hj hij => ?_
  rw [List.getElem_map, List.getElem_map]
  have hj' : j < (t.walk 1).length := by simpa using hj
  have hi' : i < (t.walk 1).length := by simpa using hi
  exact (h.2 j _ hj' (List.getElem?_eq_getElem hj')).2 i _ hij (List.getElem?_eq_getElem hi')
end Go.Proofs.Ytofjocjljbkjgaa

namespace Go.Proofs.Ytofjocjljbkjgaa
open Go.RowKit
theorem subT_path {id : Int} {t x : Tr} (h : t.subT id = some x) : ∃ p, t.path id = some p ∧ Tr.at? p t = some x ∧ x.id = id := by
  unfold Tr.subT at h
  cases hp : t.path id with
  | none => rw [hp] at h; cases h
  | some p =>
    rw [hp] at h
    simp only [] at h
    obtain ⟨y, h1, h2⟩ := Tr.path_at id t p hp
    rw [h] at h1; cases h1
    exact ⟨p, rfl, h, h2⟩
theorem doJ_fit {j : GJ} {g : Gr} (hj : j.Of g) {t y : Tr} {s : Stp} (h : doJ j t s = .ok y) : y.kind = g.root ∧ SubOk g y := (hj.fit y).1 (doJ_ok h).2.1
end Go.Proofs.Ytofjocjljbkjgaa
namespace Go.Proofs.Ytofjocjljbkjgaa
open Go.RowKit
theorem foldF_err {f : Tr → Stp → Except Int Tr} {t : Tr} {s : Stp} {n : Int} (h : f t s = .error n) (l : List Stp) (i : Nat) : foldF f t (s :: l) i = (t, i, n) := by simp only [foldF, h]
theorem foldF_yes {f : Tr → Stp → Except Int Tr} {t y : Tr} {s : Stp} (h : f t s = .ok y) (l : List Stp) (i : Nat) : foldF f t (s :: l) i = foldF f y l (i + 1) := by simp only [foldF, h]
end Go.Proofs.Ytofjocjljbkjgaa
namespace Go.Proofs.Ytofjocjljbkjgaa
open Go.RowKit
structure Cop (w wr : World) (t : Tr) (A : Option Addr) (c k : Nat) (v : Value) : Prop where
  arg : wr.heap[w.heap.size]? = some (.cells #[.int .i64 (Tr.id t), .int .i64 (Tr.kind t), .string (Tr.text t), .slice A (Tr.kids t).length c] 24 (0, 0))
  res : wr.heap[w.heap.size + 1]? = some (.cells #[.int .i64 0, .int .i64 0, .string ⟨#[]⟩, .slice none 0 0] 24 (0, 0))
  chg : Chg [] w wr
  row : RowV wr (w.heap.size + 2) v (t.kids.take k) (fun g => w.heap.size + 2 ≤ g)
set_option maxHeartbeats 4000000 in
set_option maxRecDepth 100000 in
theorem tcopy_any : ∀ (t : Tr) (A : Option Addr) (c : Nat) (w : World), TrC (fun _ => True) w t [.int .i64 (Tr.id t), .int .i64 (Tr.kind t), .string (Tr.text t), .slice A (Tr.kids t).length c] → t.nodes ≤ 100000 → Calls Try.prog 90 #[.agg #[.int .i64 (Tr.id t), .int .i64 (Tr.kind t), .string (Tr.text t), .slice A (Tr.kids t).length c]] w (NewPost t w) := by
  intro t
  induction t using Tr.ind with
  | h t ih =>
  intro A c w hT hN
  obtain ⟨ip, hi, hz0, hz1, hz2⟩ := info_parts infoNode
  obtain ⟨A', c', hcs, hlc, hcm, htx, hK⟩ := hT.opens
  simp only [List.cons.injEq, Value.slice.injEq, true_and, and_true] at hcs
  obtain ⟨rfl, rfl⟩ := hcs
  have hlen : t.kids.length ≤ 100000 := by have := nodesL_len t.kids; rw [Tr.nodes_eq] at hN; omega
  have HI := Lib.hid (And.intro hi (And.intro hz0 (And.intro hz1 hz2)))
  have HH := Lib.hid (And.intro ih (And.intro hN (And.intro hcm (And.intro hlc (And.intro htx hK)))))
  clear hi hz0 hz1 hz2 hT hK ih hN hcm hlc htx
  go_enter Try.func90, Try.ntmps90
  go_wp2
  refine wp_world (fun W => Cop w W t A c 0 (.slice none 0 0)) ⟨heap_old (heap_new _ _ rfl) _, heap_new _ _ (by simp), (by with_reducible repeat (first | exact Chg.refl _ _ | apply Chg.alloc | apply Chg.drew | apply Chg.drewN | (refine Chg.setCell ?_ _ _ (by simp)))), RowV.nil _ _ _⟩ ?_
  intro W hCop
  have HX := Lib.hid hCop
  clear hCop
  go_loopw [3, 9] (fun vs i wr => ∃ (k : Nat) (v : Value), k ≤ t.kids.length ∧ v = vs ∧ i = .int .i64 k ∧ Hid (Cop w wr t A c k v)) (fun _ i _ => t.kids.length - (intOf i).toNat)
  case atStart => exact ⟨0, _, Nat.zero_le _, rfl, rfl, HX.out⟩
  case round =>
    obtain ⟨k, v, hk, rfl, rfl, H⟩ := hrel
    clear HX
    obtain ⟨Av, cv, rfl⟩ : ∃ Av cv, v = .slice Av k cv := by
      obtain ⟨css, fs, ho, _⟩ := H.out.row
      obtain ⟨Av, cv, e⟩ := own_slice ho
      rw [show (t.kids.take k).length = k from by simp; omega] at e
      exact ⟨Av, cv, e⟩
    by_cases hlt : k < t.kids.length
    · obtain ⟨gk, ok, cs, rfl, _, hr, hat⟩ := HH.out.2.2.2.2.2 k _ (List.getElem?_eq_getElem hlt)
      obtain ⟨Ak, ck, rfl, _⟩ := hat.opens
      have hr' := H.out.chg.range hr (by simp)
      have hkn : (t.kids[k]).nodes ≤ 100000 := by have := nodesL_mem (List.getElem_mem hlt); have h2 := HH.out.2.1; rw [Tr.nodes_eq] at h2; omega
      have hAl : Chg [] wr (wr.alloc (.cells #[.int .i64 (Tr.id (t.kids[k])), .int .i64 (Tr.kind (t.kids[k])), .string (Tr.text (t.kids[k])), .slice Ak (Tr.kids (t.kids[k])).length ck] 24)) := (by with_reducible repeat (first | exact Chg.refl _ _ | apply Chg.alloc | apply Chg.drew | apply Chg.drewN | (refine Chg.setCell ?_ _ _ (by simp))))
      have hcall := HH.out.1 (t.kids[k]) (List.getElem_mem hlt) Ak ck (wr.alloc (.cells #[.int .i64 (Tr.id (t.kids[k])), .int .i64 (Tr.kind (t.kids[k])), .string (Tr.text (t.kids[k])), .slice Ak (Tr.kids (t.kids[k])).length ck] 24)) (hat.kept (H.out.chg.trans hAl) (by simp)) hkn
      have HC := Lib.hid (And.intro hcall (And.intro hr' hAl))
      clear hcall hat hkn hr hr' hAl
      go_wp2_with (first
        | (refine wpList_load_mid rfl 24 (.tmp 11) rfl gk (ok + k * 4) rfl _ _ HC.out.2.1 Try.underlying24 rfl szNode ?_)
        | (go_at_call 90; refine HC.out.1.mono ?_; rintro e X ⟨A1, c1, rfl, hV, hX⟩; have HX := Lib.hid (And.intro hV hX); clear hV hX)
        | (have hwr := lt_of_block H.out.res
           have hXs : wr.heap.size + 1 ≤ X.heap.size := by have := HX.out.2.size; simpa using this
           have hC2 : Chg [] wr X := HC.out.2.2.trans HX.out.2
           have hXa : Chg [] X (X.alloc (.cells #[.int .i64 (Tr.id (t.kids[k])), .int .i64 (Tr.kind (t.kids[k])), .string (Tr.text (t.kids[k])), .slice A1 (Tr.kids (t.kids[k])).length c1] 24)) := (by with_reducible repeat (first | exact Chg.refl _ _ | apply Chg.alloc | apply Chg.drew | apply Chg.drewN | (refine Chg.setCell ?_ _ _ (by simp))))
           obtain ⟨xs, hown, hgrow⟩ := H.out.row.growBox (F := fun g => w.heap.size + 2 ≤ g) hC2 (HX.out.1.weak (fun g hg => ⟨by have := hg.1; simp at this; omega, hg.2⟩)) (fun x hx => by have := H.out.chg.size; have := lt_of_block H.out.res; omega) #[.int .i64 (Tr.id (t.kids[k])), .int .i64 (Tr.kind (t.kids[k])), .string (Tr.text (t.kids[k])), .slice A1 (Tr.kids (t.kids[k])).length c1]
           rw [show (t.kids.take k).length = k from by simp; omega] at hown hgrow
           have HG := Lib.hid (And.intro hgrow (And.intro hC2 hXa))
           clear hgrow hC2 hXa
           refine wpList_append_own_at _ rfl (.tmp 13) (.tmp 16) 22 rfl _ 24 ip _ 4 56 Try.underlying22 HI.out.1 HI.out.2.1 HI.out.2.2.1 HI.out.2.2.2 rfl (by omega) (.slice Av k cv) _ _ rfl hown ⟨X.heap.size, 0, none⟩ 1 1 _ rfl rfl (fun j u hu => by rw [Addr.add_mid]; exact range_all (heap_new X _ rfl) j u hu) (HX.out.1.one) (by unfold maxLen; omega) (by omega) (by simp; omega) ?_
           intro v' X3 hown' hgr _ hat
           have hrow3 := HG.out.1 X3 v' hown' hgr hat
           rw [← take_snoc' _ _ hlt] at hrow3
           obtain ⟨A', c', rfl⟩ := own_slice hown'
           have H3 := Lib.hid (And.intro hrow3 hgr)
           clear hrow3 hgr hat hown')
        | fail)
      go_roundw
      case rel =>
        have hC3 : Chg (Value.slice Av k cv).ownBlock.toList wr X3 := ((HG.out.2.1.trans HG.out.2.2).mono (by simp)).grown H3.out.2 (by intro k hk; rw [hk]; simp)
        have hnb : ∀ b, b ∈ (Value.slice Av k cv).ownBlock.toList → w.heap.size + 2 ≤ b := fun b hb => by have := H.out.row.own b (by simpa using hb); omega
        refine ⟨k + 1, _, by omega, rfl, by go_num, ?_, ?_, ?_, H3.out.1⟩
        · exact hC3.at H.out.arg (fun hm => by have := hnb _ hm; omega)
        · exact hC3.at H.out.res (fun hm => by have := hnb _ hm; omega)
        · exact H.out.chg.andThen hC3 (fun i hi => .inr (by have := hnb i hi; omega))
      case measure => simp [intOf]; omega
    · obtain rfl : k = t.kids.length := by omega
      have hrow := H.out.row
      rw [List.take_of_length_le (Nat.le_refl _)] at hrow
      obtain ⟨A', c', he, hV⟩ := hrow.node t HH.out.2.2.2.2.1
      injection he with hA1 _ hc1
      subst hA1 hc1
      have HV := Lib.hid hV
      clear hrow hV
      obtain ⟨q0, q1, q2, q3⟩ := blk4 H.out.arg
      obtain ⟨r0, r1, r2, r3⟩ := blk4 H.out.res
      have f0 := blkF H.out.res 0
      have f1 := blkF H.out.res 1
      have f2 := blkF H.out.res 2
      have f3 := blkF H.out.res 3
      have g3 := blkF H.out.arg 3
      go_wp2
      have hCs : Chg [w.heap.size] wr (wr.setCell ⟨w.heap.size, 3, none⟩ (.slice Av t.kids.length cv)) := (Chg.refl _ _).setCell _ _ (by simp)
      have hC0 := chg4 (wr.setCell ⟨w.heap.size, 3, none⟩ (.slice Av t.kids.length cv)) (w.heap.size + 1) (.int .i64 t.id) (.int .i64 t.kind) (.string t.text) (.slice Av t.kids.length cv)
      have hsz := H.out.chg.size
      have hlt1 := lt_of_block H.out.res
      have hF : ∀ g, w.heap.size + 2 ≤ g ∨ (Value.slice Av t.kids.length cv).ownBlock = some g → w.heap.size + 2 ≤ g := fun g hg => by
        rcases hg with hg | hg
        · omega
        · have := H.out.row.own g hg; omega
      have hC2 : Chg [w.heap.size, w.heap.size + 1] wr _ := (hCs.mono (by simp)).trans (hC0.mono (by simp))
      refine bodyPost_ret (v := .agg #[.int .i64 (Tr.id t), .int .i64 (Tr.kind t), .string (Tr.text t), .slice Av (Tr.kids t).length cv]) (results_cell_row rfl _ _ (w.heap.size + 1) _ _ _ _ rfl (set4 (hCs.at H.out.res (by simp))) Try.underlying24 rfl szNode) rfl ⟨Av, cv, rfl, ?_, H.out.chg.andThen hC2 (fun i hi => by simp at hi; omega)⟩
      exact ((HV.out.bound.weak (F' := fun g => w.heap.size + 2 ≤ g ∧ g < wr.heap.size) (fun g hg => ⟨hF g hg.1, hg.2⟩)).kept hC2 (fun g hg => by simp; omega)).weak (fun g hg => ⟨by omega, Nat.lt_of_lt_of_le hg.2 hC2.size⟩)
end Go.Proofs.Ytofjocjljbkjgaa
namespace Go.Proofs.Ytofjocjljbkjgaa
open Go.RowKit
attribute [local go_sem] Oper.semAt_some
def RepT (l i : Nat) (x : Tr × Int) (args : Array Value) (W : World) : Prop := ∃ A c base, args = #[.int .i64 x.2, .agg #[.int .i64 (Tr.id x.1), .int .i64 (Tr.kind x.1), .string (Tr.text x.1), .slice A (Tr.kids x.1).length c]] ∧ l < base ∧ TrC (fun b => base ≤ b ∧ b < W.heap.size) W x.1 [.int .i64 (Tr.id x.1), .int .i64 (Tr.kind x.1), .string (Tr.text x.1), .slice A (Tr.kids x.1).length c]
structure DBox (l yb db : Nat) (W : World) : Prop where
  y : W.heap[yb]? = some (.cells #[.func (.yield l) #[] #[]] 123 (0, 0))
  d : W.heap[db]? = some (.cells #[.func (.func 163) #[] #[.pointer (some ⟨yb, 0, none⟩), .pointer (some ⟨db, 0, none⟩)]] 123 (0, 0))
theorem DBox.above {l yb db S : Nat} {W W' : World} (h : DBox l yb db W) (ha : Above S W W') (h1 : S ≤ yb) (h2 : S ≤ db) : DBox l yb db W' := ⟨ha.at h.y h1, ha.at h.d h2⟩
theorem TrC.above {S : Nat} {W W' : World} {base : Nat} {t : Tr} {cs : List Value} (h : TrC (fun b => base ≤ b ∧ b < W.heap.size) W t cs) (ha : Above S W W') (hS : S ≤ base) : TrC (fun b => base ≤ b ∧ b < W'.heap.size) W' t cs :=
  h.move fun g hg hlt => ⟨ha.2 g (by omega) hlt, hg.1, Nat.lt_of_lt_of_le hg.2 ha.1⟩
set_option maxHeartbeats 8000000 in
set_option maxRecDepth 100000 in
theorem down_any (l S yb db base : Nat) (xs : List (Tr × Int)) (J : Nat → World → Prop) (Jx : World → Prop) (hl : l < base) (hSb : S ≤ base) (hy1 : S ≤ yb) (hd1 : S ≤ db)
    (hJ : ∀ i W W', J i W → Quiet S W W' → J i W') (hJx : ∀ W W', Jx W → Quiet S W W' → Jx W')
    (hY : ∀ i x args W1, J i W1 → S ≤ W1.heap.size → xs[i]? = some x → RepT l i x args W1 → YieldAt W0 0 Try.prog l args W1 fun e W' => ((e = .returned (.bool true) ∧ J (i + 1) W') ∨ (e = .returned (.bool false) ∧ Jx W')) ∧ Above S W1 W') :
    ∀ (x : Tr) (A : Option Addr) (c : Nat) (d : Int) (i : Nat) (W : World), J i W → S ≤ W.heap.size → base ≤ W.heap.size → (∀ (q : Nat) z, (x.walk d)[q]? = some z → xs[i + q]? = some z) → DBox l yb db W → TrC (fun b => base ≤ b ∧ b < W.heap.size) W x [.int .i64 (Tr.id x), .int .i64 (Tr.kind x), .string (Tr.text x), .slice A (Tr.kids x).length c] → 0 ≤ d → d + x.nodes ≤ 1000000 →
    Calls Try.prog 163 #[.int .i64 d, .agg #[.int .i64 (Tr.id x), .int .i64 (Tr.kind x), .string (Tr.text x), .slice A (Tr.kids x).length c], .pointer (some ⟨yb, 0, none⟩), .pointer (some ⟨db, 0, none⟩)] W fun e W' => ((e = .returned (.bool true) ∧ J (i + x.nodes) W') ∨ (e = .returned (.bool false) ∧ Jx W')) ∧ Above S W W' := by
  intro x
  induction x using Tr.ind with
  | h x ih =>
  intro A c d i W h0 hS hbase hxs hB hT hd0 hd2
  obtain ⟨A', c', hcs, hlc, hcm, htx, hK⟩ := hT.opens
  simp only [List.cons.injEq, Value.slice.injEq, true_and, and_true] at hcs
  obtain ⟨rfl, rfl⟩ := hcs
  have hwx : xs[i]? = some (x, d) := by have := hxs 0 (x, d) (by rw [x.walk_eq]; rfl); simpa using this
  obtain ⟨W1, hW1⟩ : ∃ W1, W1 = W.alloc (.cells #[.int .i64 (Tr.id x), .int .i64 (Tr.kind x), .string (Tr.text x), .slice A (Tr.kids x).length c] 24) := ⟨_, rfl⟩
  have hc1 : Chg [] W W1 := by rw [hW1]; exact (by with_reducible repeat (first | exact Chg.refl _ _ | apply Chg.alloc | apply Chg.drew | apply Chg.drewN | (refine Chg.setCell ?_ _ _ (by simp))))
  have hb1 : W1.heap[W.heap.size]? = some (.cells #[.int .i64 (Tr.id x), .int .i64 (Tr.kind x), .string (Tr.text x), .slice A (Tr.kids x).length c] 24 (0, 0)) := by rw [hW1]; exact heap_new _ _ rfl
  have hJ1 := hJ i W W1 h0 (.of_chg hc1)
  have ha1 : Above S W W1 := Above.of_chg0 hc1
  have hT1 := hT.above ha1 hSb
  obtain ⟨fn, tmps, assign, body, hy, hR⟩ := hY i _ #[.int .i64 d, .agg #[.int .i64 (Tr.id x), .int .i64 (Tr.kind x), .string (Tr.text x), .slice A (Tr.kids x).length c]] W1 hJ1 (Nat.le_trans hS hc1.size) hwx ⟨A, c, base, rfl, hl, hT1⟩
  have y0 := cellOne ((hB.above ha1 hy1 hd1).y)
  obtain ⟨p0, p1, p2, p3⟩ := blk4 hb1
  rw [hW1] at hy y0 p0 p1 p2 p3
  have HH := Lib.hid (And.intro hR (And.intro ha1 (And.intro hb1 (And.intro hB (And.intro hT1 (And.intro hW1 (And.intro hxs hK)))))))
  have HI := Lib.hid (And.intro ih (And.intro hJ (And.intro hJx hY)))
  have hkl : x.kids.length ≤ 1000000 := by have := x.kids_le; omega
  clear hR ha1 hb1 hB hT1 hW1 hxs hK ih hJ hJx hY hJ1 hwx hc1 h0 hT
  refine callsIn_wide.1 (callsIn_of_wp (n := 0) Try.func163 rfl trivial ?_)
  simp only [Try.ntmps163, List.size_toArray, List.length_cons, List.length_nil, Nat.reduceAdd, Nat.reduceSub, Array.replicate_succ, Array.replicate_zero, List.push_toArray, List.append_toArray, List.nil_append, List.cons_append]
  gi_wp2
  refine ⟨rfl, ?_⟩
  rw [← HH.out.2.2.2.2.2.1]
  refine HH.out.1.mono ?_
  clear hy y0 p0 p1 p2 p3
  rintro e W2 ⟨(⟨rfl, hj⟩ | ⟨rfl, hjx⟩), hab⟩
  · have H2 := Lib.hid (And.intro hj hab)
    obtain ⟨p0, p1, p2, p3⟩ := blk4 (hab.at HH.out.2.2.1 hS)
    clear hj hab
    gi_wp2
    gi_loopw [17] (fun iv wr => ∃ k : Nat, k ≤ x.kids.length ∧ iv = .int .i64 k ∧ Hid (J (i + 1 + nodesL (x.kids.take k)) wr ∧ Above S W wr)) (fun iv _ => x.kids.length - (intOf iv).toNat)
    case atStart => exact ⟨0, Nat.zero_le _, rfl, Lib.hid ⟨by simpa [nodesL] using H2.out.1, HH.out.2.1.trans H2.out.2⟩⟩
    case round =>
      obtain ⟨k, hk, rfl, H⟩ := hrel
      obtain ⟨V, hV⟩ : ∃ V, V = wr := ⟨_, rfl⟩
      subst hV
      clear p0 p1 p2 p3
      by_cases hlt : k < x.kids.length
      · obtain ⟨gk, ok, hA, hokg, cs, hr, hTk⟩ := HH.out.2.2.2.2.2.2.2.at hlt
        subst hA
        obtain ⟨y, hye⟩ : ∃ y, y = x.kids[k] := ⟨_, rfl⟩
        have hym : y ∈ x.kids := by rw [hye]; exact List.getElem_mem hlt
        rw [← hye] at hTk
        obtain ⟨Ak, ck, hcsk, _⟩ := hTk.opens
        subst hcsk
        have hyn : d + 1 + y.nodes ≤ 1000000 := by have h1 := nodesL_mem hym; have h2 := x.nodes_eq; omega
        have hr' : V.rangeAt gk (ok + k * 4) [.int .i64 (Tr.id y), .int .i64 (Tr.kind y), .string (Tr.text y), .slice Ak (Tr.kids y).length ck] := fun j v hv => (World.cell?_of_block (w := W) (H.out.2.2 gk (by omega) hokg.2)).trans (hr j v hv)
        have hcV : Chg [] V (V.alloc (.cells #[.int .i64 (Tr.id y), .int .i64 (Tr.kind y), .string (Tr.text y), .slice Ak (Tr.kids y).length ck] 24)) := (by with_reducible repeat (first | exact Chg.refl _ _ | apply Chg.alloc | apply Chg.drew | apply Chg.drewN | (refine Chg.setCell ?_ _ _ (by simp))))
        have haV : Above S W (V.alloc (.cells #[.int .i64 (Tr.id y), .int .i64 (Tr.kind y), .string (Tr.text y), .slice Ak (Tr.kids y).length ck] 24)) := H.out.2.trans (Above.of_chg0 hcV)
        have hDV := HH.out.2.2.2.1.above H.out.2 hy1 hd1
        have hDV1 := HH.out.2.2.2.1.above haV hy1 hd1
        have d0 := cellOne hDV.d
        have d1 := cellOne hDV1.d
        have hnb : (V.alloc (.cells #[.int .i64 (Tr.id y), .int .i64 (Tr.kind y), .string (Tr.text y), .slice Ak (Tr.kids y).length ck] 24)).heap[V.heap.size]? = some (.cells #[.int .i64 (Tr.id y), .int .i64 (Tr.kind y), .string (Tr.text y), .slice Ak (Tr.kids y).length ck] 24 (0, 0)) := heap_new _ _ rfl
        obtain ⟨v0, v1, v2, v3⟩ := blk4 hnb
        have hxs' : ∀ (q : Nat) z, (y.walk (d + 1))[q]? = some z → xs[i + 1 + nodesL (x.kids.take k) + q]? = some z := fun q z hz => by
          have h := HH.out.2.2.2.2.2.2.1 _ _ (x.walk_at d k q hlt z (by rw [← hye]; exact hz))
          rw [← h]; congr 1; omega
        have hcall := HI.out.1 y hym Ak ck (d + 1) (i + 1 + nodesL (x.kids.take k)) (V.alloc (.cells #[.int .i64 (Tr.id y), .int .i64 (Tr.kind y), .string (Tr.text y), .slice Ak (Tr.kids y).length ck] 24)) (HI.out.2.1 _ _ _ H.out.1 (.of_chg hcV)) (Nat.le_trans hS haV.1) (Nat.le_trans hbase haV.1) hxs' (HH.out.2.2.2.1.above haV hy1 hd1) (hTk.above haV hSb) (by omega) hyn
        have HC := Lib.hid (And.intro hcall (And.intro hr' (And.intro haV hye)))
        clear hcall hr' haV hye hxs' hnb hr hTk hokg hcV hym hDV hDV1
        have q0 : V.cell? ⟨gk, ok + k * 4, none⟩ = some (.int .i64 y.id) := HC.out.2.1 0 _ rfl
        have q1 : V.cell? ⟨gk, ok + k * 4 + 1, none⟩ = some (.int .i64 y.kind) := HC.out.2.1 1 _ rfl
        have q2 : V.cell? ⟨gk, ok + k * 4 + 2, none⟩ = some (.string y.text) := HC.out.2.1 2 _ rfl
        have q3 : V.cell? ⟨gk, ok + k * 4 + 3, none⟩ = some (.slice Ak y.kids.length ck) := HC.out.2.1 3 _ rfl
        gi_wp2
        refine ⟨trivial, rfl, ?_⟩
        gi_at_call 163
        refine (callsIn_wide.2 HC.out.1).mono ?_
        clear q0 q1 q2 q3 v0 v1 v2 v3 d0 d1
        rintro e V2 ⟨(⟨rfl, hj⟩ | ⟨rfl, hjx⟩), hab⟩
        · have H4 := Lib.hid (And.intro hj (HC.out.2.2.1.trans hab))
          clear hj hab
          gi_wp2
          refine ⟨⟨k + 1, by omega, by go_num, Lib.hid ⟨?_, H4.out.2⟩⟩, by simp [intOf]; omega⟩
          have h := H4.out.1
          rw [nodesL_take x.kids k hlt, ← Nat.add_assoc, ← HC.out.2.2.2]
          exact h
        · have H4 := Lib.hid (And.intro hjx (HC.out.2.2.1.trans hab))
          clear hjx hab
          gi_wp2
          go_ret
          exact ⟨.inr ⟨rfl, H4.out.1⟩, H4.out.2⟩
      · obtain rfl : k = x.kids.length := by omega
        gi_wp2
        go_ret
        refine ⟨.inl ⟨rfl, ?_⟩, H.out.2⟩
        have h := H.out.1
        rw [List.take_of_length_le (Nat.le_refl _)] at h
        rw [x.nodes_eq, ← Nat.add_assoc]
        exact h
  · have H2 := Lib.hid (And.intro hjx hab)
    clear hjx hab
    gi_wp2
    go_ret
    exact ⟨.inr ⟨rfl, H2.out.1⟩, HH.out.2.1.trans H2.out.2⟩
structure StV (Wb : World) (B bt : Nat) (t : Tr) (A : Option Addr) (c : Nat) (W : World) : Prop where
  b : W.heap[bt]? = some (.cells #[.int .i64 (Tr.id t), .int .i64 (Tr.kind t), .string (Tr.text t), .slice A (Tr.kids t).length c] 24 (0, 0))
  base : ∀ k, k < B → W.heap[k]? = Wb.heap[k]?
theorem TrC.base {B : Nat} {Wb W : World} {t : Tr} {cs : List Value} (h : TrC (fun b => b < B) Wb t cs) (hb : ∀ k, k < B → W.heap[k]? = Wb.heap[k]?) : TrC (fun b => b < B) W t cs :=
  h.move fun k hk _ => ⟨hb k hk, hk⟩
structure Made (l : Nat) (W W' : World) : Prop where
  box : DBox l W.heap.size (W.heap.size + 1) W'
  chg : Chg [] W W'
set_option maxHeartbeats 8000000 in
set_option maxRecDepth 100000 in
theorem walk1_iter (B : Nat) (Wb : World) (t : Tr) (A : Option Addr) (c bt : Nat) (hT : TrC (fun b => b < B) Wb t [.int .i64 (Tr.id t), .int .i64 (Tr.kind t), .string (Tr.text t), .slice A (Tr.kids t).length c]) (hn : t.nodes ≤ 100000) : IterK Try.prog 162 #[.pointer (some ⟨bt, 0, none⟩)] RepT (t.walk 1) (StV Wb B bt t A c) := by
  intro l S J Jx W hSt hJ hJx hY h0 hl hS
  have hs := hSt 0 W h0
  have HH := Lib.hid (And.intro hSt (And.intro hJ (And.intro hJx (And.intro hY (And.intro h0 (And.intro hl (And.intro hS (And.intro hT hs))))))))
  clear hSt hJ hJx hY h0 hl hS hT hs
  show Calls Try.prog 162 #[.func (.yield l) #[] #[], .pointer (some ⟨bt, 0, none⟩)] W _
  go_enter Try.func162, Try.ntmps162
  go_wp2
  refine wp_world (fun W' => Made l W W') ⟨⟨heap_old (heap_new _ _ rfl) _, heap_new _ _ (by simp)⟩, (by with_reducible repeat (first | exact Chg.refl _ _ | apply Chg.alloc | apply Chg.drew | apply Chg.drewN | (refine Chg.setCell ?_ _ _ (by simp))))⟩ ?_
  intro V hV
  refine wp_region_M (fun V' => V'.cell? ⟨W.heap.size + 1, 0, none⟩ = some (.func (.func 163) #[] #[.pointer (some ⟨W.heap.size, 0, none⟩), .pointer (some ⟨W.heap.size + 1, 0, none⟩)])) (fun k => [2, 3].contains k) (fun k => [3].contains k) (by kernel_rfl) ?_
  obtain ⟨Z, hZ⟩ : ∃ Z, Z = V.drew := ⟨_, rfl⟩
  rw [← hZ]
  have hcZ : Chg [] V Z := by rw [hZ]; exact (Chg.refl _ _).drew
  have hM : Made l W Z := ⟨hV.box.above (S := 0) (Above.of_chg0 hcZ) (by omega) (by omega), hV.chg.trans hcZ⟩
  clear hV hZ hcZ V
  have hS0 := cellOne hM.box.d
  obtain ⟨p0, p1, p2, p3⟩ := blk4 (hM.chg.at HH.out.2.2.2.2.2.2.2.2.b (by simp))
  have hcop := tcopy_any t A c Z ((HH.out.2.2.2.2.2.2.2.1.base (HH.out.1 0 Z (HH.out.2.1 0 W Z HH.out.2.2.2.2.1 (.of_chg hM.chg))).base).weak (fun _ _ _ => trivial)) hn
  have HC := Lib.hid (And.intro hcop hM)
  clear hcop hM
  ((try dsimp only); (try simp only [Act.put, List.setIfInBounds_toArray, List.set_cons_zero, List.set_cons_succ]))
  refine M_semi (i := 0) (v := ?_) rfl (by kernel_rfl) (by kernel_rfl) (by kernel_rfl) (by kernel_rfl) (fun _ _ _ h => h) (by rfl) hS0 ?hy ?_; (case hy => (intro w hS; go_simp; with_reducible rfl)); ((try dsimp only); (try simp only [Act.put, List.setIfInBounds_toArray, List.set_cons_zero, List.set_cons_succ]))
  refine M_take (i := 1) (v := ?_) rfl (by kernel_rfl) (by kernel_rfl) (by kernel_rfl) (by kernel_rfl) (fun _ _ _ h => h) (by rfl) ?hy ?_; (case hy => (go_simp; with_reducible rfl)); ((try dsimp only); (try simp only [Act.put, List.setIfInBounds_toArray, List.set_cons_zero, List.set_cons_succ]))
  refine M_eff (i := 2) rfl (by kernel_rfl) (by rfl) ?_
  go_wp2_with fail
  refine HC.out.1.mono ?_
  rintro e Y ⟨A', c', rfl, hV, hc⟩
  have hS1 := hc.cell hS0 (by simp)
  have hM1 := HC.out.2
  have hsz : W.heap.size + 2 ≤ Z.heap.size := by have := lt_of_block hM1.box.d; omega
  have hYM := hM1.box.above (S := 0) (Above.of_chg0 hc) (by omega) (by omega)
  have hS3 := HH.out.2.2.2.2.2.2.1
  have hl3 := HH.out.2.2.2.2.2.1
  have hdn := down_any l S W.heap.size (W.heap.size + 1) Z.heap.size (t.walk 1) J Jx (by omega) (by omega) hS3 (by omega) HH.out.2.1 HH.out.2.2.1 HH.out.2.2.2.1 t A' c' 1 0 Y (HH.out.2.1 0 W Y HH.out.2.2.2.2.1 (.of_chg (hM1.chg.trans hc))) (by have := hc.size; omega) hc.size (fun q z hz => by rw [Nat.zero_add]; exact hz) hYM (hV.toC) (by omega) (by omega)
  have H4 := Lib.hid (And.intro hdn (And.intro (hM1.chg.trans hc).size hS1))
  clear hV hc hS0 p0 p1 p2 p3 hdn hYM hM1 hsz hS3 hl3
  go_wp2_with fail
  refine ⟨hS1, ?_⟩
  refine M_brk (i := 3) rfl (by kernel_rfl) (by rfl) (by rfl) ?_
  go_wp2_with fail
  go_at_call 163
  refine H4.out.1.mono ?_
  rintro e Y2 ⟨hor, hab⟩
  obtain ⟨v, rfl, h5⟩ : ∃ v : Bool, e = .returned (.bool v) ∧ (J (t.walk 1).length Y2 ∨ Jx Y2) := by
    rcases hor with ⟨rfl, h⟩ | ⟨rfl, h⟩
    · exact ⟨true, rfl, .inl (by rw [Tr.walk_length]; rw [Nat.zero_add] at h; exact h)⟩
    · exact ⟨false, rfl, .inr h⟩
  have H5 := Lib.hid (And.intro h5 (Nat.le_trans H4.out.2.1 hab.1))
  clear hor hab h5 hS1
  go_wp2_with fail
  refine M_done (by kernel_rfl) ?_ _
  go_wp2_with fail
  go_end0
  exact ⟨⟨_, rfl⟩, H5.out.1, H5.out.2⟩
theorem twalk_any (t : Tr) (A : Option Addr) (c : Nat) (w : World) : Calls Try.prog 157 #[.agg #[.int .i64 (Tr.id t), .int .i64 (Tr.kind t), .string (Tr.text t), .slice A (Tr.kids t).length c]] w fun e w' => e = .returned (.func (.func 162) #[] #[.pointer (some ⟨w.heap.size, 0, none⟩)]) ∧ w'.heap[w.heap.size]? = some (.cells #[.int .i64 (Tr.id t), .int .i64 (Tr.kind t), .string (Tr.text t), .slice A (Tr.kids t).length c] 24 (0, 0)) ∧ Chg [] w w' := by
  go_enter Try.func157, Try.ntmps157
  go_wp2
  go_ret
  exact ⟨rfl, heap_new _ _ rfl, (by with_reducible repeat (first | exact Chg.refl _ _ | apply Chg.alloc | apply Chg.drew | apply Chg.drewN | (refine Chg.setCell ?_ _ _ (by simp))))⟩
end Go.Proofs.Ytofjocjljbkjgaa
namespace Go.Proofs.Ytofjocjljbkjgaa
open Go.RowKit
theorem first_kid (id : Int) : ∀ ks : List Tr, (∀ (j : Nat) (hj : j < ks.length), id ∉ (ks[j]).ids) ∨ ∃ (k : Nat) (hk : k < ks.length), id ∈ (ks[k]).ids ∧ ∀ (j : Nat) (hj : j < k), id ∉ (ks[j]'(by omega)).ids
  | [] => .inl fun j hj => by simp at hj
  | x :: ks => by
    by_cases h : id ∈ x.ids
    · exact .inr ⟨0, by simp, h, fun j hj => by omega⟩
    · rcases first_kid id ks with h1 | ⟨k, hk, h1, h2⟩
      · refine .inl fun j hj => ?_
        cases j with
        | zero => exact h
        | succ j => exact h1 j (by simpa using hj)
      · refine .inr ⟨k + 1, by simpa using hk, h1, fun j hj => ?_⟩
        cases j with
        | zero => exact h
        | succ j => exact h2 j (by omega)
def subL (id : Int) : List Tr → Option Tr
  | [] => none
  | k :: ks => match k.subT id with
    | some x => some x
    | none => subL id ks
theorem subL_none (id : Int) : ∀ ks : List Tr, (∀ (j : Nat) (hj : j < ks.length), id ∉ (ks[j]).ids) → subL id ks = none
  | [], _ => rfl
  | k :: ks, h => by
    rw [subL, subT_none (t := k) (h 0 (by simp))]
    exact subL_none id ks (fun j hj => h (j + 1) (by simpa using hj))
theorem subL_some (id : Int) : ∀ (ks : List Tr) (k : Nat) (hk : k < ks.length), id ∈ (ks[k]).ids → (∀ (j : Nat) (hj : j < k), id ∉ (ks[j]'(by omega)).ids) → subL id ks = (ks[k]).subT id
  | x :: ks, 0, _, h, _ => by
    obtain ⟨y, hy, _⟩ := subT_some (t := x) (by simpa using h)
    rw [subL, hy]; simpa using hy.symm
  | x :: ks, k + 1, hk, h, h2 => by
    rw [subL, subT_none (by simpa using h2 0 (by omega))]
    simpa using subL_some id ks k (by simpa using hk) (by simpa using h) (fun j hj => by simpa using h2 (j + 1) (by omega))
theorem subT_eq (id : Int) (t : Tr) : t.subT id = if t.id = id then some t else subL id t.kids := by
  by_cases h : t.id = id
  · rw [if_pos h, subT_root h]
  · rw [if_neg h]
    rcases first_kid id t.kids with h1 | ⟨k, hk, h1, h2⟩
    · rw [subL_none id _ h1, subT_none (ids_out h h1)]
    · rw [subL_some id _ k hk h1 h2, subT_kid h hk h2 h1]
def firstW (id : Int) (l : List (Tr × Int)) : Option Tr := (l.find? (fun y => decide (y.1.id = id))).map (·.1)
theorem firstW_append (id : Int) (a b : List (Tr × Int)) : firstW id (a ++ b) = match firstW id a with | some x => some x | none => firstW id b := by
  unfold firstW
  rw [List.find?_append]
  cases a.find? (fun y => decide (y.1.id = id)) <;> rfl
mutual
theorem Tr.walk_sub (id : Int) : ∀ (t : Tr) (d : Int), firstW id (t.walk d) = t.subT id
  | ⟨i, k, x, ks⟩, d => by
    rw [subT_eq, Tr.walk]
    show firstW id ((⟨i, k, x, ks⟩, d) :: walkL ks (d + 1)) = _
    by_cases h : i = id
    · rw [if_pos h]; unfold firstW; simp [h]
    · rw [if_neg h]
      have := walkL_sub id ks (d + 1)
      unfold firstW at this ⊢
      rw [List.find?_cons, decide_eq_false (p := (⟨i, k, x, ks⟩ : Tr).id = id) h]
      exact this
theorem walkL_sub (id : Int) : ∀ (ks : List Tr) (d : Int), firstW id (walkL ks d) = subL id ks
  | [], _ => rfl
  | k :: ks, d => by
    rw [walkL, firstW_append, Tr.walk_sub id k d, walkL_sub id ks d, subL]
end
theorem firstW_at {id : Int} {l : List (Tr × Int)} {k : Nat} (hk : k < l.length) (h : (l[k]).1.id = id) (h2 : ∀ (j : Nat) (hj : j < k), (l[j]'(by omega)).1.id ≠ id) : firstW id l = some (l[k]).1 := by
  unfold firstW
  rw [(List.find?_eq_some_iff_getElem (p := fun y : Tr × Int => decide (y.1.id = id)) (xs := l) (b := l[k])).2 ⟨by simpa using h, k, hk, rfl, fun j hj => by simpa using h2 j hj⟩]
  rfl
theorem firstW_none {id : Int} {l : List (Tr × Int)} (h : ∀ (j : Nat) (hj : j < l.length), (l[j]).1.id ≠ id) : firstW id l = none := by
  unfold firstW
  rw [List.find?_eq_none.2 (fun y hy => by obtain ⟨j, hj, rfl⟩ := List.getElem_of_mem hy; simpa using h j hj)]
  rfl
def FindR (r : Option Tr) (w : World) (e : Ending) (w' : World) : Prop := match r with
  | none => e = .returned (.tuple #[.agg #[.int .i64 0, .int .i64 0, .string ⟨#[]⟩, .slice none 0 0], .bool false]) ∧ Chg [] w w'
  | some x => ∃ A c, e = .returned (.tuple #[.agg #[.int .i64 (Tr.id x), .int .i64 (Tr.kind x), .string (Tr.text x), .slice A (Tr.kids x).length c], .bool true]) ∧ TrC (fun b => b < w.heap.size) w' x [.int .i64 (Tr.id x), .int .i64 (Tr.kind x), .string (Tr.text x), .slice A (Tr.kids x).length c] ∧ Chg [] w w'
set_option maxHeartbeats 4000000 in
set_option maxRecDepth 100000 in
theorem rfind_any (t : Tr) (A : Option Addr) (c : Nat) (id : Int) (w : World) (hT : TrC (fun b => b < w.heap.size) w t [.int .i64 (Tr.id t), .int .i64 (Tr.kind t), .string (Tr.text t), .slice A (Tr.kids t).length c]) (hn : t.nodes ≤ 2000) : Calls Try.prog 29 #[.agg #[.int .i64 (Tr.id t), .int .i64 (Tr.kind t), .string (Tr.text t), .slice A (Tr.kids t).length c], .int .i64 id] w (FindR (t.subT id) w) := by
  obtain ⟨W, hW⟩ : ∃ W, W = (w.alloc (.cells #[.int .i64 (Tr.id t), .int .i64 (Tr.kind t), .string (Tr.text t), .slice A (Tr.kids t).length c] 24)).alloc (.cells #[.int .i64 0, .int .i64 0, .string ⟨#[]⟩, .slice none 0 0] 24) := ⟨_, rfl⟩
  have hcW : Chg [] w W := by rw [hW]; exact (by with_reducible repeat (first | exact Chg.refl _ _ | apply Chg.alloc | apply Chg.drew | apply Chg.drewN | (refine Chg.setCell ?_ _ _ (by simp))))
  have b0 : W.heap[w.heap.size]? = some (.cells #[.int .i64 (Tr.id t), .int .i64 (Tr.kind t), .string (Tr.text t), .slice A (Tr.kids t).length c] 24 (0, 0)) := by rw [hW]; exact heap_old (heap_new _ _ rfl) _
  have b1 : W.heap[w.heap.size + 1]? = some (.cells #[.int .i64 0, .int .i64 0, .string ⟨#[]⟩, .slice none 0 0] 24 (0, 0)) := by rw [hW]; exact heap_new _ _ (by simp)
  have hwk := walkT_any w.heap.size 2000 (by omega) t A c W (hT.kept hcW (by simp)) hcW.size
  obtain ⟨p0, p1, p2, p3⟩ := blk4 b0
  have HW := Lib.hid (And.intro hW (And.intro hcW (And.intro b1 hwk)))
  rw [hW] at p0 p1 p2 p3
  clear hW hcW b0 b1 hwk hT
  go_enter Try.func29, Try.ntmps29
  go_wp2_with fail
  rw [← HW.out.1]
  clear p0 p1 p2 p3
  refine HW.out.2.2.2.mono ?_
  rintro e X ⟨v, rfl, hR, hX⟩
  obtain ⟨A', c', rfl⟩ := hR.slice
  obtain ⟨l, hl⟩ : ∃ l, l = (t.walk 1).take 2000 := ⟨_, rfl⟩
  rw [← hl] at hR ⊢
  have hlen : l.length ≤ 2000 := by rw [hl, List.length_take]; omega
  have hsub : firstW id l = t.subT id := by rw [hl, List.take_of_length_le (by rw [Tr.walk_length]; exact hn), Tr.walk_sub]
  have x1 := hX.at HW.out.2.2.1 (by simp)
  have HX := Lib.hid (And.intro hR (And.intro hsub (And.intro (HW.out.2.1.trans hX) x1)))
  have hl1 := lt_of_block x1
  clear hR hl hsub hX x1
  go_wp2_with (skip; fail)
  go_loop [7] (fun iv => ∃ k : Nat, k ≤ l.length ∧ iv = .int .i64 k ∧ Hid (∀ (j : Nat) (hj : j < k) (hl : j < l.length), (l[j]).1.id ≠ id)) (fun iv => l.length - (intOf iv).toNat)
  case atStart => exact ⟨0, Nat.zero_le _, rfl, Lib.hid fun j hj => by omega⟩
  case round =>
    obtain ⟨k, hk, rfl, H⟩ := hrel
    by_cases hlt : k < l.length
    · obtain ⟨g, c2, A2, cA, e, _, hT, hr⟩ := HX.out.1.at hlt
      injection e with e1 e2 e3
      subst e1 e3
      have r0 : X.cell? ⟨g, k * 5, none⟩ = some (.int .i64 (l[k]).1.id) := hr 0 _ rfl
      have r4 : X.rangeAt g (k * 5) [.int .i64 (Tr.id (l[k]).1), .int .i64 (Tr.kind (l[k]).1), .string (Tr.text (l[k]).1), .slice A2 (Tr.kids (l[k]).1).length cA] := fun j u hu => hr j u (by
        have hj : j < 4 := by have := (List.getElem?_eq_some_iff.1 hu).1; simpa using this
        match j, hu with
        | 0, hu => exact hu
        | 1, hu => exact hu
        | 2, hu => exact hu
        | 3, hu => exact hu)
      have HR := Lib.hid (And.intro hT r4)
      clear hT hr r4
      by_cases hid : (l[k]).1.id = id
      · have hb : ((l[k]).1.id == id) = true := by simpa using hid
        have hres : t.subT id = some (l[k]).1 := by rw [← HX.out.2.1]; exact firstW_at hlt hid (fun j hj => H.out j hj (by omega))
        have HI := Lib.hid hres
        obtain ⟨q0, q1, q2, q3⟩ := blk4 HX.out.2.2.2
        have f0 := blkF HX.out.2.2.2 0
        have f1 := blkF HX.out.2.2.2 1
        have f2 := blkF HX.out.2.2.2 2
        have f3 := blkF HX.out.2.2.2 3
        clear hid hres
        go_wp2_with (first
          | (refine wpList_load_mid rfl 24 (.tmp 27) rfl g (k * 5) (by kernel_rfl) _ _ HR.out.2 Try.underlying24 rfl (by kernel_rfl) ?_
             ((try dsimp only); (try simp only [Act.put, List.setIfInBounds_toArray, List.set_cons_zero, List.set_cons_succ])))
          | (skip; fail))
        refine bodyPost_ret (v := .tuple #[.agg #[.int .i64 (Tr.id (l[k]).1), .int .i64 (Tr.kind (l[k]).1), .string (Tr.text (l[k]).1), .slice A2 (Tr.kids (l[k]).1).length cA], .bool true]) (results_row_tmp rfl _ _ (w.heap.size + 1) _ _ _ _ _ rfl rfl (set4 HX.out.2.2.2) Try.underlying24 rfl szNode) rfl ?_
        unfold FindR
        rw [HI.out]
        have hc4 := chg4 X (w.heap.size + 1) (.int .i64 (l[k]).1.id) (.int .i64 (l[k]).1.kind) (.string (l[k]).1.text) (.slice A2 (l[k]).1.kids.length cA)
        exact ⟨A2, cA, rfl, HR.out.1.kept hc4 (fun b hb => by simp; omega), HX.out.2.2.1.andThen hc4 (by simp)⟩
      · have hb : ((l[k]).1.id == id) = false := by simpa using hid
        have HI := Lib.hid hid
        clear hid
        go_wp2_with (skip; fail)
        go_round
        case rel =>
          refine ⟨k + 1, by omega, by go_num, Lib.hid fun j hj hl => ?_⟩
          rcases Nat.lt_or_ge j k with h | h
          · exact H.out j h hl
          · obtain rfl : j = k := by omega
            exact HI.out
        case measure => simp [intOf]; omega
    · obtain rfl : k = l.length := by omega
      have hres : t.subT id = none := by rw [← HX.out.2.1]; exact firstW_none (fun j hj => H.out j hj hj)
      have HI := Lib.hid hres
      obtain ⟨q0, q1, q2, q3⟩ := blk4 HX.out.2.2.2
      have f0 := blkF HX.out.2.2.2 0
      have f1 := blkF HX.out.2.2.2 1
      have f2 := blkF HX.out.2.2.2 2
      have f3 := blkF HX.out.2.2.2 3
      clear hres
      go_wp2_with (skip; fail)
      refine bodyPost_ret (v := .tuple #[.agg #[.int .i64 0, .int .i64 0, .string ⟨#[]⟩, .slice none 0 0], .bool false]) (results_row_tmp rfl _ _ (w.heap.size + 1) _ _ _ _ _ rfl rfl (set4 HX.out.2.2.2) Try.underlying24 rfl szNode) rfl ?_
      unfold FindR
      rw [HI.out]
      exact ⟨rfl, HX.out.2.2.1.andThen (chg4 _ _ _ _ _ _) (by simp)⟩
end Go.Proofs.Ytofjocjljbkjgaa
namespace Go.Proofs.Ytofjocjljbkjgaa
open Go.RowKit
attribute [local go_sem] Oper.semAt_some
theorem TrV.quiet {S : Nat} {w w' : World} (hq : Quiet S w w') {t : Tr} {cs : List Value} {F : Nat → Prop} (h : TrV w t cs F) : TrV w' t cs F := by
  induction h with
  | leaf t A c F h0 hA hc ht => exact .leaf t A c _ h0 hA hc ht
  | node t b c C cs fs F hp hl hc ht hB hFb hF hd hr hk ih =>
    have hB' := hq.at hB rfl
    refine .node t b c C cs fs _ hp hl hc ht hB' hFb hF hd (fun i hi j v hv => ?_) ih
    have := hr i hi j v hv
    simp only [World.cell?] at this ⊢
    rw [hB'.trans hB.symm]; exact this
theorem results_row_cell {P : Program} {fn : Func} {p u : Tmp} {ty t2 : TypeId} (h : fn.results = #[.cell p ty, .cell u t2]) (tmps : Array Value) (w : World) (g g2 : Nat) (t : TypeId) (cs : Array Value) (fr : Nat × Nat) (d : TypeDesc) (x : Value)
    (hp : tmps.getD p undef = .pointer (some ⟨g, 0, none⟩)) (hp2 : tmps.getD u undef = .pointer (some ⟨g2, 0, none⟩)) (hg : w.heap[g]? = some (.cells cs t fr)) (hx : (loadVar t2 ⟨g2, 0, none⟩).run P w = .ok x w) (hu : P.underlying ty = some d) (hd : (match d with | .struct _ | .array _ _ => true | _ => false) = true) (hi : (P.info? ty).map (·.size) = some cs.size) :
    (results fn tmps).run P w = .ok (.tuple #[.agg cs, x]) w := by
  have hp' : tmps[p]?.getD undef = .pointer (some ⟨g, 0, none⟩) := by simpa using hp
  have hp2' : tmps[u]?.getD undef = .pointer (some ⟨g2, 0, none⟩) := by simpa using hp2
  simp [results, h, hp', hp2', asAddr, run_loadVar_row w g t ty cs fr d hg hu hd hi, hx]
def FindV (r : Option Tr) (w : World) (e : Ending) (w' : World) : Prop := match r with
  | none => e = .returned (.tuple #[.agg #[.int .i64 0, .int .i64 0, .string ⟨#[]⟩, .slice none 0 0], .bool false]) ∧ Chg [] w w'
  | some x => ∃ A c, e = .returned (.tuple #[.agg #[.int .i64 (Tr.id x), .int .i64 (Tr.kind x), .string (Tr.text x), .slice A (Tr.kids x).length c], .bool true]) ∧ TrV w' x [.int .i64 (Tr.id x), .int .i64 (Tr.kind x), .string (Tr.text x), .slice A (Tr.kids x).length c] (fun g => w.heap.size ≤ g ∧ g < w'.heap.size) ∧ Chg [] w w'
structure FdS (w : World) (t : Tr) (A : Option Addr) (c : Nat) (id : Int) (W : World) : Prop where
  ib : W.heap[w.heap.size + 1]? = some (.cells #[.int .i64 id] 3 (0, 0))
  rb : W.heap[w.heap.size + 2]? = some (.cells #[.int .i64 0, .int .i64 0, .string ⟨#[]⟩, .slice none 0 0] 24 (0, 0))
  kb : W.heap[w.heap.size + 3]? = some (.cells #[.bool false] 4 (0, 0))
  st : StV w w.heap.size (w.heap.size + 4) t A c W
  chg : Chg [] w W
theorem StV.quiet {Wb : World} {B bt S : Nat} {t : Tr} {A : Option Addr} {c : Nat} {W W' : World} (h : StV Wb B bt t A c W) (hq : Quiet S W W') (hB : B ≤ S) (hp : B ≤ bt) : StV Wb B bt t A c W' := by
  refine ⟨hq.at h.b rfl, fun k hk => ?_⟩
  obtain ⟨L, h1, h2⟩ := hq
  have hl1 := lt_of_block h.b
  rw [← h.base k hk]
  exact h1.block k (by omega) (fun hm => by have := (h2 k hm).1; omega)
theorem FdS.quiet {w : World} {t : Tr} {A : Option Addr} {c S : Nat} {id : Int} {W W' : World} (h : FdS w t A c id W) (hq : Quiet S W W') (hS : w.heap.size + 4 < S) : FdS w t A c id W' :=
  ⟨hq.at h.ib rfl, hq.at h.rb rfl, hq.at h.kb rfl, h.st.quiet hq (by omega) (by omega), hq.chg h.chg (by omega)⟩
structure FdX (w : World) (r : Option Tr) (W : World) : Prop where
  ex : ∃ (x : Tr) (A : Option Addr) (c : Nat), r = some x ∧ W.heap[w.heap.size + 2]? = some (.cells #[.int .i64 (Tr.id x), .int .i64 (Tr.kind x), .string (Tr.text x), .slice A (Tr.kids x).length c] 24 (0, 0)) ∧ TrV W x [.int .i64 (Tr.id x), .int .i64 (Tr.kind x), .string (Tr.text x), .slice A (Tr.kids x).length c] (fun g => w.heap.size ≤ g ∧ g < W.heap.size)
  kb : W.heap[w.heap.size + 3]? = some (.cells #[.bool true] 4 (0, 0))
  chg : Chg [] w W
theorem FdX.quiet {w : World} {r : Option Tr} {S : Nat} {W W' : World} (h : FdX w r W) (hq : Quiet S W W') (hS : w.heap.size + 4 < S) : FdX w r W' := by
  obtain ⟨⟨x, A, c, hr, hb, hV⟩, h2, h3⟩ := h
  obtain ⟨L, hc, _⟩ := id hq
  exact ⟨⟨x, A, c, hr, hq.at hb rfl, (hV.quiet hq).weak fun g hg => ⟨hg.1, Nat.lt_of_lt_of_le hg.2 hc.size⟩⟩, hq.at h2 rfl, hq.chg h3 (by omega)⟩
theorem find_ret {w W : World} {D : Nat} {cs : Array Value} {b : Bool} {R : Ending → World → Prop} (hrb : W.heap[w.heap.size + 2]? = some (.cells cs 24 (0, 0))) (hkb : W.heap[w.heap.size + 3]? = some (.cells #[.bool b] 4 (0, 0))) (hs : cs.size = 4) (hD : w.heap.size + 4 < D) (hK : W.heap[D]? = some (.deferred (some []))) (a : Act) (hd : a.defers = [{ target := .collected D, args := #[] }])
    (h4 : a.tmps.getD 4 undef = .pointer (some ⟨w.heap.size + 2, 0, none⟩)) (h5 : a.tmps.getD 5 undef = .pointer (some ⟨w.heap.size + 3, 0, none⟩)) (h : R (.returned (.tuple #[.agg cs, .bool b])) (W.putObj D (.deferred none))) : bodyPostM W0 0 Try.prog Try.f140 R .ret a W := by
  have hP : Chg [D] W (W.putObj D (.deferred none)) := ⟨rfl, rfl, rfl, by simp, fun j _ hj => World.putObj_heap_other (by simpa using hj)⟩
  have k2 := cellOne (hP.at hkb (by simp <;> omega))
  refine bodyM_ret hd hK (results_row_cell rfl _ _ (w.heap.size + 2) (w.heap.size + 3) _ _ _ _ _ h4 h5 (hP.at hrb (by simp <;> omega)) ?_ Try.underlying24 rfl (by rw [hs]; kernel_rfl)) h
  simp [go_sem, k2]
set_option maxHeartbeats 4000000 in
set_option maxRecDepth 100000 in
theorem tfind_any (t : Tr) (A : Option Addr) (c : Nat) (id : Int) (w : World) (hT : TrC (fun b => b < w.heap.size) w t [.int .i64 (Tr.id t), .int .i64 (Tr.kind t), .string (Tr.text t), .slice A (Tr.kids t).length c]) (hn : t.nodes ≤ 100000) : Calls Try.prog 140 #[.agg #[.int .i64 (Tr.id t), .int .i64 (Tr.kind t), .string (Tr.text t), .slice A (Tr.kids t).length c], .int .i64 id] w (FindV (t.subT id) w) := by
  obtain ⟨W1, hW1⟩ : ∃ W1, W1 = (((w.alloc (.cells #[.int .i64 (Tr.id t), .int .i64 (Tr.kind t), .string (Tr.text t), .slice A (Tr.kids t).length c] 24)).alloc (.cells #[.int .i64 id] 3)).alloc (.cells #[.int .i64 0, .int .i64 0, .string ⟨#[]⟩, .slice none 0 0] 24)).alloc (.cells #[.bool false] 4) := ⟨_, rfl⟩
  have hc1 : Chg [] w W1 := by rw [hW1]; exact (by with_reducible repeat (first | exact Chg.refl _ _ | apply Chg.alloc | apply Chg.drew | apply Chg.drewN | (refine Chg.setCell ?_ _ _ (by simp))))
  have hb0 : W1.heap[w.heap.size]? = some (.cells #[.int .i64 (Tr.id t), .int .i64 (Tr.kind t), .string (Tr.text t), .slice A (Tr.kids t).length c] 24 (0, 0)) := by rw [hW1]; exact heap_old (heap_old (heap_old (heap_new _ _ rfl) _) _) _
  have hb1 : W1.heap[w.heap.size + 1]? = some (.cells #[.int .i64 id] 3 (0, 0)) := by rw [hW1]; exact heap_old (heap_old (heap_new _ _ (by simp)) _) _
  have hb2 : W1.heap[w.heap.size + 2]? = some (.cells #[.int .i64 0, .int .i64 0, .string ⟨#[]⟩, .slice none 0 0] 24 (0, 0)) := by rw [hW1]; exact heap_old (heap_new _ _ (by simp)) _
  have hb3 : W1.heap[w.heap.size + 3]? = some (.cells #[.bool false] 4 (0, 0)) := by rw [hW1]; exact heap_new _ _ (by simp)
  have hs1 : W1.heap.size = w.heap.size + 4 := by rw [hW1]; simp
  obtain ⟨p0, p1, p2, p3⟩ := blk4 hb0
  have HW := Lib.hid (And.intro hc1 (And.intro hb1 (And.intro hb2 (And.intro hb3 (And.intro hs1 (And.intro hW1 hT))))))
  rw [hW1] at p0 p1 p2 p3
  clear hc1 hb0 hb1 hb2 hb3 hs1 hW1 hT
  refine callsIn_wide.1 (callsIn_of_wp_marks (n := 0) Try.func140 rfl trivial ?_)
  simp only [Try.ntmps140, List.size_toArray, List.length_cons, List.length_nil, Nat.reduceAdd, Nat.reduceSub, Array.replicate_succ, Array.replicate_zero, List.push_toArray, List.append_toArray, List.nil_append, List.cons_append]
  gi_wp2_with (skip; fail)
  refine ⟨trivial, rfl, ?_⟩
  gi_at_call 157
  rw [← HW.out.2.2.2.2.2.1]
  refine (callsIn_wide.2 (twalk_any t A c W1)).mono ?_
  clear p0 p1 p2 p3
  rintro e X ⟨rfl, hx1, hxc⟩
  rw [HW.out.2.2.2.2.1] at hx1 ⊢
  have hC : FdS w t A c id X := ⟨hxc.at HW.out.2.1 (by simp), hxc.at HW.out.2.2.1 (by simp), hxc.at HW.out.2.2.2.1 (by simp), ⟨hx1, fun k hk => (hxc.block k (by have := HW.out.2.2.2.2.1; omega) (by simp)).trans (HW.out.1.block k (by omega) (by simp))⟩, HW.out.1.trans hxc⟩
  have hXs : w.heap.size + 4 < X.heap.size := lt_of_block hx1
  have HC := Lib.hid hC
  clear hx1 hxc hC
  gi_wp2
  refine wp_rangeK (gf := 162) (lb := #[.pointer (some ⟨w.heap.size + 4, 0, none⟩)]) rfl (enters_of Try.func162 (by kernel_rfl) rfl) (walk1_iter w.heap.size w t A c (w.heap.size + 4) HW.out.2.2.2.2.2.2 hn)
    (fun l i x args W h => by obtain ⟨A', c', b', rfl, _⟩ := h; rfl)
    (fun j W => FdS w t A c id W ∧ ∀ (q : Nat) (hq : q < j) (hl : q < (t.walk 1).length), ((t.walk 1)[q]).1.id ≠ id) (fun cd W => cd = .ret ∧ FdX w (t.subT id) W)
    (fun j W h => h.1.st) (fun j W W' h hq => ⟨h.1.quiet hq hXs, h.2⟩) (fun cd W W' h hq => ⟨h.1, h.2.quiet hq hXs⟩) ⟨HC.out, fun q hq => by omega⟩ ?round ?done ?stop
  case round =>
    rintro l j x args W ⟨hS, hne⟩ hx ⟨A', c', base, rfl, hlb, hTx⟩ hr hlB
    have hWX : X.heap.size ≤ W.heap.size := by obtain ⟨r, hr⟩ := hr; have := lt_of_block hr; omega
    have hWN : W.heap.size + 1 = (W.alloc (.cells #[.int .i64 (Tr.id x.1), .int .i64 (Tr.kind x.1), .string (Tr.text x.1), .slice A' (Tr.kids x.1).length c'] 24)).heap.size := by simp
    have H1 := Lib.hid (And.intro hS (And.intro hne (And.intro hx hTx)))
    clear hS hne hx hTx hr
    gi_wp2
    refine ⟨Above.of_chg0 (by with_reducible repeat (first | exact Chg.refl _ _ | apply Chg.alloc | apply Chg.drew | apply Chg.drewN | (refine Chg.setCell ?_ _ _ (by simp)))), fun W2 hc2 hq2 => ?_⟩
    have hS2 := H1.out.1.quiet (.of_chg (show Chg [] W (W.alloc (.cells #[.int .i64 (Tr.id x.1), .int .i64 (Tr.kind x.1), .string (Tr.text x.1), .slice A' (Tr.kids x.1).length c'] 24)) from (by with_reducible repeat (first | exact Chg.refl _ _ | apply Chg.alloc | apply Chg.drew | apply Chg.drewN | (refine Chg.setCell ?_ _ _ (by simp)))))) hXs |>.quiet hq2 hXs
    have hbx : W2.heap[W.heap.size]? = some (.cells #[.int .i64 (Tr.id x.1), .int .i64 (Tr.kind x.1), .string (Tr.text x.1), .slice A' (Tr.kids x.1).length c'] 24 (0, 0)) := hq2.at (heap_new _ _ rfl) rfl
    obtain ⟨p0, p1, p2, p3⟩ := blk4 hbx
    have i0 := cellOne hS2.ib
    have hb2W : W.heap.size + 1 ≤ W2.heap.size := by have := hc2.size; simpa using this
    have hT2 : TrC (fun b => True) W2 x.1 [.int .i64 (Tr.id x.1), .int .i64 (Tr.kind x.1), .string (Tr.text x.1), .slice A' (Tr.kids x.1).length c'] := by
      refine (H1.out.2.2.2.move fun g hg hlt => ⟨?_, trivial⟩)
      rw [hc2.block g (by simp; omega) (by simp; omega)]
      exact (Go.MapKept.heap_alloc W _).2 g hlt
    have H2 := Lib.hid (And.intro hS2 (And.intro hT2 hq2))
    have hxn : x.1.nodes ≤ 100000 := Nat.le_trans (walk_nodes t 1 x.1 x.2 (List.mem_of_getElem? H1.out.2.2.1)) hn
    clear hS2 hbx hT2 hq2 hc2 hWN
    obtain ⟨hjl, hxj⟩ := List.getElem?_eq_some_iff.1 H1.out.2.2.1
    have HJ := Lib.hid hxj
    clear hxj
    by_cases hid : x.1.id = id
    · have hb : (x.1.id == id) = true := by simpa using hid
      have hres : t.subT id = some x.1 := by
        rw [← Tr.walk_sub id t 1, ← HJ.out]
        exact firstW_at hjl (by rw [HJ.out]; exact hid) (fun q hq => H1.out.2.1 q hq (by omega))
      have HR := Lib.hid hres
      clear hres hid
      gi_wp2
      refine ⟨trivial, rfl, ?_⟩
      gi_at_call 90
      refine (callsIn_wide.2 (tcopy_any x.1 A' c' W2 H2.out.2.1 hxn)).mono ?_
      rintro e Y ⟨A2, c2, rfl, hV, hc⟩
      have hr2 := hc.at H2.out.1.rb (by simp)
      have hk2 := hc.at H2.out.1.kb (by simp)
      obtain ⟨q0, q1, q2, q3⟩ := blk4 hr2
      have f0 := blkF hr2 0
      have f1 := blkF hr2 1
      have f2 := blkF hr2 2
      have f3 := blkF hr2 3
      have k0 := cellOne hk2
      have g0 := blkF hk2 0
      have hc4 := chg4 Y (w.heap.size + 2) (.int .i64 x.1.id) (.int .i64 x.1.kind) (.string x.1.text) (.slice A2 x.1.kids.length c2)
      have hr4 := set4 (v0 := .int .i64 x.1.id) (v1 := .int .i64 x.1.kind) (v2 := .string x.1.text) (v3 := .slice A2 x.1.kids.length c2) hr2
      have H3 := Lib.hid (And.intro hV (And.intro hc (And.intro hr2 (And.intro hk2 (And.intro hc4 hr4)))))
      clear hV hc hr2 hk2 p0 p1 p2 p3 i0 hb hc4 hr4
      gi_wp2
      have hc5 : Chg [w.heap.size + 3] ((((Y.setCell ⟨w.heap.size + 2, 0, none⟩ (.int .i64 x.1.id)).setCell ⟨w.heap.size + 2, 1, none⟩ (.int .i64 x.1.kind)).setCell ⟨w.heap.size + 2, 2, none⟩ (.string x.1.text)).setCell ⟨w.heap.size + 2, 3, none⟩ (.slice A2 x.1.kids.length c2)) (((((Y.setCell ⟨w.heap.size + 2, 0, none⟩ (.int .i64 x.1.id)).setCell ⟨w.heap.size + 2, 1, none⟩ (.int .i64 x.1.kind)).setCell ⟨w.heap.size + 2, 2, none⟩ (.string x.1.text)).setCell ⟨w.heap.size + 2, 3, none⟩ (.slice A2 x.1.kids.length c2)).setCell ⟨w.heap.size + 3, 0, none⟩ (.bool true)) := (Chg.refl _ _).setCell _ _ (by simp)
      have hw2 : w.heap.size + 4 < W2.heap.size := by omega
      refine ⟨(Above.of_chg0 H3.out.2.1).trans ((Above.of_chg H3.out.2.2.2.2.1 (by simp <;> omega)).trans (Above.of_chg hc5 (by simp <;> omega))), rfl, ⟨⟨x.1, A2, c2, HR.out, hc5.at H3.out.2.2.2.2.2 (by simp), ?_⟩, heap_setCell_same _ _ 0 _ _ _ (H3.out.2.2.2.2.1.at H3.out.2.2.2.1 (by simp)), ((H2.out.1.chg.trans H3.out.2.1).andThen H3.out.2.2.2.2.1 (by simp <;> omega)).andThen hc5 (by simp <;> omega)⟩⟩
      exact ((H3.out.1.kept H3.out.2.2.2.2.1 (fun g hg => by simp <;> omega)).kept hc5 (fun g hg => by simp <;> omega)).weak fun g hg => ⟨by omega, Nat.lt_of_lt_of_le hg.2 (Nat.le_trans H3.out.2.2.2.2.1.size hc5.size)⟩
    · have hb : (x.1.id == id) = false := by simpa using hid
      have HI := Lib.hid hid
      clear hid
      gi_wp2
      refine ⟨Above.refl _ _, H2.out.1, fun q hq hl => ?_⟩
      rcases Nat.lt_or_ge q j with h | h
      · exact H1.out.2.1 q h hl
      · obtain rfl : q = j := by omega
        rw [HJ.out]; exact HI.out
  case done =>
    rintro D W hD ⟨hS, hne⟩ hK
    have hres : t.subT id = none := by
      rw [← Tr.walk_sub id t 1]
      exact firstW_none (fun q hq => hne q hq hq)
    obtain ⟨q0, q1, q2, q3⟩ := blk4 hS.rb
    have f0 := blkF hS.rb 0
    have f1 := blkF hS.rb 1
    have f2 := blkF hS.rb 2
    have f3 := blkF hS.rb 3
    have k0 := cellOne hS.kb
    have g0 := blkF hS.kb 0
    have hc4 := chg4 W (w.heap.size + 2) (.int .i64 0) (.int .i64 0) (.string ⟨#[]⟩) (.slice none 0 0)
    have hr4 := set4 (v0 := .int .i64 0) (v1 := .int .i64 0) (v2 := .string ⟨#[]⟩) (v3 := .slice none 0 0) hS.rb
    have H1 := Lib.hid (And.intro hS (And.intro hres (And.intro hK (And.intro hc4 hr4))))
    clear hS hne hres hK hc4 hr4
    gi_wp2
    have hc5 : Chg [w.heap.size + 3] ((((W.setCell ⟨w.heap.size + 2, 0, none⟩ (.int .i64 0)).setCell ⟨w.heap.size + 2, 1, none⟩ (.int .i64 0)).setCell ⟨w.heap.size + 2, 2, none⟩ (.string ⟨#[]⟩)).setCell ⟨w.heap.size + 2, 3, none⟩ (.slice none 0 0)) (((((W.setCell ⟨w.heap.size + 2, 0, none⟩ (.int .i64 0)).setCell ⟨w.heap.size + 2, 1, none⟩ (.int .i64 0)).setCell ⟨w.heap.size + 2, 2, none⟩ (.string ⟨#[]⟩)).setCell ⟨w.heap.size + 2, 3, none⟩ (.slice none 0 0)).setCell ⟨w.heap.size + 3, 0, none⟩ (.bool false)) := (Chg.refl _ _).setCell _ _ (by simp)
    have hP : ∀ V : World, Chg [D] V (V.putObj D (.deferred none)) := fun V => ⟨rfl, rfl, rfl, by simp, fun j _ hj => World.putObj_heap_other (by simpa using hj)⟩
    refine find_ret (hc5.at H1.out.2.2.2.2 (by simp)) (heap_setCell_same _ _ 0 _ _ _ (H1.out.2.2.2.1.at H1.out.1.kb (by simp))) rfl (by omega) (hc5.at (H1.out.2.2.2.1.at H1.out.2.2.1 (by simp; omega)) (by simp; omega)) _ rfl rfl rfl ?_
    unfold FindV
    rw [H1.out.2.1]
    exact ⟨rfl, ((H1.out.1.chg.andThen H1.out.2.2.2.1 (by simp <;> omega)).andThen hc5 (by simp <;> omega)).andThen (hP _) (by simp <;> omega)⟩
  case stop =>
    rintro D cd W hD ⟨rfl, hX⟩ hK
    obtain ⟨⟨x, A2, c2, hr, hb, hV⟩, hk, hcw⟩ := hX
    have H1 := Lib.hid (And.intro hr (And.intro hb (And.intro hV (And.intro hk (And.intro hcw hK)))))
    clear hr hb hV hk hcw hK
    gi_wp2
    have hP : Chg [D] W (W.putObj D (.deferred none)) := ⟨rfl, rfl, rfl, by simp, fun j _ hj => World.putObj_heap_other (by simpa using hj)⟩
    refine find_ret H1.out.2.1 H1.out.2.2.2.1 rfl (by omega) H1.out.2.2.2.2.2 _ rfl rfl rfl ?_
    unfold FindV
    rw [H1.out.1]
    refine ⟨A2, c2, rfl, ?_, H1.out.2.2.2.2.1.andThen hP (by simp <;> omega)⟩
    have hq : Quiet 0 W (W.putObj D (.deferred none)) := .put _ H1.out.2.2.2.2.2 rfl (Nat.zero_le _)
    exact (H1.out.2.2.1.quiet hq).weak fun g hg => ⟨hg.1, Nat.lt_of_lt_of_le hg.2 hP.size⟩
end Go.Proofs.Ytofjocjljbkjgaa
namespace Go.Proofs.Ytofjocjljbkjgaa
open Go.RowKit
def ints (l : List Nat) : List Int := l.map (fun (i : Nat) => (i : Int))
theorem ints_len (l : List Nat) : (ints l).length = l.length := by simp [ints]
theorem ints_snoc (l : List Nat) (k : Nat) : ints (l ++ [k]) = ints l ++ [(k : Int)] := by simp [ints]
structure PS (w0 : World) (pb : Nat) (l : List Nat) (v : Value) (W : World) : Prop where
  bx : W.heap[pb]? = some (.cells #[v] 109 (0, 0))
  row : OwnI W w0.heap.size v (ints l)
  chg : Chg [pb] w0 W
theorem PS.kept {w0 : World} {pb : Nat} {l : List Nat} {v : Value} {W W' : World} (h : PS w0 pb l v W) (hc : Chg [] W W') : PS w0 pb l v W' :=
  ⟨hc.at h.bx (by simp), h.row.kept hc (by simp), h.chg.andThen hc (by simp)⟩
theorem OwnI.cut {W : World} {base : Nat} {v : Value} {l : List Int} {u : Int} (h : OwnI W base v (l ++ [u])) : ∃ g c, v = .slice (some ⟨g, 0, none⟩) (l.length + 1) c ∧ l.length + 1 ≤ c ∧ c ≤ maxLen ∧ OwnI W base (.slice (some ⟨g, 0, none⟩) l.length c) l := by
  obtain ⟨hl, h2⟩ := h
  rcases h2 with ⟨rfl, h0⟩ | ⟨g, cap, cur, rfl, hb, hg, h1, h3, h4, h5⟩
  · simp at h0
  · have e : (l ++ [u]).length = l.length + 1 := by simp
    rw [e] at h1 h5
    refine ⟨g, cap, by rw [e], h1, h3, by simp, .inr ⟨g, cap, cur, rfl, hb, hg, by omega, h3, h4, ?_⟩⟩
    rw [show l.length * 1 = l.length by omega]
    rw [show (l.length + 1) * 1 = l.length + 1 by omega] at h5
    have := congrArg (List.take l.length) h5
    rw [List.take_take, show min l.length (l.length + 1) = l.length by omega] at this
    rw [this]
    simp
set_option maxHeartbeats 4000000 in
set_option maxRecDepth 100000 in
theorem path1_any (w0 : World) (ib pb fb : Nat) (id : Int) (hib : w0.heap[ib]? = some (.cells #[.int .i64 id] 3 (0, 0))) (hfb : w0.heap[fb]? = some (.cells #[.func (.func 146) #[] #[.pointer (some ⟨ib, 0, none⟩), .pointer (some ⟨pb, 0, none⟩), .pointer (some ⟨fb, 0, none⟩)]] 28 (0, 0))) (hip : ib ≠ pb) (hfp : fb ≠ pb) (hpb : pb < w0.heap.size) :
    ∀ (t : Tr) (A : Option Addr) (c : Nat) (pre : List Nat) (v : Value) (W : World), PS w0 pb pre v W → TrC (fun b => b < w0.heap.size ∧ b ≠ pb) w0 t [.int .i64 (Tr.id t), .int .i64 (Tr.kind t), .string (Tr.text t), .slice A (Tr.kids t).length c] → pre.length + t.nodes ≤ 1000000 →
    Calls Try.prog 146 #[.agg #[.int .i64 (Tr.id t), .int .i64 (Tr.kind t), .string (Tr.text t), .slice A (Tr.kids t).length c], .pointer (some ⟨ib, 0, none⟩), .pointer (some ⟨pb, 0, none⟩), .pointer (some ⟨fb, 0, none⟩)] W fun e W' => ∃ v', e = .returned (.bool (t.path id).isSome) ∧ PS w0 pb (pre ++ (t.path id).getD []) v' W' := by
  intro t
  induction t using Tr.ind with
  | h t ih =>
  intro A c pre v W hP hT hn
  obtain ⟨A', c', hcs, hlc, hcm, htx, hK⟩ := hT.opens
  simp only [List.cons.injEq, Value.slice.injEq, true_and, and_true] at hcs
  obtain ⟨rfl, rfl⟩ := hcs
  have hli := lt_of_block hib
  have hlf := lt_of_block hfb
  obtain ⟨W1, hW1⟩ : ∃ W1, W1 = W.alloc (.cells #[.int .i64 (Tr.id t), .int .i64 (Tr.kind t), .string (Tr.text t), .slice A (Tr.kids t).length c] 24) := ⟨_, rfl⟩
  have hc1 : Chg [] W W1 := by rw [hW1]; exact (by with_reducible repeat (first | exact Chg.refl _ _ | apply Chg.alloc | apply Chg.drew | apply Chg.drewN | (refine Chg.setCell ?_ _ _ (by simp))))
  have hP1 := hP.kept hc1
  have i0 := cellOne (hP1.chg.at hib (by simpa using hip))
  obtain ⟨p0, p1, p2, p3⟩ := blk4 (show W1.heap[W.heap.size]? = some (.cells #[.int .i64 (Tr.id t), .int .i64 (Tr.kind t), .string (Tr.text t), .slice A (Tr.kids t).length c] 24 (0, 0)) by rw [hW1]; exact heap_new _ _ rfl)
  have HH := Lib.hid (And.intro ih (And.intro hK (And.intro hP1 (And.intro hib (And.intro hfb hW1)))))
  have hkl : t.kids.length ≤ 1000000 := by have := t.kids_le; omega
  have HN := Lib.hid (And.intro hn hkl)
  rw [hW1] at i0 p0 p1 p2 p3
  clear ih hK hT hP hc1 hP1 hW1 hib hfb hn
  go_enter Try.func146, Try.ntmps146
  by_cases hid : t.id = id
  · have d1 : (t.id == id) = true := by simpa using hid
    have HE := Lib.hid (show t.path id = some [] by rw [Tr.path_eq, if_pos hid])
    clear hid
    go_wp2_with (skip; fail)
    rw [← HH.out.2.2.2.2.2]
    go_ret
    refine ⟨v, by rw [HE.out]; rfl, ?_⟩
    rw [HE.out]
    show PS w0 pb (pre ++ []) v W1
    rw [List.append_nil]
    exact HH.out.2.2.1
  have d1 : (t.id == id) = false := by simpa using hid
  have HE := Lib.hid (show t.path id = pathL id t.kids 0 by rw [Tr.path_eq, if_neg hid])
  clear hid
  go_wp2_with (skip; fail)
  rw [← HH.out.2.2.2.2.2]
  clear i0 p0 p1 p2 p3
  go_loopw [15] (fun iv wr => ∃ k : Nat, k ≤ t.kids.length ∧ iv = .int .i64 k ∧ Hid (∃ v, PS w0 pb pre v wr ∧ ∀ (j : Nat) (hj : j < k) (hl : j < t.kids.length), (t.kids[j]).path id = none)) (fun iv _ => t.kids.length - (intOf iv).toNat)
  case atStart => exact ⟨0, Nat.zero_le _, rfl, ⟨v, HH.out.2.2.1, fun j hj => by omega⟩⟩
  case round =>
    obtain ⟨k, hk, rfl, H0⟩ := hrel
    obtain ⟨V, hV⟩ : ∃ V, V = wr := ⟨_, rfl⟩
    subst hV
    obtain ⟨v1, hP, hnone⟩ := H0.out
    clear H0
    by_cases hlt : k < t.kids.length
    · obtain ⟨gk, ok, hA, hokg, cs, hr, hTk⟩ := HH.out.2.1.at hlt
      subst hA
      obtain ⟨y, hye⟩ : ∃ y, y = t.kids[k] := ⟨_, rfl⟩
      have hym : y ∈ t.kids := by rw [hye]; exact List.getElem_mem hlt
      rw [← hye] at hTk
      obtain ⟨Ak, ck, hcsk, _⟩ := hTk.opens
      subst hcsk
      have hyn : y.nodes < t.nodes := by have h1 := nodesL_mem hym; have h2 := t.nodes_eq; omega
      have hr' : V.rangeAt gk (ok + k * 4) [.int .i64 (Tr.id y), .int .i64 (Tr.kind y), .string (Tr.text y), .slice Ak (Tr.kids y).length ck] := hP.chg.range hr (by simpa using hokg.2)
      obtain ⟨V1, hV1⟩ : ∃ V1, V1 = V.alloc (.cells #[.int .i64 (Tr.id y), .int .i64 (Tr.kind y), .string (Tr.text y), .slice Ak (Tr.kids y).length ck] 24) := ⟨_, rfl⟩
      have hcV : Chg [] V V1 := by rw [hV1]; exact (by with_reducible repeat (first | exact Chg.refl _ _ | apply Chg.alloc | apply Chg.drew | apply Chg.drewN | (refine Chg.setCell ?_ _ _ (by simp))))
      have hbV : V1.heap[V.heap.size]? = some (.cells #[.int .i64 (Tr.id y), .int .i64 (Tr.kind y), .string (Tr.text y), .slice Ak (Tr.kids y).length ck] 24 (0, 0)) := by rw [hV1]; exact heap_new _ _ rfl
      have hP1 := hP.kept hcV
      obtain ⟨V2, hV2⟩ : ∃ V2, V2 = V1.alloc (.cells #[.int .i64 k] 3) := ⟨_, rfl⟩
      have hcV2 : Chg [] V1 V2 := by rw [hV2]; exact (by with_reducible repeat (first | exact Chg.refl _ _ | apply Chg.alloc | apply Chg.drew | apply Chg.drewN | (refine Chg.setCell ?_ _ _ (by simp))))
      have hP2 := hP1.kept hcV2
      have hbV2 := hcV2.at hbV (by simp)
      have hV2g : V2.heap[V1.heap.size]? = some (.cells #[.int .i64 k] 3 (0, 0)) := by rw [hV2]; exact heap_new _ _ rfl
      have c0 := cellOne hP1.bx
      have HC := Lib.hid (And.intro hr' (And.intro hTk (And.intro hye (And.intro hym (And.intro hyn (And.intro hP2 (And.intro hbV2 (And.intro hV2g (And.intro hV1 (And.intro hV2 (And.intro hnone hP.row.own)))))))))))
      rw [hV1] at c0
      have hVs : w0.heap.size ≤ V.heap.size := hP.chg.size
      have hV1s : V1.heap.size = V.heap.size + 1 := by rw [hV1]; simp
      have hpl : (ints pre).length ≤ 1000000000 := by rw [ints_len]; have := HN.out.1; omega
      have HS := Lib.hid hV1s
      clear hr' hTk hye hym hyn hP2 hbV2 hV2g hV1 hV2 hnone hcV hbV hP1 hcV2 hP hr hokg hV1s
      go_wp2_with (first
        | (refine wpList_load_mid rfl 24 (.tmp 18) rfl gk (ok + k * 4) rfl _ _ HC.out.1 Try.underlying24 rfl szNode ?_)
        | (rw [← HC.out.2.2.2.2.2.2.2.2.1, ← HC.out.2.2.2.2.2.2.2.2.2.1]
           refine wpList_push_int rfl (.tmp 20) (.tmp 22) rfl w0.heap.size v1 (ints pre) rfl HC.out.2.2.2.2.2.1.row V1.heap.size k (by rw [HS.out]; rfl) (cellOne HC.out.2.2.2.2.2.2.2.1) hpl (by have := HC.out.2.2.2.2.2.1.chg.size; omega) ?_
           intro v2 X hown hcX hat
           obtain ⟨g2, c2, hv2, hle2, hmx2, hcut⟩ := hown.cut
           rw [ints_len] at hv2 hle2 hcut
           subst hv2
           have hlow : ∀ b, b < w0.heap.size → b ∉ v1.ownBlock.toList := fun b hb hm => by have := HC.out.2.2.2.2.2.2.2.2.2.2.2 b hm; omega
           have hbX := hcX.at HC.out.2.2.2.2.2.1.bx (hlow pb hpb)
           have hS : Chg [pb] X (X.setCell ⟨pb, 0, none⟩ (.slice (some ⟨g2, 0, none⟩) (pre.length + 1) c2)) := (Chg.refl _ _).setCell _ _ (by simp)
           have hPS : PS w0 pb (pre ++ [k]) (.slice (some ⟨g2, 0, none⟩) (pre.length + 1) c2) (X.setCell ⟨pb, 0, none⟩ (.slice (some ⟨g2, 0, none⟩) (pre.length + 1) c2)) :=
             ⟨heap_setCell_same _ _ 0 _ _ _ hbX, by rw [ints_snoc]; exact hown.kept hS (fun b hb => by have := hown.own b (by simp [hb]); simp; omega), (HC.out.2.2.2.2.2.1.chg.andThen hcX (fun b hb => .inr (HC.out.2.2.2.2.2.2.2.2.2.2.2 b hb).1)).andThen hS (by simp)⟩
           have x0 := cellOne hbX
           have xf0 := blkF hbX 0
           have xf := cellOne (hcX.at (HC.out.2.2.2.2.2.1.chg.at HH.out.2.2.2.2.1 (by simpa using hfp)) (hlow fb hlf))
           obtain ⟨n0, n1, n2, n3⟩ := blk4 (hcX.at HC.out.2.2.2.2.2.2.1 (fun hm => by have := HC.out.2.2.2.2.2.2.2.2.2.2.2 _ hm; omega))
           have hcall := HH.out.1 y HC.out.2.2.2.1 Ak ck (pre ++ [k]) _ _ hPS HC.out.2.1 (by have h1 := HN.out.1; have h2 := HC.out.2.2.2.2.1; simp; omega)
           have HX := Lib.hid (And.intro hcall (And.intro hcut (And.intro hle2 hmx2)))
           have hVn : V.heap.size ≠ pb := by omega
           clear hown hcX hat hcut hle2 hmx2 hlow hbX hS hPS hcall
           ((try dsimp only); (try simp only [Act.put, List.setIfInBounds_toArray, List.set_cons_zero, List.set_cons_succ])))
        | (skip; fail))
      go_at_call 146
      refine HX.out.1.mono ?_
      clear x0 xf0 xf n0 n1 n2 n3
      rintro e Y ⟨v3, rfl, hP3⟩
      have hstep := pathL_step id t.kids k 0 hlt (fun j hj => HC.out.2.2.2.2.2.2.2.2.2.2.1 j hj (by omega))
      rw [← HC.out.2.2.1] at hstep
      cases hpy : y.path id with
      | some p =>
        rw [hpy] at hP3 hstep
        have HY := Lib.hid (And.intro hP3 (show t.path id = some (k :: p) by rw [HE.out, hstep]; simp))
        clear hP3 hstep hpy
        go_wp2_with (skip; fail)
        go_ret
        refine ⟨v3, by rw [HY.out.2]; rfl, ?_⟩
        rw [HY.out.2]
        show PS w0 pb (pre ++ (k :: p)) v3 Y
        rw [show pre ++ (k :: p) = pre ++ [k] ++ p by simp]
        exact HY.out.1
      | none =>
        rw [hpy] at hP3
        rw [show pre ++ [k] ++ (none : Option (List Nat)).getD [] = pre ++ [k] by simp] at hP3
        obtain ⟨g3, c3, hv3, hle3, hmx3, hcut3⟩ := (show OwnI Y w0.heap.size v3 (ints pre ++ [(k : Int)]) by have := hP3.row; rwa [ints_snoc] at this).cut
        rw [ints_len] at hv3 hle3 hcut3
        subst hv3
        have y0 := cellOne hP3.bx
        have y1 := blkF hP3.bx 0
        unfold maxLen at hmx3
        have HY := Lib.hid (And.intro hP3 (And.intro hcut3 hpy))
        clear hP3 hcut3 hstep hpy
        go_wp2_with (skip; fail)
        go_roundw
        case rel =>
          have hS : Chg [pb] Y (Y.setCell ⟨pb, 0, none⟩ (.slice (some ⟨g3, 0, none⟩) pre.length c3)) := (Chg.refl _ _).setCell _ _ (by simp)
          refine ⟨k + 1, by omega, by go_num, Lib.hid ⟨_, ⟨heap_setCell_same _ _ 0 _ _ _ HY.out.1.bx, HY.out.2.1.kept hS (fun b hb => by have := HY.out.2.1.own b (by simp [hb]); simp; omega), HY.out.1.chg.andThen hS (by simp)⟩, fun j hj hl => ?_⟩⟩
          rcases Nat.lt_or_ge j k with h | h
          · exact HC.out.2.2.2.2.2.2.2.2.2.2.1 j h hl
          · obtain rfl : j = k := by omega
            rw [← HC.out.2.2.1]; exact HY.out.2.2
        case measure => simp [intOf]; omega
    · obtain rfl : k = t.kids.length := by omega
      have HR := Lib.hid (And.intro hP (show t.path id = none by rw [HE.out]; exact pathL_none id _ 0 (fun j hj => hnone j hj hj)))
      clear hP hnone
      go_wp2_with (skip; fail)
      go_ret
      refine ⟨v1, by rw [HR.out.2]; rfl, ?_⟩
      rw [HR.out.2]
      show PS w0 pb (pre ++ []) v1 _
      rw [List.append_nil]
      exact HR.out.1
set_option maxHeartbeats 4000000 in
set_option maxRecDepth 100000 in
theorem pathp_any (t : Tr) (A : Option Addr) (c : Nat) (id : Int) (w : World) (hT : TrC (fun b => b < w.heap.size) w t [.int .i64 (Tr.id t), .int .i64 (Tr.kind t), .string (Tr.text t), .slice A (Tr.kids t).length c]) (hn : t.nodes ≤ 100000) :
    Calls Try.prog 119 #[.agg #[.int .i64 (Tr.id t), .int .i64 (Tr.kind t), .string (Tr.text t), .slice A (Tr.kids t).length c], .int .i64 id] w fun e w' => ∃ v, e = .returned (.tuple #[v, .bool (t.path id).isSome]) ∧ OwnI w' w.heap.size v (ints ((t.path id).getD [])) ∧ Chg [] w w' := by
  obtain ⟨W, hW⟩ : ∃ W, W = (((w.alloc (.cells #[.int .i64 (Tr.id t), .int .i64 (Tr.kind t), .string (Tr.text t), .slice A (Tr.kids t).length c] 24)).alloc (.cells #[.int .i64 id] 3)).alloc (.cells #[.slice none 0 0] 109)).alloc (.cells #[.func (.func 146) #[] #[.pointer (some ⟨(w.heap.size + 1), 0, none⟩), .pointer (some ⟨(w.heap.size + 1 + 1), 0, none⟩), .pointer (some ⟨(w.heap.size + 1 + 1 + 1), 0, none⟩)]] 28) := ⟨_, rfl⟩
  have hcW : Chg [] w W := by rw [hW]; exact (by with_reducible repeat (first | exact Chg.refl _ _ | apply Chg.alloc | apply Chg.drew | apply Chg.drewN | (refine Chg.setCell ?_ _ _ (by simp))))
  have b0 : W.heap[w.heap.size]? = some (.cells #[.int .i64 (Tr.id t), .int .i64 (Tr.kind t), .string (Tr.text t), .slice A (Tr.kids t).length c] 24 (0, 0)) := by rw [hW]; exact heap_old (heap_old (heap_old (heap_new _ _ rfl) _) _) _
  have b1 : W.heap[w.heap.size + 1]? = some (.cells #[.int .i64 id] 3 (0, 0)) := by rw [hW]; exact heap_old (heap_old (heap_new _ _ (by simp)) _) _
  have b2 : W.heap[w.heap.size + 1 + 1]? = some (.cells #[.slice none 0 0] 109 (0, 0)) := by rw [hW]; exact heap_old (heap_new _ _ (by simp)) _
  have b3 : W.heap[w.heap.size + 1 + 1 + 1]? = some (.cells #[.func (.func 146) #[] #[.pointer (some ⟨(w.heap.size + 1), 0, none⟩), .pointer (some ⟨(w.heap.size + 1 + 1), 0, none⟩), .pointer (some ⟨(w.heap.size + 1 + 1 + 1), 0, none⟩)]] 28 (0, 0)) := by rw [hW]; exact heap_new _ _ (by simp)
  have hsz : W.heap.size = w.heap.size + 4 := by rw [hW]; simp
  have hcall := path1_any W (w.heap.size + 1) (w.heap.size + 1 + 1) (w.heap.size + 1 + 1 + 1) id b1 b3 (by omega) (by omega) (by omega) t A c [] _ W ⟨b2, OwnI.nil _ _, Chg.refl _ _⟩ ((hT.kept hcW (by simp)).weak (fun b hb _ => ⟨by omega, by omega⟩)) (by simp; omega)
  rw [List.nil_append] at hcall
  obtain ⟨p0, p1, p2, p3⟩ := blk4 b0
  have m3 := cellOne b3
  have HW := Lib.hid (And.intro hW (And.intro hcW (And.intro hsz hcall)))
  rw [hW] at p0 p1 p2 p3 m3
  clear hW hcW b0 b1 b2 b3 hsz hcall hT
  go_enter Try.func119, Try.ntmps119
  go_wp2_with (skip; fail)
  go_at_call 146
  rw [← HW.out.1]
  clear p0 p1 p2 p3 m3
  refine HW.out.2.2.2.mono ?_
  rintro e X ⟨v, rfl, hP⟩
  have x2 := cellOne hP.bx
  have hc : Chg [] w X := HW.out.2.1.andThen hP.chg (by simp <;> omega)
  have hrow : OwnI X w.heap.size v (ints ((t.path id).getD [])) := by
    obtain ⟨h1, h2⟩ := hP.row
    refine ⟨h1, ?_⟩
    rcases h2 with h2 | ⟨g, cap, cur, h3, h4, h5⟩
    · exact .inl h2
    · exact .inr ⟨g, cap, cur, h3, by have := HW.out.2.2.1; omega, h5⟩
  have HX := Lib.hid (And.intro hrow hc)
  clear hP hrow hc
  cases hp : t.path id with
  | none =>
    have HP := Lib.hid hp
    clear hp
    go_wp2_with (skip; fail)
    go_ret2
    exact ⟨.slice none 0 0, by rw [HP.out]; rfl, by rw [HP.out]; exact OwnI.nil _ _, HX.out.2⟩
  | some p =>
    have HP := Lib.hid hp
    clear hp
    go_wp2_with (skip; fail)
    go_ret2
    exact ⟨v, by rw [HP.out]; rfl, HX.out.1, HX.out.2⟩
end Go.Proofs.Ytofjocjljbkjgaa
namespace Go.Proofs.Ytofjocjljbkjgaa
open Go.RowKit
section
variable {P : Program} {ops : Array Oper} {Q : Exit → Act → World → Prop} {md : Region.Mode} {S : World → Prop} {eff brk : Nat → Bool}
theorem M_two {i j : Nat} {oi oj : Oper} {fuel : Nat} {listed : Array Bool} {a : Act} {w : World} (hi0 : ops.toList[i]? = some oi) (hj0 : ops.toList[j]? = some oj) (hr : Region.ready md ops listed = [i, j]) (hei : eff i = true) (hej : eff j = true)
    (h : wpList P ops (EffQ Q (fun a' w' => S w' ∧ wpAnyM P md ops Q S eff brk fuel (listed.setIfInBounds i true) a' w')) [oi] a w)
    (k : wpList P ops (EffQ Q (fun a' w' => S w' ∧ wpAnyM P md ops Q S eff brk fuel (listed.setIfInBounds j true) a' w')) [oj] a w) : wpAnyM P md ops Q S eff brk (fuel + 1) listed a w := by
  have key : ∀ (x : Nat) (ox : Oper), ops[x]? = some ox → eff x = true → wpList P ops (EffQ Q (fun a' w' => S w' ∧ wpAnyM P md ops Q S eff brk fuel (listed.setIfInBounds x true) a' w')) [ox] a w →
      wpOp P ops Q x (fun a' w' => (eff x = false → w' = w) ∧ (brk x = false → S w → S w') ∧ wpAnyM P md ops Q S eff brk fuel (listed.setIfInBounds x true) a' w') a w := by
    intro x ox hx he h
    refine wpOp_mono (K := fun a' w' => S w' ∧ wpAnyM P md ops Q S eff brk fuel (listed.setIfInBounds x true) a' w') (fun a' w' h => ⟨fun h0 => (by rw [he] at h0; cases h0), fun _ _ => h.1, h.2⟩) ?_
    unfold wpOp
    simp only [hx]
    unfold wpList at h
    split
    · rename_i hw
      rw [if_pos hw] at h
      rcases h with h | ⟨h1, a', w', h2⟩
      · exact .inl (wp_of_EffQ (Oper.wp_mono (fun a w h => h) h))
      · exact .inr ⟨h1, a', w', h2⟩
    · rename_i hw
      rw [if_neg hw] at h
      exact h
  refine ⟨fun h0 => (by rw [h0] at hr; cases hr), fun x hx => ?_⟩
  rw [hr] at hx
  rcases List.mem_cons.1 hx with rfl | hx
  · exact key _ _ (by simpa using hi0) hei h
  · obtain rfl := List.mem_singleton.1 hx
    exact key _ _ (by simpa using hj0) hej k
end
end Go.Proofs.Ytofjocjljbkjgaa
namespace Go.Proofs.Ytofjocjljbkjgaa
open Go.RowKit
structure AtS (w : World) (x : Tr) (A : Option Addr) (c : Nat) (W : World) : Prop where
  bx : W.heap[w.heap.size]? = some (.cells #[.int .i64 (Tr.id x), .int .i64 (Tr.kind x), .string (Tr.text x), .slice A (Tr.kids x).length c] 24 (0, 0))
  res : W.heap[w.heap.size + 1]? = some (.cells #[.int .i64 0, .int .i64 0, .string ⟨#[]⟩, .slice none 0 0] 24 (0, 0))
  chg : Chg [] w W
theorem at_cons {i : Nat} {p : List Nat} {t y : Tr} (h : Tr.at? (i :: p) t = some y) : ∃ (hi : i < t.kids.length), Tr.at? p t.kids[i] = some y := by
  unfold Tr.at? at h
  split at h
  · rename_i k hk
    obtain ⟨hi, rfl⟩ := List.getElem?_eq_some_iff.1 hk
    exact ⟨hi, h⟩
  · cases h
set_option maxHeartbeats 4000000 in
set_option maxRecDepth 100000 in
theorem pat_any (t y : Tr) (A : Option Addr) (c : Nat) (l : List Nat) (B : Option Addr) (d : Nat) (w : World) (hT : TrC (fun b => b < w.heap.size) w t [.int .i64 (Tr.id t), .int .i64 (Tr.kind t), .string (Tr.text t), .slice A (Tr.kids t).length c]) (hB : RowP w 1 IntAt B (ints l)) (hy : Tr.at? l t = some y) (hl : l.length ≤ 1000000) (hn : t.nodes ≤ 1000000) :
    Calls Try.prog 158 #[.agg #[.int .i64 (Tr.id t), .int .i64 (Tr.kind t), .string (Tr.text t), .slice A (Tr.kids t).length c], .slice B l.length d] w fun e w' => ∃ A' c', e = .returned (.tuple #[.agg #[.int .i64 (Tr.id y), .int .i64 (Tr.kind y), .string (Tr.text y), .slice A' (Tr.kids y).length c'], .bool true]) ∧ TrC (fun b => b < w.heap.size) w' y [.int .i64 (Tr.id y), .int .i64 (Tr.kind y), .string (Tr.text y), .slice A' (Tr.kids y).length c'] ∧ Chg [] w w' := by
  obtain ⟨W, hW⟩ : ∃ W, W = (w.alloc (.cells #[.int .i64 (Tr.id t), .int .i64 (Tr.kind t), .string (Tr.text t), .slice A (Tr.kids t).length c] 24)).alloc (.cells #[.int .i64 0, .int .i64 0, .string ⟨#[]⟩, .slice none 0 0] 24) := ⟨_, rfl⟩
  have hS : AtS w t A c W := ⟨by rw [hW]; exact heap_old (heap_new _ _ rfl) _, by rw [hW]; exact heap_new _ _ (by simp), by rw [hW]; exact (by with_reducible repeat (first | exact Chg.refl _ _ | apply Chg.alloc | apply Chg.drew | apply Chg.drewN | (refine Chg.setCell ?_ _ _ (by simp))))⟩
  have HH := Lib.hid (And.intro hS (And.intro hW (And.intro hB (And.intro hy hT))))
  clear hS hW hB hy hT
  go_enter Try.func158, Try.ntmps158
  go_wp2_with (skip; fail)
  rw [← HH.out.2.1]
  go_loopw [10] (fun iv wr => ∃ k : Nat, k ≤ l.length ∧ iv = .int .i64 k ∧ Hid (∃ x A c, AtS w x A c wr ∧ Tr.at? (l.drop k) x = some y ∧ TrC (fun b => b < w.heap.size) w x [.int .i64 (Tr.id x), .int .i64 (Tr.kind x), .string (Tr.text x), .slice A (Tr.kids x).length c] ∧ x.nodes ≤ 1000000)) (fun iv _ => l.length - (intOf iv).toNat)
  case atStart => exact ⟨0, Nat.zero_le _, rfl, ⟨t, A, c, HH.out.1, HH.out.2.2.2.1, HH.out.2.2.2.2, hn⟩⟩
  case round =>
    obtain ⟨k, hk, rfl, H0⟩ := hrel
    obtain ⟨V, hV⟩ : ∃ V, V = wr := ⟨_, rfl⟩
    subst hV
    obtain ⟨x, A1, c1, hS, hat, hT, hxn⟩ := H0.out
    clear H0
    obtain ⟨p0, p1, p2, p3⟩ := blk4 hS.bx
    have f0 := blkF hS.bx 0
    have f1 := blkF hS.bx 1
    have f2 := blkF hS.bx 2
    have f3 := blkF hS.bx 3
    by_cases hlt : k < l.length
    · obtain ⟨n, hnl⟩ : ∃ n, n = l[k] := ⟨_, rfl⟩
      rw [List.drop_eq_getElem_cons hlt, ← hnl] at hat
      obtain ⟨hi, hat2⟩ := at_cons hat
      obtain ⟨A', c', hcs, hlc, hcm, htx, hK⟩ := hT.opens
      simp only [List.cons.injEq, Value.slice.injEq, true_and, and_true] at hcs
      obtain ⟨rfl, rfl⟩ := hcs
      obtain ⟨gk, ok, hA, hokg, cs, hr, hTk⟩ := hK.at hi
      subst hA
      obtain ⟨z, hz⟩ : ∃ z, z = x.kids[n] := ⟨_, rfl⟩
      rw [← hz] at hTk hat2
      obtain ⟨Ak, ck, hcsk, _⟩ := hTk.opens
      subst hcsk
      have hzn : z.nodes ≤ 1000000 := by have h1 := nodesL_mem (List.getElem_mem hi); have h2 := x.nodes_eq; rw [← hz] at h1; omega
      have hr' : V.rangeAt gk (ok + n * 4) [.int .i64 (Tr.id z), .int .i64 (Tr.kind z), .string (Tr.text z), .slice Ak (Tr.kids z).length ck] := hS.chg.range hr (by simp)
      obtain ⟨gb, ob, hBe, hgb, hIb⟩ := HH.out.2.2.1.at (show k < (ints l).length by rw [ints_len]; exact hlt)
      have hin : (ints l)[k]'(by rw [ints_len]; exact hlt) = (n : Int) := by simp [ints, hnl]
      rw [hin] at hIb
      have c0 : V.cell? ⟨gb, ob + k, none⟩ = some (.int .i64 n) := by have := hS.chg.cell hIb (by simp); rwa [Nat.mul_one] at this
      subst hBe
      have d1 : decide ((n : Int) < 0) = false := decide_eq_false (by omega)
      have d2 : decide ((x.kids.length : Int) ≤ (n : Int)) = false := decide_eq_false (by omega)
      have d2' : decide (x.kids.length ≤ n) = false := decide_eq_false (by omega)
      have hkl : x.kids.length ≤ 1000000 := by have := x.kids_le; omega
      have HC := Lib.hid (And.intro hr' (And.intro hTk (And.intro hat2 (And.intro hS hzn))))
      clear hr' hTk hat2 hS hzn hin hIb hgb hr hz hat hnl hT hK hokg
      go_wp2_with (first
        | (refine wpList_load_mid rfl 24 (.tmp 27) rfl gk (ok + n * 4) rfl _ _ HC.out.1 Try.underlying24 rfl szNode ?_)
        | (skip; fail))
      go_roundw
      case rel =>
        have hc4 := chg4 V w.heap.size (.int .i64 z.id) (.int .i64 z.kind) (.string z.text) (.slice Ak z.kids.length ck)
        exact ⟨k + 1, by omega, by go_num, Lib.hid ⟨z, Ak, ck, ⟨set4 HC.out.2.2.2.1.bx, hc4.at HC.out.2.2.2.1.res (by simp), HC.out.2.2.2.1.chg.andThen hc4 (by simp)⟩, HC.out.2.2.1, HC.out.2.1, HC.out.2.2.2.2⟩⟩
      case measure => simp [intOf]; omega
    · obtain rfl : k = l.length := by omega
      rw [List.drop_length] at hat
      obtain rfl : x = y := by simpa [Tr.at?] using hat
      obtain ⟨q0, q1, q2, q3⟩ := blk4 hS.res
      have g0 := blkF hS.res 0
      have g1 := blkF hS.res 1
      have g2 := blkF hS.res 2
      have g3 := blkF hS.res 3
      have HC := Lib.hid (And.intro hS hT)
      clear hS hT hat
      go_wp2_with (skip; fail)
      have hc4 := chg4 V (w.heap.size + 1) (.int .i64 x.id) (.int .i64 x.kind) (.string x.text) (.slice A1 x.kids.length c1)
      refine bodyPost_ret (v := .tuple #[.agg #[.int .i64 (Tr.id x), .int .i64 (Tr.kind x), .string (Tr.text x), .slice A1 (Tr.kids x).length c1], .bool true]) (results_row_tmp rfl _ _ (w.heap.size + 1) _ _ _ _ _ rfl rfl (set4 HC.out.1.res) Try.underlying24 rfl szNode) rfl ?_
      exact ⟨A1, c1, rfl, (HC.out.2.kept HC.out.1.chg (by simp)).kept hc4 (fun b hb => by simp; omega), HC.out.1.chg.andThen hc4 (by simp)⟩
end Go.Proofs.Ytofjocjljbkjgaa
namespace Go.Proofs.Ytofjocjljbkjgaa
open Go.RowKit
theorem at_len : ∀ (p : List Nat) (t x : Tr), Tr.at? p t = some x → p.length + x.nodes ≤ t.nodes
  | [], t, x, h => by simp [Tr.at?] at h; subst h; simp
  | i :: p, t, x, h => by
    obtain ⟨hi, h2⟩ := at_cons h
    have h3 := at_len p _ x h2
    have h4 := nodesL_mem (List.getElem_mem hi)
    have h5 := t.nodes_eq
    simp only [List.length_cons]; omega
theorem RowP.chg {A : Option Addr} {xs : List Int} {W W' : World} (h : RowP W 1 IntAt A xs) (hc : Chg [] W W') : RowP W' 1 IntAt A xs := h.imp hc.size fun g o x hx => hc.cell hx (by simp)
theorem OwnI.rowp {W : World} {base n c : Nat} {A : Option Addr} {xs : List Int} (h : OwnI W base (.slice A n c) xs) (hn : xs.length = n) : RowP W 1 IntAt A xs := by subst hn; exact h.row
def parT (id : Int) (t : Tr) : Option (Tr × Nat) := match t.path id with
  | none => none
  | some p => match p.getLast? with
    | none => none
    | some n => (Tr.at? p.dropLast t).map (fun y => (y, n))
def parV (r : Option (Tr × Nat)) : Value := match r with
  | none => .tuple #[.int .i64 0, .int .i64 0, .bool false]
  | some (y, n) => .tuple #[.int .i64 y.id, .int .i64 n, .bool true]
set_option maxHeartbeats 4000000 in
set_option maxRecDepth 100000 in
theorem parent_any (t : Tr) (A : Option Addr) (c : Nat) (id : Int) (w : World) (hT : TrC (fun b => b < w.heap.size) w t [.int .i64 (Tr.id t), .int .i64 (Tr.kind t), .string (Tr.text t), .slice A (Tr.kids t).length c]) (hn : t.nodes ≤ 100000) : Calls Try.prog 141 #[.agg #[.int .i64 (Tr.id t), .int .i64 (Tr.kind t), .string (Tr.text t), .slice A (Tr.kids t).length c], .int .i64 id] w fun e w' => e = .returned (parV (parT id t)) ∧ Chg [] w w' := by
  obtain ⟨W, hW⟩ : ∃ W, W = w.alloc (.cells #[.int .i64 (Tr.id t), .int .i64 (Tr.kind t), .string (Tr.text t), .slice A (Tr.kids t).length c] 24) := ⟨_, rfl⟩
  have hcW : Chg [] w W := by rw [hW]; exact (by with_reducible repeat (first | exact Chg.refl _ _ | apply Chg.alloc | apply Chg.drew | apply Chg.drewN | (refine Chg.setCell ?_ _ _ (by simp))))
  have b0 : W.heap[w.heap.size]? = some (.cells #[.int .i64 (Tr.id t), .int .i64 (Tr.kind t), .string (Tr.text t), .slice A (Tr.kids t).length c] 24 (0, 0)) := by rw [hW]; exact heap_new _ _ rfl
  have hcall := pathp_any t A c id W ((hT.kept hcW (by simp)).weak (fun b hb _ => Nat.lt_of_lt_of_le hb hcW.size)) hn
  obtain ⟨p0, p1, p2, p3⟩ := blk4 b0
  have HW := Lib.hid (And.intro hW (And.intro hcW (And.intro b0 (And.intro hcall hT))))
  rw [hW] at p0 p1 p2 p3
  clear hW hcW b0 hcall hT
  go_enter Try.func141, Try.ntmps141
  go_wp2_with (skip; fail)
  rw [← HW.out.1]
  clear p0 p1 p2 p3
  refine HW.out.2.2.2.1.mono ?_
  rintro e X ⟨v, rfl, hrow, hX⟩
  have HX := Lib.hid (And.intro hrow (And.intro (HW.out.2.1.trans hX) (hX.at HW.out.2.2.1 (by simp))))
  clear hX
  have hno : (t.path id).getD [] = [] → parT id t = none := fun h => by
    unfold parT
    cases hp : t.path id with
    | none => rfl
    | some p => rw [hp] at h; simp at h; subst h; rfl
  cases hq : ((t.path id).getD []).getLast? with
  | none =>
    have h0 : (t.path id).getD [] = [] := by simpa using hq
    have HP := Lib.hid (hno h0)
    rw [h0] at hrow
    obtain ⟨A1, c1, hv⟩ := hrow.slice
    rw [show (ints []).length = 0 from rfl] at hv
    subst hv
    clear hrow h0 hno hq
    go_wp2_with (skip; fail)
    go_ret3
    exact ⟨by rw [HP.out]; rfl, HX.out.2.1⟩
  | some n =>
    obtain ⟨q, hq2⟩ : ∃ q, (t.path id).getD [] = q ++ [n] := List.getLast?_eq_some_iff.1 hq
    obtain ⟨p, hp⟩ : ∃ p, t.path id = some p := by
      cases hp : t.path id with
      | none => rw [hp] at hq2; simp at hq2
      | some p => exact ⟨p, rfl⟩
    have hpq : p = q ++ [n] := by rw [hp] at hq2; exact hq2
    obtain ⟨x, hx, _⟩ := Tr.path_at id t p hp
    obtain ⟨y, hy⟩ : ∃ y, Tr.at? q t = some y := by
      rw [hpq, at_append] at hx
      cases h : Tr.at? q t with
      | none => rw [h] at hx; cases hx
      | some y => exact ⟨y, rfl⟩
    have hpar : parT id t = some (y, n) := by unfold parT; rw [hp]; subst hpq; simp [hy]
    have hql : q.length ≤ 1000000 := by have := at_len q t y hy; omega
    rw [hq2, ints_snoc] at hrow
    obtain ⟨g2, c2, hv, hle, hmx, hcut⟩ := hrow.cut
    rw [ints_len] at hv hle hcut
    subst hv
    unfold maxLen at hmx
    have HP := Lib.hid (And.intro hpar (And.intro hy (And.intro hcut hrow)))
    have hps : (t.path id).isSome = true := by rw [hp]; rfl
    have HS := Lib.hid hps
    rw [hps]
    clear hno hq hq2 hpq hx hy hpar hcut hrow hp hps
    go_wp2_with (skip; fail)
    refine wp_region_M (fun W => W.rangeAt w.heap.size 0 [.int .i64 (Tr.id t), .int .i64 (Tr.kind t), .string (Tr.text t), .slice A (Tr.kids t).length c]) (fun k => [5, 9, 10].contains k) (fun k => [10].contains k) (by kernel_rfl) ?_
    obtain ⟨Z, hZ⟩ : ∃ Z, Z = X.drew := ⟨_, rfl⟩
    rw [← hZ]
    have hcZ : Chg [] X Z := by rw [hZ]; exact (Chg.refl _ _).drew
    have hS : Z.rangeAt w.heap.size 0 [.int .i64 (Tr.id t), .int .i64 (Tr.kind t), .string (Tr.text t), .slice A (Tr.kids t).length c] := range_all (hcZ.at HX.out.2.2 (by simp))
    have hat : ∀ Z' : World, Chg [] Z Z' → Calls Try.prog 158 #[.agg #[.int .i64 (Tr.id t), .int .i64 (Tr.kind t), .string (Tr.text t), .slice A (Tr.kids t).length c], .slice (some ⟨g2, 0, none⟩) q.length q.length] Z' _ := fun Z' hc => pat_any t y A c q (some ⟨g2, 0, none⟩) q.length Z' (((HW.out.2.2.2.2.kept HX.out.2.1 (by simp)).kept (hcZ.trans hc) (by simp)).weak (fun b hb _ => Nat.lt_of_lt_of_le hb (HX.out.2.1.trans (hcZ.trans hc)).size)) ((HP.out.2.2.1.rowp (ints_len q)).chg (hcZ.trans hc)) HP.out.2.1 hql (by omega)
    have HZ := Lib.hid (And.intro hat (And.intro hS hcZ))
    clear hat hcZ hZ
    have hmin : (0 : Int) ≤ (q.length : Int) := by omega
    have hmax : (q.length : Int) ≤ c2 := by omega
    ((try dsimp only); (try simp only [Act.put, List.setIfInBounds_toArray, List.set_cons_zero, List.set_cons_succ]))
    refine M_semi (i := 0) rfl (by kernel_rfl) (by kernel_rfl) (by kernel_rfl) (by kernel_rfl) (fun _ _ _ h => h) (by rfl) hS (fun W hS => exec_load_mid 24 (.tmp 2) rfl w.heap.size 0 rfl _ _ hS Try.underlying24 rfl szNode) ?_; ((try dsimp only); (try simp only [Act.put, List.setIfInBounds_toArray, List.set_cons_zero, List.set_cons_succ]))
    refine M_pure (i := 1) (v := ?_) rfl (by kernel_rfl) (by kernel_rfl) (by kernel_rfl) (fun _ _ _ h => h) (by rfl) ?hy ?_; (case hy => (intro w; go_simp; with_reducible rfl)); ((try dsimp only); (try simp only [Act.put, List.setIfInBounds_toArray, List.set_cons_zero, List.set_cons_succ]))
    refine M_pure (i := 2) (v := ?_) rfl (by kernel_rfl) (by kernel_rfl) (by kernel_rfl) (fun _ _ _ h => h) (by rfl) ?hy ?_; (case hy => (intro w; go_simp; with_reducible rfl)); ((try dsimp only); (try simp only [Act.put, List.setIfInBounds_toArray, List.set_cons_zero, List.set_cons_succ]))
    refine M_pure (i := 3) (v := ?_) rfl (by kernel_rfl) (by kernel_rfl) (by kernel_rfl) (fun _ _ _ h => h) (by rfl) ?hy ?_; (case hy => (intro w; go_simp; with_reducible rfl)); ((try dsimp only); (try simp only [Act.put, List.setIfInBounds_toArray, List.set_cons_zero, List.set_cons_succ]))
    refine M_pure (i := 4) (v := ?_) rfl (by kernel_rfl) (by kernel_rfl) (by kernel_rfl) (fun _ _ _ h => h) (by rfl) ?hy ?_; (case hy => (intro w; go_simp; with_reducible rfl)); ((try dsimp only); (try simp only [Act.put, List.setIfInBounds_toArray, List.set_cons_zero, List.set_cons_succ]))
    refine M_two (i := 5) (j := 9) rfl rfl (by kernel_rfl) (by rfl) (by rfl) ?_ ?_
    · go_wp2_with fail
      refine (HZ.out.1 Z (Chg.refl _ _)).mono ?_
      rintro e Y ⟨A', c', rfl, hTy, hc⟩
      have HY := Lib.hid (And.intro hTy (And.intro hc ((HX.out.2.1.trans HZ.out.2.2).trans hc)))
      have hS2 : Y.rangeAt w.heap.size 0 [.int .i64 (Tr.id t), .int .i64 (Tr.kind t), .string (Tr.text t), .slice A (Tr.kids t).length c] := hc.range hS (by simp)
      clear hTy hc hS hmin hmax
      go_wp2_with fail
      refine ⟨hS2, ?_⟩
      refine M_pure (i := 6) (v := ?_) rfl (by kernel_rfl) (by kernel_rfl) (by kernel_rfl) (fun _ _ _ h => h) (by rfl) ?hy ?_; (case hy => (intro w; go_simp; with_reducible rfl)); ((try dsimp only); (try simp only [Act.put, List.setIfInBounds_toArray, List.set_cons_zero, List.set_cons_succ]))
      refine M_pure (i := 7) (v := ?_) rfl (by kernel_rfl) (by kernel_rfl) (by kernel_rfl) (fun _ _ _ h => h) (by rfl) ?hy ?_; (case hy => (intro w; go_simp; with_reducible rfl)); ((try dsimp only); (try simp only [Act.put, List.setIfInBounds_toArray, List.set_cons_zero, List.set_cons_succ]))
      refine M_pure (i := 8) (v := ?_) rfl (by kernel_rfl) (by kernel_rfl) (by kernel_rfl) (fun _ _ _ h => h) (by rfl) ?hy ?_; (case hy => (intro w; go_simp; with_reducible rfl)); ((try dsimp only); (try simp only [Act.put, List.setIfInBounds_toArray, List.set_cons_zero, List.set_cons_succ]))
      refine M_eff (i := 9) rfl (by kernel_rfl) (by rfl) ?_
      go_wp2_with fail
      refine ⟨range_all (heap_old (HY.out.2.1.at (HZ.out.2.2.at HX.out.2.2 (by simp)) (by simp)) _), ?_⟩
      clear hS2
      refine M_brk (i := 10) rfl (by kernel_rfl) (by rfl) (by rfl) ?_
      go_wp2_with fail
      ((try dsimp only [EffQ]); (try simp only [Act.put, List.setIfInBounds_toArray, List.set_cons_zero, List.set_cons_succ]))
      refine M_pure (i := 11) (v := ?_) rfl (by kernel_rfl) (by kernel_rfl) (by kernel_rfl) (fun _ _ _ h => h) (by rfl) ?hy ?_; (case hy => (intro w; go_simp; with_reducible rfl)); ((try dsimp only); (try simp only [Act.put, List.setIfInBounds_toArray, List.set_cons_zero, List.set_cons_succ]))
      refine M_done (by kernel_rfl) ?_ _
      obtain ⟨V, hV⟩ : ∃ V, V = Y.alloc (.cells #[.int .i64 (Tr.id y), .int .i64 (Tr.kind y), .string (Tr.text y), .slice A' (Tr.kids y).length c'] 24) := ⟨_, rfl⟩
      have hb : V.heap[Y.heap.size]? = some (.cells #[.int .i64 (Tr.id y), .int .i64 (Tr.kind y), .string (Tr.text y), .slice A' (Tr.kids y).length c'] 24 (0, 0)) := by rw [hV]; exact heap_new _ _ rfl
      have hcV : Chg [] X V := by rw [hV]; exact (HZ.out.2.2.trans HY.out.2.1).trans (by with_reducible repeat (first | exact Chg.refl _ _ | apply Chg.alloc | apply Chg.drew | apply Chg.drewN | (refine Chg.setCell ?_ _ _ (by simp))))
      rw [← hV]
      clear hV
      have hc5 : X.cell? ⟨g2, q.length, none⟩ = some (.int .i64 n) := by
        obtain ⟨g, o, hA, _, hI⟩ := (HP.out.2.2.2.rowp (by simp [ints_len])).at (show q.length < (ints q ++ [(n : Int)]).length by simp [ints_len])
        simp only [Option.some.injEq, Addr.mk.injEq, and_true] at hA
        obtain ⟨rfl, rfl⟩ := hA
        have he : (ints q ++ [(n : Int)])[q.length]'(by simp [ints_len]) = (n : Int) := by rw [List.getElem_append_right (by simp [ints_len])]; simp [ints_len]
        unfold IntAt at hI
        rw [he, Nat.mul_one, Nat.zero_add] at hI
        exact hI
      go_wp2_with (skip; fail)
      refine wp_region_M (fun _ => True) (fun k => [].contains k) (fun k => [].contains k) (by kernel_rfl) ?_
      obtain ⟨V2, hV2⟩ : ∃ V2, V2 = V.drew := ⟨_, rfl⟩
      rw [← hV2]
      have hd : Chg [] V V2 := by rw [hV2]; exact (Chg.refl _ _).drew
      obtain ⟨v0, v1, v2, v3⟩ := blk4 (hd.at hb (by simp))
      have c5 := (hcV.trans hd).cell hc5 (by simp)
      have hql0 : (0 : Int) ≤ (q.length : Int) := by omega
      have hqln : (q.length : Int) < (q.length : Int) + 1 := by omega
      clear hV2 hb hc5
      ((try dsimp only); (try simp only [Act.put, List.setIfInBounds_toArray, List.set_cons_zero, List.set_cons_succ]))
      refine M_pure (i := 0) (v := ?_) rfl (by kernel_rfl) (by kernel_rfl) (by kernel_rfl) (fun _ _ _ h => h) (by rfl) ?hy ?_; (case hy => (intro w; go_simp; with_reducible rfl)); ((try dsimp only); (try simp only [Act.put, List.setIfInBounds_toArray, List.set_cons_zero, List.set_cons_succ]))
      refine M_take (i := 1) (v := ?_) rfl (by kernel_rfl) (by kernel_rfl) (by kernel_rfl) (by kernel_rfl) (fun _ _ _ h => h) (by rfl) ?hy ?_; (case hy => (go_simp; with_reducible rfl)); ((try dsimp only); (try simp only [Act.put, List.setIfInBounds_toArray, List.set_cons_zero, List.set_cons_succ]))
      refine M_pure (i := 2) (v := ?_) rfl (by kernel_rfl) (by kernel_rfl) (by kernel_rfl) (fun _ _ _ h => h) (by rfl) ?hy ?_; (case hy => (intro w; go_simp; with_reducible rfl)); ((try dsimp only); (try simp only [Act.put, List.setIfInBounds_toArray, List.set_cons_zero, List.set_cons_succ]))
      refine M_pure (i := 3) (v := ?_) rfl (by kernel_rfl) (by kernel_rfl) (by kernel_rfl) (fun _ _ _ h => h) (by rfl) ?hy ?_; (case hy => (intro w; go_simp; with_reducible rfl)); ((try dsimp only); (try simp only [Act.put, List.setIfInBounds_toArray, List.set_cons_zero, List.set_cons_succ]))
      refine M_pure (i := 4) (v := ?_) rfl (by kernel_rfl) (by kernel_rfl) (by kernel_rfl) (fun _ _ _ h => h) (by rfl) ?hy ?_; (case hy => (intro w; go_simp; with_reducible rfl)); ((try dsimp only); (try simp only [Act.put, List.setIfInBounds_toArray, List.set_cons_zero, List.set_cons_succ]))
      refine M_take (i := 5) (v := ?_) rfl (by kernel_rfl) (by kernel_rfl) (by kernel_rfl) (by kernel_rfl) (fun _ _ _ h => h) (by rfl) ?hy ?_; (case hy => (go_simp; with_reducible rfl)); ((try dsimp only); (try simp only [Act.put, List.setIfInBounds_toArray, List.set_cons_zero, List.set_cons_succ]))
      refine M_pure (i := 6) (v := ?_) rfl (by kernel_rfl) (by kernel_rfl) (by kernel_rfl) (fun _ _ _ h => h) (by rfl) ?hy ?_; (case hy => (intro w; go_simp; with_reducible rfl)); ((try dsimp only); (try simp only [Act.put, List.setIfInBounds_toArray, List.set_cons_zero, List.set_cons_succ]))
      refine M_pure (i := 7) (v := ?_) rfl (by kernel_rfl) (by kernel_rfl) (by kernel_rfl) (fun _ _ _ h => h) (by rfl) ?hy ?_; (case hy => (intro w; go_simp; with_reducible rfl)); ((try dsimp only); (try simp only [Act.put, List.setIfInBounds_toArray, List.set_cons_zero, List.set_cons_succ]))
      refine M_pure (i := 8) (v := ?_) rfl (by kernel_rfl) (by kernel_rfl) (by kernel_rfl) (fun _ _ _ h => h) (by rfl) ?hy ?_; (case hy => (intro w; go_simp; with_reducible rfl)); ((try dsimp only); (try simp only [Act.put, List.setIfInBounds_toArray, List.set_cons_zero, List.set_cons_succ]))
      refine M_pure (i := 9) (v := ?_) rfl (by kernel_rfl) (by kernel_rfl) (by kernel_rfl) (fun _ _ _ h => h) (by rfl) ?hy ?_; (case hy => (intro w; go_simp; with_reducible rfl)); ((try dsimp only); (try simp only [Act.put, List.setIfInBounds_toArray, List.set_cons_zero, List.set_cons_succ]))
      refine M_done (by kernel_rfl) ?_ _
      go_wp2_with (skip; fail)
      go_ret3
      exact ⟨by rw [HP.out.1]; rfl, HX.out.2.1.trans (hcV.trans hd)⟩
    · go_wp2_with fail
      have hcZ1 : Chg [] Z (Z.alloc (.cells #[.int .i64 0, .int .i64 0, .string ⟨#[]⟩, .slice none 0 0] 24)) := (by with_reducible repeat (first | exact Chg.refl _ _ | apply Chg.alloc | apply Chg.drew | apply Chg.drewN | (refine Chg.setCell ?_ _ _ (by simp))))
      obtain ⟨Z1, hZ1⟩ : ∃ Z1, Z1 = Z.alloc (.cells #[.int .i64 0, .int .i64 0, .string ⟨#[]⟩, .slice none 0 0] 24) := ⟨_, rfl⟩
      have hbz : Z1.heap[Z.heap.size]? = some (.cells #[.int .i64 0, .int .i64 0, .string ⟨#[]⟩, .slice none 0 0] 24 (0, 0)) := by rw [hZ1]; exact heap_new _ _ rfl
      rw [← hZ1] at hcZ1 ⊢
      clear hZ1
      have hS2 : Z1.rangeAt w.heap.size 0 [.int .i64 (Tr.id t), .int .i64 (Tr.kind t), .string (Tr.text t), .slice A (Tr.kids t).length c] := hcZ1.range hS (by simp)
      clear hS
      refine ⟨hS2, ?_⟩
      refine M_eff (i := 5) rfl (by kernel_rfl) (by rfl) ?_
      go_wp2_with fail
      refine (HZ.out.1 Z1 hcZ1).mono ?_
      rintro e Y ⟨A', c', rfl, hTy, hc⟩
      have hS3 : Y.rangeAt w.heap.size 0 [.int .i64 (Tr.id t), .int .i64 (Tr.kind t), .string (Tr.text t), .slice A (Tr.kids t).length c] := hc.range hS2 (by simp)
      have hby := hc.at hbz (by simp)
      obtain ⟨z0, z1, z2, z3⟩ := blk4 hby
      have f0 := blkF hby 0
      have f1 := blkF hby 1
      have f2 := blkF hby 2
      have f3 := blkF hby 3
      have HY := Lib.hid (And.intro hTy (And.intro (hcZ1.trans hc) hby))
      clear hTy hc hS2 hmin hmax hby hbz hcZ1
      go_wp2_with fail
      refine ⟨hS3, ?_⟩
      refine M_pure (i := 6) (v := ?_) rfl (by kernel_rfl) (by kernel_rfl) (by kernel_rfl) (fun _ _ _ h => h) (by rfl) ?hy ?_; (case hy => (intro w; go_simp; with_reducible rfl)); ((try dsimp only); (try simp only [Act.put, List.setIfInBounds_toArray, List.set_cons_zero, List.set_cons_succ]))
      refine M_pure (i := 7) (v := ?_) rfl (by kernel_rfl) (by kernel_rfl) (by kernel_rfl) (fun _ _ _ h => h) (by rfl) ?hy ?_; (case hy => (intro w; go_simp; with_reducible rfl)); ((try dsimp only); (try simp only [Act.put, List.setIfInBounds_toArray, List.set_cons_zero, List.set_cons_succ]))
      refine M_pure (i := 8) (v := ?_) rfl (by kernel_rfl) (by kernel_rfl) (by kernel_rfl) (fun _ _ _ h => h) (by rfl) ?hy ?_; (case hy => (intro w; go_simp; with_reducible rfl)); ((try dsimp only); (try simp only [Act.put, List.setIfInBounds_toArray, List.set_cons_zero, List.set_cons_succ]))
      clear hS3
      refine M_brk (i := 10) rfl (by kernel_rfl) (by rfl) (by rfl) ?_
      go_wp2_with fail
      ((try dsimp only [EffQ]); (try simp only [Act.put, List.setIfInBounds_toArray, List.set_cons_zero, List.set_cons_succ]))
      refine M_pure (i := 11) (v := ?_) rfl (by kernel_rfl) (by kernel_rfl) (by kernel_rfl) (fun _ _ _ h => h) (by rfl) ?hy ?_; (case hy => (intro w; go_simp; with_reducible rfl)); ((try dsimp only); (try simp only [Act.put, List.setIfInBounds_toArray, List.set_cons_zero, List.set_cons_succ]))
      refine M_done (by kernel_rfl) ?_ _
      obtain ⟨V, hV⟩ : ∃ V, V = (((Y.setCell ⟨Z.heap.size, 0, none⟩ (.int .i64 y.id)).setCell ⟨Z.heap.size, 1, none⟩ (.int .i64 y.kind)).setCell ⟨Z.heap.size, 2, none⟩ (.string y.text)).setCell ⟨Z.heap.size, 3, none⟩ (.slice A' y.kids.length c') := ⟨_, rfl⟩
      have hb : V.heap[Z.heap.size]? = some (.cells #[.int .i64 (Tr.id y), .int .i64 (Tr.kind y), .string (Tr.text y), .slice A' (Tr.kids y).length c'] 24 (0, 0)) := by rw [hV]; exact set4 HY.out.2.2
      have hcV : Chg [] X V := by rw [hV]; exact (HZ.out.2.2.trans HY.out.2.1).andThen (chg4 _ _ _ _ _ _) (by have := HZ.out.2.2.size; simp; omega)
      rw [← hV]
      clear hV
      have hc5 : X.cell? ⟨g2, q.length, none⟩ = some (.int .i64 n) := by
        obtain ⟨g, o, hA, _, hI⟩ := (HP.out.2.2.2.rowp (by simp [ints_len])).at (show q.length < (ints q ++ [(n : Int)]).length by simp [ints_len])
        simp only [Option.some.injEq, Addr.mk.injEq, and_true] at hA
        obtain ⟨rfl, rfl⟩ := hA
        have he : (ints q ++ [(n : Int)])[q.length]'(by simp [ints_len]) = (n : Int) := by rw [List.getElem_append_right (by simp [ints_len])]; simp [ints_len]
        unfold IntAt at hI
        rw [he, Nat.mul_one, Nat.zero_add] at hI
        exact hI
      go_wp2_with (skip; fail)
      refine wp_region_M (fun _ => True) (fun k => [].contains k) (fun k => [].contains k) (by kernel_rfl) ?_
      obtain ⟨V2, hV2⟩ : ∃ V2, V2 = V.drew := ⟨_, rfl⟩
      rw [← hV2]
      have hd : Chg [] V V2 := by rw [hV2]; exact (Chg.refl _ _).drew
      obtain ⟨v0, v1, v2, v3⟩ := blk4 (hd.at hb (by simp))
      have c5 := (hcV.trans hd).cell hc5 (by simp)
      have hql0 : (0 : Int) ≤ (q.length : Int) := by omega
      have hqln : (q.length : Int) < (q.length : Int) + 1 := by omega
      clear hV2 hb hc5
      ((try dsimp only); (try simp only [Act.put, List.setIfInBounds_toArray, List.set_cons_zero, List.set_cons_succ]))
      refine M_pure (i := 0) (v := ?_) rfl (by kernel_rfl) (by kernel_rfl) (by kernel_rfl) (fun _ _ _ h => h) (by rfl) ?hy ?_; (case hy => (intro w; go_simp; with_reducible rfl)); ((try dsimp only); (try simp only [Act.put, List.setIfInBounds_toArray, List.set_cons_zero, List.set_cons_succ]))
      refine M_take (i := 1) (v := ?_) rfl (by kernel_rfl) (by kernel_rfl) (by kernel_rfl) (by kernel_rfl) (fun _ _ _ h => h) (by rfl) ?hy ?_; (case hy => (go_simp; with_reducible rfl)); ((try dsimp only); (try simp only [Act.put, List.setIfInBounds_toArray, List.set_cons_zero, List.set_cons_succ]))
      refine M_pure (i := 2) (v := ?_) rfl (by kernel_rfl) (by kernel_rfl) (by kernel_rfl) (fun _ _ _ h => h) (by rfl) ?hy ?_; (case hy => (intro w; go_simp; with_reducible rfl)); ((try dsimp only); (try simp only [Act.put, List.setIfInBounds_toArray, List.set_cons_zero, List.set_cons_succ]))
      refine M_pure (i := 3) (v := ?_) rfl (by kernel_rfl) (by kernel_rfl) (by kernel_rfl) (fun _ _ _ h => h) (by rfl) ?hy ?_; (case hy => (intro w; go_simp; with_reducible rfl)); ((try dsimp only); (try simp only [Act.put, List.setIfInBounds_toArray, List.set_cons_zero, List.set_cons_succ]))
      refine M_pure (i := 4) (v := ?_) rfl (by kernel_rfl) (by kernel_rfl) (by kernel_rfl) (fun _ _ _ h => h) (by rfl) ?hy ?_; (case hy => (intro w; go_simp; with_reducible rfl)); ((try dsimp only); (try simp only [Act.put, List.setIfInBounds_toArray, List.set_cons_zero, List.set_cons_succ]))
      refine M_take (i := 5) (v := ?_) rfl (by kernel_rfl) (by kernel_rfl) (by kernel_rfl) (by kernel_rfl) (fun _ _ _ h => h) (by rfl) ?hy ?_; (case hy => (go_simp; with_reducible rfl)); ((try dsimp only); (try simp only [Act.put, List.setIfInBounds_toArray, List.set_cons_zero, List.set_cons_succ]))
      refine M_pure (i := 6) (v := ?_) rfl (by kernel_rfl) (by kernel_rfl) (by kernel_rfl) (fun _ _ _ h => h) (by rfl) ?hy ?_; (case hy => (intro w; go_simp; with_reducible rfl)); ((try dsimp only); (try simp only [Act.put, List.setIfInBounds_toArray, List.set_cons_zero, List.set_cons_succ]))
      refine M_pure (i := 7) (v := ?_) rfl (by kernel_rfl) (by kernel_rfl) (by kernel_rfl) (fun _ _ _ h => h) (by rfl) ?hy ?_; (case hy => (intro w; go_simp; with_reducible rfl)); ((try dsimp only); (try simp only [Act.put, List.setIfInBounds_toArray, List.set_cons_zero, List.set_cons_succ]))
      refine M_pure (i := 8) (v := ?_) rfl (by kernel_rfl) (by kernel_rfl) (by kernel_rfl) (fun _ _ _ h => h) (by rfl) ?hy ?_; (case hy => (intro w; go_simp; with_reducible rfl)); ((try dsimp only); (try simp only [Act.put, List.setIfInBounds_toArray, List.set_cons_zero, List.set_cons_succ]))
      refine M_pure (i := 9) (v := ?_) rfl (by kernel_rfl) (by kernel_rfl) (by kernel_rfl) (fun _ _ _ h => h) (by rfl) ?hy ?_; (case hy => (intro w; go_simp; with_reducible rfl)); ((try dsimp only); (try simp only [Act.put, List.setIfInBounds_toArray, List.set_cons_zero, List.set_cons_succ]))
      refine M_done (by kernel_rfl) ?_ _
      go_wp2_with (skip; fail)
      go_ret3
      exact ⟨by rw [HP.out.1]; rfl, HX.out.2.1.trans (hcV.trans hd)⟩
end Go.Proofs.Ytofjocjljbkjgaa
namespace Go.Proofs.Ytofjocjljbkjgaa
open Go.RowKit
def zeroT : Tr := ⟨0, 0, ⟨#[]⟩, []⟩
def parI (r : Option (Tr × Nat)) : Int × Int := match r with
  | none => (0, 0)
  | some (y, n) => (y.id, n)
theorem FindV.any {r : Option Tr} {w : World} {e : Ending} {w' : World} (h : FindV r w e w') : ∃ (b : Bool) (A : Option Addr) (c : Nat), e = .returned (.tuple #[.agg #[.int .i64 (Tr.id (r.getD zeroT)), .int .i64 (Tr.kind (r.getD zeroT)), .string (Tr.text (r.getD zeroT)), .slice A (Tr.kids (r.getD zeroT)).length c], .bool b]) ∧ TrV w' (r.getD zeroT) [.int .i64 (Tr.id (r.getD zeroT)), .int .i64 (Tr.kind (r.getD zeroT)), .string (Tr.text (r.getD zeroT)), .slice A (Tr.kids (r.getD zeroT)).length c] (fun g => w.heap.size ≤ g ∧ g < w'.heap.size) ∧ Chg [] w w' := by
  unfold FindV at h
  cases r with
  | none => exact ⟨false, none, 0, h.1, .leaf zeroT none 0 _ rfl (fun _ => rfl) (by omega) (by decide), h.2⟩
  | some x => obtain ⟨A, c, h1, h2, h3⟩ := h; exact ⟨true, A, c, h1, h2, h3⟩
set_option maxHeartbeats 4000000 in
set_option maxRecDepth 100000 in
theorem where_any (t : Tr) (A : Option Addr) (c : Nat) (id : Int) (w : World) (hT : TrC (fun b => b < w.heap.size) w t [.int .i64 (Tr.id t), .int .i64 (Tr.kind t), .string (Tr.text t), .slice A (Tr.kids t).length c]) (hn : t.nodes ≤ 100000) : Calls Try.prog 139 #[.agg #[.int .i64 (Tr.id t), .int .i64 (Tr.kind t), .string (Tr.text t), .slice A (Tr.kids t).length c], .int .i64 id] w fun e w' =>
    ∃ A' c', e = .returned (.tuple #[.agg #[.int .i64 (Tr.id ((t.subT id).getD zeroT)), .int .i64 (Tr.kind ((t.subT id).getD zeroT)), .string (Tr.text ((t.subT id).getD zeroT)), .slice A' (Tr.kids ((t.subT id).getD zeroT)).length c'], .int .i64 (parI (parT id t)).1, .int .i64 (parI (parT id t)).2]) ∧ TrV w' ((t.subT id).getD zeroT) [.int .i64 (Tr.id ((t.subT id).getD zeroT)), .int .i64 (Tr.kind ((t.subT id).getD zeroT)), .string (Tr.text ((t.subT id).getD zeroT)), .slice A' (Tr.kids ((t.subT id).getD zeroT)).length c'] (fun g => w.heap.size ≤ g ∧ g < w'.heap.size) ∧ Chg [] w w' := by
  obtain ⟨x, hx⟩ : ∃ x, x = (t.subT id).getD zeroT := ⟨_, rfl⟩
  rw [← hx]
  obtain ⟨W, hW⟩ : ∃ W, W = (w.alloc (.cells #[.int .i64 (Tr.id t), .int .i64 (Tr.kind t), .string (Tr.text t), .slice A (Tr.kids t).length c] 24)).alloc (.cells #[.int .i64 0, .int .i64 0, .string ⟨#[]⟩, .slice none 0 0] 24) := ⟨_, rfl⟩
  have hcW : Chg [] w W := by rw [hW]; exact (by with_reducible repeat (first | exact Chg.refl _ _ | apply Chg.alloc | apply Chg.drew | apply Chg.drewN | (refine Chg.setCell ?_ _ _ (by simp))))
  have b0 : W.heap[w.heap.size]? = some (.cells #[.int .i64 (Tr.id t), .int .i64 (Tr.kind t), .string (Tr.text t), .slice A (Tr.kids t).length c] 24 (0, 0)) := by rw [hW]; exact heap_old (heap_new _ _ rfl) _
  have b1 : W.heap[w.heap.size + 1]? = some (.cells #[.int .i64 0, .int .i64 0, .string ⟨#[]⟩, .slice none 0 0] 24 (0, 0)) := by rw [hW]; exact heap_new _ _ (by simp)
  have hws : W.heap.size = w.heap.size + 2 := by rw [hW]; simp
  have hT1 : TrC (fun b => b < W.heap.size) W t [.int .i64 (Tr.id t), .int .i64 (Tr.kind t), .string (Tr.text t), .slice A (Tr.kids t).length c] := (hT.kept hcW (by simp)).weak (fun b hb _ => Nat.lt_of_lt_of_le hb hcW.size)
  have hf := tfind_any t A c id W hT1 hn
  obtain ⟨p0, p1, p2, p3⟩ := blk4 b0
  have HW := Lib.hid (And.intro hW (And.intro hcW (And.intro b0 (And.intro b1 (And.intro hf (And.intro hT hx))))))
  rw [hW] at p0 p1 p2 p3
  clear hW hcW b0 b1 hf hT hT1 hx
  go_enter Try.func139, Try.ntmps139
  go_wp2_with fail
  rw [← HW.out.1]
  clear p0 p1 p2 p3
  refine HW.out.2.2.2.2.1.mono ?_
  rintro e X hF
  obtain ⟨b, A', c', rfl, hV, hX⟩ := hF.any
  rw [← HW.out.2.2.2.2.2.2] at hV ⊢
  clear hF
  have x1 := hX.at HW.out.2.2.2.1 (by simp)
  obtain ⟨q0, q1, q2, q3⟩ := blk4 x1
  have f0 := blkF x1 0
  have f1 := blkF x1 1
  have f2 := blkF x1 2
  have f3 := blkF x1 3
  obtain ⟨Y, hY⟩ : ∃ Y, Y = (((X.setCell ⟨w.heap.size + 1, 0, none⟩ (.int .i64 x.id)).setCell ⟨w.heap.size + 1, 1, none⟩ (.int .i64 x.kind)).setCell ⟨w.heap.size + 1, 2, none⟩ (.string x.text)).setCell ⟨w.heap.size + 1, 3, none⟩ (.slice A' x.kids.length c') := ⟨_, rfl⟩
  have hXY : Chg [w.heap.size + 1] X Y := by rw [hY]; exact chg4 _ _ _ _ _ _
  have hr := set4 (v0 := .int .i64 x.id) (v1 := .int .i64 x.kind) (v2 := .string x.text) (v3 := .slice A' x.kids.length c') x1
  rw [← hY] at hr
  have hwY : Chg [] w Y := (HW.out.2.1.trans hX).andThen hXY (by simp)
  have hVY := hV.kept hXY (fun g hg => by simp; omega)
  have hpc := parent_any t A c id Y ((HW.out.2.2.2.2.2.1.kept hwY (by simp)).weak (fun b hb _ => Nat.lt_of_lt_of_le hb hwY.size)) hn
  obtain ⟨p0, p1, p2, p3⟩ := blk4 (hXY.at (hX.at HW.out.2.2.1 (by simp)) (by simp))
  have hlx := lt_of_block x1
  have HX := Lib.hid (And.intro hY (And.intro hwY (And.intro hr (And.intro hVY (And.intro hpc hXY.size)))))
  rw [hY] at p0 p1 p2 p3
  clear hX x1 hY hXY hr hwY hVY hpc hV
  go_wp2_with fail
  rw [← HX.out.1]
  clear p0 p1 p2 p3 q0 q1 q2 q3 f0 f1 f2 f3
  refine HX.out.2.2.2.2.1.mono ?_
  rintro e Z ⟨rfl, hZ⟩
  have z1 := hZ.at HX.out.2.2.1 (by simp)
  obtain ⟨q0, q1, q2, q3⟩ := blk4 z1
  have f0 := blkF z1 0
  have f1 := blkF z1 1
  have f2 := blkF z1 2
  have f3 := blkF z1 3
  obtain ⟨i, j, b, hv, hi, hj⟩ : ∃ (i j : Int) (b2 : Bool), parV (parT id t) = .tuple #[.int .i64 i, .int .i64 j, .bool b2] ∧ (parI (parT id t)).1 = i ∧ (parI (parT id t)).2 = j := by
    cases parT id t with
    | none => exact ⟨0, 0, false, rfl, rfl, rfl⟩
    | some y => exact ⟨_, _, true, rfl, rfl, rfl⟩
  rw [hv]
  have HZ := Lib.hid (And.intro hZ z1)
  have HJ := Lib.hid (And.intro hi hj)
  clear hZ z1 hv hi hj
  go_wp2_with (skip; fail)
  refine bodyPost_ret (v := .tuple #[.agg #[.int .i64 (Tr.id x), .int .i64 (Tr.kind x), .string (Tr.text x), .slice A' (Tr.kids x).length c'], .int .i64 i, .int .i64 j]) (results_row_tmp2 rfl _ _ (w.heap.size + 1) _ _ _ _ _ _ rfl rfl rfl (set4 HZ.out.2) Try.underlying24 rfl szNode) rfl ?_
  have hc4 := chg4 Z (w.heap.size + 1) (.int .i64 x.id) (.int .i64 x.kind) (.string x.text) (.slice A' x.kids.length c')
  have hs4 := hc4.size
  have hsz := HZ.out.1.size
  rw [HJ.out.1, HJ.out.2]
  exact ⟨A', c', rfl, ((HX.out.2.2.2.1.kept HZ.out.1 (by simp)).kept hc4 (fun g hg => by simp; omega)).weak (fun g hg => ⟨by omega, by have := HX.out.2.2.2.2.2; omega⟩), (HX.out.2.1.trans HZ.out.1).andThen hc4 (by simp)⟩
end Go.Proofs.Ytofjocjljbkjgaa
namespace Go.Proofs.Ytofjocjljbkjgaa
open Go.RowKit
theorem szST9 : (Try.prog.info? 27).map (·.size) = some 9 := by kernel_rfl
def invT (t : Tr) (s : Stp) : Stp :=
  if s.op = 1 then ⟨2, s.sub.id, 0, 0, ⟨#[]⟩, zeroT⟩
  else if s.op = 2 then ⟨1, 0, (parI (parT s.id t)).1, (parI (parT s.id t)).2, ⟨#[]⟩, (t.subT s.id).getD zeroT⟩
  else if s.op = 3 then ⟨3, s.id, (parI (parT s.id t)).1, (parI (parT s.id t)).2, ⟨#[]⟩, zeroT⟩
  else ⟨4, s.id, 0, 0, ((t.subT s.id).getD zeroT).text, zeroT⟩
def InvV (s : Stp) (w : World) (e : Ending) (w' : World) : Prop := ∃ A c, e = .returned (.agg #[.int .i8 (Stp.op s), .int .i64 (Stp.id s), .int .i64 (Stp.par s), .int .i64 (Stp.place s), .string (Stp.text s), .int .i64 (Stp.sub s).id, .int .i64 (Stp.sub s).kind, .string (Stp.sub s).text, .slice A (Stp.sub s).kids.length c]) ∧ TrC (fun b => w.heap.size ≤ b ∧ b < w'.heap.size) w' s.sub [.int .i64 (Tr.id s.sub), .int .i64 (Tr.kind s.sub), .string (Tr.text s.sub), .slice A (Tr.kids s.sub).length c] ∧ Chg [] w w'
theorem zeroC (ok : Nat → Prop) (w : World) : TrC ok w zeroT [.int .i64 (Tr.id zeroT), .int .i64 (Tr.kind zeroT), .string (Tr.text zeroT), .slice none (Tr.kids zeroT).length 0] := .none zeroT none 0 rfl (by omega) (by decide)
set_option maxHeartbeats 4000000 in
set_option maxRecDepth 100000 in
theorem inv2_any (t : Tr) (A : Option Addr) (c : Nat) (s : Stp) (As : Option Addr) (cs : Nat) (w : World) : Calls Try.prog 142 #[.agg #[.int .i64 (Tr.id t), .int .i64 (Tr.kind t), .string (Tr.text t), .slice A (Tr.kids t).length c], .agg #[.int .i8 (Stp.op s), .int .i64 (Stp.id s), .int .i64 (Stp.par s), .int .i64 (Stp.place s), .string (Stp.text s), .int .i64 (Stp.sub s).id, .int .i64 (Stp.sub s).kind, .string (Stp.sub s).text, .slice As (Stp.sub s).kids.length cs]] w (InvV ⟨2, s.sub.id, 0, 0, ⟨#[]⟩, zeroT⟩ w) := by
  have b1 : (((w.alloc (.cells #[.int .i64 (Tr.id t), .int .i64 (Tr.kind t), .string (Tr.text t), .slice A (Tr.kids t).length c] 24)).alloc (.cells #[.int .i8 (Stp.op s), .int .i64 (Stp.id s), .int .i64 (Stp.par s), .int .i64 (Stp.place s), .string (Stp.text s), .int .i64 (Stp.sub s).id, .int .i64 (Stp.sub s).kind, .string (Stp.sub s).text, .slice As (Stp.sub s).kids.length cs] 27)).alloc (.cells #[.int .i8 0, .int .i64 0, .int .i64 0, .int .i64 0, .string ⟨#[]⟩, .int .i64 0, .int .i64 0, .string ⟨#[]⟩, .slice none 0 0] 27)).heap[w.heap.size + 1]? = some (.cells #[.int .i8 (Stp.op s), .int .i64 (Stp.id s), .int .i64 (Stp.par s), .int .i64 (Stp.place s), .string (Stp.text s), .int .i64 (Stp.sub s).id, .int .i64 (Stp.sub s).kind, .string (Stp.sub s).text, .slice As (Stp.sub s).kids.length cs] 27 (0, 0)) := heap_old (heap_new _ _ (by simp)) _
  have b2 : (((w.alloc (.cells #[.int .i64 (Tr.id t), .int .i64 (Tr.kind t), .string (Tr.text t), .slice A (Tr.kids t).length c] 24)).alloc (.cells #[.int .i8 (Stp.op s), .int .i64 (Stp.id s), .int .i64 (Stp.par s), .int .i64 (Stp.place s), .string (Stp.text s), .int .i64 (Stp.sub s).id, .int .i64 (Stp.sub s).kind, .string (Stp.sub s).text, .slice As (Stp.sub s).kids.length cs] 27)).alloc (.cells #[.int .i8 0, .int .i64 0, .int .i64 0, .int .i64 0, .string ⟨#[]⟩, .int .i64 0, .int .i64 0, .string ⟨#[]⟩, .slice none 0 0] 27)).heap[w.heap.size + 1 + 1]? = some (.cells #[.int .i8 0, .int .i64 0, .int .i64 0, .int .i64 0, .string ⟨#[]⟩, .int .i64 0, .int .i64 0, .string ⟨#[]⟩, .slice none 0 0] 27 (0, 0)) := heap_new _ _ (by simp)
  obtain ⟨q0, q1, q2, q3, q4, q5, q6, q7, q8⟩ := cells9 b1
  have HB := Lib.hid b2
  clear b1 b2
  go_enter Try.func142, Try.ntmps142
  go_wp2_with (skip; fail)
  refine bodyPost_ret (v := .agg #[.int .i8 2, .int .i64 s.sub.id, .int .i64 0, .int .i64 0, .string ⟨#[]⟩, .int .i64 0, .int .i64 0, .string ⟨#[]⟩, .slice none 0 0]) (results_cell_row rfl _ _ (w.heap.size + 1 + 1) _ _ _ _ rfl (heap_new _ _ (by simp)) Try.underlying27 rfl szST9) rfl ?_
  exact ⟨none, 0, rfl, zeroC _ _, (by with_reducible repeat (first | exact Chg.refl _ _ | apply Chg.alloc | apply Chg.drew | apply Chg.drewN | (refine Chg.setCell ?_ _ _ (by simp))))⟩
structure InvW (w : World) (t : Tr) (A : Option Addr) (c : Nat) (s : Stp) (As : Option Addr) (cs : Nat) (W : World) : Prop where
  b0 : W.heap[w.heap.size]? = some (.cells #[.int .i64 (Tr.id t), .int .i64 (Tr.kind t), .string (Tr.text t), .slice A (Tr.kids t).length c] 24 (0, 0))
  b1 : W.heap[w.heap.size + 1]? = some (.cells #[.int .i8 (Stp.op s), .int .i64 (Stp.id s), .int .i64 (Stp.par s), .int .i64 (Stp.place s), .string (Stp.text s), .int .i64 (Stp.sub s).id, .int .i64 (Stp.sub s).kind, .string (Stp.sub s).text, .slice As (Stp.sub s).kids.length cs] 27 (0, 0))
  b2 : W.heap[w.heap.size + 2]? = some (.cells #[.int .i8 0, .int .i64 0, .int .i64 0, .int .i64 0, .string ⟨#[]⟩, .int .i64 0, .int .i64 0, .string ⟨#[]⟩, .slice none 0 0] 27 (0, 0))
  chg : Chg [] w W
theorem InvW.kept {w : World} {t : Tr} {A : Option Addr} {c : Nat} {s : Stp} {As : Option Addr} {cs : Nat} {W W' : World} (h : InvW w t A c s As cs W) (hc : Chg [] W W') : InvW w t A c s As cs W' :=
  ⟨hc.at h.b0 (by simp), hc.at h.b1 (by simp), hc.at h.b2 (by simp), h.chg.trans hc⟩
def WBox (bx : Nat) (w : World) : Prop := w.heap[bx]? = some (.cells #[.func (.func 139) #[] #[]] 190 (0, 0))
theorem inv_start (t : Tr) (A : Option Addr) (c : Nat) (s : Stp) (As : Option Addr) (cs : Nat) (w : World) : InvW w t A c s As cs (((w.alloc (.cells #[.int .i64 (Tr.id t), .int .i64 (Tr.kind t), .string (Tr.text t), .slice A (Tr.kids t).length c] 24)).alloc (.cells #[.int .i8 (Stp.op s), .int .i64 (Stp.id s), .int .i64 (Stp.par s), .int .i64 (Stp.place s), .string (Stp.text s), .int .i64 (Stp.sub s).id, .int .i64 (Stp.sub s).kind, .string (Stp.sub s).text, .slice As (Stp.sub s).kids.length cs] 27)).alloc (.cells #[.int .i8 0, .int .i64 0, .int .i64 0, .int .i64 0, .string ⟨#[]⟩, .int .i64 0, .int .i64 0, .string ⟨#[]⟩, .slice none 0 0] 27)) :=
  ⟨heap_old (heap_old (heap_new _ _ rfl) _) _, heap_old (heap_new _ _ (by simp)) _, heap_new _ _ (by simp), (by with_reducible repeat (first | exact Chg.refl _ _ | apply Chg.alloc | apply Chg.drew | apply Chg.drewN | (refine Chg.setCell ?_ _ _ (by simp))))⟩
set_option maxHeartbeats 4000000 in
set_option maxRecDepth 100000 in
theorem inv3_any (t : Tr) (A : Option Addr) (c : Nat) (s : Stp) (As : Option Addr) (cs bx : Nat) (w : World) (hbx : WBox bx w) (hT : TrC (fun b => b < w.heap.size) w t [.int .i64 (Tr.id t), .int .i64 (Tr.kind t), .string (Tr.text t), .slice A (Tr.kids t).length c]) (hn : t.nodes ≤ 100000) : Calls Try.prog 143 #[.agg #[.int .i64 (Tr.id t), .int .i64 (Tr.kind t), .string (Tr.text t), .slice A (Tr.kids t).length c], .agg #[.int .i8 (Stp.op s), .int .i64 (Stp.id s), .int .i64 (Stp.par s), .int .i64 (Stp.place s), .string (Stp.text s), .int .i64 (Stp.sub s).id, .int .i64 (Stp.sub s).kind, .string (Stp.sub s).text, .slice As (Stp.sub s).kids.length cs], .pointer (some ⟨bx, 0, none⟩)] w (InvV ⟨1, 0, (parI (parT s.id t)).1, (parI (parT s.id t)).2, ⟨#[]⟩, (t.subT s.id).getD zeroT⟩ w) := by
  obtain ⟨x, hx⟩ : ∃ x, x = (t.subT s.id).getD zeroT := ⟨_, rfl⟩
  obtain ⟨i, hi⟩ : ∃ i, i = (parI (parT s.id t)).1 := ⟨_, rfl⟩
  obtain ⟨j, hj⟩ : ∃ j, j = (parI (parT s.id t)).2 := ⟨_, rfl⟩
  rw [← hx, ← hi, ← hj]
  have hst := inv_start t A c s As cs w
  obtain ⟨W, hW⟩ : ∃ W, W = ((w.alloc (.cells #[.int .i64 (Tr.id t), .int .i64 (Tr.kind t), .string (Tr.text t), .slice A (Tr.kids t).length c] 24)).alloc (.cells #[.int .i8 (Stp.op s), .int .i64 (Stp.id s), .int .i64 (Stp.par s), .int .i64 (Stp.place s), .string (Stp.text s), .int .i64 (Stp.sub s).id, .int .i64 (Stp.sub s).kind, .string (Stp.sub s).text, .slice As (Stp.sub s).kids.length cs] 27)).alloc (.cells #[.int .i8 0, .int .i64 0, .int .i64 0, .int .i64 0, .string ⟨#[]⟩, .int .i64 0, .int .i64 0, .string ⟨#[]⟩, .slice none 0 0] 27) := ⟨_, rfl⟩
  rw [← hW] at hst
  have hcall := where_any t A c s.id W ((hT.kept hst.chg (by simp)).weak (fun b hb _ => Nat.lt_of_lt_of_le hb hst.chg.size)) hn
  rw [← hx, ← hi, ← hj] at hcall
  obtain ⟨p0, p1, p2, p3⟩ := blk4 hst.b0
  obtain ⟨q0, q1, q2, q3, q4, q5, q6, q7, q8⟩ := cells9 hst.b1
  have m0 := cellOne (hst.chg.at hbx (by simp))
  have HW := Lib.hid (And.intro hW (And.intro hst hcall))
  rw [hW] at p0 p1 p2 p3 q0 q1 q2 q3 q4 q5 q6 q7 q8 m0
  clear hW hst hcall hx hi hj hbx hT
  go_enter Try.func143, Try.ntmps143
  go_wp2_with (skip; fail)
  go_at_call 139
  rw [← HW.out.1]
  clear p0 p1 p2 p3 q0 q1 q2 q3 q4 q5 q6 q7 q8 m0
  refine HW.out.2.2.mono ?_
  rintro e X ⟨A', c', rfl, hV, hX⟩
  have hs := HW.out.2.1.kept (hX.alloc (.cells #[.int .i64 (Tr.id x), .int .i64 (Tr.kind x), .string (Tr.text x), .slice A' (Tr.kids x).length c'] 24))
  have HX := Lib.hid (And.intro hV (And.intro hX hs))
  clear hV hX hs
  go_wp2_with (first
    | (refine wpList_store_row rfl 27 (.tmp 5) (.tmp 21) rfl (w.heap.size + 1 + 1) rfl #[.int .i8 1, .int .i64 0, .int .i64 i, .int .i64 j, .string ⟨#[]⟩, .int .i64 x.id, .int .i64 x.kind, .string x.text, .slice A' x.kids.length c'] (by rfl) _ _ HX.out.2.2.b2 szST9 rfl (by simp [Value.oneCell']) ?_)
    | (skip; fail))
  have hc := setRow_chg (X.alloc (.cells #[.int .i64 (Tr.id x), .int .i64 (Tr.kind x), .string (Tr.text x), .slice A' (Tr.kids x).length c'] 24)) (w.heap.size + 1 + 1) #[.int .i8 1, .int .i64 0, .int .i64 i, .int .i64 j, .string ⟨#[]⟩, .int .i64 x.id, .int .i64 x.kind, .string x.text, .slice A' x.kids.length c']
  refine bodyPost_ret (v := .agg #[.int .i8 1, .int .i64 0, .int .i64 i, .int .i64 j, .string ⟨#[]⟩, .int .i64 x.id, .int .i64 x.kind, .string x.text, .slice A' x.kids.length c']) (results_cell_row rfl _ _ (w.heap.size + 1 + 1) _ _ _ _ rfl (setRow_heap _ _ _ _ _ _ HX.out.2.2.b2) Try.underlying27 rfl szST9) rfl ?_
  have hws := HW.out.2.1.chg.size
  have hl2 := lt_of_block HW.out.2.1.b2
  have hcs := hc.size
  have hXs : (X.alloc (.cells #[.int .i64 (Tr.id x), .int .i64 (Tr.kind x), .string (Tr.text x), .slice A' (Tr.kids x).length c'] 24)).heap.size = X.heap.size + 1 := by simp
  have hTX : TrC (fun g => W.heap.size ≤ g ∧ g < X.heap.size) (X.alloc (.cells #[.int .i64 (Tr.id x), .int .i64 (Tr.kind x), .string (Tr.text x), .slice A' (Tr.kids x).length c'] 24)) x [.int .i64 (Tr.id x), .int .i64 (Tr.kind x), .string (Tr.text x), .slice A' (Tr.kids x).length c'] := HX.out.1.toC.kept ((Chg.refl [] X).alloc _) (by simp)
  exact ⟨A', c', rfl, ((hTX.kept hc (fun g hg => by simp; omega))).weak (fun g hg _ => ⟨by omega, by omega⟩), HX.out.2.2.chg.andThen hc (by simp; omega)⟩
set_option maxHeartbeats 4000000 in
set_option maxRecDepth 100000 in
theorem inv4_any (t : Tr) (A : Option Addr) (c : Nat) (s : Stp) (As : Option Addr) (cs bx : Nat) (w : World) (hbx : WBox bx w) (hT : TrC (fun b => b < w.heap.size) w t [.int .i64 (Tr.id t), .int .i64 (Tr.kind t), .string (Tr.text t), .slice A (Tr.kids t).length c]) (hn : t.nodes ≤ 100000) : Calls Try.prog 144 #[.agg #[.int .i64 (Tr.id t), .int .i64 (Tr.kind t), .string (Tr.text t), .slice A (Tr.kids t).length c], .agg #[.int .i8 (Stp.op s), .int .i64 (Stp.id s), .int .i64 (Stp.par s), .int .i64 (Stp.place s), .string (Stp.text s), .int .i64 (Stp.sub s).id, .int .i64 (Stp.sub s).kind, .string (Stp.sub s).text, .slice As (Stp.sub s).kids.length cs], .pointer (some ⟨bx, 0, none⟩)] w (InvV ⟨3, s.id, (parI (parT s.id t)).1, (parI (parT s.id t)).2, ⟨#[]⟩, zeroT⟩ w) := by
  obtain ⟨x, hx⟩ : ∃ x, x = (t.subT s.id).getD zeroT := ⟨_, rfl⟩
  obtain ⟨i, hi⟩ : ∃ i, i = (parI (parT s.id t)).1 := ⟨_, rfl⟩
  obtain ⟨j, hj⟩ : ∃ j, j = (parI (parT s.id t)).2 := ⟨_, rfl⟩
  rw [← hi, ← hj]
  have hst := inv_start t A c s As cs w
  obtain ⟨W, hW⟩ : ∃ W, W = ((w.alloc (.cells #[.int .i64 (Tr.id t), .int .i64 (Tr.kind t), .string (Tr.text t), .slice A (Tr.kids t).length c] 24)).alloc (.cells #[.int .i8 (Stp.op s), .int .i64 (Stp.id s), .int .i64 (Stp.par s), .int .i64 (Stp.place s), .string (Stp.text s), .int .i64 (Stp.sub s).id, .int .i64 (Stp.sub s).kind, .string (Stp.sub s).text, .slice As (Stp.sub s).kids.length cs] 27)).alloc (.cells #[.int .i8 0, .int .i64 0, .int .i64 0, .int .i64 0, .string ⟨#[]⟩, .int .i64 0, .int .i64 0, .string ⟨#[]⟩, .slice none 0 0] 27) := ⟨_, rfl⟩
  rw [← hW] at hst
  have hcall := where_any t A c s.id W ((hT.kept hst.chg (by simp)).weak (fun b hb _ => Nat.lt_of_lt_of_le hb hst.chg.size)) hn
  rw [← hx, ← hi, ← hj] at hcall
  obtain ⟨p0, p1, p2, p3⟩ := blk4 hst.b0
  obtain ⟨q0, q1, q2, q3, q4, q5, q6, q7, q8⟩ := cells9 hst.b1
  have m0 := cellOne (hst.chg.at hbx (by simp))
  have HW := Lib.hid (And.intro hW (And.intro hst hcall))
  rw [hW] at p0 p1 p2 p3 q0 q1 q2 q3 q4 q5 q6 q7 q8 m0
  clear hW hst hcall hx hi hj hbx hT
  go_enter Try.func144, Try.ntmps144
  go_wp2_with (skip; fail)
  go_at_call 139
  rw [← HW.out.1]
  clear p0 p1 p2 p3 q0 q1 q2 q3 q4 q5 q6 q7 q8 m0
  refine HW.out.2.2.mono ?_
  rintro e X ⟨A', c', rfl, hV, hX⟩
  have hs := HW.out.2.1.kept (hX.alloc (.cells #[.int .i64 (Tr.id x), .int .i64 (Tr.kind x), .string (Tr.text x), .slice A' (Tr.kids x).length c'] 24))
  have HX := Lib.hid (And.intro hV (And.intro hX hs))
  obtain ⟨q0, q1, q2, q3, q4, q5, q6, q7, q8⟩ := cells9 hs.b1
  clear hV hX hs
  go_wp2_with (first
    | (refine wpList_store_row rfl 27 (.tmp 5) (.tmp 22) rfl (w.heap.size + 1 + 1) rfl #[.int .i8 3, .int .i64 s.id, .int .i64 i, .int .i64 j, .string ⟨#[]⟩, .int .i64 0, .int .i64 0, .string ⟨#[]⟩, .slice none 0 0] (by rfl) _ _ HX.out.2.2.b2 szST9 rfl (by simp [Value.oneCell']) ?_)
    | (skip; fail))
  have hc := setRow_chg (X.alloc (.cells #[.int .i64 (Tr.id x), .int .i64 (Tr.kind x), .string (Tr.text x), .slice A' (Tr.kids x).length c'] 24)) (w.heap.size + 1 + 1) #[.int .i8 3, .int .i64 s.id, .int .i64 i, .int .i64 j, .string ⟨#[]⟩, .int .i64 0, .int .i64 0, .string ⟨#[]⟩, .slice none 0 0]
  refine bodyPost_ret (v := .agg #[.int .i8 3, .int .i64 s.id, .int .i64 i, .int .i64 j, .string ⟨#[]⟩, .int .i64 0, .int .i64 0, .string ⟨#[]⟩, .slice none 0 0]) (results_cell_row rfl _ _ (w.heap.size + 1 + 1) _ _ _ _ rfl (setRow_heap _ _ _ _ _ _ HX.out.2.2.b2) Try.underlying27 rfl szST9) rfl ?_
  have hws := HW.out.2.1.chg.size
  have hl2 := lt_of_block HW.out.2.1.b2
  have hcs := hc.size
  have hXs : (X.alloc (.cells #[.int .i64 (Tr.id x), .int .i64 (Tr.kind x), .string (Tr.text x), .slice A' (Tr.kids x).length c'] 24)).heap.size = X.heap.size + 1 := by simp
  exact ⟨none, 0, rfl, zeroC _ _, HX.out.2.2.chg.andThen hc (by simp; omega)⟩
set_option maxHeartbeats 4000000 in
set_option maxRecDepth 100000 in
theorem inv5_any (t : Tr) (A : Option Addr) (c : Nat) (s : Stp) (As : Option Addr) (cs bx : Nat) (w : World) (hbx : WBox bx w) (hT : TrC (fun b => b < w.heap.size) w t [.int .i64 (Tr.id t), .int .i64 (Tr.kind t), .string (Tr.text t), .slice A (Tr.kids t).length c]) (hn : t.nodes ≤ 100000) : Calls Try.prog 145 #[.agg #[.int .i64 (Tr.id t), .int .i64 (Tr.kind t), .string (Tr.text t), .slice A (Tr.kids t).length c], .agg #[.int .i8 (Stp.op s), .int .i64 (Stp.id s), .int .i64 (Stp.par s), .int .i64 (Stp.place s), .string (Stp.text s), .int .i64 (Stp.sub s).id, .int .i64 (Stp.sub s).kind, .string (Stp.sub s).text, .slice As (Stp.sub s).kids.length cs], .pointer (some ⟨bx, 0, none⟩)] w (InvV ⟨4, s.id, 0, 0, ((t.subT s.id).getD zeroT).text, zeroT⟩ w) := by
  obtain ⟨x, hx⟩ : ∃ x, x = (t.subT s.id).getD zeroT := ⟨_, rfl⟩
  obtain ⟨i, hi⟩ : ∃ i, i = (parI (parT s.id t)).1 := ⟨_, rfl⟩
  obtain ⟨j, hj⟩ : ∃ j, j = (parI (parT s.id t)).2 := ⟨_, rfl⟩
  rw [← hx]
  have hst := inv_start t A c s As cs w
  obtain ⟨W, hW⟩ : ∃ W, W = ((w.alloc (.cells #[.int .i64 (Tr.id t), .int .i64 (Tr.kind t), .string (Tr.text t), .slice A (Tr.kids t).length c] 24)).alloc (.cells #[.int .i8 (Stp.op s), .int .i64 (Stp.id s), .int .i64 (Stp.par s), .int .i64 (Stp.place s), .string (Stp.text s), .int .i64 (Stp.sub s).id, .int .i64 (Stp.sub s).kind, .string (Stp.sub s).text, .slice As (Stp.sub s).kids.length cs] 27)).alloc (.cells #[.int .i8 0, .int .i64 0, .int .i64 0, .int .i64 0, .string ⟨#[]⟩, .int .i64 0, .int .i64 0, .string ⟨#[]⟩, .slice none 0 0] 27) := ⟨_, rfl⟩
  rw [← hW] at hst
  have hcall := where_any t A c s.id W ((hT.kept hst.chg (by simp)).weak (fun b hb _ => Nat.lt_of_lt_of_le hb hst.chg.size)) hn
  rw [← hx, ← hi, ← hj] at hcall
  obtain ⟨p0, p1, p2, p3⟩ := blk4 hst.b0
  obtain ⟨q0, q1, q2, q3, q4, q5, q6, q7, q8⟩ := cells9 hst.b1
  have m0 := cellOne (hst.chg.at hbx (by simp))
  have HW := Lib.hid (And.intro hW (And.intro hst hcall))
  rw [hW] at p0 p1 p2 p3 q0 q1 q2 q3 q4 q5 q6 q7 q8 m0
  clear hW hst hcall hx hi hj hbx hT
  go_enter Try.func145, Try.ntmps145
  go_wp2_with (skip; fail)
  go_at_call 139
  rw [← HW.out.1]
  clear p0 p1 p2 p3 q0 q1 q2 q3 q4 q5 q6 q7 q8 m0
  refine HW.out.2.2.mono ?_
  rintro e X ⟨A', c', rfl, hV, hX⟩
  have hs := HW.out.2.1.kept (hX.alloc (.cells #[.int .i64 (Tr.id x), .int .i64 (Tr.kind x), .string (Tr.text x), .slice A' (Tr.kids x).length c'] 24))
  have HX := Lib.hid (And.intro hV (And.intro hX hs))
  obtain ⟨q0, q1, q2, q3, q4, q5, q6, q7, q8⟩ := cells9 hs.b1
  clear hV hX hs
  go_wp2_with (first
    | (refine wpList_store_row rfl 27 (.tmp 5) (.tmp 22) rfl (w.heap.size + 1 + 1) rfl #[.int .i8 4, .int .i64 s.id, .int .i64 0, .int .i64 0, .string x.text, .int .i64 0, .int .i64 0, .string ⟨#[]⟩, .slice none 0 0] (by rfl) _ _ HX.out.2.2.b2 szST9 rfl (by simp [Value.oneCell']) ?_)
    | (skip; fail))
  have hc := setRow_chg (X.alloc (.cells #[.int .i64 (Tr.id x), .int .i64 (Tr.kind x), .string (Tr.text x), .slice A' (Tr.kids x).length c'] 24)) (w.heap.size + 1 + 1) #[.int .i8 4, .int .i64 s.id, .int .i64 0, .int .i64 0, .string x.text, .int .i64 0, .int .i64 0, .string ⟨#[]⟩, .slice none 0 0]
  refine bodyPost_ret (v := .agg #[.int .i8 4, .int .i64 s.id, .int .i64 0, .int .i64 0, .string x.text, .int .i64 0, .int .i64 0, .string ⟨#[]⟩, .slice none 0 0]) (results_cell_row rfl _ _ (w.heap.size + 1 + 1) _ _ _ _ rfl (setRow_heap _ _ _ _ _ _ HX.out.2.2.b2) Try.underlying27 rfl szST9) rfl ?_
  have hws := HW.out.2.1.chg.size
  have hl2 := lt_of_block HW.out.2.1.b2
  have hcs := hc.size
  have hXs : (X.alloc (.cells #[.int .i64 (Tr.id x), .int .i64 (Tr.kind x), .string (Tr.text x), .slice A' (Tr.kids x).length c'] 24)).heap.size = X.heap.size + 1 := by simp
  exact ⟨none, 0, rfl, zeroC _ _, HX.out.2.2.chg.andThen hc (by simp; omega)⟩
end Go.Proofs.Ytofjocjljbkjgaa
namespace Go.Proofs.Ytofjocjljbkjgaa
open Go.RowKit
theorem exec_indexF {o : Oper} {a : Act} {w : World} (x y : Operand) (ho : o.op = .index 153 x y) (f0 f1 f2 f3 f4 v : Value) (n : Int) (hx : a.eval x = .agg #[f0, f1, f2, f3, f4]) (hy : a.eval y = .int .i8 n) (hn : n = 1 ∨ n = 2 ∨ n = 3 ∨ n = 4) (hv : (#[f0, f1, f2, f3, f4] : Array Value)[n.toNat]? = some v) :
    (execOp a.eval o).run Try.prog w = .ok (.value v) w := by
  rcases hn with rfl | rfl | rfl | rfl <;> simp at hv <;> subst hv <;> simp only [execOp, ho, hx, hy] <;> simp [go_sem, Instr.index]
theorem szAF : (Try.prog.info? 153).map (·.size) = some 5 := by kernel_rfl
set_option maxHeartbeats 4000000 in
set_option maxRecDepth 100000 in
theorem inverses_any (w : World) : Calls Try.prog 112 #[] w fun e w' => e = .returned (.agg #[.nilFunc, .func (.func 142) #[] #[], .func (.func 143) #[] #[.pointer (some ⟨(w.heap.size + 1), 0, none⟩)], .func (.func 144) #[] #[.pointer (some ⟨(w.heap.size + 1), 0, none⟩)], .func (.func 145) #[] #[.pointer (some ⟨(w.heap.size + 1), 0, none⟩)]]) ∧ WBox (w.heap.size + 1) w' ∧ Chg [] w w' := by
  go_enter Try.func112, Try.ntmps112
  go_wp2_with (skip; fail)
  refine bodyPost_ret (v := .agg #[.nilFunc, .func (.func 142) #[] #[], .func (.func 143) #[] #[.pointer (some ⟨(w.heap.size + 1), 0, none⟩)], .func (.func 144) #[] #[.pointer (some ⟨(w.heap.size + 1), 0, none⟩)], .func (.func 145) #[] #[.pointer (some ⟨(w.heap.size + 1), 0, none⟩)]]) (results_cell_row rfl _ _ w.heap.size _ _ _ _ rfl (heap_old (heap_new _ _ rfl) _) Try.underlying153 rfl szAF) rfl ⟨rfl, heap_new _ _ (by simp), (by with_reducible repeat (first | exact Chg.refl _ _ | apply Chg.alloc | apply Chg.drew | apply Chg.drewN | (refine Chg.setCell ?_ _ _ (by simp))))⟩
def UndoPost (t : Tr) (s : Stp) (w : World) (e : Ending) (w' : World) : Prop := match applyT t s with
  | .error n => e = .returned (.tuple #[.agg #[.int .i8 0, .int .i64 0, .int .i64 0, .int .i64 0, .string ⟨#[]⟩, .int .i64 0, .int .i64 0, .string ⟨#[]⟩, .slice none 0 0], .int .i64 n]) ∧ Chg [] w w'
  | .ok _ => ∃ A c, e = .returned (.tuple #[.agg #[.int .i8 (Stp.op (invT t s)), .int .i64 (Stp.id (invT t s)), .int .i64 (Stp.par (invT t s)), .int .i64 (Stp.place (invT t s)), .string (Stp.text (invT t s)), .int .i64 (Stp.sub (invT t s)).id, .int .i64 (Stp.sub (invT t s)).kind, .string (Stp.sub (invT t s)).text, .slice A (Stp.sub (invT t s)).kids.length c], .int .i64 0]) ∧ TrC (fun b => w.heap.size ≤ b ∧ b < w'.heap.size) w' (invT t s).sub [.int .i64 (Tr.id (invT t s).sub), .int .i64 (Tr.kind (invT t s).sub), .string (Tr.text (invT t s).sub), .slice A (Tr.kids (invT t s).sub).length c] ∧ Chg [] w w'
theorem applyT_op {t x : Tr} {s : Stp} (h : applyT t s = .ok x) : t.nodes ≤ 2000 ∧ (s.op = 1 ∨ s.op = 2 ∨ s.op = 3 ∨ s.op = 4) := by
  unfold applyT at h
  split at h
  · rename_i hn
    refine ⟨hn.1, ?_⟩
    unfold doT at h
    split at h
    · omega
    split at h
    · omega
    split at h
    · omega
    split at h
    · omega
    · cases h
  · cases h
theorem inv_any (t : Tr) (A : Option Addr) (c : Nat) (s : Stp) (As : Option Addr) (cs bx : Nat) (w : World) (hbx : WBox bx w) (hT : TrC (fun b => b < w.heap.size) w t [.int .i64 (Tr.id t), .int .i64 (Tr.kind t), .string (Tr.text t), .slice A (Tr.kids t).length c]) (hn : t.nodes ≤ 100000) (hop : s.op = 1 ∨ s.op = 2 ∨ s.op = 3 ∨ s.op = 4) :
    ∃ (K : FuncId) (lb : Array Value), (#[.nilFunc, .func (.func 142) #[] #[], .func (.func 143) #[] #[.pointer (some ⟨bx, 0, none⟩)], .func (.func 144) #[] #[.pointer (some ⟨bx, 0, none⟩)], .func (.func 145) #[] #[.pointer (some ⟨bx, 0, none⟩)]] : Array Value)[s.op.toNat]? = some (.func (.func K) #[] lb) ∧ (∀ args w, (callFunc K args).run Try.prog w = .ok (.enter K args) w) ∧ Calls Try.prog K (#[.agg #[.int .i64 (Tr.id t), .int .i64 (Tr.kind t), .string (Tr.text t), .slice A (Tr.kids t).length c], .agg #[.int .i8 (Stp.op s), .int .i64 (Stp.id s), .int .i64 (Stp.par s), .int .i64 (Stp.place s), .string (Stp.text s), .int .i64 (Stp.sub s).id, .int .i64 (Stp.sub s).kind, .string (Stp.sub s).text, .slice As (Stp.sub s).kids.length cs]] ++ lb) w (InvV (invT t s) w) := by
  rcases hop with h | h | h | h
  · refine ⟨142, #[], by rw [h]; rfl, enters_of Try.func142 (by kernel_rfl) rfl, ?_⟩
    unfold invT; rw [if_pos h]
    exact inv2_any t A c s As cs w
  · refine ⟨143, #[.pointer (some ⟨bx, 0, none⟩)], by rw [h]; rfl, enters_of Try.func143 (by kernel_rfl) rfl, ?_⟩
    unfold invT; rw [if_neg (by omega), if_pos h]
    exact inv3_any t A c s As cs bx w hbx hT hn
  · refine ⟨144, #[.pointer (some ⟨bx, 0, none⟩)], by rw [h]; rfl, enters_of Try.func144 (by kernel_rfl) rfl, ?_⟩
    unfold invT; rw [if_neg (by omega), if_neg (by omega), if_pos h]
    exact inv4_any t A c s As cs bx w hbx hT hn
  · refine ⟨145, #[.pointer (some ⟨bx, 0, none⟩)], by rw [h]; rfl, enters_of Try.func145 (by kernel_rfl) rfl, ?_⟩
    unfold invT; rw [if_neg (by omega), if_neg (by omega), if_neg (by omega)]
    exact inv5_any t A c s As cs bx w hbx hT hn
structure UnW (w : World) (t : Tr) (A : Option Addr) (c : Nat) (s : Stp) (As : Option Addr) (cs : Nat) (W : World) : Prop where
  b0 : W.heap[w.heap.size]? = some (.cells #[.int .i64 (Tr.id t), .int .i64 (Tr.kind t), .string (Tr.text t), .slice A (Tr.kids t).length c] 24 (0, 0))
  b1 : W.heap[w.heap.size + 1]? = some (.cells #[.int .i8 (Stp.op s), .int .i64 (Stp.id s), .int .i64 (Stp.par s), .int .i64 (Stp.place s), .string (Stp.text s), .int .i64 (Stp.sub s).id, .int .i64 (Stp.sub s).kind, .string (Stp.sub s).text, .slice As (Stp.sub s).kids.length cs] 27 (0, 0))
  b2 : W.heap[w.heap.size + 2]? = some (.cells #[.int .i8 0, .int .i64 0, .int .i64 0, .int .i64 0, .string ⟨#[]⟩, .int .i64 0, .int .i64 0, .string ⟨#[]⟩, .slice none 0 0] 27 (0, 0))
  chg : Chg [] w W
theorem UnW.kept {w : World} {t : Tr} {A : Option Addr} {c : Nat} {s : Stp} {As : Option Addr} {cs : Nat} {W W' : World} (h : UnW w t A c s As cs W) (hc : Chg [] W W') : UnW w t A c s As cs W' :=
  ⟨hc.at h.b0 (by simp), hc.at h.b1 (by simp), hc.at h.b2 (by simp), h.chg.trans hc⟩
set_option maxHeartbeats 4000000 in
set_option maxRecDepth 100000 in
theorem uinvert_any (t : Tr) (A : Option Addr) (c : Nat) (s : Stp) (As : Option Addr) (cs : Nat) (w : World) (hT : TrC (fun b => b < w.heap.size) w t [.int .i64 (Tr.id t), .int .i64 (Tr.kind t), .string (Tr.text t), .slice A (Tr.kids t).length c]) (hS : StpC (fun b => b < w.heap.size) w s (#[.int .i8 (Stp.op s), .int .i64 (Stp.id s), .int .i64 (Stp.par s), .int .i64 (Stp.place s), .string (Stp.text s), .int .i64 (Stp.sub s).id, .int .i64 (Stp.sub s).kind, .string (Stp.sub s).text, .slice As (Stp.sub s).kids.length cs] : Array Value).toList) :
    Calls Try.prog 71 #[.agg #[.int .i64 (Tr.id t), .int .i64 (Tr.kind t), .string (Tr.text t), .slice A (Tr.kids t).length c], .agg #[.int .i8 (Stp.op s), .int .i64 (Stp.id s), .int .i64 (Stp.par s), .int .i64 (Stp.place s), .string (Stp.text s), .int .i64 (Stp.sub s).id, .int .i64 (Stp.sub s).kind, .string (Stp.sub s).text, .slice As (Stp.sub s).kids.length cs]] w (UndoPost t s w) := by
  obtain ⟨W, hW⟩ : ∃ W, W = ((w.alloc (.cells #[.int .i64 (Tr.id t), .int .i64 (Tr.kind t), .string (Tr.text t), .slice A (Tr.kids t).length c] 24)).alloc (.cells #[.int .i8 (Stp.op s), .int .i64 (Stp.id s), .int .i64 (Stp.par s), .int .i64 (Stp.place s), .string (Stp.text s), .int .i64 (Stp.sub s).id, .int .i64 (Stp.sub s).kind, .string (Stp.sub s).text, .slice As (Stp.sub s).kids.length cs] 27)).alloc (.cells #[.int .i8 0, .int .i64 0, .int .i64 0, .int .i64 0, .string ⟨#[]⟩, .int .i64 0, .int .i64 0, .string ⟨#[]⟩, .slice none 0 0] 27) := ⟨_, rfl⟩
  have hU : UnW w t A c s As cs W := ⟨by rw [hW]; exact heap_old (heap_old (heap_new _ _ rfl) _) _, by rw [hW]; exact heap_old (heap_new _ _ (by simp)) _, by rw [hW]; exact heap_new _ _ (by simp), by rw [hW]; exact (by with_reducible repeat (first | exact Chg.refl _ _ | apply Chg.alloc | apply Chg.drew | apply Chg.drewN | (refine Chg.setCell ?_ _ _ (by simp))))⟩
  have hcall := apply_any t s A c (#[.int .i8 (Stp.op s), .int .i64 (Stp.id s), .int .i64 (Stp.par s), .int .i64 (Stp.place s), .string (Stp.text s), .int .i64 (Stp.sub s).id, .int .i64 (Stp.sub s).kind, .string (Stp.sub s).text, .slice As (Stp.sub s).kids.length cs] : Array Value).toList W (hT.next hU.chg) (hS.next hU.chg)
  obtain ⟨p0, p1, p2, p3⟩ := blk4 hU.b0
  obtain ⟨q0, q1, q2, q3, q4, q5, q6, q7, q8⟩ := cells9 hU.b1
  have HW := Lib.hid (And.intro hW (And.intro hU (And.intro hcall hT)))
  rw [hW] at p0 p1 p2 p3 q0 q1 q2 q3 q4 q5 q6 q7 q8
  clear hW hU hcall hT hS
  go_enter Try.func71, Try.ntmps71
  go_wp2_with fail
  rw [← HW.out.1]
  clear p0 p1 p2 p3 q0 q1 q2 q3 q4 q5 q6 q7 q8
  have hdo := HW.out.2.2.1
  unfold ApplyPost at hdo
  unfold UndoPost
  cases hr : applyT t s with
  | error n =>
    simp only [hr] at hdo ⊢
    have e0 : (n == 0) = false := by simpa using applyT_ne hr
    have e0' : (n != 0) = true := by simpa using applyT_ne hr
    have HR := Lib.hid hr
    clear hr
    refine hdo.mono ?_
    clear hdo
    rintro e X ⟨rfl, hX⟩
    have hs := HW.out.2.1.kept (hX.alloc (.cells #[.int .i64 0, .int .i64 0, .string ⟨#[]⟩, .slice none 0 0] 24))
    have HX := Lib.hid hs
    clear hX hs
    go_wp2_with (first
      | (refine wpList_store_row rfl 27 (.tmp 4) (.tmp 16) rfl (w.heap.size + 1 + 1) rfl #[.int .i8 0, .int .i64 0, .int .i64 0, .int .i64 0, .string ⟨#[]⟩, .int .i64 0, .int .i64 0, .string ⟨#[]⟩, .slice none 0 0] (by rfl) _ _ HX.out.b2 szST9 rfl (by simp [Value.oneCell']) ?_)
      | (skip; fail))
    have hc := setRow_chg (X.alloc (.cells #[.int .i64 0, .int .i64 0, .string ⟨#[]⟩, .slice none 0 0] 24)) (w.heap.size + 1 + 1) #[.int .i8 0, .int .i64 0, .int .i64 0, .int .i64 0, .string ⟨#[]⟩, .int .i64 0, .int .i64 0, .string ⟨#[]⟩, .slice none 0 0]
    refine bodyPost_ret (v := .tuple #[.agg #[.int .i8 0, .int .i64 0, .int .i64 0, .int .i64 0, .string ⟨#[]⟩, .int .i64 0, .int .i64 0, .string ⟨#[]⟩, .slice none 0 0], .int .i64 n]) (results_row_tmp rfl _ _ (w.heap.size + 1 + 1) _ _ _ _ _ rfl rfl (setRow_heap _ _ _ _ _ _ HX.out.b2) Try.underlying27 rfl szST9) rfl ?_
    unfold UndoPost
    rw [HR.out]
    exact ⟨rfl, HX.out.chg.andThen hc (by simp; omega)⟩
  | ok y =>
    simp only [hr] at hdo ⊢
    obtain ⟨hn, hop⟩ := applyT_op hr
    have HR := Lib.hid (And.intro hr (And.intro hn hop))
    clear hr hn hop
    refine hdo.mono ?_
    clear hdo
    rintro e X ⟨Ay, cy, rfl, _, hX⟩
    obtain ⟨V, hV⟩ : ∃ V, V = X.alloc (.cells #[.int .i64 (Tr.id y), .int .i64 (Tr.kind y), .string (Tr.text y), .slice Ay (Tr.kids y).length cy] 24) := ⟨_, rfl⟩
    have hs := HW.out.2.1.kept (show Chg [] W V by rw [hV]; exact hX.alloc _)
    have HV := Lib.hid (And.intro hs hV)
    clear hs hV hX
    go_wp2_with (skip; fail)
    rw [← HV.out.2]
    refine wp_region_M (fun W => W.cell? ⟨w.heap.size + 1, 0, none⟩ = some (.int .i8 s.op) ∧ W.rangeAt w.heap.size 0 [.int .i64 (Tr.id t), .int .i64 (Tr.kind t), .string (Tr.text t), .slice A (Tr.kids t).length c] ∧ W.rangeAt (w.heap.size + 1) 0 (#[.int .i8 (Stp.op s), .int .i64 (Stp.id s), .int .i64 (Stp.par s), .int .i64 (Stp.place s), .string (Stp.text s), .int .i64 (Stp.sub s).id, .int .i64 (Stp.sub s).kind, .string (Stp.sub s).text, .slice As (Stp.sub s).kids.length cs] : Array Value).toList) (fun k => [0, 3, 6, 7].contains k) (fun k => [7].contains k) (by kernel_rfl) ?_
    obtain ⟨Z, hZ⟩ : ∃ Z, Z = V.drew := ⟨_, rfl⟩
    rw [← hZ]
    have hs := HV.out.1.kept (show Chg [] V Z by rw [hZ]; exact (Chg.refl _ _).drew)
    clear hZ
    have hall : ∀ Z' : World, UnW w t A c s As cs Z' → Z'.cell? ⟨w.heap.size + 1, 0, none⟩ = some (.int .i8 s.op) ∧ Z'.rangeAt w.heap.size 0 [.int .i64 (Tr.id t), .int .i64 (Tr.kind t), .string (Tr.text t), .slice A (Tr.kids t).length c] ∧ Z'.rangeAt (w.heap.size + 1) 0 (#[.int .i8 (Stp.op s), .int .i64 (Stp.id s), .int .i64 (Stp.par s), .int .i64 (Stp.place s), .string (Stp.text s), .int .i64 (Stp.sub s).id, .int .i64 (Stp.sub s).kind, .string (Stp.sub s).text, .slice As (Stp.sub s).kids.length cs] : Array Value).toList := fun Z' h => ⟨(cells9 h.b1).1, range_all h.b0, range_all h.b1⟩
    have hS := hall Z hs
    have HZ := Lib.hid (And.intro hs hall)
    clear hs hall
    ((try dsimp only); (try simp only [Act.put, List.setIfInBounds_toArray, List.set_cons_zero, List.set_cons_succ]))
    refine M_pure (i := 1) (v := ?_) rfl (by kernel_rfl) (by kernel_rfl) (by kernel_rfl) (fun _ _ _ h => h) (by rfl) ?hy ?_; (case hy => (intro w; go_simp; with_reducible rfl)); ((try dsimp only); (try simp only [Act.put, List.setIfInBounds_toArray, List.set_cons_zero, List.set_cons_succ]))
    refine M_semi (i := 2) (v := ?_) rfl (by kernel_rfl) (by kernel_rfl) (by kernel_rfl) (by kernel_rfl) (fun _ _ _ h => h) (by rfl) hS ?hy ?_
    case hy => (intro w hS; have h2 := hS.1; go_simp; with_reducible rfl)
    ((try dsimp only); (try simp only [Act.put, List.setIfInBounds_toArray, List.set_cons_zero, List.set_cons_succ]))
    refine M_semi (i := 4) rfl (by kernel_rfl) (by kernel_rfl) (by kernel_rfl) (by kernel_rfl) (fun _ _ _ h => h) (by rfl) hS (fun W hS => exec_load_mid 24 (.tmp 2) rfl w.heap.size 0 rfl _ _ hS.2.1 Try.underlying24 rfl szNode) ?_; ((try dsimp only); (try simp only [Act.put, List.setIfInBounds_toArray, List.set_cons_zero, List.set_cons_succ]))
    refine M_semi (i := 5) rfl (by kernel_rfl) (by kernel_rfl) (by kernel_rfl) (by kernel_rfl) (fun _ _ _ h => h) (by rfl) hS (fun W hS => exec_load_mid 27 (.tmp 3) rfl (w.heap.size + 1) 0 rfl _ _ hS.2.2 Try.underlying27 rfl szST9) ?_; ((try dsimp only); (try simp only [Act.put, List.setIfInBounds_toArray, List.set_cons_zero, List.set_cons_succ]))
    refine M_eff (i := 0) rfl (by kernel_rfl) (by rfl) ?_
    go_wp2_with fail
    refine (inverses_any Z).mono ?_
    rintro e Y ⟨rfl, hbx, hY⟩
    have hsY := HZ.out.1.kept hY
    have hSY := HZ.out.2 Y hsY
    obtain ⟨K, lb, hix, hcf, hcall⟩ := inv_any t A c s As cs (Z.heap.size + 1) Y hbx (HW.out.2.2.2.next hsY.chg) (by have := HR.out.2.1; omega) HR.out.2.2
    have HY := Lib.hid (And.intro hsY (And.intro hcall (And.intro hix hSY)))
    clear hsY hcall hix hS hbx hY
    go_wp2_with fail
    refine ⟨hSY, ?_⟩
    refine M_eff (i := 3) rfl (by kernel_rfl) (by rfl) ?_
    go_wp2_with (first
      | (refine wpList_runv rfl (exec_indexF (.tmp 18) (.tmp 20) rfl _ _ _ _ _ (.func (.func K) #[] lb) s.op rfl rfl HR.out.2.2 HY.out.2.2.1) ?_)
      | fail)
    refine ⟨hSY, ?_⟩
    refine M_eff (i := 6) rfl (by kernel_rfl) (by rfl) ?_
    go_wp2_with fail
    refine HY.out.2.1.mono ?_
    clear hcf
    rintro e U ⟨A', c', rfl, hTU, hU⟩
    have hsU := HY.out.1.kept hU
    have hSU := HZ.out.2 U hsU
    have HU := Lib.hid (And.intro hTU (And.intro hsU trivial))
    clear hTU hU hsU hSY
    go_wp2_with fail
    refine ⟨hSU, ?_⟩
    clear hSU
    refine M_brk (i := 7) rfl (by kernel_rfl) (by rfl) (by rfl) ?_
    go_wp2_with (first
      | (refine wpList_store_row rfl 27 (.tmp 4) (.tmp 24) rfl (w.heap.size + 1 + 1) rfl #[.int .i8 (Stp.op (invT t s)), .int .i64 (Stp.id (invT t s)), .int .i64 (Stp.par (invT t s)), .int .i64 (Stp.place (invT t s)), .string (Stp.text (invT t s)), .int .i64 (Stp.sub (invT t s)).id, .int .i64 (Stp.sub (invT t s)).kind, .string (Stp.sub (invT t s)).text, .slice A' (Stp.sub (invT t s)).kids.length c'] (by rfl) _ _ HU.out.2.1.b2 szST9 rfl (by simp [Value.oneCell']) ?_)
      | fail)
    ((try dsimp only [EffQ]); (try simp only [Act.put, List.setIfInBounds_toArray, List.set_cons_zero, List.set_cons_succ]))
    refine M_pure (i := 8) (v := ?_) rfl (by kernel_rfl) (by kernel_rfl) (by kernel_rfl) (fun _ _ _ h => h) (by rfl) ?hy ?_; (case hy => (intro w; go_simp; with_reducible rfl)); ((try dsimp only); (try simp only [Act.put, List.setIfInBounds_toArray, List.set_cons_zero, List.set_cons_succ]))
    refine M_done (by kernel_rfl) ?_ _
    go_wp2_with (skip; fail)
    have hc := setRow_chg U (w.heap.size + 1 + 1) #[.int .i8 (Stp.op (invT t s)), .int .i64 (Stp.id (invT t s)), .int .i64 (Stp.par (invT t s)), .int .i64 (Stp.place (invT t s)), .string (Stp.text (invT t s)), .int .i64 (Stp.sub (invT t s)).id, .int .i64 (Stp.sub (invT t s)).kind, .string (Stp.sub (invT t s)).text, .slice A' (Stp.sub (invT t s)).kids.length c']
    refine bodyPost_ret (v := .tuple #[.agg #[.int .i8 (Stp.op (invT t s)), .int .i64 (Stp.id (invT t s)), .int .i64 (Stp.par (invT t s)), .int .i64 (Stp.place (invT t s)), .string (Stp.text (invT t s)), .int .i64 (Stp.sub (invT t s)).id, .int .i64 (Stp.sub (invT t s)).kind, .string (Stp.sub (invT t s)).text, .slice A' (Stp.sub (invT t s)).kids.length c'], .int .i64 0]) (results_row_tmp rfl _ _ (w.heap.size + 1 + 1) _ _ _ _ _ rfl rfl (setRow_heap _ _ _ _ _ _ HU.out.2.1.b2) Try.underlying27 rfl szST9) rfl ?_
    unfold UndoPost
    rw [HR.out.1]
    have hcs := hc.size
    have hlY := lt_of_block HY.out.1.b2
    exact ⟨A', c', rfl, (HU.out.1.kept hc (fun g hg => by simp; omega)).weak (fun g hg _ => ⟨by omega, by omega⟩), HU.out.2.1.chg.andThen hc (by simp; omega)⟩
end Go.Proofs.Ytofjocjljbkjgaa
namespace Go.Proofs.Ytofjocjljbkjgaa
open Go.RowKit
theorem flatN {n : Nat} : ∀ css : List (List Value), (∀ cs ∈ css, cs.length = n) → css.flatten.length = css.length * n
  | [], _ => by simp
  | c :: css, h => by
    rw [List.flatten_cons, List.length_append, flatN css (fun x hx => h x (by simp [hx])), h c (by simp), List.length_cons, Nat.add_mul]; omega
theorem flatN_at {n : Nat} : ∀ (css : List (List Value)) (i : Nat) (cs : List Value) (j : Nat) (v : Value), (∀ cs ∈ css, cs.length = n) → css[i]? = some cs → cs[j]? = some v → css.flatten[i * n + j]? = some v
  | [], i, cs, j, v, _, h, _ => by simp at h
  | c :: css, 0, cs, j, v, h, h1, h2 => by
    simp at h1; subst h1
    rw [List.flatten_cons, Nat.zero_mul, Nat.zero_add, List.getElem?_append_left (List.getElem?_eq_some_iff.1 h2).1]; exact h2
  | c :: css, i + 1, cs, j, v, h, h1, h2 => by
    have h4 := h c (by simp)
    rw [List.flatten_cons, List.getElem?_append_right (by rw [h4, Nat.add_mul]; omega), h4, show (i + 1) * n + j - n = i * n + j from by rw [Nat.add_mul]; omega]
    exact flatN_at css i cs j v (fun x hx => h x (by simp [hx])) (by simpa using h1) h2
theorem flatN_set {n : Nat} : ∀ (css : List (List Value)) (i j : Nat) (u : Value) (hi : i < css.length), (∀ cs ∈ css, cs.length = n) → j < n → css.flatten.set (i * n + j) u = (css.set i ((css[i]).set j u)).flatten
  | c :: css, 0, j, u, _, h, hj => by
    have h4 := h c (by simp)
    simp only [Nat.zero_mul, Nat.zero_add, List.flatten_cons, List.getElem_cons_zero, List.set_cons_zero]
    rw [List.set_append_left _ _ (by omega)]
  | c :: css, i + 1, j, u, hi, h, hj => by
    have h4 := h c (by simp)
    simp only [List.flatten_cons, List.getElem_cons_succ, List.set_cons_succ]
    rw [List.set_append_right _ _ (by rw [h4, Nat.add_mul]; omega), h4, show (i + 1) * n + j - n = i * n + j from by rw [Nat.add_mul]; omega]
    rw [flatN_set css i j u (by simpa using hi) (fun x hx => h x (by simp [hx])) hj]
structure RowR (w : World) (n : Nat) (T : TypeId) (base : Nat) (v : Value) (css : List (List Value)) : Prop where
  row : w.ownsRow base T n v css.length css.flatten
  len : ∀ cs ∈ css, cs.length = n
namespace RowR
variable {w w' : World} {n base : Nat} {T : TypeId} {v v' : Value} {css : List (List Value)} {l : List Nat}
theorem nil (w : World) (n : Nat) (T : TypeId) (base : Nat) : RowR w n T base (.slice none 0 0) [] := ⟨World.ownsRow_nil _ _ _ _, by simp⟩
theorem own (h : RowR w n T base v css) : ∀ b, v.ownBlock = some b → base ≤ b ∧ b < w.heap.size := h.row.lt
theorem slice (h : RowR w n T base v css) : ∃ A c, v = .slice A css.length c := own_slice h.row
theorem kept (h : RowR w n T base v css) (hc : Chg l w w') (hl : ∀ b, v.ownBlock = some b → b ∉ l) : RowR w' n T base v css := ⟨own_kept h.row hc hl, h.len⟩
theorem weak {base' : Nat} (h : RowR w n T base v css) (hb : base' ≤ base) : RowR w n T base' v css := by
  refine ⟨⟨h.row.1, ?_⟩, h.len⟩
  rcases h.row.2 with h0 | ⟨g, c, C, e1, e2, r⟩
  · exact .inl h0
  · exact .inr ⟨g, c, C, e1, by omega, r⟩
theorem push {cs : List Value} (h : RowR w n T base v css) (ho : w'.ownsRow base T n v' (css.length + 1) (css.flatten ++ cs)) (hl : cs.length = n) : RowR w' n T base v' (css ++ [cs]) :=
  ⟨by simpa using ho, fun x hx => by rcases List.mem_append.1 hx with hx | hx; exact h.len x hx; simp at hx; rw [hx]; exact hl⟩
theorem pushN {ds : List (List Value)} (h : RowR w n T base v css) (ho : w'.ownsRow base T n v' (css.length + ds.length) (css.flatten ++ ds.flatten)) (hl : ∀ cs ∈ ds, cs.length = n) : RowR w' n T base v' (css ++ ds) :=
  ⟨by simpa using ho, fun x hx => by rcases List.mem_append.1 hx with hx | hx; exact h.len x hx; exact hl x hx⟩
theorem block (h : RowR w n T base v css) (hp : 0 < css.length) : ∃ g c C, v = .slice (some ⟨g, 0, none⟩) css.length c ∧ base ≤ g ∧ w.heap[g]? = some (.cells C T (0, 0)) ∧ css.length ≤ c ∧ c ≤ maxLen ∧ C.size = c * n ∧ C.toList.take (css.length * n) = css.flatten ∧ ∀ i (hi : i < css.length), w.rangeAt g (i * n) (css[i]) := by
  rcases h.row.2 with ⟨rfl, h0⟩ | ⟨g, cap, cur, rfl, hb, hg, hn1, hn2, hsz, htk⟩
  · omega
  · refine ⟨g, cap, cur, rfl, hb, hg, hn1, hn2, hsz, htk, fun i hi j u hu => ?_⟩
    have := flatN_at css i _ j u h.len (List.getElem?_eq_getElem hi) hu
    rw [← htk, List.getElem?_take] at this
    split at this
    · simp only [World.cell?, hg]; simpa using this
    · cases this
theorem setCell {g c i j : Nat} {C : Array Value} {u : Value} (h : RowR w n T base (.slice (some ⟨g, 0, none⟩) css.length c) css) (hi : i < css.length) (hj : j < n) : RowR (w.setCell ⟨g, i * n + j, none⟩ u) n T base (.slice (some ⟨g, 0, none⟩) css.length c) (css.set i ((css[i]).set j u)) := by
  obtain ⟨g', c', C, e, hb, hg, h1, h2, h3, h4, _⟩ := h.block (by omega)
  injection e with e1 _ e3
  injection e1 with e1
  injection e1 with e1 _ _
  subst e1 e3
  have hlen : ∀ cs ∈ css.set i ((css[i]).set j u), cs.length = n := fun cs hcs => by
    rcases List.mem_or_eq_of_mem_set hcs with hm | rfl
    · exact h.len cs hm
    · simpa using h.len _ (List.getElem_mem hi)
  refine ⟨⟨by rw [flatN _ hlen], .inr ⟨g, c, C.setIfInBounds (i * n + j) u, by simp, hb, heap_setCell_same _ _ _ _ _ _ hg, by simpa using h1, h2, by simpa using h3, ?_⟩⟩, hlen⟩
  rw [Array.toList_setIfInBounds, List.take_set, List.length_set, h4, flatN_set css i j u hi h.len hj]
end RowR
end Go.Proofs.Ytofjocjljbkjgaa
namespace Go.Proofs.Ytofjocjljbkjgaa
open Go.RowKit
def invL : Tr → List Stp → List Stp
  | _, [] => []
  | t, s :: l => match applyT t s with
    | .ok y => invT t s :: invL y l
    | .error _ => []
structure RowP9 (w : World) (ok : Nat → Prop) (base : Nat) (v : Value) (ss : List Stp) : Prop where
  ex : ∃ css, RowR w 9 27 base v css ∧ css.length = ss.length ∧ (∀ b, v.ownBlock = some b → ok b) ∧ ∀ (k : Nat) s cs, ss[k]? = some s → css[k]? = some cs → StpC (fun b => ok b ∧ base ≤ b ∧ b < w.heap.size ∧ v.ownBlock ≠ some b) w s cs
theorem RowP9.nil (w : World) (ok : Nat → Prop) (base : Nat) : RowP9 w ok base (.slice none 0 0) [] := ⟨[], .nil _ _ _ _, rfl, fun b hb => (by simp [Value.ownBlock] at hb), fun k s cs h => by simp at h⟩
theorem RowP9.own {w : World} {ok : Nat → Prop} {base : Nat} {v : Value} {ss : List Stp} (h : RowP9 w ok base v ss) : ∀ b, v.ownBlock = some b → base ≤ b ∧ b < w.heap.size := by
  obtain ⟨css, h1, _⟩ := h.ex; exact h1.own
theorem RowP9.slice {w : World} {ok : Nat → Prop} {base : Nat} {v : Value} {ss : List Stp} (h : RowP9 w ok base v ss) : ∃ A c, v = .slice A ss.length c := by
  obtain ⟨css, h1, h2, _⟩ := h.ex; rw [← h2]; exact h1.slice
theorem RowP9.weak {w : World} {ok ok' : Nat → Prop} {base : Nat} {v : Value} {ss : List Stp} (h : RowP9 w ok base v ss) (hk : ∀ b, ok b → base ≤ b → b < w.heap.size → ok' b) : RowP9 w ok' base v ss := by
  obtain ⟨css, h1, h2, h0, h3⟩ := h.ex
  exact ⟨css, h1, h2, fun b hb => hk b (h0 b hb) (h1.own b hb).1 (h1.own b hb).2, fun k s cs hs hcs => (h3 k s cs hs hcs).weak (fun b hb _ => ⟨hk b hb.1 hb.2.1 hb.2.2.1, hb.2⟩)⟩
theorem RowP9.kept {w w' : World} {ok : Nat → Prop} {base : Nat} {v : Value} {ss : List Stp} {l : List Nat} (h : RowP9 w ok base v ss) (hc : Chg l w w') (hl : ∀ b ∈ l, ok b → b < base) : RowP9 w' ok base v ss := by
  obtain ⟨css, h1, h2, h0, h3⟩ := h.ex
  refine ⟨css, h1.kept hc (fun b hb hm => by have := h1.own b hb; have := hl b hm (h0 b hb); omega), h2, h0, fun k s cs hs hcs => ?_⟩
  exact ((h3 k s cs hs hcs).kept hc (fun b hb hm => by have := hl b hm hb.1; omega)).weak (fun b hb _ => ⟨hb.1, hb.2.1, Nat.lt_of_lt_of_le hb.2.2.1 hc.size, hb.2.2.2⟩)
theorem RowP9.push {w w1 w' : World} {ok : Nat → Prop} {base : Nat} {v v' : Value} {ss : List Stp} {s : Stp} {cs : List Value} {css : List (List Value)} (h1 : RowR w 9 27 base v css) (h2 : css.length = ss.length) (h0 : ∀ b, v.ownBlock = some b → ok b) (h3 : ∀ (k : Nat) s cs, ss[k]? = some s → css[k]? = some cs → StpC (fun b => ok b ∧ base ≤ b ∧ b < w.heap.size ∧ v.ownBlock ≠ some b) w s cs) (hc0 : Chg [] w w1) (hb : base ≤ w.heap.size) (ho : w'.ownsRow base 27 9 v' (css.length + 1) (css.flatten ++ cs))
    (hc : Chg v.ownBlock.toList w1 w') (hat : v'.ownBlock = v.ownBlock ∨ v'.ownBlock = some w1.heap.size) (hok : ok w1.heap.size) (hs : StpC (fun b => ok b ∧ w.heap.size ≤ b ∧ b < w1.heap.size) w1 s cs) : RowP9 w' ok base v' (ss ++ [s]) := by
  have h1' := h1.kept hc0 (by simp)
  refine ⟨css ++ [cs], h1'.push ho hs.nine, by simp [h2], fun b hb2 => ?_, fun k s2 cs2 hs2 hcs2 => ?_⟩
  · rcases hat with e | e
    · rw [e] at hb2; exact h0 b hb2
    · rw [e] at hb2; injection hb2 with hb2; rw [← hb2]; exact hok
  have hsz := hc.size
  have hsz0 := hc0.size
  rcases Nat.lt_or_ge k ss.length with hk | hk
  · rw [List.getElem?_append_left hk] at hs2
    rw [List.getElem?_append_left (by omega)] at hcs2
    refine (((h3 k s2 cs2 hs2 hcs2).kept hc0 (by simp)).kept hc (fun b hb hm => hb.2.2.2 (by simpa using hm))).weak (fun b hb _ => ⟨hb.1, hb.2.1, by omega, ?_⟩)
    rcases hat with e | e
    · rw [e]; exact hb.2.2.2
    · rw [e]; intro he; injection he; omega
  · have hk2 : k = ss.length := by have := (List.getElem?_eq_some_iff.1 hs2).1; simp at this; omega
    subst hk2
    rw [List.getElem?_append_right (Nat.le_refl _), Nat.sub_self] at hs2
    rw [List.getElem?_append_right (by omega), show ss.length - css.length = 0 by omega] at hcs2
    simp at hs2 hcs2
    subst hs2 hcs2
    refine (hs.kept hc (fun b hb hm => ?_)).weak (fun b hb _ => ⟨hb.1, by omega, by omega, ?_⟩)
    · have := h1.own b (by simpa using hm); omega
    · rcases hat with e | e
      · rw [e]; intro he; have := h1.own b he; omega
      · rw [e]; intro he; injection he; omega
theorem wpList_push_step {ops : Array Oper} {rest : List Oper} {o : Oper} {a : Act} {w w1 : World} {Q : Exit → Act → World → Prop} (hgd : o.guard = none) (s x : Operand) (ho : o.op = .call { callee := .builtin .append, args := #[s, x], argTypes := #[46, 46] }) (ok : Nat → Prop) (base : Nat) (v : Value) (ss : List Stp) (hs : a.eval s = v) (hv : RowP9 w ok base v ss) (hc0 : Chg [] w w1) (hb : base ≤ w.heap.size)
    (g : Nat) (st : Stp) (cs : List Value) (hx : a.eval x = .slice (some ⟨g, 0, none⟩) 1 1) (hg : w1.heap[g]? = some (.cells cs.toArray 27 (0, 0))) (hok : ok w1.heap.size) (hst : StpC (fun b => ok b ∧ w.heap.size ≤ b ∧ b < w1.heap.size) w1 st cs) (hl : ss.length ≤ 1000000)
    (h : ∀ v' w', RowP9 w' ok base v' (ss ++ [st]) → Chg v.ownBlock.toList w1 w' → wpList Try.prog ops Q rest (a.put o.dst v') w') : wpList Try.prog ops Q (o :: rest) a w1 := by
  obtain ⟨ip, hi, hz0, hz1, hz2⟩ := info_parts infoStep
  obtain ⟨css, h1, h2, h0, h3⟩ := hv.ex
  have h1' := h1.kept hc0 (by simp)
  refine wpList_append_own_at _ hgd s x 46 ho base 27 ip _ 9 104 Try.underlying46 hi hz0 hz1 hz2 rfl (by omega) v css.length _ hs h1'.row ⟨g, 0, none⟩ 1 1 cs hx (by rw [hst.nine]) (fun j u hu => by rw [Addr.add_mid]; exact range_all hg j u (by simpa using hu)) hst.one (by unfold maxLen; omega) (by omega) (Nat.le_trans hb hc0.size) ?_
  intro v' X hown hgr _ hat
  have hc : Chg v.ownBlock.toList w1 X := Chg.grown (Chg.refl _ _) hgr (by intro k hk; rw [hk]; simp)
  exact h v' X (RowP9.push h1 h2 h0 h3 hc0 hb hown hc hat hok hst) hc
end Go.Proofs.Ytofjocjljbkjgaa
namespace Go.Proofs.Ytofjocjljbkjgaa
open Go.RowKit
theorem trC_sub {ok : Nat → Prop} {w : World} : ∀ (p : List Nat) (t x : Tr) (cs : List Value), TrC ok w t cs → Tr.at? p t = some x → ∃ cs', TrC ok w x cs'
  | [], t, x, cs, h, e => by simp only [Tr.at?, Option.some.injEq] at e; subst e; exact ⟨cs, h⟩
  | i :: p, t, x, cs, h, e => by
    obtain ⟨A, c, _, _, _, _, hk⟩ := h.opens
    simp only [Tr.at?] at e
    cases hi : t.kids[i]? with
    | none => rw [hi] at e; cases e
    | some k =>
      rw [hi] at e
      obtain ⟨g, o, cs2, _, _, _, h2⟩ := hk i k hi
      exact trC_sub p k x cs2 h2 e
theorem subT_text {ok : Nat → Prop} {w : World} {t : Tr} {cs : List Value} (h : TrC ok w t cs) (id : Int) : ((t.subT id).getD zeroT).text.size ≤ 9223372036854775807 := by
  cases hx : t.subT id with
  | none => exact Nat.zero_le _
  | some x =>
    unfold Tr.subT at hx
    cases hp : t.path id with
    | none => rw [hp] at hx; cases hx
    | some p =>
      rw [hp] at hx
      obtain ⟨cs', h2⟩ := trC_sub p t x cs h hx
      obtain ⟨A, c, _, _, _, ht, _⟩ := h2.opens
      exact ht
theorem invT_fit {ok : Nat → Prop} {w : World} {t : Tr} {cs : List Value} (h : TrC ok w t cs) (s : Stp) : (invT t s).text.size ≤ 9223372036854775807 ∧ -128 ≤ (invT t s).op ∧ (invT t s).op ≤ 127 := by
  unfold invT
  split
  · exact ⟨Nat.zero_le _, by show (-128 : Int) ≤ 2; omega, by show (2 : Int) ≤ 127; omega⟩
  split
  · exact ⟨Nat.zero_le _, by show (-128 : Int) ≤ 1; omega, by show (1 : Int) ≤ 127; omega⟩
  split
  · exact ⟨Nat.zero_le _, by show (-128 : Int) ≤ 3; omega, by show (3 : Int) ≤ 127; omega⟩
  · exact ⟨subT_text h s.id, by show (-128 : Int) ≤ 4; omega, by show (4 : Int) ≤ 127; omega⟩
structure IvW (w : World) (t : Tr) (A : Option Addr) (c : Nat) (s : Stp) (As : Option Addr) (cs : Nat) (W : World) : Prop where
  b0 : W.heap[w.heap.size]? = some (.cells #[.int .i64 (Tr.id t), .int .i64 (Tr.kind t), .string (Tr.text t), .slice A (Tr.kids t).length c] 24 (0, 0))
  b1 : W.heap[w.heap.size + 1]? = some (.cells #[.int .i8 (Stp.op s), .int .i64 (Stp.id s), .int .i64 (Stp.par s), .int .i64 (Stp.place s), .string (Stp.text s), .int .i64 (Stp.sub s).id, .int .i64 (Stp.sub s).kind, .string (Stp.sub s).text, .slice As (Stp.sub s).kids.length cs] 27 (0, 0))
  b2 : W.heap[w.heap.size + 2]? = some (.cells #[.int .i64 0, .int .i64 0, .string ⟨#[]⟩, .slice none 0 0] 24 (0, 0))
  chg : Chg [] w W
theorem IvW.kept {w : World} {t : Tr} {A : Option Addr} {c : Nat} {s : Stp} {As : Option Addr} {cs : Nat} {W W' : World} (h : IvW w t A c s As cs W) (hc : Chg [] W W') : IvW w t A c s As cs W' :=
  ⟨hc.at h.b0 (by simp), hc.at h.b1 (by simp), hc.at h.b2 (by simp), h.chg.trans hc⟩
def RBox (w0 xb : Nat) (ss : List Stp) (W : World) : Prop := ∃ v, W.heap[xb]? = some (.cells #[v] 46 (0, 0)) ∧ RowP9 W (fun _ => True) w0 v ss
def SepR (xb : Nat) (W : World) (b : Nat) : Prop := b ≠ xb ∧ ∀ v, W.heap[xb]? = some (.cells #[v] 46 (0, 0)) → v.ownBlock ≠ some b
theorem SepR.of {xb b : Nat} {v : Value} {W : World} (h : W.heap[xb]? = some (.cells #[v] 46 (0, 0))) (h1 : b ≠ xb) (h2 : v.ownBlock ≠ some b) : SepR xb W b :=
  ⟨h1, fun u hu => by rw [h] at hu; simp only [Option.some.injEq, Obj.cells.injEq, Array.mk.injEq, List.cons.injEq, and_true] at hu; rw [← hu]; exact h2⟩
theorem SepR.get {xb b : Nat} {v : Value} {W : World} (h : W.heap[xb]? = some (.cells #[v] 46 (0, 0))) (hs : SepR xb W b) : b ≠ xb ∧ v.ownBlock ≠ some b := ⟨hs.1, hs.2 v h⟩
def InvOne (t : Tr) (s : Stp) (w0 xb : Nat) (L : List Stp) (w : World) (e : Ending) (w' : World) : Prop := match applyT t s with
  | .error n => ∃ A c, e = .returned (.tuple #[.agg #[.int .i64 (Tr.id t), .int .i64 (Tr.kind t), .string (Tr.text t), .slice A (Tr.kids t).length c], .int .i64 n]) ∧ Chg [] w w'
  | .ok y => ∃ A c, e = .returned (.tuple #[.agg #[.int .i64 (Tr.id y), .int .i64 (Tr.kind y), .string (Tr.text y), .slice A (Tr.kids y).length c], .int .i64 0]) ∧ TrC (fun b => w.heap.size ≤ b ∧ b < w'.heap.size ∧ SepR xb w' b) w' y [.int .i64 (Tr.id y), .int .i64 (Tr.kind y), .string (Tr.text y), .slice A (Tr.kids y).length c] ∧ RBox w0 xb (L ++ [invT t s]) w' ∧ Kp w0 [xb] w w'
set_option maxHeartbeats 4000000 in
set_option maxRecDepth 100000 in
theorem invert1_any (w0 xb : Nat) (L : List Stp) (t : Tr) (A : Option Addr) (c : Nat) (s : Stp) (As : Option Addr) (cs : Nat) (w : World) (hx : xb < w0) (hw0 : w0 ≤ w.heap.size) (hL : L.length ≤ 1000000) (hB : RBox w0 xb L w) (hT : TrC (fun b => b < w.heap.size ∧ SepR xb w b) w t [.int .i64 (Tr.id t), .int .i64 (Tr.kind t), .string (Tr.text t), .slice A (Tr.kids t).length c]) (hS : StpC (fun b => b < w0 ∧ b ≠ xb) w s (#[.int .i8 (Stp.op s), .int .i64 (Stp.id s), .int .i64 (Stp.par s), .int .i64 (Stp.place s), .string (Stp.text s), .int .i64 (Stp.sub s).id, .int .i64 (Stp.sub s).kind, .string (Stp.sub s).text, .slice As (Stp.sub s).kids.length cs] : Array Value).toList) :
    Calls Try.prog 70 #[.agg #[.int .i64 (Tr.id t), .int .i64 (Tr.kind t), .string (Tr.text t), .slice A (Tr.kids t).length c], .agg #[.int .i8 (Stp.op s), .int .i64 (Stp.id s), .int .i64 (Stp.par s), .int .i64 (Stp.place s), .string (Stp.text s), .int .i64 (Stp.sub s).id, .int .i64 (Stp.sub s).kind, .string (Stp.sub s).text, .slice As (Stp.sub s).kids.length cs], .pointer (some ⟨xb, 0, none⟩)] w (InvOne t s w0 xb L w) := by
  obtain ⟨W, hW⟩ : ∃ W, W = ((w.alloc (.cells #[.int .i64 (Tr.id t), .int .i64 (Tr.kind t), .string (Tr.text t), .slice A (Tr.kids t).length c] 24)).alloc (.cells #[.int .i8 (Stp.op s), .int .i64 (Stp.id s), .int .i64 (Stp.par s), .int .i64 (Stp.place s), .string (Stp.text s), .int .i64 (Stp.sub s).id, .int .i64 (Stp.sub s).kind, .string (Stp.sub s).text, .slice As (Stp.sub s).kids.length cs] 27)).alloc (.cells #[.int .i64 0, .int .i64 0, .string ⟨#[]⟩, .slice none 0 0] 24) := ⟨_, rfl⟩
  have hU : IvW w t A c s As cs W := ⟨by rw [hW]; exact heap_old (heap_old (heap_new _ _ rfl) _) _, by rw [hW]; exact heap_old (heap_new _ _ (by simp)) _, by rw [hW]; exact heap_new _ _ (by simp), by rw [hW]; exact (by with_reducible repeat (first | exact Chg.refl _ _ | apply Chg.alloc | apply Chg.drew | apply Chg.drewN | (refine Chg.setCell ?_ _ _ (by simp))))⟩
  have hcall := uinvert_any t A c s As cs W ((hT.weak (fun b hb _ => hb.1)).next hU.chg) ((hS.weak (ok' := fun b => b < w.heap.size) (fun b hb _ => by omega)).next hU.chg)
  obtain ⟨p0, p1, p2, p3⟩ := blk4 hU.b0
  obtain ⟨q0, q1, q2, q3, q4, q5, q6, q7, q8⟩ := cells9 hU.b1
  have HW := Lib.hid (And.intro hW (And.intro hU (And.intro hcall (And.intro hT (And.intro hS hB)))))
  rw [hW] at p0 p1 p2 p3 q0 q1 q2 q3 q4 q5 q6 q7 q8
  clear hW hU hcall hT hS hB
  go_enter Try.func70, Try.ntmps70
  go_wp2_with fail
  rw [← HW.out.1]
  clear p0 p1 p2 p3 q0 q1 q2 q3 q4 q5 q6 q7 q8
  have hdo := HW.out.2.2.1
  unfold UndoPost at hdo
  cases hr : applyT t s with
  | error n =>
    simp only [hr] at hdo
    have e0 : (n == 0) = false := by simpa using applyT_ne hr
    have e0' : (n != 0) = true := by simpa using applyT_ne hr
    have HR := Lib.hid hr
    clear hr
    refine hdo.mono ?_
    clear hdo
    rintro e X ⟨rfl, hX⟩
    have hs := HW.out.2.1.kept (hX.alloc (.cells #[.int .i8 0, .int .i64 0, .int .i64 0, .int .i64 0, .string ⟨#[]⟩, .int .i64 0, .int .i64 0, .string ⟨#[]⟩, .slice none 0 0] 27))
    obtain ⟨p0, p1, p2, p3⟩ := blk4 hs.b0
    obtain ⟨r0, r1, r2, r3⟩ := blk4 hs.b2
    have f0 := blkF hs.b2 0
    have f1 := blkF hs.b2 1
    have f2 := blkF hs.b2 2
    have f3 := blkF hs.b2 3
    have HX := Lib.hid hs
    clear hX hs
    go_wp2_with (skip; fail)
    refine bodyPost_ret (v := .tuple #[.agg #[.int .i64 (Tr.id t), .int .i64 (Tr.kind t), .string (Tr.text t), .slice A (Tr.kids t).length c], .int .i64 n]) (results_row_tmp rfl _ _ (w.heap.size + 1 + 1) _ _ _ _ _ rfl rfl (set4 HX.out.b2) Try.underlying24 rfl szNode) rfl ?_
    unfold InvOne
    rw [HR.out]
    exact ⟨A, c, rfl, HX.out.chg.andThen (chg4 _ _ _ _ _ _) (by simp; omega)⟩
  | ok y =>
    simp only [hr] at hdo
    have HR := Lib.hid hr
    clear hr
    refine hdo.mono ?_
    clear hdo
    rintro e X ⟨A', c', rfl, hTi, hX⟩
    obtain ⟨V, hV⟩ : ∃ V, V = X.alloc (.cells #[.int .i8 (Stp.op (invT t s)), .int .i64 (Stp.id (invT t s)), .int .i64 (Stp.par (invT t s)), .int .i64 (Stp.place (invT t s)), .string (Stp.text (invT t s)), .int .i64 (Stp.sub (invT t s)).id, .int .i64 (Stp.sub (invT t s)).kind, .string (Stp.sub (invT t s)).text, .slice A' (Stp.sub (invT t s)).kids.length c'] 27) := ⟨_, rfl⟩
    have hXV : Chg [] X V := by rw [hV]; exact (by with_reducible repeat (first | exact Chg.refl _ _ | apply Chg.alloc | apply Chg.drew | apply Chg.drewN | (refine Chg.setCell ?_ _ _ (by simp))))
    have hs := HW.out.2.1.kept (hX.trans hXV)
    obtain ⟨v, hbx, hrow⟩ := HW.out.2.2.2.2.2
    have hbV := hs.chg.at hbx (by simp)
    have m0 := cellOne hbV
    have HX0 := Lib.hid hbx
    have HV := Lib.hid (And.intro hs (And.intro hV (And.intro hTi hrow)))
    rw [hV] at m0
    have hVs : V.heap.size = X.heap.size + 1 := by rw [hV]; simp
    have hXw : w.heap.size ≤ X.heap.size := by have := HW.out.2.1.chg.size; have := hX.size; omega
    have hWw : w.heap.size ≤ W.heap.size := HW.out.2.1.chg.size
    have hst : StpC (fun b => b ≠ w.heap.size + 2 ∧ w.heap.size ≤ b ∧ b < (V.alloc (.cells #[.int .i8 (Stp.op (invT t s)), .int .i64 (Stp.id (invT t s)), .int .i64 (Stp.par (invT t s)), .int .i64 (Stp.place (invT t s)), .string (Stp.text (invT t s)), .int .i64 (Stp.sub (invT t s)).id, .int .i64 (Stp.sub (invT t s)).kind, .string (Stp.sub (invT t s)).text, .slice A' (Stp.sub (invT t s)).kids.length c'] 27)).heap.size) (V.alloc (.cells #[.int .i8 (Stp.op (invT t s)), .int .i64 (Stp.id (invT t s)), .int .i64 (Stp.par (invT t s)), .int .i64 (Stp.place (invT t s)), .string (Stp.text (invT t s)), .int .i64 (Stp.sub (invT t s)).id, .int .i64 (Stp.sub (invT t s)).kind, .string (Stp.sub (invT t s)).text, .slice A' (Stp.sub (invT t s)).kids.length c'] 27)) (invT t s) (#[.int .i8 (Stp.op (invT t s)), .int .i64 (Stp.id (invT t s)), .int .i64 (Stp.par (invT t s)), .int .i64 (Stp.place (invT t s)), .string (Stp.text (invT t s)), .int .i64 (Stp.sub (invT t s)).id, .int .i64 (Stp.sub (invT t s)).kind, .string (Stp.sub (invT t s)).text, .slice A' (Stp.sub (invT t s)).kids.length c'] : Array Value).toList := by
      obtain ⟨h1, h2, h3⟩ := invT_fit HW.out.2.2.2.1 s
      have hW3 := lt_of_block HW.out.2.1.b2
      refine ⟨A', c', rfl, (hTi.kept (hXV.alloc _) (by simp)).weak (fun b hb _ => ⟨by omega, by omega, by have := hb.2; simp; omega⟩), h1, h2, h3⟩
    clear hs hV hTi hX hXV hbx hrow hbV
    have HVs := Lib.hid hVs
    have hVB : Chg [] V (V.alloc (.cells #[.int .i8 (Stp.op (invT t s)), .int .i64 (Stp.id (invT t s)), .int .i64 (Stp.par (invT t s)), .int .i64 (Stp.place (invT t s)), .string (Stp.text (invT t s)), .int .i64 (Stp.sub (invT t s)).id, .int .i64 (Stp.sub (invT t s)).kind, .string (Stp.sub (invT t s)).text, .slice A' (Stp.sub (invT t s)).kids.length c'] 27)) := (by with_reducible repeat (first | exact Chg.refl _ _ | apply Chg.alloc | apply Chg.drew | apply Chg.drewN | (refine Chg.setCell ?_ _ _ (by simp))))
    have HB := Lib.hid (And.intro hVB hst)
    clear hVs hVB hst hXw hWw
    go_wp2_with (first
      | (rw [← HV.out.2.1]
         refine wpList_push_step rfl (.tmp 19) (.tmp 21) rfl (fun b => b ≠ w.heap.size + 2) w0 v L rfl (HV.out.2.2.2.weak (fun b _ _ hb => by omega)) (HV.out.1.chg.trans HB.out.1) hw0 V.heap.size (invT t s) (#[.int .i8 (Stp.op (invT t s)), .int .i64 (Stp.id (invT t s)), .int .i64 (Stp.par (invT t s)), .int .i64 (Stp.place (invT t s)), .string (Stp.text (invT t s)), .int .i64 (Stp.sub (invT t s)).id, .int .i64 (Stp.sub (invT t s)).kind, .string (Stp.sub (invT t s)).text, .slice A' (Stp.sub (invT t s)).kids.length c'] : Array Value).toList (by rw [HVs.out]; rfl) (heap_new _ _ rfl) (by have := lt_of_block HV.out.1.b2; simp; omega) HB.out.2 hL ?_
         intro v2 Y hrow2 hY
         obtain ⟨A2, c2, hv2⟩ := hrow2.slice
         rw [List.length_append, List.length_singleton] at hv2
         subst hv2
         have hown := HV.out.2.2.2.own
         have hbY := hY.at (HB.out.1.at (HV.out.1.chg.at HX0.out (by simp)) (by simp)) (fun hm => by have := hown xb (by simpa using hm); omega)
         have y0 := cellOne hbY
         have y1 := blkF hbY 0
         obtain ⟨Z, hZ⟩ : ∃ Z, Z = Y.setCell ⟨xb, 0, none⟩ (.slice A2 (L.length + 1) c2) := ⟨_, rfl⟩
         have hYZ : Chg [xb] Y Z := by rw [hZ]; exact (Chg.refl _ _).setCell _ _ (by simp)
         have hbZ : Z.heap[xb]? = some (.cells #[.slice A2 (L.length + 1) c2] 46 (0, 0)) := by rw [hZ]; exact heap_setCell_same _ _ 0 _ _ _ hbY
         have hVY : ∀ (b : Nat) o, V.heap[b]? = some o → b ≠ xb → v.ownBlock ≠ some b → Z.heap[b]? = some o := fun b o hb h1 h2 => hYZ.at (hY.at (HB.out.1.at hb (by simp)) (fun hm => h2 (by simpa using hm))) (by simpa using h1)
         have hz0 := hVY _ _ HV.out.1.b0 (by omega) (fun he => by have := hown _ he; omega)
         have hz1 := hVY _ _ HV.out.1.b1 (by omega) (fun he => by have := hown _ he; omega)
         have hz2 := hVY _ _ HV.out.1.b2 (by omega) (fun he => by have := hown _ he; omega)
         obtain ⟨p0, p1, p2, p3⟩ := blk4 hz0
         obtain ⟨q0, q1, q2, q3, q4, q5, q6, q7, q8⟩ := cells9 hz1
         have HY := Lib.hid (And.intro hrow2 (And.intro hY (And.intro hYZ (And.intro hbZ (And.intro hz2 hZ)))))
         rw [hZ] at p0 p1 p2 p3 q0 q1 q2 q3 q4 q5 q6 q7 q8
         clear hrow2 hY hown hbY hYZ hbZ hVY hz0 hz1 hz2 hZ
         ((try dsimp only); (try simp only [Act.put, List.setIfInBounds_toArray, List.set_cons_zero, List.set_cons_succ])))
      | (skip; fail))
    rw [← HY.out.2.2.2.2.2]
    clear p0 p1 p2 p3 q0 q1 q2 q3 q4 q5 q6 q7 q8 y0 y1
    have hwV : w.heap.size ≤ V.heap.size := HV.out.1.chg.size
    have hown := HV.out.2.2.2.own
    have hVZ : Chg (xb :: v.ownBlock.toList) V Z := (HB.out.1.mono (by simp)).trans ((HY.out.2.1.mono (fun i hi => .inl (List.mem_cons_of_mem _ hi))).trans (HY.out.2.2.1.mono (by simp)))
    have hwZ : Chg (xb :: v.ownBlock.toList) w Z := (HV.out.1.chg.mono (by simp)).trans hVZ
    have hTZ : TrC (fun b => b < Z.heap.size) Z t [.int .i64 (Tr.id t), .int .i64 (Tr.kind t), .string (Tr.text t), .slice A (Tr.kids t).length c] := (HW.out.2.2.2.1.kept hwZ (fun b hb => by
      have h1 := SepR.get HX0.out hb.2
      simp only [List.mem_cons, Option.mem_toList, Option.mem_def, not_or]
      exact h1)).weak (fun b hb _ => Nat.lt_of_lt_of_le hb.1 hwZ.size)
    have hSZ : StpC (fun b => b < Z.heap.size) Z s (#[.int .i8 (Stp.op s), .int .i64 (Stp.id s), .int .i64 (Stp.par s), .int .i64 (Stp.place s), .string (Stp.text s), .int .i64 (Stp.sub s).id, .int .i64 (Stp.sub s).kind, .string (Stp.sub s).text, .slice As (Stp.sub s).kids.length cs] : Array Value).toList := (HW.out.2.2.2.2.1.kept hwZ (fun b hb => by
      simp only [List.mem_cons, Option.mem_toList, Option.mem_def, not_or]
      exact ⟨hb.2, fun he => by have := hown b he; omega⟩)).weak (fun b hb _ => by have := hwZ.size; omega)
    have hap := apply_any t s A c (#[.int .i8 (Stp.op s), .int .i64 (Stp.id s), .int .i64 (Stp.par s), .int .i64 (Stp.place s), .string (Stp.text s), .int .i64 (Stp.sub s).id, .int .i64 (Stp.sub s).kind, .string (Stp.sub s).text, .slice As (Stp.sub s).kids.length cs] : Array Value).toList Z hTZ hSZ
    rw [HR.out] at hap
    have HP := Lib.hid (And.intro hwZ (And.intro hwV hap))
    clear hwV hown hVZ hwZ hTZ hSZ hap
    refine HP.out.2.2.mono ?_
    rintro e U ⟨Ay, cy, rfl, hTy, hU⟩
    have u2 := hU.at HY.out.2.2.2.2.1 (by simp)
    obtain ⟨r0, r1, r2, r3⟩ := blk4 u2
    have f0 := blkF u2 0
    have f1 := blkF u2 1
    have f2 := blkF u2 2
    have f3 := blkF u2 3
    have HU := Lib.hid (And.intro hU (And.intro hTy u2))
    clear hU hTy u2
    go_wp2_with (skip; fail)
    refine bodyPost_ret (v := .tuple #[.agg #[.int .i64 (Tr.id y), .int .i64 (Tr.kind y), .string (Tr.text y), .slice Ay (Tr.kids y).length cy], .int .i64 0]) (results_row_tmp rfl _ _ (w.heap.size + 1 + 1) _ _ _ _ _ rfl rfl (set4 HU.out.2.2) Try.underlying24 rfl szNode) rfl ?_
    have hc4 := chg4 U (w.heap.size + 1 + 1) (.int .i64 y.id) (.int .i64 y.kind) (.string y.text) (.slice Ay y.kids.length cy)
    have hs4 := hc4.size
    have hUs := HU.out.1.size
    have hZs := HP.out.1.size
    have hown2 := HY.out.1.own
    have hown := HV.out.2.2.2.own
    have hVs : V.heap.size ≤ Y.heap.size := by have := HY.out.2.1.size; have := HB.out.1.size; omega
    have hYZs : Z.heap.size = Y.heap.size := by rw [HY.out.2.2.2.2.2]; simp [World.setCell]
    have hbF := hc4.at (HU.out.1.at HY.out.2.2.2.1 (by simp)) (by simp; omega)
    have hrowF := ((HY.out.1.kept (l := [xb]) HY.out.2.2.1 (by simp; omega)).kept (l := []) HU.out.1 (by simp)).kept hc4 (by simp)
    unfold InvOne
    rw [HR.out]
    refine ⟨Ay, cy, rfl, ?_, ⟨_, hbF, ?_⟩, ?_⟩
    · exact (HU.out.2.1.toC.kept hc4 (fun b hb => by simp; have := lt_of_block HY.out.2.2.2.2.1; omega)).weak (fun b hb _ => ⟨by omega, by omega, SepR.of hbF (by omega) (fun he => by have := hown2 b he; omega)⟩)
    · exact hrowF.weak (fun _ _ _ _ => trivial)
    · exact Kp.of_chg ((HP.out.1.trans (HU.out.1.mono (by simp))).andThen hc4 (by simp; omega)) (fun k hk => by
        simp only [List.mem_cons, Option.mem_toList, Option.mem_def] at hk
        rcases hk with hk | hk
        · exact .inr (by simp [hk])
        · exact .inl (hown k hk).1)
end Go.Proofs.Ytofjocjljbkjgaa
namespace Go.Proofs.Ytofjocjljbkjgaa
open Go.RowKit
section
variable {P : Program} {ops : Array Oper} {rest : List Oper} {o : Oper} {a : Act} {w : World} {Q : Exit → Act → World → Prop}
theorem wpList_store_at (hgd : o.guard = none) (T : TypeId) (x y : Operand) (ho : o.op = .store T x y) (g k : Nat) (hx : a.eval x = .pointer (some ⟨g, k, none⟩)) (cells : Array Value) (hy : a.eval y = .agg cells)
    (cur : Array Value) (t : TypeId) (hg : w.heap[g]? = some (.cells cur t (0, 0))) (hi : (P.info? T).map (·.size) = some cells.size) (hfit : k + cells.size ≤ cur.size) (h1 : ∀ u ∈ cells.toList, u.oneCell' = true)
    (h : wpList P ops Q rest (a.put o.dst undef) (w.setRow g (cur.toList.take k ++ cells.toList ++ cur.toList.drop (k + cells.size)).toArray)) : wpList P ops Q (o :: rest) a w := by
  refine wpList_runs hgd ?_ h
  have := run_storeCells_at (P := P) g k t cells.toList 0 cur w hg (by simpa using hfit) h1
  cases hq : P.info? T with
  | none => simp [hq] at hi
  | some i =>
    have hs : cells.size = i.size := by simp [hq] at hi; omega
    simp only [Nat.add_zero, Array.length_toList] at this
    simp [execOp, ho, hx, hy, Instr.storeAt, Instr.sureAddr, storeVar, sizeOf, typeInfo, hq, Value.cells, hs, Result.andThen]
    rw [hs] at this
    rw [this]
    simp
end
theorem take_splice {α : Type} (L cs : List α) (p n T : Nat) (hp : p + n ≤ T) (hT : T ≤ L.length) (hl : cs.length = n) : (L.take p ++ cs ++ L.drop (p + n)).take T = L.take p ++ cs ++ (L.take T).drop (p + n) := by
  have h1 : (L.take p ++ cs).length = p + n := by simp; omega
  rw [List.take_append, List.take_of_length_le (by omega), h1, List.drop_take]
theorem RowR.setAt {w : World} {n base g c i m : Nat} {T : TypeId} {C : Array Value} {css : List (List Value)} {cs : List Value} (h : RowR w n T base (.slice (some ⟨g, 0, none⟩) m c) css) (hm : css.length = m) (hi : i < css.length) (hl : cs.length = n) (hg : w.heap[g]? = some (.cells C T (0, 0))) :
    RowR (w.setRow g (C.toList.take (i * n) ++ cs ++ C.toList.drop (i * n + n)).toArray) n T base (.slice (some ⟨g, 0, none⟩) m c) (css.set i cs) := by
  subst hm
  obtain ⟨g', c', C', e, hb, hg', h1, h2, h3, h4, _⟩ := h.block (by omega)
  injection e with e1 _ e3
  injection e1 with e1
  injection e1 with e1 _ _
  subst e1 e3
  rw [hg] at hg'
  injection hg' with hg'
  injection hg' with hg'
  subst hg'
  have hlen : ∀ x ∈ css.set i cs, x.length = n := fun x hx => by
    rcases List.mem_or_eq_of_mem_set hx with hm | rfl
    · exact h.len x hm
    · exact hl
  have hin : i * n + n ≤ css.length * n := by
    have : (i + 1) * n ≤ css.length * n := Nat.mul_le_mul_right _ (by omega)
    rwa [Nat.add_mul, Nat.one_mul] at this
  have hcn : css.length * n ≤ c * n := Nat.mul_le_mul_right _ h1
  have hCl : C.toList.length = c * n := by simpa using h3
  refine ⟨⟨by rw [flatN _ hlen], .inr ⟨g, c, _, by simp, hb, setRow_heap _ _ _ _ _ _ hg, by simpa using h1, h2, ?_, ?_⟩⟩, hlen⟩
  · simp only [List.size_toArray, List.length_append, List.length_take, List.length_drop, hCl, hl]; omega
  · have et : (css.take i).flatten.length = i * n := by
      rw [flatN _ (fun x hx => h.len x (List.mem_of_mem_take hx)), List.length_take, Nat.min_eq_left (by omega)]
    have e1 : C.toList.take (i * n) = (css.take i).flatten := by
      have e2 : C.toList.take (i * n) = (C.toList.take (css.length * n)).take (i * n) := by rw [List.take_take, Nat.min_eq_left (by omega)]
      rw [e2, h4]
      conv => lhs; rw [← List.take_append_drop i css]
      rw [List.flatten_append, ← et, List.take_left]
    have e3 : (C.toList.take (css.length * n)).drop (i * n + n) = (css.drop (i + 1)).flatten := by
      rw [h4]
      conv => lhs; rw [← List.take_append_drop (i + 1) css]
      have : (css.take (i + 1)).flatten.length = i * n + n := by
        rw [flatN _ (fun x hx => h.len x (List.mem_of_mem_take hx)), List.length_take, Nat.min_eq_left (by omega), Nat.add_mul, Nat.one_mul]
      rw [List.flatten_append, ← this, List.drop_left]
    rw [List.length_set, List.set_eq_take_append_cons_drop, if_pos hi, List.flatten_append, List.flatten_cons, ← e3]
    rw [take_splice _ _ _ _ _ hin (by omega) hl, e1, List.append_assoc]
def putAt (C : Array Value) (i : Nat) (cs : List Value) : Array Value := (C.toList.take (i * 9) ++ cs ++ C.toList.drop (i * 9 + 9)).toArray
theorem putAt_size {C : Array Value} {i : Nat} {cs : List Value} (hl : cs.length = 9) (hC : i * 9 + 9 ≤ C.size) : (putAt C i cs).size = C.size := by
  unfold putAt
  simp only [List.size_toArray, List.length_append, List.length_take, List.length_drop, Array.length_toList, hl]; omega
theorem wpList_put_step {ops : Array Oper} {rest : List Oper} {o : Oper} {a : Act} {w : World} {Q : Exit → Act → World → Prop} (hgd : o.guard = none) (x y : Operand) (ho : o.op = .store 27 x y) (g i : Nat) (hx : a.eval x = .pointer (some ⟨g, i * 9, none⟩)) (cs : List Value) (hy : a.eval y = .agg cs.toArray)
    (cur : Array Value) (hg : w.heap[g]? = some (.cells cur 27 (0, 0))) (h9 : cs.length = 9) (hfit : i * 9 + 9 ≤ cur.size) (h1 : ∀ u ∈ cs, u.oneCell' = true)
    (h : wpList Try.prog ops Q rest (a.put o.dst undef) (w.setRow g (putAt cur i cs))) : wpList Try.prog ops Q (o :: rest) a w := by
  refine wpList_store_at hgd 27 x y ho g (i * 9) hx cs.toArray hy cur 27 hg (by rw [List.size_toArray, h9]; exact szST9) (by rw [List.size_toArray, h9]; exact hfit) h1 ?_
  rw [show (cur.toList.take (i * 9) ++ cs.toArray.toList ++ cur.toList.drop (i * 9 + cs.toArray.size)).toArray = putAt cur i cs from by unfold putAt; simp [h9]]
  exact h
theorem RowP9.low {w : World} {ok : Nat → Prop} {base base' : Nat} {v : Value} {ss : List Stp} (h : RowP9 w ok base v ss) (hb : base' ≤ base) : RowP9 w ok base' v ss := by
  obtain ⟨css, h1, h2, h0, h3⟩ := h.ex
  exact ⟨css, h1.weak hb, h2, h0, fun k s cs hs hcs => (h3 k s cs hs hcs).weak (fun b hb2 _ => ⟨hb2.1, by omega, hb2.2.2⟩)⟩
theorem RowP9.swap {w : World} {ok : Nat → Prop} {base i j m : Nat} {A : Option Addr} {c : Nat} {L : List Stp} (h : RowP9 w ok base (.slice A m c) L) (hi : i < L.length) (hj : j < L.length) :
    ∃ g C ci cj, A = some ⟨g, 0, none⟩ ∧ base ≤ g ∧ m = L.length ∧ w.heap[g]? = some (.cells C 27 (0, 0)) ∧ (∀ k, k < L.length → k * 9 + 9 ≤ C.size) ∧ ci.length = 9 ∧ cj.length = 9 ∧ (∀ u ∈ ci, u.oneCell' = true) ∧ (∀ u ∈ cj, u.oneCell' = true) ∧ w.rangeAt g (i * 9) ci ∧ w.rangeAt g (j * 9) cj ∧
      RowP9 ((w.setRow g (putAt C i cj)).setRow g (putAt (putAt C i cj) j ci)) ok base (.slice A m c) ((L.set i L[j]).set j L[i]) := by
  obtain ⟨css, h1, h2, h0, h3⟩ := h.ex
  obtain ⟨g, c', C, e, hb, hg, hcl, hcm, hCs, htk, hr⟩ := h1.block (by omega)
  injection e with e1 e2 e3
  subst e1 e2 e3
  have hi' : i < css.length := by omega
  have hj' : j < css.length := by omega
  have hSi := h3 i _ _ (List.getElem?_eq_getElem hi) (List.getElem?_eq_getElem hi')
  have hSj := h3 j _ _ (List.getElem?_eq_getElem hj) (List.getElem?_eq_getElem hj')
  have hsz : ∀ k, k < L.length → k * 9 + 9 ≤ C.size := fun k hk => by rw [hCs]; omega
  refine ⟨g, C, css[i], css[j], rfl, hb, h2, hg, hsz, hSi.nine, hSj.nine, hSi.one, hSj.one, hr i hi', hr j hj', ?_⟩
  have hg1 : (w.setRow g (putAt C i css[j])).heap[g]? = some (.cells (putAt C i css[j]) 27 (0, 0)) := setRow_heap _ _ _ _ _ _ hg
  have r1 := RowR.setAt h1 rfl hi' hSj.nine hg
  have r2 := RowR.setAt (i := j) (cs := css[i]) r1 (by simp) (by simpa using hj') hSi.nine hg1
  have hch : Chg [g] w ((w.setRow g (putAt C i css[j])).setRow g (putAt (putAt C i css[j]) j css[i])) := (setRow_chg w g _).trans (setRow_chg _ g _)
  refine ⟨(css.set i css[j]).set j css[i], r2, by simp [h2], h0, fun k s cs hs hcs => ?_⟩
  have hat : ∃ k' : Nat, L[k']? = some s ∧ css[k']? = some cs := by
    rw [List.getElem?_set] at hs hcs
    simp only [List.length_set] at hs hcs
    by_cases hkj : j = k
    · rw [if_pos hkj, if_pos (by omega)] at hs hcs
      cases hs; cases hcs
      exact ⟨i, List.getElem?_eq_getElem hi, List.getElem?_eq_getElem hi'⟩
    · rw [if_neg hkj, List.getElem?_set] at hs hcs
      by_cases hki : i = k
      · rw [if_pos hki, if_pos (by omega)] at hs hcs
        cases hs; cases hcs
        exact ⟨j, List.getElem?_eq_getElem hj, List.getElem?_eq_getElem hj'⟩
      · rw [if_neg hki] at hs hcs
        exact ⟨k, hs, hcs⟩
  obtain ⟨k', q1, q2⟩ := hat
  refine ((h3 k' s cs q1 q2).kept hch (fun b hb hm => ?_)).weak (fun b hb _ => ⟨hb.1, hb.2.1, Nat.lt_of_lt_of_le hb.2.2.1 hch.size, hb.2.2.2⟩)
  simp only [List.mem_singleton] at hm
  exact hb.2.2.2 (by rw [hm]; rfl)
def Mir {α : Type} (L cur : List α) (k : Nat) : Prop := cur.length = L.length ∧ ∀ p, p < L.length → cur[p]? = if k ≤ p ∧ p + k < L.length then L[L.length - 1 - p]? else L[p]?
theorem Mir.start {α : Type} (L : List α) : Mir L L (L.length / 2) := ⟨rfl, fun p hp => by
  split
  · rw [show L.length - 1 - p = p by omega]
  · rfl⟩
theorem Mir.next {α : Type} {L cur : List α} {i r : Nat} (h : Mir L cur (i + 1)) (hi : i + 1 ≤ L.length / 2) (hr : r = L.length - 1 - i) (hil : i < cur.length) (hrl : r < cur.length) : Mir L ((cur.set i cur[r]).set r cur[i]) i := by
  obtain ⟨h1, h2⟩ := h
  subst hr
  refine ⟨by simp [h1], fun p hp => ?_⟩
  have ei := h2 i (by omega)
  have ej := h2 (L.length - 1 - i) (by omega)
  rw [if_neg (by omega), List.getElem?_eq_getElem (by omega)] at ei
  rw [if_neg (by omega), List.getElem?_eq_getElem (by omega)] at ej
  by_cases hj : p = L.length - 1 - i
  · subst hj
    rw [List.getElem?_set_self (by simp; omega), if_pos (by omega), ei]
    congr 1; omega
  · rw [List.getElem?_set_ne (by omega)]
    by_cases hpi : p = i
    · subst hpi
      rw [List.getElem?_set_self (by omega), if_pos (by omega), ej]
    · rw [List.getElem?_set_ne (by omega), h2 p hp]
      by_cases hc : i + 1 ≤ p ∧ p + (i + 1) < L.length
      · rw [if_pos hc, if_pos (by omega)]
      · rw [if_neg hc, if_neg (by omega)]
theorem Mir.done {α : Type} {L cur : List α} (h : Mir L cur 0) : cur = L.reverse := by
  apply List.ext_getElem?
  intro p
  by_cases hp : p < L.length
  · rw [h.2 p hp, if_pos (by omega), List.getElem?_reverse hp]
  · rw [List.getElem?_eq_none (by have := h.1; omega), List.getElem?_eq_none (by simp; omega)]
theorem foldF_len {f : Tr → Stp → Except Int Tr} (hf : ∀ x s n, f x s = .error n → n ≠ 0) : ∀ (l : List Stp) (t : Tr) (i : Nat), (foldF f t l i).2.2 = 0 → (foldF f t l i).2.1 = i + l.length
  | [], t, i, _ => rfl
  | s :: l, t, i, h => by
    unfold foldF at h ⊢
    cases hx : f t s with
    | error n => rw [hx] at h; exact absurd h (hf t s n hx)
    | ok y => rw [hx] at h; simp only [] at h ⊢; rw [foldF_len hf l y (i + 1) h, List.length_cons]; omega
end Go.Proofs.Ytofjocjljbkjgaa
namespace Go.Proofs.Ytofjocjljbkjgaa
open Go.RowKit
def InvJ (w0 xb : Nat) (t : Tr) (ss : List Stp) (i : Nat) (x : Tr) (W : World) : Prop := ∃ L, RBox w0 xb L W ∧ L.length = i ∧ L ++ invL x (ss.drop i) = invL t ss
theorem RBox.kept {w0 xb : Nat} {L : List Stp} {W W' : World} {l : List Nat} (h : RBox w0 xb L W) (hc : Chg l W W') (h1 : xb ∉ l) (h2 : ∀ b ∈ l, b < w0) : RBox w0 xb L W' := by
  obtain ⟨v, hb, hr⟩ := h
  exact ⟨v, hc.at hb h1, hr.kept hc (fun b hb _ => h2 b hb)⟩
theorem sepR_kept {xb n : Nat} (hx : xb < n) : SepK n (SepR xb) := fun W W' b hn hs hc => ⟨hs.1, fun v hv => hs.2 v (by rw [← hc.block xb (by omega) (by simp; omega)]; exact hv)⟩
theorem invert_fold (xb : Nat) (t : Tr) (A : Option Addr) (c : Nat) (ss : List Stp) (B : Option Addr) (d : Nat) (O : Nat → Prop) (w : World) (hxb : w.heap[xb]? = some (.cells #[.slice none 0 0] 46 (0, 0))) (hl : ss.length ≤ 60)
    (hO : ∀ b, O b → b < w.heap.size ∧ b ≠ xb) (hT : TrC O w t [.int .i64 (Tr.id t), .int .i64 (Tr.kind t), .string (Tr.text t), .slice A (Tr.kids t).length c]) (hS : StpsC (fun b => b < w.heap.size ∧ b ≠ xb) w B ss) :
    Calls Try.prog 68 #[.agg #[.int .i64 (Tr.id t), .int .i64 (Tr.kind t), .string (Tr.text t), .slice A (Tr.kids t).length c], .slice B ss.length d, .func (.func 70) #[] #[.pointer (some ⟨xb, 0, none⟩)]] w (FoldPost w [xb] O (InvJ (w.heap.size + 2) xb t ss) (foldF applyT t ss 0)) := by
  have hxl := lt_of_block hxb
  refine fold_any 70 #[.pointer (some ⟨xb, 0, none⟩)] (enters_of Try.func70 (by kernel_rfl) rfl) applyT [xb] (SepR xb) O (InvJ (w.heap.size + 2) xb t ss) ss B d t A c w (by omega) (by simp; omega) (hS.weak (fun b hb _ => ⟨hb.1, by simpa using hb.2⟩)) (fun b hb => (hO b hb).1) (sepR_kept hxl) (fun b hb => SepR.of hxb (hO b hb).2 (by simp [Value.ownBlock])) hT ?_ ?_ ?_
  · rintro i x W W' ⟨L, h1, h2, h3⟩ hc
    exact ⟨L, h1.kept hc (by simp; omega) (by simp), h2, h3⟩
  · exact ⟨[], ⟨_, hxb, RowP9.nil _ _ _⟩, rfl, rfl⟩
  · rintro i x Ax cx s As cs W hcW hsW ⟨L, h1, h2, h3⟩ hs hTx hSx
    have hil := (List.getElem?_eq_some_iff.1 hs).1
    have hdr : ss.drop i = s :: ss.drop (i + 1) := by rw [List.drop_eq_getElem_cons hil, (List.getElem?_eq_some_iff.1 hs).2]
    refine (invert1_any (w.heap.size + 2) xb L x Ax cx s As cs W (by omega) hsW (by omega) h1 hTx (hSx.weak (fun b hb _ => ⟨by omega, by simpa using hb.2⟩))).mono fun e W' he => ?_
    unfold InvOne at he
    unfold FoldOne
    cases hr : applyT x s with
    | error n =>
      rw [hr] at he
      obtain ⟨A', c', rfl, hc⟩ := he
      exact ⟨_, rfl, applyT_ne hr, hc, ⟨x, A', c', rfl⟩, L, h1.kept hc (by simp) (by simp), h2, h3⟩
    | ok y =>
      rw [hr] at he
      obtain ⟨A', c', rfl, hT', hB', hK⟩ := he
      refine ⟨_, rfl, hK, ⟨A', c', rfl, hT'⟩, L ++ [invT x s], hB', by simp [h2], ?_⟩
      rw [hdr] at h3
      rw [← h3, List.append_assoc]
      simp only [invL, hr, List.singleton_append]
def InvPost (t : Tr) (ss : List Stp) (w : World) (e : Ending) (w' : World) : Prop :=
  Chg [] w w' ∧ if checkB ss then (if (foldF applyT t ss 0).2.2 = 0 then ∃ v, e = .returned (.tuple #[v, .int .i64 0]) ∧ RowP9 w' (fun _ => True) w.heap.size v (invL t ss).reverse else e = .returned (.tuple #[.slice none 0 0, .int .i64 (foldF applyT t ss 0).2.2])) else e = .returned (.tuple #[.slice none 0 0, .int .i64 3])
set_option maxHeartbeats 4000000 in
set_option maxRecDepth 100000 in
theorem cinvert_any (t : Tr) (A : Option Addr) (c : Nat) (ss : List Stp) (B : Option Addr) (d : Nat) (w : World) (hT : TrC (fun b => b < w.heap.size) w t [.int .i64 (Tr.id t), .int .i64 (Tr.kind t), .string (Tr.text t), .slice A (Tr.kids t).length c]) (hS : StpsC (fun b => b < w.heap.size) w B ss) (hl : ss.length ≤ 9223372036854775807) :
    Calls Try.prog 32 #[.agg #[.int .i64 (Tr.id t), .int .i64 (Tr.kind t), .string (Tr.text t), .slice A (Tr.kids t).length c], .slice B ss.length d] w (InvPost t ss w) := by
  obtain ⟨W, hW⟩ : ∃ W, W = w.alloc (.cells #[.int .i64 (Tr.id t), .int .i64 (Tr.kind t), .string (Tr.text t), .slice A (Tr.kids t).length c] 24) := ⟨_, rfl⟩
  have hcW : Chg [] w W := by rw [hW]; exact (by with_reducible repeat (first | exact Chg.refl _ _ | apply Chg.alloc | apply Chg.drew | apply Chg.drewN | (refine Chg.setCell ?_ _ _ (by simp))))
  have b0 : W.heap[w.heap.size]? = some (.cells #[.int .i64 (Tr.id t), .int .i64 (Tr.kind t), .string (Tr.text t), .slice A (Tr.kids t).length c] 24 (0, 0)) := by rw [hW]; exact heap_new _ _ rfl
  have hck := check_any ss B d W (hS.next hcW) hl
  have HW := Lib.hid (And.intro hW (And.intro hcW (And.intro b0 (And.intro hck (And.intro hT hS)))))
  clear hW hcW b0 hck hT hS
  go_enter Try.func32, Try.ntmps32
  go_wp2_with fail
  rw [← HW.out.1]
  refine HW.out.2.2.2.1.mono ?_
  rintro e X ⟨rfl, rfl⟩
  by_cases hch : checkB ss = true
  · have he : checkE ss = 0 := by unfold checkE; rw [hch]; rfl
    rw [he]
    have HC := Lib.hid hch
    obtain ⟨xb, hxb⟩ : ∃ xb, xb = W.heap.size := ⟨_, rfl⟩
    obtain ⟨V, hV⟩ : ∃ V, V = W.alloc (.cells #[.slice none 0 0] 46) := ⟨_, rfl⟩
    have hWV : Chg [] W V := by rw [hV]; exact (by with_reducible repeat (first | exact Chg.refl _ _ | apply Chg.alloc | apply Chg.drew | apply Chg.drewN | (refine Chg.setCell ?_ _ _ (by simp))))
    have bx : V.heap[xb]? = some (.cells #[.slice none 0 0] 46 (0, 0)) := by rw [hV, hxb]; exact heap_new _ _ rfl
    have hWs : W.heap.size = w.heap.size + 1 := by rw [HW.out.1]; simp
    have hcV := HW.out.2.1.trans hWV
    have hss : ss.length ≤ 60 := by unfold checkB at hch; simp at hch; exact hch.1
    have hfold := invert_fold xb t A c ss B d (fun b => b < w.heap.size) V bx hss (fun b hb => ⟨Nat.lt_of_lt_of_le hb hcV.size, by omega⟩) (HW.out.2.2.2.2.1.kept hcV (by simp)) ((HW.out.2.2.2.2.2.kept hcV (by simp)).weak (fun b hb _ => ⟨Nat.lt_of_lt_of_le hb hcV.size, by omega⟩))
    obtain ⟨p0, p1, p2, p3⟩ := blk4 (hWV.at HW.out.2.2.1 (by simp))
    have HV := Lib.hid (And.intro hV (And.intro hcV (And.intro hxb (And.intro hWs (And.intro hfold hss)))))
    rw [hV] at p0 p1 p2 p3
    clear hV hWV bx hWs hcV hfold hss hch he hxb
    go_wp2_with fail
    rw [← HV.out.1, ← HV.out.2.2.1]
    clear p0 p1 p2 p3
    refine HV.out.2.2.2.2.1.mono ?_
    rintro e Y ⟨Af, cf, rfl, _, ⟨L, hB, hLn, hL⟩, hcY⟩
    obtain ⟨r, hr⟩ : ∃ r, r = foldF applyT t ss 0 := ⟨_, rfl⟩
    rw [← hr] at hLn hL ⊢
    obtain ⟨xf, nf, ef⟩ := r
    have hwY : Chg [] w Y := HV.out.2.1.andThen hcY (by have := HV.out.2.2.1; have := HV.out.2.2.2.1; simp; omega)
    obtain ⟨vr, hbx, hrow⟩ := hB
    obtain ⟨Ar, cr, rfl⟩ := hrow.slice
    obtain ⟨Z, hZ⟩ : ∃ Z, Z = Y.alloc (.cells #[.int .i64 (Tr.id xf), .int .i64 (Tr.kind xf), .string (Tr.text xf), .slice Af (Tr.kids xf).length cf] 24) := ⟨_, rfl⟩
    have hYZ : Chg [] Y Z := by rw [hZ]; exact (by with_reducible repeat (first | exact Chg.refl _ _ | apply Chg.alloc | apply Chg.drew | apply Chg.drewN | (refine Chg.setCell ?_ _ _ (by simp))))
    have hbZ : RBox (V.heap.size + 2) xb L Z := ⟨_, hYZ.at hbx (by simp), hrow.kept hYZ (by simp)⟩
    have hr2 : (foldF applyT t ss 0).2.2 = ef := by rw [← hr]
    have hr1 : (foldF applyT t ss 0).2.1 = nf := by rw [← hr]
    by_cases hz : ef = 0
    · subst hz
      have hnf := foldF_len (f := applyT) (fun _ _ _ => applyT_ne) ss t 0 hr2
      have hLe : L = invL t ss := by
        have e : nf = ss.length := by rw [← hr1, hnf]; omega
        simp only [e, List.drop_length, invL, List.append_nil] at hL
        exact hL
      have m0 := cellOne (hYZ.at hbx (by simp))
      have hLl : L.length ≤ 60 := by have := HV.out.2.2.2.2.2; rw [hLn]; simp only []; rw [← hr1, hnf]; omega
      have HY := Lib.hid (And.intro hbZ (And.intro (hwY.trans hYZ) (And.intro hLe (And.intro hr2 hZ))))
      rw [hZ] at m0
      clear hr hr1 hr2 hL hwY hbx hrow hZ hYZ hbZ hnf hLe hLn hcY
      go_wp2_with (skip; fail)
      rw [← HY.out.2.2.2.2]
      clear m0
      have hq : ((L.length : Int) / 2) = ((L.length / 2 : Nat) : Int) := by omega
      go_loopw [10] (fun iv wr => ∃ (k : Nat) (cur : List Stp) (n : Int), k ≤ L.length / 2 ∧ n = (k : Int) - 1 ∧ iv = .int .i64 n ∧ Hid (RBox (V.heap.size + 2) xb cur wr ∧ Mir L cur k ∧ Chg [] w wr)) (fun iv _ => (intOf iv + 1).toNat)
      case atStart => exact ⟨L.length / 2, L, _, Nat.le_refl _, by omega, rfl, Lib.hid ⟨HY.out.1, Mir.start L, HY.out.2.1⟩⟩
      case round =>
        obtain ⟨k, cur, n, hk, hn, rfl, H⟩ := hrel
        obtain ⟨X, hX⟩ : ∃ X, X = wr := ⟨_, rfl⟩
        subst hX
        obtain ⟨vr, hbx, hrow⟩ := H.out.1
        obtain ⟨A', c', rfl⟩ := hrow.slice
        have hcl : cur.length = L.length := H.out.2.1.1
        rw [hcl] at hbx hrow
        have m0 := cellOne hbx
        rcases Nat.eq_zero_or_pos k with hk0 | hkp
        · subst hk0
          obtain rfl : n = -1 := by omega
          have hfin := H.out.2.1.done
          have HF := Lib.hid (And.intro hfin (And.intro hrow hcl))
          clear hfin hrow hcl hbx hn hk
          go_wp2_with (skip; fail)
          go_ret2
          unfold InvPost
          rw [if_pos HC.out, if_pos HY.out.2.2.2.1]
          refine ⟨H.out.2.2, _, rfl, ?_⟩
          rw [← HY.out.2.2.1, ← HF.out.1]
          exact HF.out.2.1.low (by have := HV.out.2.1.size; omega)
        · obtain ⟨i, rfl⟩ : ∃ i, k = i + 1 := ⟨k - 1, by omega⟩
          obtain rfl : n = (i : Int) := by omega
          clear hn
          have hiL : i < cur.length := by omega
          obtain ⟨r, hr⟩ : ∃ r, r = L.length - 1 - i := ⟨_, rfl⟩
          have hjL : r < cur.length := by omega
          obtain ⟨g, C, ci, cj, hA, hgb, hmm, hg, hsz, hni, hnj, h1i, h1j, hri, hrj, hsw⟩ := hrow.swap hiL hjL
          subst hA
          have hMn := H.out.2.1.next hk hr hiL hjL
          have HN := Lib.hid (And.intro hMn (And.intro hsw (And.intro hg (And.intro hsz (And.intro hbx hgb)))))
          have hci := Lib.hid hni
          have hcj := Lib.hid hnj
          have HL := Lib.hid (And.intro hri hrj)
          have HO1 := Lib.hid (And.intro h1i h1j)
          have hrl : r < L.length := by omega
          have hil : i < L.length := by omega
          have hrI : (r : Int) = (L.length : Int) - 1 - (i : Int) := by omega
          have HR := Lib.hid (And.intro hr (And.intro hrI (And.intro hmm hcl)))
          clear hMn hsw hg hsz hbx hgb hni hnj hri hrj h1i h1j hcl hrow hmm hr hrI
          go_wp2_with (skip; fail)
          have hS : X.drew.cell? ⟨xb, 0, none⟩ = some (.slice (some ⟨g, 0, none⟩) L.length c') := m0
          refine wp_region_M (fun W => W.cell? ⟨xb, 0, none⟩ = some (.slice (some ⟨g, 0, none⟩) L.length c')) (fun k => [21, 23].contains k) (fun k => [23].contains k) (by kernel_rfl) ?_
          obtain ⟨Q, hQ⟩ : ∃ Q, Q = X.drew := ⟨_, rfl⟩
          rw [← hQ] at hS ⊢
          have hQX : Chg [] X Q := by rw [hQ]; exact (Chg.refl _ _).drew
          have HQ := Lib.hid (And.intro hQX hQ)
          have HQ0 := hQX
          have hriQ := HQ0.range HL.out.1 (by simp)
          have hrjQ := HQ0.range HL.out.2 (by simp)
          have HLQ := Lib.hid (And.intro hriQ hrjQ)
          have wi0 : (0 : Int) ≤ (i : Int) := by omega
          have wi1 : (i : Int) < (L.length : Int) := by omega
          have wr0 : (0 : Int) ≤ (r : Int) := by omega
          have wr1 : (r : Int) < (L.length : Int) := by omega
          have ww1 : IntKind.i64.wrap ((L.length : Int) - 1) = (L.length : Int) - 1 := IntWalk.i64_in _ (by omega)
          have ww2 : IntKind.i64.wrap ((L.length : Int) - 1 - (i : Int)) = (r : Int) := by rw [← HR.out.2.1]; exact IntWalk.i64_in _ (by omega)
          have HK := Lib.hid (And.intro hk (And.intro hLl (And.intro hrl hil)))
          clear hQX hQ m0 hriQ hrjQ HQ0 hk hLl hq hkp hil hrl
          ((try dsimp only); (try simp only [Act.put, List.setIfInBounds_toArray, List.set_cons_zero, List.set_cons_succ]))
          refine M_take (i := 0) (v := ?_) rfl (by kernel_rfl) (by kernel_rfl) (by kernel_rfl) (by kernel_rfl) (fun _ _ _ h => h) (by rfl) ?hy ?_; (case hy => (go_simp; with_reducible rfl)); ((try dsimp only); (try simp only [Act.put, List.setIfInBounds_toArray, List.set_cons_zero, List.set_cons_succ]))
          refine M_pure (i := 1) (v := ?_) rfl (by kernel_rfl) (by kernel_rfl) (by kernel_rfl) (fun _ _ _ h => h) (by rfl) ?hy ?_; (case hy => (intro w; go_simp; with_reducible rfl)); ((try dsimp only); (try simp only [Act.put, List.setIfInBounds_toArray, List.set_cons_zero, List.set_cons_succ]))
          refine M_semi (i := 2) (v := ?_) rfl (by kernel_rfl) (by kernel_rfl) (by kernel_rfl) (by kernel_rfl) (fun _ _ _ h => h) (by rfl) hS ?hy ?_; (case hy => (intro w hS; go_simp; with_reducible rfl)); ((try dsimp only); (try simp only [Act.put, List.setIfInBounds_toArray, List.set_cons_zero, List.set_cons_succ]))
          refine M_semi (i := 3) (v := ?_) rfl (by kernel_rfl) (by kernel_rfl) (by kernel_rfl) (by kernel_rfl) (fun _ _ _ h => h) (by rfl) hS ?hy ?_; (case hy => (intro w hS; go_simp; with_reducible rfl)); ((try dsimp only); (try simp only [Act.put, List.setIfInBounds_toArray, List.set_cons_zero, List.set_cons_succ]))
          refine M_pure (i := 4) (v := ?_) rfl (by kernel_rfl) (by kernel_rfl) (by kernel_rfl) (fun _ _ _ h => h) (by rfl) ?hy ?_; (case hy => (intro w; go_simp; with_reducible rfl)); ((try dsimp only); (try simp only [Act.put, List.setIfInBounds_toArray, List.set_cons_zero, List.set_cons_succ]))
          refine M_pure (i := 5) (v := ?_) rfl (by kernel_rfl) (by kernel_rfl) (by kernel_rfl) (fun _ _ _ h => h) (by rfl) ?hy ?_; (case hy => (intro w; go_simp; with_reducible rfl)); ((try dsimp only); (try simp only [Act.put, List.setIfInBounds_toArray, List.set_cons_zero, List.set_cons_succ]))
          refine M_pure (i := 6) (v := ?_) rfl (by kernel_rfl) (by kernel_rfl) (by kernel_rfl) (fun _ _ _ h => h) (by rfl) ?hy ?_; (case hy => (intro w; go_simp; with_reducible rfl)); ((try dsimp only); (try simp only [Act.put, List.setIfInBounds_toArray, List.set_cons_zero, List.set_cons_succ]))
          refine M_pure (i := 7) (v := ?_) rfl (by kernel_rfl) (by kernel_rfl) (by kernel_rfl) (fun _ _ _ h => h) (by rfl) ?hy ?_; (case hy => (intro w; go_simp; with_reducible rfl)); ((try dsimp only); (try simp only [Act.put, List.setIfInBounds_toArray, List.set_cons_zero, List.set_cons_succ]))
          refine M_take (i := 8) (v := ?_) rfl (by kernel_rfl) (by kernel_rfl) (by kernel_rfl) (by kernel_rfl) (fun _ _ _ h => h) (by rfl) ?hy ?_; (case hy => (go_simp; with_reducible rfl)); ((try dsimp only); (try simp only [Act.put, List.setIfInBounds_toArray, List.set_cons_zero, List.set_cons_succ]))
          refine M_take (i := 9) (v := ?_) rfl (by kernel_rfl) (by kernel_rfl) (by kernel_rfl) (by kernel_rfl) (fun _ _ _ h => h) (by rfl) ?hy ?_; (case hy => (go_simp; with_reducible rfl)); ((try dsimp only); (try simp only [Act.put, List.setIfInBounds_toArray, List.set_cons_zero, List.set_cons_succ]))
          refine M_pure (i := 10) (v := ?_) rfl (by kernel_rfl) (by kernel_rfl) (by kernel_rfl) (fun _ _ _ h => h) (by rfl) ?hy ?_; (case hy => (intro w; go_simp; with_reducible rfl)); ((try dsimp only); (try simp only [Act.put, List.setIfInBounds_toArray, List.set_cons_zero, List.set_cons_succ]))
          refine M_pure (i := 11) (v := ?_) rfl (by kernel_rfl) (by kernel_rfl) (by kernel_rfl) (fun _ _ _ h => h) (by rfl) ?hy ?_; (case hy => (intro w; go_simp; with_reducible rfl)); ((try dsimp only); (try simp only [Act.put, List.setIfInBounds_toArray, List.set_cons_zero, List.set_cons_succ]))
          refine M_pure (i := 12) (v := ?_) rfl (by kernel_rfl) (by kernel_rfl) (by kernel_rfl) (fun _ _ _ h => h) (by rfl) ?hy ?_; (case hy => (intro w; go_simp; with_reducible rfl)); ((try dsimp only); (try simp only [Act.put, List.setIfInBounds_toArray, List.set_cons_zero, List.set_cons_succ]))
          refine M_pure (i := 13) (v := ?_) rfl (by kernel_rfl) (by kernel_rfl) (by kernel_rfl) (fun _ _ _ h => h) (by rfl) ?hy ?_; (case hy => (intro w; go_simp; with_reducible rfl)); ((try dsimp only); (try simp only [Act.put, List.setIfInBounds_toArray, List.set_cons_zero, List.set_cons_succ]))
          refine M_pure (i := 14) (v := ?_) rfl (by kernel_rfl) (by kernel_rfl) (by kernel_rfl) (fun _ _ _ h => h) (by rfl) ?hy ?_; (case hy => (intro w; go_simp; with_reducible rfl)); ((try dsimp only); (try simp only [Act.put, List.setIfInBounds_toArray, List.set_cons_zero, List.set_cons_succ]))
          refine M_take (i := 15) rfl (by kernel_rfl) (by kernel_rfl) (by kernel_rfl) (by kernel_rfl) (fun _ _ _ h => h) (by rfl) (exec_load_mid 27 (.tmp 47) rfl g (r * 9) rfl _ _ HLQ.out.2 Try.underlying27 rfl (by rw [hcj.out]; exact szST9)) ?_; ((try dsimp only); (try simp only [Act.put, List.setIfInBounds_toArray, List.set_cons_zero, List.set_cons_succ]))
          refine M_take (i := 16) (v := ?_) rfl (by kernel_rfl) (by kernel_rfl) (by kernel_rfl) (by kernel_rfl) (fun _ _ _ h => h) (by rfl) ?hy ?_; (case hy => (go_simp; with_reducible rfl)); ((try dsimp only); (try simp only [Act.put, List.setIfInBounds_toArray, List.set_cons_zero, List.set_cons_succ]))
          refine M_pure (i := 17) (v := ?_) rfl (by kernel_rfl) (by kernel_rfl) (by kernel_rfl) (fun _ _ _ h => h) (by rfl) ?hy ?_; (case hy => (intro w; go_simp; with_reducible rfl)); ((try dsimp only); (try simp only [Act.put, List.setIfInBounds_toArray, List.set_cons_zero, List.set_cons_succ]))
          refine M_pure (i := 18) (v := ?_) rfl (by kernel_rfl) (by kernel_rfl) (by kernel_rfl) (fun _ _ _ h => h) (by rfl) ?hy ?_; (case hy => (intro w; go_simp; with_reducible rfl)); ((try dsimp only); (try simp only [Act.put, List.setIfInBounds_toArray, List.set_cons_zero, List.set_cons_succ]))
          refine M_take (i := 19) rfl (by kernel_rfl) (by kernel_rfl) (by kernel_rfl) (by kernel_rfl) (fun _ _ _ h => h) (by rfl) (exec_load_mid 27 (.tmp 51) rfl g (i * 9) rfl _ _ HLQ.out.1 Try.underlying27 rfl (by rw [hci.out]; exact szST9)) ?_; ((try dsimp only); (try simp only [Act.put, List.setIfInBounds_toArray, List.set_cons_zero, List.set_cons_succ]))
          refine M_pure (i := 20) (v := ?_) rfl (by kernel_rfl) (by kernel_rfl) (by kernel_rfl) (fun _ _ _ h => h) (by rfl) ?hy ?_; (case hy => (intro w; go_simp; with_reducible rfl)); ((try dsimp only); (try simp only [Act.put, List.setIfInBounds_toArray, List.set_cons_zero, List.set_cons_succ]))
          have hgQ := HQ.out.1.at HN.out.2.2.1 (by simp)
          obtain ⟨Q1, hQ1⟩ : ∃ Q1, Q1 = Q.setRow g (putAt C i cj) := ⟨_, rfl⟩
          have hc1 : Chg [g] Q Q1 := by rw [hQ1]; exact setRow_chg _ _ _
          have hg1 : Q1.heap[g]? = some (.cells (putAt C i cj) 27 (0, 0)) := by rw [hQ1]; exact setRow_heap _ _ _ _ _ _ hgQ
          have hxg : xb ≠ g := by have := HN.out.2.2.2.2.2; have := HV.out.2.2.1; have := HV.out.2.1.size; have := HV.out.2.2.2.1; omega
          have hS1 : Q1.cell? ⟨xb, 0, none⟩ = some (.slice (some ⟨g, 0, none⟩) L.length c') := hc1.cell hS (by simp [hxg])
          have H1 := Lib.hid (And.intro hQ1 (And.intro hc1 (And.intro hg1 (And.intro hgQ hxg))))
          clear hQ1 hc1 hg1 hgQ hxg
          refine M_eff (i := 21) rfl (by kernel_rfl) (by rfl) ?_
          go_wp2_with (first
            | (refine wpList_put_step rfl (.tmp 53) (.tmp 48) rfl g i rfl cj rfl C H1.out.2.2.2.1 hcj.out (HN.out.2.2.2.1 i hiL) HO1.out.2 ?_)
            | fail)
          rw [← H1.out.1]
          refine ⟨hS1, ?_⟩
          clear hS
          ((try dsimp only); (try simp only [Act.put, List.setIfInBounds_toArray, List.set_cons_zero, List.set_cons_succ]))
          refine M_pure (i := 22) (v := ?_) rfl (by kernel_rfl) (by kernel_rfl) (by kernel_rfl) (fun _ _ _ h => h) (by rfl) ?hy ?_; (case hy => (intro w; go_simp; with_reducible rfl)); ((try dsimp only); (try simp only [Act.put, List.setIfInBounds_toArray, List.set_cons_zero, List.set_cons_succ]))
          have hfit : r * 9 + 9 ≤ (putAt C i cj).size := by rw [putAt_size hcj.out (HN.out.2.2.2.1 i hiL)]; exact HN.out.2.2.2.1 r hjL
          have HFit := Lib.hid hfit
          clear hfit
          refine M_brk (i := 23) rfl (by kernel_rfl) (by rfl) (by rfl) ?_
          go_wp2_with (first
            | (refine wpList_put_step rfl (.tmp 54) (.tmp 52) rfl g r rfl ci rfl (putAt C i cj) H1.out.2.2.1 hci.out HFit.out HO1.out.1 ?_)
            | fail)
          ((try dsimp only [EffQ]); (try simp only [Act.put, List.setIfInBounds_toArray, List.set_cons_zero, List.set_cons_succ]))
          refine M_done (by kernel_rfl) ?_ _
          obtain ⟨Q2, hQ2⟩ : ∃ Q2, Q2 = Q1.setRow g (putAt (putAt C i cj) r ci) := ⟨_, rfl⟩
          rw [← hQ2]
          have hX2 : Chg [] ((X.setRow g (putAt C i cj)).setRow g (putAt (putAt C i cj) r ci)) Q2 := by rw [hQ2, H1.out.1, HQ.out.2]; exact ⟨rfl, rfl, rfl, Nat.le_refl _, fun _ _ _ => rfl⟩
          have hrow2 := HN.out.2.1.kept hX2 (by simp)
          have hc2 : Chg [g] X Q2 := (HQ.out.1.mono (by simp)).trans (H1.out.2.1.trans (by rw [hQ2]; exact setRow_chg _ _ _))
          have hb2 := hc2.at HN.out.2.2.2.2.1 (by simpa using H1.out.2.2.2.2)
          have H2 := Lib.hid (And.intro hrow2 (And.intro hc2 hb2))
          have wi2 : (i : Int) ≤ 60 := by have := HK.out.1; have := HK.out.2.1; omega
          clear hQ2 hX2 hrow2 hc2 hb2 hS1 ww1 ww2
          go_wp2_with (skip; fail)
          go_roundw
          case rel =>
            refine ⟨i, _, _, by have := HK.out.1; omega, rfl, rfl, Lib.hid ⟨⟨_, H2.out.2.2, H2.out.1⟩, HN.out.1, H.out.2.2.andThen H2.out.2.1 (by have := HN.out.2.2.2.2.2; have := HV.out.2.1.size; simp; omega)⟩⟩
          case measure => simp [intOf] <;> omega
    · have e0 : (ef == 0) = false := by simpa using hz
      have e0' : (ef != 0) = true := by simpa using hz
      have HY := Lib.hid (And.intro hbZ (And.intro (hwY.trans hYZ) (And.intro hr2 (And.intro hz hZ))))
      clear hr hr1 hr2 hL hwY hbx hrow hZ hYZ hbZ hz
      go_wp2_with (skip; fail)
      rw [← HY.out.2.2.2.2]
      go_ret2
      unfold InvPost
      rw [if_pos HC.out, HY.out.2.2.1, if_neg HY.out.2.2.2.1]
      exact ⟨HY.out.2.1, rfl⟩
  · have he : checkE ss = 3 := by unfold checkE; rw [if_neg hch]
    rw [he]
    have HC := Lib.hid hch
    clear hch he
    go_wp2_with (skip; fail)
    go_ret2
    unfold InvPost
    rw [if_neg HC.out]
    exact ⟨HW.out.2.1, rfl⟩
end Go.Proofs.Ytofjocjljbkjgaa
namespace Go.Proofs.Ytofjocjljbkjgaa
open Go.RowKit
theorem RowP9.toC {w : World} {ok : Nat → Prop} {base : Nat} {A : Option Addr} {n c : Nat} {ss : List Stp} (h : RowP9 w ok base (.slice A n c) ss) : StpsC (fun b => ok b ∧ base ≤ b ∧ b < w.heap.size) w A ss := fun i s hi => by
  obtain ⟨css, h1, h2, h0, h3⟩ := h.ex
  have hlt := (List.getElem?_eq_some_iff.1 hi).1
  have hc : css[i]? = some (css[i]'(by omega)) := List.getElem?_eq_getElem (by omega)
  obtain ⟨g, c', C, e, hb, hg, _, _, _, _, hr⟩ := h1.block (by omega)
  injection e with e1 e2 e3
  subst e1
  exact ⟨g, 0, _, rfl, ⟨h0 g rfl, hb, lt_of_block hg⟩, by rw [Nat.zero_add]; exact hr i (by omega), (h3 i s _ hi hc).weak (fun b hb2 _ => ⟨hb2.1, hb2.2.1, hb2.2.2.1⟩)⟩
end Go.Proofs.Ytofjocjljbkjgaa
namespace Go.Proofs.Ytofjocjljbkjgaa
open Go.RowKit
def wg : Gr := ⟨[⟨⟨#[108, 105, 115, 116]⟩, false, [⟨[1], 0, 3⟩]⟩, ⟨⟨#[97]⟩, true, []⟩], 0⟩
def wt : Tr := ⟨1, 0, ⟨#[]⟩, [⟨2, 1, ⟨#[]⟩, []⟩]⟩
def wt' : Tr := ⟨1, 0, ⟨#[]⟩, []⟩
def ws1 : Stp := ⟨2, 2, 0, 0, ⟨#[]⟩, zeroT⟩
def ws2 : Stp := ⟨4, 2, 0, 0, ⟨#[]⟩, zeroT⟩
theorem wg_ok : wg.Ok := by
  refine ⟨by decide, fun i j a b hij ha hb => ?_, fun k hk => ?_⟩
  · match i, j, hij, ha, hb with
    | 0, 1, _, ha, hb => simp [wg] at ha hb; subst ha hb; decide +kernel
    | 0, j + 2, _, ha, hb => simp [wg] at hb
    | i + 1, j, hij, ha, hb => rw [List.getElem?_eq_none (by simp [wg]; omega)] at hb; cases hb
  · simp [wg] at hk
    rcases hk with rfl | rfl
    · refine ⟨by decide, by decide, by decide, fun s hs => ?_⟩
      simp at hs; subst hs
      exact ⟨⟨fun i hi => by simp at hi; subst hi; exact ⟨by decide, by decide, by decide⟩, by decide, by decide⟩, by decide, by decide, by decide⟩
    · exact ⟨by decide, by decide, by decide, fun s hs => by simp at hs⟩
theorem wd1 : applyT wt ws1 = .ok wt' := by rfl
theorem wd2 : applyT wt' ws2 = .error 4 := by rfl
theorem wfit : SubOk wg wt' := by
  refine ⟨by decide, fun j y hj hy => ?_⟩
  have e : wt'.walk 1 = [(wt', 1)] := rfl
  rw [e] at hj hy
  obtain rfl : j = 0 := by simp at hj; omega
  simp at hy; subst hy
  refine ⟨⟨by decide, by decide, by decide, ⟨wg_ok, _, rfl, .inl rfl⟩, wg_ok, by decide, _, rfl, ?_⟩, fun k z hk => by omega⟩
  exact ⟨0, _, rfl, rfl, 0, rfl, by decide, by decide, fun j hj => by omega⟩
theorem wapply {j : GJ} (hj : j.Of wg) : applyL j wt [ws1, ws2] = (wt, 1, 4) := by
  have h1 : doJ j wt ws1 = .ok wt' := by
    unfold doJ
    rw [wd1]
    simp only [hj.ok.2 wg_ok, (hj.fit wt').2 ⟨rfl, wfit⟩, if_true]
  have h2 : doJ j wt' ws2 = .error 4 := by unfold doJ; rw [wd2]
  unfold applyL
  rw [show checkB [ws1, ws2] = true from by decide +kernel, if_pos rfl]
  have hf : foldF (doJ j) wt [ws1, ws2] 0 = (wt', 1, 4) := by simp only [foldF, h1, h2]
  rw [hf]; rfl
def ws3 : Stp := ⟨4, 2, 0, 0, ⟨#[97]⟩, zeroT⟩
theorem winv : (foldF applyT wt [ws3] 0).2.2 = 0 ∧ (invL wt [ws3]).reverse = [⟨4, 2, 0, 0, ⟨#[]⟩, zeroT⟩] ∧ checkB [ws3] = true := by
  refine ⟨rfl, rfl, by decide +kernel⟩
structure Wk11 (w W : World) : Prop where
  g : GrC W (some ⟨w.heap.size + 1 + 1, 0, none⟩) 2 wg.kinds
  t : TrC (fun b => b < W.heap.size) W wt [.int .i64 1, .int .i64 0, .string ⟨#[]⟩, .slice (some ⟨w.heap.size + 1 + 1 + 1 + 1, 0, none⟩) 1 1]
  bg : W.heap[w.heap.size + 1 + 1 + 1]? = some (.cells #[.slice (some ⟨w.heap.size + 1 + 1, 0, none⟩) 2 2, .int .i64 0] 43 (0, 0))
  bt : W.heap[w.heap.size + 1 + 1 + 1 + 1 + 1]? = some (.cells #[.int .i64 1, .int .i64 0, .string ⟨#[]⟩, .slice (some ⟨w.heap.size + 1 + 1 + 1 + 1, 0, none⟩) 1 1] 24 (0, 0))
  chg : Chg [] w W
theorem Wk11.kept {w W W' : World} (h : Wk11 w W) (hc : Chg [] W W') : Wk11 w W' := ⟨h.g.kept hc, h.t.next hc, hc.at h.bg (by simp), hc.at h.bt (by simp), h.chg.trans hc⟩
theorem Wk11.new (w : World) : Wk11 w ((((((w.alloc (.cells #[.int .i64 1] 3)).alloc (.cells #[.slice (some ⟨w.heap.size, 0, none⟩) 1 1, .int .i64 0, .int .i64 3] 111)).alloc (.cells #[.string ⟨#[108, 105, 115, 116]⟩, .bool false, .slice (some ⟨w.heap.size + 1, 0, none⟩) 1 1, .string ⟨#[97]⟩, .bool true, .slice none 0 0] 108)).alloc (.cells #[.slice (some ⟨w.heap.size + 1 + 1, 0, none⟩) 2 2, .int .i64 0] 43)).alloc (.cells #[.int .i64 2, .int .i64 1, .string ⟨#[]⟩, .slice none 0 0] 24)).alloc (.cells #[.int .i64 1, .int .i64 0, .string ⟨#[]⟩, .slice (some ⟨w.heap.size + 1 + 1 + 1 + 1, 0, none⟩) 1 1] 24)) := by
  obtain ⟨W, hW⟩ : ∃ W, W = ((((((w.alloc (.cells #[.int .i64 1] 3)).alloc (.cells #[.slice (some ⟨w.heap.size, 0, none⟩) 1 1, .int .i64 0, .int .i64 3] 111)).alloc (.cells #[.string ⟨#[108, 105, 115, 116]⟩, .bool false, .slice (some ⟨w.heap.size + 1, 0, none⟩) 1 1, .string ⟨#[97]⟩, .bool true, .slice none 0 0] 108)).alloc (.cells #[.slice (some ⟨w.heap.size + 1 + 1, 0, none⟩) 2 2, .int .i64 0] 43)).alloc (.cells #[.int .i64 2, .int .i64 1, .string ⟨#[]⟩, .slice none 0 0] 24)).alloc (.cells #[.int .i64 1, .int .i64 0, .string ⟨#[]⟩, .slice (some ⟨w.heap.size + 1 + 1 + 1 + 1, 0, none⟩) 1 1] 24)) := ⟨_, rfl⟩
  rw [← hW]
  have k0 : W.heap[w.heap.size]? = some (.cells #[.int .i64 1] 3 (0, 0)) := by rw [hW]; exact heap_old (heap_old (heap_old (heap_old (heap_old (heap_new _ _ rfl) _) _) _) _) _
  have k1 : W.heap[w.heap.size + 1]? = some (.cells #[.slice (some ⟨w.heap.size, 0, none⟩) 1 1, .int .i64 0, .int .i64 3] 111 (0, 0)) := by rw [hW]; exact heap_old (heap_old (heap_old (heap_old (heap_new _ _ (by simp)) _) _) _) _
  have k2 : W.heap[w.heap.size + 1 + 1]? = some (.cells #[.string ⟨#[108, 105, 115, 116]⟩, .bool false, .slice (some ⟨w.heap.size + 1, 0, none⟩) 1 1, .string ⟨#[97]⟩, .bool true, .slice none 0 0] 108 (0, 0)) := by rw [hW]; exact heap_old (heap_old (heap_old (heap_new _ _ (by simp)) _) _) _
  have k3 : W.heap[w.heap.size + 1 + 1 + 1]? = some (.cells #[.slice (some ⟨w.heap.size + 1 + 1, 0, none⟩) 2 2, .int .i64 0] 43 (0, 0)) := by rw [hW]; exact heap_old (heap_old (heap_new _ _ (by simp)) _) _
  have k4 : W.heap[w.heap.size + 1 + 1 + 1 + 1]? = some (.cells #[.int .i64 2, .int .i64 1, .string ⟨#[]⟩, .slice none 0 0] 24 (0, 0)) := by rw [hW]; exact heap_old (heap_new _ _ (by simp)) _
  have k5 : W.heap[w.heap.size + 1 + 1 + 1 + 1 + 1]? = some (.cells #[.int .i64 1, .int .i64 0, .string ⟨#[]⟩, .slice (some ⟨w.heap.size + 1 + 1 + 1 + 1, 0, none⟩) 1 1] 24 (0, 0)) := by rw [hW]; exact heap_new _ _ (by simp)
  have l0 := lt_of_block k0
  have l1 := lt_of_block k1
  have l2 := lt_of_block k2
  have l4 := lt_of_block k4
  refine ⟨⟨by decide, by omega, fun i x hx => ?_⟩, ?_, k3, k5, by rw [hW]; exact (by with_reducible repeat (first | exact Chg.refl _ _ | apply Chg.alloc | apply Chg.drew | apply Chg.drewN | (refine Chg.setCell ?_ _ _ (by simp))))⟩
  · match i, hx with
    | 0, hx =>
      simp [wg] at hx; subst hx
      refine ⟨_, 0, rfl, l2, ⟨some ⟨w.heap.size + 1, 0, none⟩, 1, range_of_block (cs := (#[.string ⟨#[108, 105, 115, 116]⟩, .bool false, .slice (some ⟨w.heap.size + 1, 0, none⟩) 1 1, .string ⟨#[97]⟩, .bool true, .slice none 0 0] : Array Value).toList) k2 0 3, by decide, by decide, by omega, fun j y hy => ?_⟩⟩
      match j, hy with
      | 0, hy =>
        simp at hy; subst hy
        refine ⟨_, 0, rfl, l1, ⟨some ⟨w.heap.size, 0, none⟩, 1, range_of_block (cs := (#[.slice (some ⟨w.heap.size, 0, none⟩) 1 1, .int .i64 0, .int .i64 3] : Array Value).toList) k1 0 3, by decide, by omega, fun m z hz => ?_⟩⟩
        match m, hz with
        | 0, hz => simp at hz; subst hz; exact ⟨_, 0, rfl, l0, cellOne k0⟩
        | m + 1, hz => simp at hz
      | j + 1, hy => simp at hy
    | 1, hx =>
      simp [wg] at hx; subst hx
      exact ⟨_, 0, rfl, l2, ⟨none, 0, range_of_block (cs := (#[.string ⟨#[108, 105, 115, 116]⟩, .bool false, .slice (some ⟨w.heap.size + 1, 0, none⟩) 1 1, .string ⟨#[97]⟩, .bool true, .slice none 0 0] : Array Value).toList) k2 3 3, by decide, by decide, by omega, fun j y hy => by simp at hy⟩⟩
    | i + 2, hx => simp [wg] at hx
  · refine TrC.mk wt (A := some ⟨w.heap.size + 1 + 1 + 1 + 1, 0, none⟩) (c := 1) (by simp [wt]) (by omega) sz0 (fun i k hk => ?_)
    match i, hk with
    | 0, hk =>
      simp [wt] at hk; subst hk
      exact ⟨_, 0, _, rfl, l4, range_of_block (cs := (#[.int .i64 2, .int .i64 1, .string ⟨#[]⟩, .slice none 0 0] : Array Value).toList) k4 0 4, TrC.none ⟨2, 1, ⟨#[]⟩, []⟩ none 0 rfl (by omega) sz0⟩
    | i + 1, hk => simp [wt] at hk
set_option maxHeartbeats 4000000 in
set_option maxRecDepth 100000 in
theorem wakes11 (w : World) : Calls Try.prog 30 #[] w fun e w' => e = .returned (.bool true) ∧ Chg [] w w' := by
  go_enter Try.func30, Try.ntmps30
  go_wp2_with fail
  obtain ⟨V, hV⟩ : ∃ V, V = ((((((w.alloc (.cells #[.int .i64 1] 3)).alloc (.cells #[.slice (some ⟨w.heap.size, 0, none⟩) 1 1, .int .i64 0, .int .i64 3] 111)).alloc (.cells #[.string ⟨#[108, 105, 115, 116]⟩, .bool false, .slice (some ⟨w.heap.size + 1, 0, none⟩) 1 1, .string ⟨#[97]⟩, .bool true, .slice none 0 0] 108)).alloc (.cells #[.slice (some ⟨w.heap.size + 1 + 1, 0, none⟩) 2 2, .int .i64 0] 43)).alloc (.cells #[.int .i64 2, .int .i64 1, .string ⟨#[]⟩, .slice none 0 0] 24)).alloc (.cells #[.int .i64 1, .int .i64 0, .string ⟨#[]⟩, .slice (some ⟨w.heap.size + 1 + 1 + 1 + 1, 0, none⟩) 1 1] 24)) := ⟨_, rfl⟩
  rw [← hV]
  have hVs : V.heap.size = w.heap.size + 1 + 1 + 1 + 1 + 1 + 1 := by rw [hV]; simp
  have hk : Wk11 w V := by rw [hV]; exact Wk11.new w
  obtain ⟨W, hW⟩ : ∃ W, W = V.alloc (.cells #[.int .i8 2, .int .i64 2, .int .i64 0, .int .i64 0, .string ⟨#[]⟩, .int .i64 0, .int .i64 0, .string ⟨#[]⟩, .slice none 0 0, .int .i8 4, .int .i64 2, .int .i64 0, .int .i64 0, .string ⟨#[]⟩, .int .i64 0, .int .i64 0, .string ⟨#[]⟩, .slice none 0 0] 27) := ⟨_, rfl⟩
  rw [← hW]
  have hVW : Chg [] V W := by rw [hW]; exact (by with_reducible repeat (first | exact Chg.refl _ _ | apply Chg.alloc | apply Chg.drew | apply Chg.drewN | (refine Chg.setCell ?_ _ _ (by simp))))
  have hbs : W.heap[w.heap.size + 1 + 1 + 1 + 1 + 1 + 1]? = some (.cells #[.int .i8 2, .int .i64 2, .int .i64 0, .int .i64 0, .string ⟨#[]⟩, .int .i64 0, .int .i64 0, .string ⟨#[]⟩, .slice none 0 0, .int .i8 4, .int .i64 2, .int .i64 0, .int .i64 0, .string ⟨#[]⟩, .int .i64 0, .int .i64 0, .string ⟨#[]⟩, .slice none 0 0] 27 (0, 0)) := by rw [hW]; exact heap_new _ _ hVs.symm
  have hls := lt_of_block hbs
  obtain ⟨j, hj⟩ := GJ.ex wg
  have hS : StpsC (fun b => b < W.heap.size) W (some ⟨w.heap.size + 1 + 1 + 1 + 1 + 1 + 1, 0, none⟩) [ws1, ws2] := by
    intro i s hi
    match i, hi with
    | 0, hi =>
      simp at hi; subst hi
      exact ⟨_, 0, _, rfl, hls, range_of_block (cs := (#[.int .i8 2, .int .i64 2, .int .i64 0, .int .i64 0, .string ⟨#[]⟩, .int .i64 0, .int .i64 0, .string ⟨#[]⟩, .slice none 0 0, .int .i8 4, .int .i64 2, .int .i64 0, .int .i64 0, .string ⟨#[]⟩, .int .i64 0, .int .i64 0, .string ⟨#[]⟩, .slice none 0 0] : Array Value).toList) hbs 0 9, none, 0, rfl, zeroC _ _, by decide, by decide, by decide⟩
    | 1, hi =>
      simp at hi; subst hi
      exact ⟨_, 0, _, rfl, hls, range_of_block (cs := (#[.int .i8 2, .int .i64 2, .int .i64 0, .int .i64 0, .string ⟨#[]⟩, .int .i64 0, .int .i64 0, .string ⟨#[]⟩, .slice none 0 0, .int .i8 4, .int .i64 2, .int .i64 0, .int .i64 0, .string ⟨#[]⟩, .int .i64 0, .int .i64 0, .string ⟨#[]⟩, .slice none 0 0] : Array Value).toList) hbs 9 9, none, 0, rfl, zeroC _ _, by decide, by decide, by decide⟩
    | i + 2, hi => simp at hi
  have hcap := capply_any wg j hj (some ⟨w.heap.size + 1 + 1, 0, none⟩) 2 wt (some ⟨w.heap.size + 1 + 1 + 1 + 1, 0, none⟩) 1 [ws1, ws2] (some ⟨w.heap.size + 1 + 1 + 1 + 1 + 1 + 1, 0, none⟩) 2 W (hk.kept hVW).g (hk.kept hVW).t hS (by decide) (by decide)
  rw [wapply hj] at hcap
  have HK := Lib.hid (hk.kept hVW)
  clear hV hVs hk hW hVW hbs hls hS hj
  refine hcap.mono ?_
  clear hcap
  rintro e X ⟨A1, c1, he, _, hX⟩
  have he : e = .returned (.tuple #[.agg #[.int .i64 1, .int .i64 0, .string ⟨#[]⟩, .slice A1 1 c1], .int .i64 1, .int .i64 4]) := he
  subst he
  obtain ⟨Y, hY⟩ : ∃ Y, Y = X.alloc (.cells #[.int .i64 1, .int .i64 0, .string ⟨#[]⟩, .slice A1 1 c1] 24) := ⟨_, rfl⟩
  have hXY : Chg [] X Y := by rw [hY]; exact (by with_reducible repeat (first | exact Chg.refl _ _ | apply Chg.alloc | apply Chg.drew | apply Chg.drewN | (refine Chg.setCell ?_ _ _ (by simp))))
  have hbY : Y.heap[X.heap.size]? = some (.cells #[.int .i64 1, .int .i64 0, .string ⟨#[]⟩, .slice A1 1 c1] 24 (0, 0)) := by rw [hY]; exact heap_new _ _ rfl
  obtain ⟨p0, p1, p2, p3⟩ := blk4 ((HK.out.kept (hX.trans hXY)).bt)
  have HY := Lib.hid (And.intro (HK.out.kept (hX.trans hXY)) (And.intro hbY hY))
  rw [hY] at p0 p1 p2 p3
  clear hX hY hXY hbY
  go_wp2_with fail
  rw [← HY.out.2.2]
  clear p0 p1 p2 p3
  have hXY : Y.heap.size = X.heap.size + 1 := by rw [HY.out.2.2]; simp
  obtain ⟨Z, hZ⟩ : ∃ Z, Z = Y.alloc (.cells #[.int .i8 4, .int .i64 2, .int .i64 0, .int .i64 0, .string ⟨#[97]⟩, .int .i64 0, .int .i64 0, .string ⟨#[]⟩, .slice none 0 0] 27) := ⟨_, rfl⟩
  rw [← hZ]
  have hYZ : Chg [] Y Z := by rw [hZ]; exact (by with_reducible repeat (first | exact Chg.refl _ _ | apply Chg.alloc | apply Chg.drew | apply Chg.drewN | (refine Chg.setCell ?_ _ _ (by simp))))
  have hbs : Z.heap[X.heap.size + 1]? = some (.cells #[.int .i8 4, .int .i64 2, .int .i64 0, .int .i64 0, .string ⟨#[97]⟩, .int .i64 0, .int .i64 0, .string ⟨#[]⟩, .slice none 0 0] 27 (0, 0)) := by rw [hZ]; exact heap_new _ _ hXY.symm
  have hls := lt_of_block hbs
  have hS : StpsC (fun b => b < Z.heap.size) Z (some ⟨X.heap.size + 1, 0, none⟩) [ws3] := by
    intro i s hi
    match i, hi with
    | 0, hi =>
      simp at hi; subst hi
      exact ⟨_, 0, _, rfl, hls, range_of_block (cs := (#[.int .i8 4, .int .i64 2, .int .i64 0, .int .i64 0, .string ⟨#[97]⟩, .int .i64 0, .int .i64 0, .string ⟨#[]⟩, .slice none 0 0] : Array Value).toList) hbs 0 9, none, 0, rfl, zeroC _ _, by decide, by decide, by decide⟩
    | i + 1, hi => simp at hi
  have hiv := cinvert_any wt (some ⟨w.heap.size + 1 + 1 + 1 + 1, 0, none⟩) 1 [ws3] (some ⟨X.heap.size + 1, 0, none⟩) 1 Z (HY.out.1.kept hYZ).t hS (by decide)
  have HZ := Lib.hid (And.intro (HY.out.1.kept hYZ) (hYZ.at HY.out.2.1 (by simp)))
  clear hZ hYZ hbs hls hS hXY
  refine hiv.mono ?_
  clear hiv
  rintro e U ⟨hU, hP⟩
  rw [if_pos winv.2.2, if_pos winv.1, winv.2.1] at hP
  obtain ⟨v, rfl, hrow⟩ := hP
  obtain ⟨Ar, cr, rfl⟩ := hrow.slice
  obtain ⟨g, o, A2, c2, hA, _, hr, _⟩ := hrow.toC.at (i := 0) (by decide)
  subst hA
  have r0 := hr 0 _ rfl
  have r4 := hr 4 _ rfl
  simp only [List.getElem_cons_zero, Nat.zero_mul, Nat.add_zero] at r0 r4
  obtain ⟨p0, p1, p2, p3⟩ := blk4 (hU.at HZ.out.2 (by simp))
  have HU := Lib.hid (HZ.out.1.kept hU).chg
  clear hU hrow hr
  go_wp2_with (skip; fail)
  go_ret
  exact ⟨rfl, HU.out⟩
end Go.Proofs.Ytofjocjljbkjgaa
namespace Go.Proofs.Ytofjocjljbkjgaa
open Go.RowKit
structure Box2 (g : Gr) (Ag : Option Addr) (cg : Nat) (t : Tr) (A : Option Addr) (c : Nat) (w W : World) : Prop where
  g : W.heap[w.heap.size]? = some (.cells #[.slice Ag g.kinds.length cg, .int .i64 g.root] 43 (0, 0))
  t : W.heap[w.heap.size + 1]? = some (.cells #[.int .i64 (Tr.id t), .int .i64 (Tr.kind t), .string (Tr.text t), .slice A (Tr.kids t).length c] 24 (0, 0))
  chg : Chg [] w W
theorem Box2.kept {g : Gr} {Ag : Option Addr} {cg : Nat} {t : Tr} {A : Option Addr} {c : Nat} {w W W' : World} (h : Box2 g Ag cg t A c w W) (hc : Chg [] W W') : Box2 g Ag cg t A c w W' :=
  ⟨hc.at h.g (by simp), hc.at h.t (by simp), h.chg.trans hc⟩
theorem Box2.new (g : Gr) (Ag : Option Addr) (cg : Nat) (t : Tr) (A : Option Addr) (c : Nat) (w : World) : Box2 g Ag cg t A c w ((w.alloc (.cells #[.slice Ag g.kinds.length cg, .int .i64 g.root] 43)).alloc (.cells #[.int .i64 (Tr.id t), .int .i64 (Tr.kind t), .string (Tr.text t), .slice A (Tr.kids t).length c] 24)) :=
  ⟨heap_old (heap_new _ _ rfl) _, heap_new _ _ (by simp), (by with_reducible repeat (first | exact Chg.refl _ _ | apply Chg.alloc | apply Chg.drew | apply Chg.drewN | (refine Chg.setCell ?_ _ _ (by simp))))⟩
structure NBox (x : Tr) (A : Option Addr) (c b : Nat) (W : World) : Prop where
  blk : W.heap[b]? = some (.cells #[.int .i64 (Tr.id x), .int .i64 (Tr.kind x), .string (Tr.text x), .slice A (Tr.kids x).length c] 24 (0, 0))
  ok : TrC (fun g => g < W.heap.size) W x [.int .i64 (Tr.id x), .int .i64 (Tr.kind x), .string (Tr.text x), .slice A (Tr.kids x).length c]
theorem NBox.kept {x : Tr} {A : Option Addr} {c b : Nat} {W W' : World} (h : NBox x A c b W) (hc : Chg [] W W') : NBox x A c b W' := ⟨hc.at h.blk (by simp), h.ok.next hc⟩
theorem NBox.new {x : Tr} {A : Option Addr} {c : Nat} {W : World} (h : TrC (fun g => g < W.heap.size) W x [.int .i64 (Tr.id x), .int .i64 (Tr.kind x), .string (Tr.text x), .slice A (Tr.kids x).length c]) : NBox x A c W.heap.size (W.alloc (.cells #[.int .i64 (Tr.id x), .int .i64 (Tr.kind x), .string (Tr.text x), .slice A (Tr.kids x).length c] 24)) := ⟨heap_new _ _ rfl, h.next (by with_reducible repeat (first | exact Chg.refl _ _ | apply Chg.alloc | apply Chg.drew | apply Chg.drewN | (refine Chg.setCell ?_ _ _ (by simp))))⟩
end Go.Proofs.Ytofjocjljbkjgaa
