/- Parts of the proof of the law ChangesJoin, number 4 of 5: laws over memory, contracts of functions, walks. No condition. -/
import Derived.Maps.RangeWalk
import Derived.Deep.CutRange
import Derived.Laws.EntriesVeiled
import Derived.Test.YtofjocjljbkjgaaQChangesJoin3
set_option linter.unusedVariables false
set_option linter.unusedSimpArgs false
namespace Go.Proofs.Ytofjocjljbkjgaa
open Go.RowKit
attribute [local go_sem] Oper.semAt_some
structure SubB (g : Gr) (A : Option Addr) (c : Nat) (t : Tr) (B : Option Addr) (d : Nat) (w : World) (a z : Int) (W : World) : Prop where
  g : W.heap[w.heap.size]? = some (.cells #[.slice A g.kinds.length c, .int .i64 g.root] 43 (0, 0))
  t : W.heap[w.heap.size + 1]? = some (.cells #[.int .i64 (Tr.id t), .int .i64 (Tr.kind t), .string (Tr.text t), .slice B (Tr.kids t).length d] 24 (0, 0))
  a : W.heap[w.heap.size + 2]? = some (.cells #[.int .i64 a] 3 (0, 0))
  z : W.heap[w.heap.size + 3]? = some (.cells #[.int .i64 z] 36 (0, 0))
  chg : Chg [] w W
theorem SubB.kept {g : Gr} {A : Option Addr} {c : Nat} {t : Tr} {B : Option Addr} {d : Nat} {w W W' : World} {a z : Int} (h : SubB g A c t B d w a z W) (hc : Chg [] W W') : SubB g A c t B d w a z W' :=
  ⟨hc.at h.g (by simp), hc.at h.t (by simp), hc.at h.a (by simp), hc.at h.z (by simp), h.chg.trans hc⟩
theorem SubB.quiet {g : Gr} {A : Option Addr} {c : Nat} {t : Tr} {B : Option Addr} {d S : Nat} {w W W' : World} {a z : Int} (h : SubB g A c t B d w a z W) (hq : Quiet S W W') (hS : w.heap.size ≤ S) : SubB g A c t B d w a z W' :=
  ⟨hq.at h.g rfl, hq.at h.t rfl, hq.at h.a rfl, hq.at h.z rfl, hq.chg h.chg hS⟩
theorem SubB.store {g : Gr} {A : Option Addr} {c : Nat} {t : Tr} {B : Option Addr} {d : Nat} {w W : World} {a z a' z' : Int} (h : SubB g A c t B d w a z W) :
    SubB g A c t B d w a' z' ((W.setCell ⟨w.heap.size + 2, 0, none⟩ (.int .i64 a')).setCell ⟨w.heap.size + 3, 0, none⟩ (.int .i64 z')) ∧ Chg [w.heap.size + 2, w.heap.size + 3] W ((W.setCell ⟨w.heap.size + 2, 0, none⟩ (.int .i64 a')).setCell ⟨w.heap.size + 3, 0, none⟩ (.int .i64 z')) := by
  have hS : Chg [w.heap.size + 2, w.heap.size + 3] W ((W.setCell ⟨w.heap.size + 2, 0, none⟩ (.int .i64 a')).setCell ⟨w.heap.size + 3, 0, none⟩ (.int .i64 z')) := ((Chg.refl _ _).setCell _ _ (by simp)).setCell _ _ (by simp)
  refine ⟨⟨hS.at h.g (by simp), hS.at h.t (by simp), ?_, ?_, h.chg.andThen hS (fun j hj => .inr (by simp at hj; omega))⟩, hS⟩
  · exact ((Chg.refl [w.heap.size + 3] _).setCell _ _ (by simp)).at (heap_setCell_same _ _ 0 _ _ _ h.a) (by simp)
  · exact heap_setCell_same _ _ 0 _ _ _ (((Chg.refl [w.heap.size + 2] _).setCell _ _ (by simp)).at h.z (by simp))
theorem sub_ret {g : Gr} {A : Option Addr} {c : Nat} {t : Tr} {B : Option Addr} {d n : Nat} {w W : World} {a z : Int} {p : Prop} (h : SubB g A c t B d w a z W) (Ds : List Nat) (hM : Marks n Ds W) (hn : w.heap.size ≤ n) (hp : (z = 0 ↔ g.Ok ∧ p) ∧ (z = 0 ∨ (z = 50 ∧ ¬ g.Ok) ∨ (z = 70 ∧ g.Ok))) (ac : Act) (hd : ac.defers = Ds.map mark)
    (h4 : ac.tmps.getD 4 undef = .pointer (some ⟨w.heap.size + 2, 0, none⟩)) (h5 : ac.tmps.getD 5 undef = .pointer (some ⟨w.heap.size + 3, 0, none⟩)) :
    bodyPostM W0 0 Try.prog Try.f88 (ConfPost p g w) .ret ac W := by
  show LeavesInM W0 0 Try.prog Try.f88 ac.tmps (ConfPost p g w) ac.defers .returning W
  rw [hd]
  refine marks_ret Ds W hM (fun w' hq => ⟨.tuple #[.int .i64 a, .int .i64 z], ?_, a, z, rfl, hp.1, hp.2, hq.chg h.chg hn⟩)
  have k4 := cellOne (hq.at h.a rfl)
  have k5 := cellOne (hq.at h.z rfl)
  have h4' : ac.tmps[4]?.getD undef = .pointer (some ⟨w.heap.size + 2, 0, none⟩) := by simpa using h4
  have h5' : ac.tmps[5]?.getD undef = .pointer (some ⟨w.heap.size + 3, 0, none⟩) := by simpa using h5
  simp [results, Try.results88, go_sem, h4', h5', k4, k5]
theorem Seen.at {W W' : World} {b : Nat} {l : List Int} (h : Seen W b l) (hb : ∀ es cl, W.heap[b]? = some (.map es cl) → W'.heap[b]? = some (.map es cl)) : Seen W' b l := by
  obtain ⟨D, ⟨es, cl, h1, h2⟩, h3⟩ := h
  exact ⟨D, ⟨es, cl, hb es cl h1, h2⟩, h3⟩
structure InS (g : Gr) (A : Option Addr) (c : Nat) (t : Tr) (B : Option Addr) (d : Nat) (w V : World) (m j : Nat) (W : World) : Prop where
  box : SubB g A c t B d w 0 0 W
  mp : W.heap[m + 1]? = some (.cells #[.map (some m)] 168 (0, 0))
  at' : W.heap[m + 2]? = some (.cells #[.int .i64 j] 3 (0, 0))
  seen : Seen W m (((t.walk 1).take j).map (·.1.id))
  st : StW V (w.heap.size + 2) V.heap.size (V.heap.size + 1) (w.heap.size + 1) 0 1 W
  good : GoodTo g (t.walk 1) j
theorem InS.quiet {g : Gr} {A : Option Addr} {c : Nat} {t : Tr} {B : Option Addr} {d m j S : Nat} {w V W W' : World} (h : InS g A c t B d w V m j W) (hq : Quiet S W W') (hS : w.heap.size + 2 ≤ S) (hV : w.heap.size + 2 ≤ V.heap.size) : InS g A c t B d w V m j W' :=
  ⟨h.box.quiet hq (by omega), hq.at h.mp rfl, hq.at h.at' rfl, h.seen.at (fun es cl hb => hq.at hb rfl), h.st.quiet hq hS hV, h.good⟩
set_option maxHeartbeats 16000000 in
set_option maxRecDepth 100000 in
theorem gsub_any (g : Gr) (A : Option Addr) (c : Nat) (t : Tr) (B : Option Addr) (d : Nat) (w : World) (hG : GrC w A c g.kinds) (hT : TrC (fun b => b < w.heap.size) w t [.int .i64 (Tr.id t), .int .i64 (Tr.kind t), .string (Tr.text t), .slice B (Tr.kids t).length d]) (hn : 1 + t.nodes ≤ 1000000) :
    Calls Try.prog 88 #[.agg #[.slice A g.kinds.length c, .int .i64 g.root], .agg #[.int .i64 (Tr.id t), .int .i64 (Tr.kind t), .string (Tr.text t), .slice B (Tr.kids t).length d]] w (ConfPost (SubOk g t) g w) := by
  have hgl : g.kinds.length ≤ 9223372036854775807 := by have := hG.cap; have := hG.big; omega
  obtain ⟨W1, hW1⟩ : ∃ W1, W1 = (((w.alloc (.cells #[.slice A g.kinds.length c, .int .i64 g.root] 43)).alloc (.cells #[.int .i64 (Tr.id t), .int .i64 (Tr.kind t), .string (Tr.text t), .slice B (Tr.kids t).length d] 24)).alloc (.cells #[.int .i64 0] 3)).alloc (.cells #[.int .i64 0] 36) := ⟨_, rfl⟩
  have hs1 : W1.heap.size = w.heap.size + 4 := by rw [hW1]; simp
  have hB : SubB g A c t B d w 0 0 W1 := by
    rw [hW1]
    exact ⟨heap_old (heap_old (heap_old (heap_new _ _ rfl) _) _) _, heap_old (heap_old (heap_new _ _ (by simp)) _) _, heap_old (heap_new _ _ (by simp)) _, heap_new _ _ (by simp), (by with_reducible repeat (first | exact Chg.refl _ _ | apply Chg.alloc | apply Chg.drew | apply Chg.drewN | (refine Chg.setCell ?_ _ _ (by simp))))⟩
  have hroot : TrAt (fun b => b < w.heap.size + 2) W1 (w.heap.size + 1) 0 t := ⟨[.int .i64 (Tr.id t), .int .i64 (Tr.kind t), .string (Tr.text t), .slice B (Tr.kids t).length d], range_all hB.t, ((hT.kept hB.chg (by simp)).weak (fun b hb _ => by omega))⟩
  have HG := Lib.hid (And.intro hG (And.intro hB (And.intro hW1 (And.intro hs1 hroot))))
  obtain ⟨a0, a1⟩ := cell2 hB.g
  have a2 := cellOne hB.a
  have a3 := cellOne hB.z
  have f2 := blkF hB.a 0
  have f3 := blkF hB.z 0
  rw [hW1] at a0 a1 a2 a3 f2 f3
  clear hG hT hB hW1 hs1 hroot
  refine callsIn_wide.1 (callsIn_of_wp_marks (n := 0) Try.func88 rfl trivial ?_)
  simp only [Try.ntmps88, List.size_toArray, List.length_cons, List.length_nil, Nat.reduceAdd, Nat.reduceSub, Array.replicate_succ, Array.replicate_zero, List.push_toArray, List.append_toArray, List.nil_append, List.cons_append]
  gi_wp2_with (skip; fail)
  refine ⟨trivial, rfl, ?_⟩
  gi_at_call 109
  rw [← HG.out.2.2.1]
  refine (callsIn_wide.2 (gcheck_any g A c W1 (HG.out.1.kept HG.out.2.1.chg))).mono ?_
  rintro e X ⟨z, rfl, hz, hzz, hcx⟩
  have HX := Lib.hid (And.intro (HG.out.2.1.kept hcx) hcx)
  clear hcx a0 a1 a2 a3 f2 f3
  by_cases hz0 : z = 0
  · subst hz0
    have HOk := Lib.hid (hz.1 rfl)
    clear hz hzz
    have hX4 : w.heap.size + 4 ≤ X.heap.size := by have h1 := HG.out.2.2.2.1; have h2 := HX.out.2.size; omega
    have hmany := many_any (w.heap.size + 2) (w.heap.size + 1) 0 t X (HG.out.2.2.2.2.kept HX.out.2 (by simp) (by simp)) (by omega) (by omega) hn
    have HM := Lib.hid hmany
    clear hmany
    gi_wp2_with (skip; fail)
    refine ⟨trivial, rfl, ?_⟩
    gi_at_call 122
    refine (callsIn_wide.2 HM.out).mono ?_
    rintro e Y ⟨rfl, hcy⟩
    have HY := Lib.hid (And.intro (HX.out.1.kept hcy) (HX.out.2.trans hcy))
    clear hcy
    by_cases h200 : 200 < t.nodes
    · rw [decide_eq_true h200]
      have HN := Lib.hid (show ¬ SubOk g t from fun h => by have := h.1; omega)
      have b2 := cellOne HY.out.1.a
      have b3 := cellOne HY.out.1.z
      have g2 := blkF HY.out.1.a 0
      have g3 := blkF HY.out.1.z 0
      obtain ⟨hst, _⟩ := HY.out.1.store (a' := 0) (z' := 70)
      have HSt := Lib.hid hst
      clear hst
      gi_wp2
      exact sub_ret HSt.out [] (Marks.nil _ _) (Nat.le_refl _) ⟨by simp [HN.out], .inr (.inr ⟨rfl, HOk.out⟩)⟩ _ rfl rfl rfl
    · rw [decide_eq_false h200]
      have hY4 : w.heap.size + 4 ≤ Y.heap.size := by have h1 := HY.out.2.size; have h2 := HG.out.2.2.2.1; omega
      obtain ⟨V, hV⟩ : ∃ V, V = ((Y.alloc (.map #[] 0)).alloc (.cells #[.map (some Y.heap.size)] 168)).alloc (.cells #[.int .i64 0] 3) := ⟨_, rfl⟩
      have hVc : Chg [] Y V := by rw [hV]; exact (by with_reducible repeat (first | exact Chg.refl _ _ | apply Chg.alloc | apply Chg.drew | apply Chg.drewN | (refine Chg.setCell ?_ _ _ (by simp))))
      have hVs : V.heap.size = Y.heap.size + 3 := by rw [hV]; simp
      have hVm : Seen V Y.heap.size [] := by
        obtain ⟨D, h1, h2, h3⟩ := Seen.made Y
        rw [hV]
        exact ⟨D, (h1.alloc _).alloc _, h2, h3⟩
      have hV1 : V.heap[Y.heap.size + 1]? = some (.cells #[.map (some Y.heap.size)] 168 (0, 0)) := by rw [hV]; exact heap_old (heap_new _ _ (by simp)) _
      have hV2 : V.heap[Y.heap.size + 2]? = some (.cells #[.int .i64 0] 3 (0, 0)) := by rw [hV]; exact heap_new _ _ (by simp)
      have HV := Lib.hid (And.intro hVc (And.intro hVs (And.intro hVm (And.intro hV1 (And.intro hV2 hV)))))
      clear hVc hVs hVm hV1 hV2 hV
      have hmm := @run_makeMap Try.prog
      gi_wp2_with (skip; fail)
      refine ⟨trivial, rfl, ?_⟩
      gi_at_call 123
      clear hmm
      rw [← HV.out.2.2.2.2.2]
      refine (callsIn_wide.2 (walkf_any (w.heap.size + 1) 0 1 V)).mono ?_
      rintro e U ⟨rfl, hu1, hu2, hus, huc⟩
      have HU := Lib.hid (And.intro hu1 (And.intro hu2 (And.intro hus huc)))
      clear hu1 hu2 hus huc
      have hV6 : w.heap.size + 6 ≤ V.heap.size := by have := HV.out.2.1; omega
      have hUI : InS g A c t B d w V Y.heap.size 0 U := ⟨(HY.out.1.kept HV.out.1).kept HU.out.2.2.2, HU.out.2.2.2.at HV.out.2.2.2.1 (by simp), HU.out.2.2.2.at HV.out.2.2.2.2.1 (by simp), HV.out.2.2.1.at (fun es cl hb => HU.out.2.2.2.at hb (by simp)), ⟨HU.out.1, HU.out.2.1, fun k hk => HU.out.2.2.2.block k (by omega) (by simp)⟩, fun j y hj => by omega⟩
      have HUI := Lib.hid hUI
      have hrt := (HG.out.2.2.2.2.kept (HY.out.2.trans HV.out.1) (by simp) (by simp))
      have HRt := Lib.hid hrt
      have hU6 : w.heap.size + 6 ≤ U.heap.size := by have := HU.out.2.2.1; omega
      clear hUI hrt
      gi_wp2
      refine wp_rangeK (gf := 147) (lb := #[.pointer (some ⟨V.heap.size, 0, none⟩), .pointer (some ⟨V.heap.size + 1, 0, none⟩)]) rfl (enters_of Try.func147 (by kernel_rfl) rfl) (walk_iter (w.heap.size + 2) V t 1 V.heap.size (V.heap.size + 1) (w.heap.size + 1) 0 HRt.out (by omega) (by omega) (by omega))
        (fun l i x args W h => by obtain ⟨g, o, rfl, _⟩ := h; rfl)
        (fun j W => InS g A c t B d w V Y.heap.size j W) (fun c' W => c' = .ret ∧ (∃ a, SubB g A c t B d w a 70 W) ∧ ¬ SubOk g t)
        (fun j W h => h.st) (fun j W W' h hq => h.quiet hq (by omega) (by omega)) (fun c W W' h hq => ⟨h.1, by obtain ⟨a, ha⟩ := h.2.1; exact ⟨a, ha.quiet hq (by omega)⟩, h.2.2⟩) HUI.out ?round ?done ?stop
      case round =>
        rintro l2 j x args W' hI hx ⟨g', o', rfl, htr, hlow⟩ hl hlB
        have H1 := Lib.hid (And.intro hI (And.intro hx htr))
        clear hI hx htr hl
        gi_wp2
        refine ⟨Above.refl _ _, fun W2 hc2 hq2 => ?_⟩
        have hI2 := H1.out.1.quiet hq2 (by omega) (by omega)
        have htr2 := H1.out.2.2.kept hc2 (by simp; omega) (by simp; omega)
        obtain ⟨A2, c2, q0, q1, q2, q3, _, _, _, _⟩ := htr2.cells
        obtain ⟨a0, a1⟩ := cell2 hI2.box.g
        have m1 := cellOne hI2.mp
        have m2 := cellOne hI2.at'
        have b2 := cellOne hI2.box.a
        have b3 := cellOne hI2.box.z
        have g2 := blkF hI2.box.a 0
        have g3 := blkF hI2.box.z 0
        have g4 := blkF hI2.at' 0
        have hno : ¬ Good0 g x → ¬ SubOk g t := fun h hs => h (hs.2 j x (List.getElem?_eq_some_iff.1 H1.out.2.1).1 H1.out.2.1).1
        obtain ⟨hst, hsc⟩ := hI2.box.store (a' := j) (z' := 70)
        have HSt := Lib.hid (And.intro hst hsc)
        have HI2 := Lib.hid (And.intro hI2 htr2)
        clear hst hsc hI2 htr2 hc2 hq2
        by_cases t1 : 32 < x.2
        · have d1 : decide (32 < x.2) = true := decide_eq_true t1
          have HN := Lib.hid (hno (fun h => by have := h.1; omega))
          clear hno t1
          gi_wp2
          exact ⟨Above.of_chg HSt.out.2 (by simp; omega), rfl, ⟨_, HSt.out.1⟩, HN.out⟩
        have d1 : decide (32 < x.2) = false := decide_eq_false t1
        by_cases t2 : x.1.id < 1
        · have d2 : decide (x.1.id < 1) = true := decide_eq_true t2
          have HN := Lib.hid (hno (fun h => by have := h.2.1; omega))
          clear hno t1 t2
          gi_wp2
          exact ⟨Above.of_chg HSt.out.2 (by simp; omega), rfl, ⟨_, HSt.out.1⟩, HN.out⟩
        have d2 : decide (x.1.id < 1) = false := decide_eq_false t2
        by_cases t3 : 1125899906842624 < x.1.id
        · have d3 : decide (1125899906842624 < x.1.id) = true := decide_eq_true t3
          have HN := Lib.hid (hno (fun h => by have := h.2.2.1; omega))
          clear hno t1 t2 t3
          gi_wp2
          exact ⟨Above.of_chg HSt.out.2 (by simp; omega), rfl, ⟨_, HSt.out.1⟩, HN.out⟩
        have d3 : decide (1125899906842624 < x.1.id) = false := decide_eq_false t3
        have hwf : (Lit.int .i64 x.1.id).wf = true := by simp [Lit.wf, IntKind.min, IntKind.max, IntKind.bits, IntKind.signed]; omega
        obtain ⟨ids, hids⟩ : ∃ ids, ids = ((t.walk 1).take j).map (·.1.id) := ⟨_, rfl⟩
        have hlk := (HI2.out.1.seen.at (W' := W2.drew) (fun es cl h => h)).look x.1.id hwf
        rw [← hids] at hlk
        have HIds := Lib.hid hids
        clear hids
        unfold idKey at hlk
        gi_wp2_with fail
        refine wpIn_region_M (fun _ => True) (fun k => [].contains k) (fun k => [].contains k) (by kernel_rfl) (by kernel_rfl) (by rintro ⟨a, w, h⟩; exact h) ?_
        ((try dsimp only); (try simp only [Act.put, List.setIfInBounds_toArray, List.set_cons_zero, List.set_cons_succ]))
        refine M_take (i := 0) (v := ?_) rfl (by kernel_rfl) (by kernel_rfl) (by kernel_rfl) (by kernel_rfl) (fun _ _ _ h => h) (by rfl) ?hy ?_; (case hy => (go_simp; with_reducible rfl)); ((try dsimp only); (try simp only [Act.put, List.setIfInBounds_toArray, List.set_cons_zero, List.set_cons_succ]))
        refine M_pure (i := 1) (v := ?_) rfl (by kernel_rfl) (by kernel_rfl) (by kernel_rfl) (fun _ _ _ h => h) (by rfl) ?hy ?_; (case hy => (intro w; go_simp; with_reducible rfl)); ((try dsimp only); (try simp only [Act.put, List.setIfInBounds_toArray, List.set_cons_zero, List.set_cons_succ]))
        refine M_pure (i := 2) (v := ?_) rfl (by kernel_rfl) (by kernel_rfl) (by kernel_rfl) (fun _ _ _ h => h) (by rfl) ?hy ?_; (case hy => (intro w; go_simp; with_reducible rfl)); ((try dsimp only); (try simp only [Act.put, List.setIfInBounds_toArray, List.set_cons_zero, List.set_cons_succ]))
        refine M_pure (i := 3) (v := ?_) rfl (by kernel_rfl) (by kernel_rfl) (by kernel_rfl) (fun _ _ _ h => h) (by rfl) ?hy ?_; (case hy => (intro w; go_simp; with_reducible rfl)); ((try dsimp only); (try simp only [Act.put, List.setIfInBounds_toArray, List.set_cons_zero, List.set_cons_succ]))
        refine M_take (i := 4) (v := ?_) rfl (by kernel_rfl) (by kernel_rfl) (by kernel_rfl) (by kernel_rfl) (fun _ _ _ h => h) (by rfl) ?hy ?_; (case hy => (go_simp; with_reducible rfl)); ((try dsimp only); (try simp only [Act.put, List.setIfInBounds_toArray, List.set_cons_zero, List.set_cons_succ]))
        refine M_pure (i := 5) (v := ?_) rfl (by kernel_rfl) (by kernel_rfl) (by kernel_rfl) (fun _ _ _ h => h) (by rfl) ?hy ?_; (case hy => (intro w; go_simp; with_reducible rfl)); ((try dsimp only); (try simp only [Act.put, List.setIfInBounds_toArray, List.set_cons_zero, List.set_cons_succ]))
        refine M_take (i := 6) (v := ?_) rfl (by kernel_rfl) (by kernel_rfl) (by kernel_rfl) (by kernel_rfl) (fun _ _ _ h => h) (by rfl) ?hy ?_; (case hy => (go_simp; with_reducible rfl)); ((try dsimp only); (try simp only [Act.put, List.setIfInBounds_toArray, List.set_cons_zero, List.set_cons_succ]))
        refine M_pure (i := 7) (v := ?_) rfl (by kernel_rfl) (by kernel_rfl) (by kernel_rfl) (fun _ _ _ h => h) (by rfl) ?hy ?_; (case hy => (intro w; go_simp; with_reducible rfl)); ((try dsimp only); (try simp only [Act.put, List.setIfInBounds_toArray, List.set_cons_zero, List.set_cons_succ]))
        refine M_done (by kernel_rfl) ?_ _
        have hjn : j < 1000000 := by
          have h1 := (List.getElem?_eq_some_iff.1 H1.out.2.1).1
          rw [Tr.walk_length] at h1
          omega
        have hkl : x.1.kids.length ≤ 1000000 := by
          have h1 := walk_nodes t 1 x.1 x.2 (List.mem_of_getElem? H1.out.2.1)
          have h2 := x.1.kids_le
          omega
        obtain ⟨W3, hW3⟩ : ∃ W3, W3 = W2.drew := ⟨_, rfl⟩
        rw [← hW3]
        have hc3 : Chg [] W2 W3 := by rw [hW3]; exact (Chg.refl [] W2).drew
        have hI3 := HI2.out.1.quiet (S := w.heap.size + 2) (.of_chg hc3) (by omega) (by omega)
        have hT3 := HI2.out.2.kept hc3 (by simp) (by simp)
        clear a0 a1 m1 m2 b2 b3 g2 g3 g4 q0 q1 q2 q3 hlk hW3
        obtain ⟨a0, a1⟩ := cell2 hI3.box.g
        have m1 := cellOne hI3.mp
        have m2 := cellOne hI3.at'
        have b2 := cellOne hI3.box.a
        have b3 := cellOne hI3.box.z
        have g2 := blkF hI3.box.a 0
        have g3 := blkF hI3.box.z 0
        obtain ⟨hst, hsc⟩ := hI3.box.store (a' := j) (z' := 70)
        have HSt := Lib.hid (And.intro hst (And.intro hsc (hc3.size)))
        have HI3 := Lib.hid (And.intro hI3 (And.intro hT3 hc3))
        clear hst hsc hI3 hT3 hc3 HI2
        by_cases t4 : x.1.id ∈ ids
        · have d4 : decide (x.1.id ∈ ids) = true := decide_eq_true t4
          have HN := Lib.hid (show ¬ SubOk g t from fun hs => by
            rw [HIds.out] at t4
            obtain ⟨y, hy, hye⟩ := List.mem_map.1 t4
            obtain ⟨k, hk, hky⟩ := List.mem_iff_getElem.1 hy
            rw [List.getElem_take] at hky
            rw [List.length_take] at hk
            exact (hs.2 j x (List.getElem?_eq_some_iff.1 H1.out.2.1).1 H1.out.2.1).2 k y (by omega) (by rw [← hky]; exact List.getElem?_eq_getElem _) hye)
          clear hno t1 t2 t3
          gi_wp2
          exact ⟨Above.of_chg (L := [w.heap.size + 2, w.heap.size + 3]) ((HI3.out.2.2.mono (by simp)).trans HSt.out.2.1) (by simp; omega), rfl, ⟨_, HSt.out.1⟩, HN.out⟩
        have d4 : decide (x.1.id ∈ ids) = false := decide_eq_false t4
        have HT4 := Lib.hid t4
        obtain ⟨csx, hrx, hTx⟩ := HI3.out.2.1
        have hTr3 := HI3.out.2.1
        have HT3 := Lib.hid hTr3
        clear hTr3
        obtain ⟨A3, c3, rfl, _⟩ := hTx.opens
        have hcl := gnode_any g A c x.1 A3 c3 W3.drew (HG.out.1.kept (HI3.out.1.box.chg.drew)) (hTx.kept (Chg.refl [] W3).drew (by simp)) hkl
        have HCl := Lib.hid (And.intro hcl hrx)
        clear hcl hrx hTx
        gi_wp2_with fail
        refine wpIn_region_M (fun _ => True) (fun k => [4].contains k) (fun k => [4].contains k) (by kernel_rfl) (by kernel_rfl) (by rintro ⟨a, w, h⟩; exact h) ?_
        ((try dsimp only); (try simp only [Act.put, List.setIfInBounds_toArray, List.set_cons_zero, List.set_cons_succ]))
        refine M_take (i := 0) (v := ?_) rfl (by kernel_rfl) (by kernel_rfl) (by kernel_rfl) (by kernel_rfl) (fun _ _ _ h => h) (by rfl) ?hy ?_; (case hy => (go_simp; with_reducible rfl)); ((try dsimp only); (try simp only [Act.put, List.setIfInBounds_toArray, List.set_cons_zero, List.set_cons_succ]))
        refine M_pure (i := 1) (v := ?_) rfl (by kernel_rfl) (by kernel_rfl) (by kernel_rfl) (fun _ _ _ h => h) (by rfl) ?hy ?_; (case hy => (intro w; go_simp; with_reducible rfl)); ((try dsimp only); (try simp only [Act.put, List.setIfInBounds_toArray, List.set_cons_zero, List.set_cons_succ]))
        refine M_pure (i := 2) (v := ?_) rfl (by kernel_rfl) (by kernel_rfl) (by kernel_rfl) (fun _ _ _ h => h) (by rfl) ?hy ?_; (case hy => (intro w; go_simp; with_reducible rfl)); ((try dsimp only); (try simp only [Act.put, List.setIfInBounds_toArray, List.set_cons_zero, List.set_cons_succ]))
        refine M_take (i := 3) rfl (by kernel_rfl) (by kernel_rfl) (by kernel_rfl) (by kernel_rfl) (fun _ _ _ h => h) (by rfl) (exec_load_mid 24 (.tmp 42) rfl g' o' rfl _ _ (w := W3.drew) HCl.out.2 Try.underlying24 rfl (by kernel_rfl)) ?_; ((try dsimp only); (try simp only [Act.put, List.setIfInBounds_toArray, List.set_cons_zero, List.set_cons_succ]))
        refine M_brk (i := 4) rfl (by kernel_rfl) (by rfl) (by rfl) ?_
        go_wp2_with fail
        refine HCl.out.1.mono ?_
        rintro e Z ⟨bb, rfl, hbb, hcz⟩
        go_wp2_with fail
        ((try dsimp only [EffQ]); (try simp only [Act.put, List.setIfInBounds_toArray, List.set_cons_zero, List.set_cons_succ]))
        refine M_pure (i := 5) (v := ?_) rfl (by kernel_rfl) (by kernel_rfl) (by kernel_rfl) (fun _ _ _ h => h) (by rfl) ?hy ?_; (case hy => (intro w; go_simp; with_reducible rfl)); ((try dsimp only); (try simp only [Act.put, List.setIfInBounds_toArray, List.set_cons_zero, List.set_cons_succ]))
        refine M_pure (i := 6) (v := ?_) rfl (by kernel_rfl) (by kernel_rfl) (by kernel_rfl) (fun _ _ _ h => h) (by rfl) ?hy ?_; (case hy => (intro w; go_simp; with_reducible rfl)); ((try dsimp only); (try simp only [Act.put, List.setIfInBounds_toArray, List.set_cons_zero, List.set_cons_succ]))
        refine M_done (by kernel_rfl) ?_ _
        have hcz3 : Chg [] W3 Z := (Chg.refl [] W3).drew.trans hcz
        have hIz := HI3.out.1.quiet (S := w.heap.size + 2) (.of_chg hcz3) (by omega) (by omega)
        have hTz := HT3.out.kept hcz3 (by simp) (by simp)
        clear a0 a1 m1 m2 b2 b3 g2 g3 hcz t4 d1 d2 d3 d4
        obtain ⟨A4, c4, q0, _⟩ := hTz.cells
        have m1 := cellOne hIz.mp
        have m2 := cellOne hIz.at'
        have b2 := cellOne hIz.box.a
        have b3 := cellOne hIz.box.z
        have g2 := blkF hIz.box.a 0
        have g3 := blkF hIz.box.z 0
        obtain ⟨hst, hsc⟩ := hIz.box.store (a' := j) (z' := 70)
        have HSt := Lib.hid (And.intro hst ((HI3.out.2.2.trans hcz3).mono (by simp) |>.trans hsc))
        have HIz := Lib.hid (And.intro hIz (HI3.out.2.2.trans hcz3))
        clear hst hsc hIz hTz hcz3
        by_cases t5 : NodeOk g x.1
        · obtain rfl : bb = true := hbb.2 t5
          have HG5 := Lib.hid (show Good0 g x from ⟨by omega, by omega, by omega, t5⟩)
          clear hno t1 t2 t3 t5 hbb b2 b3 g2 g3 HSt
          obtain ⟨w5, hr5, hs5, hc5⟩ := (HIz.out.1.seen.at (W' := Z.drew) (fun es cl h => h)).put x.1.id hwf (by rw [List.length_map, List.length_take]; omega)
          have hc5z : Chg [Y.heap.size] Z w5 := (Chg.refl _ _).drew.trans hc5
          have n2 := hc5z.cell m2 (by simp)
          have g4 := blkF (hc5z.at HIz.out.1.at' (by simp)) 0
          have H5 := Lib.hid (And.intro hs5 hc5z)
          clear hs5 hc5 hc5z
          unfold idKey at hr5
          gi_wp2_with fail
          refine wpIn_region_M (fun _ => True) (fun k => [6].contains k) (fun k => [6].contains k) (by kernel_rfl) (by kernel_rfl) (by rintro ⟨a, w, h⟩; exact h) ?_
          ((try dsimp only); (try simp only [Act.put, List.setIfInBounds_toArray, List.set_cons_zero, List.set_cons_succ]))
          refine M_take (i := 0) (v := ?_) rfl (by kernel_rfl) (by kernel_rfl) (by kernel_rfl) (by kernel_rfl) (fun _ _ _ h => h) (by rfl) ?hy ?_; (case hy => (go_simp; with_reducible rfl)); ((try dsimp only); (try simp only [Act.put, List.setIfInBounds_toArray, List.set_cons_zero, List.set_cons_succ]))
          refine M_pure (i := 1) (v := ?_) rfl (by kernel_rfl) (by kernel_rfl) (by kernel_rfl) (fun _ _ _ h => h) (by rfl) ?hy ?_; (case hy => (intro w; go_simp; with_reducible rfl)); ((try dsimp only); (try simp only [Act.put, List.setIfInBounds_toArray, List.set_cons_zero, List.set_cons_succ]))
          refine M_pure (i := 2) (v := ?_) rfl (by kernel_rfl) (by kernel_rfl) (by kernel_rfl) (fun _ _ _ h => h) (by rfl) ?hy ?_; (case hy => (intro w; go_simp; with_reducible rfl)); ((try dsimp only); (try simp only [Act.put, List.setIfInBounds_toArray, List.set_cons_zero, List.set_cons_succ]))
          refine M_pure (i := 3) (v := ?_) rfl (by kernel_rfl) (by kernel_rfl) (by kernel_rfl) (fun _ _ _ h => h) (by rfl) ?hy ?_; (case hy => (intro w; go_simp; with_reducible rfl)); ((try dsimp only); (try simp only [Act.put, List.setIfInBounds_toArray, List.set_cons_zero, List.set_cons_succ]))
          refine M_take (i := 4) (v := ?_) rfl (by kernel_rfl) (by kernel_rfl) (by kernel_rfl) (by kernel_rfl) (fun _ _ _ h => h) (by rfl) ?hy ?_; (case hy => (go_simp; with_reducible rfl)); ((try dsimp only); (try simp only [Act.put, List.setIfInBounds_toArray, List.set_cons_zero, List.set_cons_succ]))
          refine M_pure (i := 5) (v := ?_) rfl (by kernel_rfl) (by kernel_rfl) (by kernel_rfl) (fun _ _ _ h => h) (by rfl) ?hy ?_; (case hy => (intro w; go_simp; with_reducible rfl)); ((try dsimp only); (try simp only [Act.put, List.setIfInBounds_toArray, List.set_cons_zero, List.set_cons_succ]))
          refine M_brk (i := 6) rfl (by kernel_rfl) (by rfl) (by rfl) ?_
          go_wp2_with fail
          ((try dsimp only [EffQ]); (try simp only [Act.put, List.setIfInBounds_toArray, List.set_cons_zero, List.set_cons_succ]))
          refine M_done (by kernel_rfl) ?_ _
          have hw1 : IntKind.i64.wrap ((j : Int) + 1) = (j : Int) + 1 := IntWalk.i64_in _ (by omega)
          gi_wp2
          obtain ⟨W6, hW6⟩ : ∃ W6, W6 = w5.setCell ⟨Y.heap.size + 2, 0, none⟩ (.int .i64 ((j : Int) + 1)) := ⟨_, rfl⟩
          rw [← hW6]
          have h65 : Chg [Y.heap.size + 2] w5 W6 := by rw [hW6]; exact (Chg.refl _ _).setCell _ _ (by simp)
          have h62 : W6.heap[Y.heap.size + 2]? = some (.cells #[.int .i64 ((j + 1 : Nat) : Int)] 3 (0, 0)) := by rw [hW6]; exact heap_setCell_same _ _ 0 _ _ _ (H5.out.2.at HIz.out.1.at' (by simp))
          have h6z : Chg [Y.heap.size, Y.heap.size + 2] Z W6 := (H5.out.2.mono (by simp)).trans (h65.mono (by simp))
          have e1 := HV.out.2.1
          have e2 := HU.out.2.2.1
          have e3 := lt_of_block HIz.out.1.mp
          refine ⟨Above.of_chg ((HIz.out.2.mono (by simp)).trans h6z) (by simp; omega), ?_⟩
          refine ⟨⟨h6z.at HIz.out.1.box.g (by simp; omega), h6z.at HIz.out.1.box.t (by simp; omega), h6z.at HIz.out.1.box.a (by simp; omega), h6z.at HIz.out.1.box.z (by simp; omega), HIz.out.1.box.chg.andThen h6z (by simp; omega)⟩, h6z.at HIz.out.1.mp (by simp), h62, ?_, ?_, ?_⟩
          · obtain ⟨D, ⟨es, cl, k1, k2⟩, k3⟩ := H5.out.1
            have hS6 : Seen W6 Y.heap.size (((t.walk 1).take j).map (·.1.id) ++ [x.1.id]) := Seen.at H5.out.1 (fun es cl hb => h65.at hb (by simp))
            rwa [List.take_add_one, H1.out.2.1, List.map_append]
          · exact ⟨h6z.at HIz.out.1.st.b1 (by simp; omega), h6z.at HIz.out.1.st.b2 (by simp; omega), fun k hk => (h6z.block k (by omega) (by simp; omega)).trans (HIz.out.1.st.base k hk)⟩
          · refine HIz.out.1.good.next H1.out.2.1 HG5.out (fun k z hk hz e => HT4.out ?_)
            rw [HIds.out]
            exact List.mem_map.2 ⟨z, List.mem_of_getElem? (by rw [List.getElem?_take, if_pos hk]; exact hz), e⟩
        · obtain rfl : bb = false := by cases bb; rfl; exact absurd (hbb.1 rfl) t5
          have HN := Lib.hid (hno (fun h => t5 h.2.2.2))
          clear hno t1 t2 t3 t5 hbb
          gi_wp2
          exact ⟨Above.of_chg HSt.out.2 (by simp; omega), rfl, ⟨_, HSt.out.1⟩, HN.out⟩
      case done =>
        rintro D W' hD hI hK
        have b2 := cellOne hI.box.a
        have b3 := cellOne hI.box.z
        have g2 := blkF hI.box.a 0
        have g3 := blkF hI.box.z 0
        obtain ⟨hst, hsc⟩ := hI.box.store (a' := 0) (z' := 0)
        have HSt := Lib.hid (And.intro hst (And.intro (hsc.at hK (by simp; omega)) hI.good))
        clear hst hsc hI hK
        gi_wp2
        exact sub_ret HSt.out.1 [D] ((Marks.nil w.heap.size _).push (by simp) (by omega) HSt.out.2.1) (Nat.le_refl _) ⟨⟨fun _ => ⟨HOk.out, by omega, HSt.out.2.2⟩, fun _ => rfl⟩, .inl rfl⟩ _ rfl rfl rfl
      case stop =>
        rintro D c' W' hD ⟨rfl, ⟨a, ha⟩, hns⟩ hK
        have HSt := Lib.hid (And.intro ha (And.intro hK hns))
        clear ha hK hns
        gi_wp2
        exact sub_ret HSt.out.1 [D] ((Marks.nil w.heap.size _).push (by simp) (by omega) HSt.out.2.1) (Nat.le_refl _) ⟨by simp [HSt.out.2.2], .inr (.inr ⟨rfl, HOk.out⟩)⟩ _ rfl rfl rfl
  · have HN := Lib.hid (show ¬ g.Ok from fun h => hz0 (hz.2 h))
    obtain rfl : z = 50 := by omega
    clear hz hzz hz0
    have b2 := cellOne HX.out.1.a
    have b3 := cellOne HX.out.1.z
    have g2 := blkF HX.out.1.a 0
    have g3 := blkF HX.out.1.z 0
    obtain ⟨hst, _⟩ := HX.out.1.store (a' := 0) (z' := 50)
    have HSt := Lib.hid hst
    clear hst
    gi_wp2
    exact sub_ret HSt.out [] (Marks.nil _ _) (Nat.le_refl _) ⟨by simp [HN.out], .inr (.inl ⟨rfl, HN.out⟩)⟩ _ rfl rfl rfl
end Go.Proofs.Ytofjocjljbkjgaa
namespace Go.Proofs.Ytofjocjljbkjgaa
open Go.RowKit
attribute [local go_sem] Oper.semAt_some
set_option maxHeartbeats 16000000 in
set_option maxRecDepth 100000 in
theorem gtree_any (g : Gr) (A : Option Addr) (c : Nat) (t : Tr) (B : Option Addr) (d : Nat) (w : World) (hG : GrC w A c g.kinds) (hT : TrC (fun b => b < w.heap.size) w t [.int .i64 (Tr.id t), .int .i64 (Tr.kind t), .string (Tr.text t), .slice B (Tr.kids t).length d]) (hn : 1 + t.nodes ≤ 1000000) :
    Calls Try.prog 60 #[.agg #[.slice A g.kinds.length c, .int .i64 g.root], .agg #[.int .i64 (Tr.id t), .int .i64 (Tr.kind t), .string (Tr.text t), .slice B (Tr.kids t).length d]] w (ConfPost (t.kind = g.root ∧ SubOk g t) g w) := by
  have HG := Lib.hid (And.intro hG (And.intro hT hn))
  obtain ⟨W1, hW1⟩ : ∃ W1, W1 = (w.alloc (.cells #[.slice A g.kinds.length c, .int .i64 g.root] 43)).alloc (.cells #[.int .i64 (Tr.id t), .int .i64 (Tr.kind t), .string (Tr.text t), .slice B (Tr.kids t).length d] 24) := ⟨_, rfl⟩
  have hB : Boxes g A c t B d w W1 := by rw [hW1]; exact Boxes.new g A c t B d w
  have HB := Lib.hid (And.intro hB hW1)
  obtain ⟨a0, a1, p0, p1, p2, p3⟩ := hB.cells
  clear hG hT hB hW1 hn
  go_enter Try.func60, Try.ntmps60
  go_wp2_with (skip; fail)
  rw [← HB.out.2]
  refine (gcheck_any g A c W1 (HG.out.1.kept HB.out.1.chg)).mono ?_
  rintro e X ⟨z, rfl, hz, hzz, hcx⟩
  have HX := Lib.hid (HB.out.1.kept hcx)
  clear hcx a0 a1 p0 p1 p2 p3
  obtain ⟨a0, a1, p0, p1, p2, p3⟩ := HX.out.cells
  have hsub := (gsub_any g A c t B d X (HG.out.1.kept HX.out.chg) ((HG.out.2.1.kept HX.out.chg (by simp)).weak (fun b hb _ => Nat.lt_of_lt_of_le hb HX.out.chg.size)) HG.out.2.2)
  have HS := Lib.hid hsub
  clear hsub
  by_cases hz0 : z = 0
  · subst hz0
    have HOk := Lib.hid (hz.1 rfl)
    clear hz hzz
    by_cases hk : t.kind = g.root
    · have d2 : (t.kind != g.root) = false := by simpa using hk
      have HK := Lib.hid hk
      clear hk
      go_wp2_with (skip; fail)
      refine HS.out.mono ?_
      rintro e Z ⟨a, z, rfl, h1, h2, h3⟩
      have HZ := Lib.hid (And.intro h1 (And.intro h2 h3))
      clear h1 h2 h3
      go_wp2_with (skip; fail)
      go_ret2
      exact ⟨a, z, rfl, by rw [HZ.out.1]; exact ⟨fun h => ⟨h.1, HK.out, h.2⟩, fun h => ⟨h.1, h.2.2⟩⟩, HZ.out.2.1, HX.out.chg.trans HZ.out.2.2⟩
    · have d2 : (t.kind != g.root) = true := by simpa using hk
      have HN := Lib.hid (show ¬ (t.kind = g.root ∧ SubOk g t) from fun h => hk h.1)
      clear hk
      go_wp2_with (skip; fail)
      go_ret2
      exact ConfPost.no 0 HOk.out HN.out HX.out.chg
  · have HN := Lib.hid (show ¬ g.Ok from fun h => hz0 (hz.2 h))
    obtain rfl : z = 50 := by omega
    clear hz hzz hz0
    go_wp2_with (skip; fail)
    refine HS.out.mono ?_
    rintro e Z ⟨a, z, rfl, h1, h2, h3⟩
    have HZ := Lib.hid (And.intro h1 (And.intro h2 h3))
    clear h1 h2 h3
    go_wp2_with (skip; fail)
    go_ret2
    exact ⟨a, z, rfl, by rw [HZ.out.1]; exact ⟨fun h => absurd h.1 HN.out, fun h => absurd h.1 HN.out⟩, HZ.out.2.1, HX.out.chg.trans HZ.out.2.2⟩
end Go.Proofs.Ytofjocjljbkjgaa
namespace Go.Proofs.Ytofjocjljbkjgaa
open Go.RowKit
structure GJ where
  ok : Bool
  fit : Tr → Bool
structure GJ.Of (j : GJ) (g : Gr) : Prop where
  ok : j.ok = true ↔ g.Ok
  fit : ∀ x, j.fit x = true ↔ (x.kind = g.root ∧ SubOk g x)
theorem GJ.ex (g : Gr) : ∃ j : GJ, j.Of g := by
  classical exact ⟨⟨decide g.Ok, fun x => decide (x.kind = g.root ∧ SubOk g x)⟩, ⟨by simp, fun x => by simp⟩⟩
def doJ (j : GJ) (t : Tr) (s : Stp) : Except Int Tr :=
  match applyT t s with
  | .error n => .error n
  | .ok x => if j.ok then (if j.fit x then .ok x else .error 70) else .error 50
theorem applyT_ne {t : Tr} {s : Stp} {n : Int} (h : applyT t s = .error n) : n ≠ 0 := by
  unfold applyT at h
  split at h
  · exact doT_ne h
  · injection h with h; omega
theorem doJ_ne {j : GJ} {t : Tr} {s : Stp} {n : Int} (h : doJ j t s = .error n) : n ≠ 0 := by
  unfold doJ at h
  split at h
  · rename_i m e; injection h with h; rw [← h]; exact applyT_ne e
  · split at h
    · split at h
      · cases h
      · injection h with h; omega
    · injection h with h; omega
theorem upd_nodes : ∀ (p : List Nat) (t n x : Tr), Tr.at? p t = some n → (Tr.upd p t x).nodes + n.nodes = t.nodes + x.nodes
  | [], t, n, x, h => by simp only [Tr.at?, Option.some.injEq] at h; subst h; simp only [Tr.upd]; omega
  | i :: p, t, n, x, h => by
    simp only [Tr.at?] at h
    cases hk : t.kids[i]? with
    | none => rw [hk] at h; cases h
    | some k =>
      rw [hk] at h
      have ih := upd_nodes p k n x h
      simp only [Tr.upd, hk]
      rw [Tr.nodes_eq t, Tr.nodes_eq]
      have hi := (List.getElem?_eq_some_iff.1 hk).1
      have he := (List.getElem?_eq_some_iff.1 hk).2
      have h1 : nodesL t.kids = nodesL (t.kids.take i) + k.nodes + nodesL (t.kids.drop (i + 1)) := by
        rw [← he]
        have := nodesL_append (t.kids.take i) (t.kids.drop i)
        rw [List.take_append_drop, List.drop_eq_getElem_cons hi] at this
        simp only [nodesL] at this
        omega
      have h2 : nodesL (t.kids.set i (Tr.upd p k x)) = nodesL (t.kids.take i) + (Tr.upd p k x).nodes + nodesL (t.kids.drop (i + 1)) := by
        rw [List.set_eq_take_append_cons_drop, if_pos hi, nodesL_append]
        simp only [nodesL]; omega
      simp only [] at h1 h2 ⊢
      omega
theorem insAt_nodes (l : List Tr) (k : Nat) (x : Tr) : nodesL (insAt l k x) = nodesL l + x.nodes := by
  unfold insAt
  have := nodesL_append (l.take k) (l.drop k)
  rw [List.take_append_drop] at this
  rw [nodesL_append]; simp only [nodesL]; omega
theorem ins_nodes {p : List Nat} {t n x : Tr} {k : Nat} (h : Tr.at? p t = some n) : (Tr.upd p t { n with kids := insAt n.kids k x }).nodes = t.nodes + x.nodes := by
  have h1 := upd_nodes p t n { n with kids := insAt n.kids k x } h
  rw [Tr.nodes_eq { n with kids := insAt n.kids k x }, insAt_nodes] at h1
  have := Tr.nodes_eq n
  omega
theorem insertT_ok {t x sub : Tr} {par pl : Int} (h : insertT t par pl sub = .ok x) : ∃ p n, t.path par = some p ∧ Tr.at? p t = some n ∧ (0 ≤ pl ∧ pl ≤ n.kids.length) ∧ (∀ i ∈ sub.ids, InRange i) ∧ FreshIds t.ids sub.ids ∧ x = Tr.upd p t { n with kids := insAt n.kids pl.toNat sub } := by
  unfold insertT at h
  split at h
  · cases h
  · rename_i p hp
    split at h
    · cases h
    · rename_i n hn
      split at h
      · rename_i h1
        split at h
        · rename_i h2
          split at h
          · rename_i h3
            injection h with h
            exact ⟨p, n, hp, hn, h1, h2, h3, h.symm⟩
          · cases h
        · cases h
      · cases h
theorem deleteT_ok {t x : Tr} {id : Int} (h : deleteT t id = .ok x) : t.id ≠ id ∧ ∃ y, t.out id = some (y, x) := by
  unfold deleteT at h
  split at h
  · cases h
  · split at h
    · cases h
    · rename_i h1
      split at h
      · cases h
      · rename_i y r h2
        injection h with h
        exact ⟨h1, y, by rw [h2, h]⟩
theorem textT_ok {t x : Tr} {id : Int} {tx : ByteArray} (h : textT t id tx = .ok x) : ∃ p n, t.path id = some p ∧ Tr.at? p t = some n ∧ x = Tr.upd p t { n with text := tx } := by
  unfold textT at h
  split at h
  · cases h
  · rename_i p hp
    split at h
    · cases h
    · rename_i n hn
      injection h with h
      exact ⟨p, n, hp, hn, h.symm⟩
theorem moveT_ok {t x : Tr} {id par pl : Int} (h : moveT t id par pl = .ok x) : t.id ≠ id ∧ ∃ p x0 y r q n, t.path id = some p ∧ Tr.at? p t = some x0 ∧ x0.path par = none ∧ t.out id = some (y, r) ∧ r.path par = some q ∧ Tr.at? q r = some n ∧ (0 ≤ pl ∧ pl ≤ n.kids.length) ∧ x = Tr.upd q r { n with kids := insAt n.kids pl.toNat y } := by
  unfold moveT at h
  split at h
  · rename_i p p2 hp hp2
    split at h
    · cases h
    · rename_i h1
      split at h
      · cases h
      · rename_i x0 hx0
        split at h
        · cases h
        · rename_i h2
          split at h
          · cases h
          · rename_i y r ho
            split at h
            · cases h
            · rename_i q hq
              split at h
              · cases h
              · rename_i n hn
                split at h
                · rename_i h3
                  injection h with h
                  refine ⟨h1, p, x0, y, r, q, n, hp, hx0, ?_, ho, hq, hn, h3, h.symm⟩
                  cases e : x0.path par with
                  | none => rfl
                  | some _ => rw [e] at h2; simp at h2
                · cases h
  · cases h
theorem doT_nodes {t x : Tr} {s : Stp} (h : doT t s = .ok x) : x.nodes ≤ t.nodes + s.sub.nodes := by
  unfold doT at h
  split at h
  · obtain ⟨p, n, _, hn, _, _, _, rfl⟩ := insertT_ok h
    rw [ins_nodes hn]; omega
  split at h
  · obtain ⟨_, y, hy⟩ := deleteT_ok h
    have := Tr.out_nodes _ _ _ _ hy
    omega
  split at h
  · obtain ⟨_, p, x0, y, r, q, n, _, _, _, h0, _, h1, _, rfl⟩ := moveT_ok h
    have := Tr.out_nodes _ _ _ _ h0
    rw [ins_nodes h1]; omega
  split at h
  · obtain ⟨p, n, _, hn, rfl⟩ := textT_ok h
    have h2 := upd_nodes p t n { n with text := s.text } hn
    have h3 : ({ n with text := s.text } : Tr).nodes = n.nodes := by rw [Tr.nodes_eq, Tr.nodes_eq n]
    omega
  · cases h
theorem applyT_nodes {t x : Tr} {s : Stp} (h : applyT t s = .ok x) : x.nodes ≤ 4000 := by
  unfold applyT at h
  split at h
  · have := doT_nodes h; omega
  · cases h
theorem blk9 {w : World} {b : Nat} {a0 a1 a2 a3 a4 a5 a6 a7 a8 : Value} {t : TypeId} {fr : Nat × Nat} (h : w.heap[b]? = some (.cells #[a0, a1, a2, a3, a4, a5, a6, a7, a8] t fr)) :
    w.cell? ⟨b, 0, none⟩ = some a0 ∧ w.cell? ⟨b, 1, none⟩ = some a1 ∧ w.cell? ⟨b, 2, none⟩ = some a2 ∧ w.cell? ⟨b, 3, none⟩ = some a3 ∧ w.cell? ⟨b, 4, none⟩ = some a4 ∧ w.cell? ⟨b, 5, none⟩ = some a5 ∧ w.cell? ⟨b, 6, none⟩ = some a6 ∧ w.cell? ⟨b, 7, none⟩ = some a7 ∧ w.cell? ⟨b, 8, none⟩ = some a8 := by
  simp [World.cell?, h]
set_option maxHeartbeats 4000000 in
set_option maxRecDepth 100000 in
theorem do_any (g : Gr) (j : GJ) (hj : j.Of g) (Ag : Option Addr) (cg : Nat) (t : Tr) (s : Stp) (A : Option Addr) (c : Nat) (cs : List Value) (w : World) (hG : GrC w Ag cg g.kinds) (hT : TrC (fun b => b < w.heap.size) w t [.int .i64 (Tr.id t), .int .i64 (Tr.kind t), .string (Tr.text t), .slice A (Tr.kids t).length c]) (hS : StpC (fun b => b < w.heap.size) w s cs) :
    Calls Try.prog 24 #[.agg #[.slice Ag g.kinds.length cg, .int .i64 g.root], .agg #[.int .i64 (Tr.id t), .int .i64 (Tr.kind t), .string (Tr.text t), .slice A (Tr.kids t).length c], .agg cs.toArray] w (ApplyPost (doJ j t s) w) := by
  obtain ⟨As, c', rfl, hsub, htx, hlo, hhi⟩ := hS
  obtain ⟨W, hW⟩ : ∃ W, W = (((w.alloc (.cells #[.slice Ag g.kinds.length cg, .int .i64 g.root] 43)).alloc (.cells #[.int .i64 (Tr.id t), .int .i64 (Tr.kind t), .string (Tr.text t), .slice A (Tr.kids t).length c] 24)).alloc (.cells #[.int .i8 s.op, .int .i64 s.id, .int .i64 s.par, .int .i64 s.place, .string s.text, .int .i64 s.sub.id, .int .i64 s.sub.kind, .string s.sub.text, .slice As s.sub.kids.length c'] 27)).alloc (.cells #[.int .i64 0, .int .i64 0, .string ⟨#[]⟩, .slice none 0 0] 24) := ⟨_, rfl⟩
  have hcW : Chg [] w W := by rw [hW]; exact (by with_reducible repeat (first | exact Chg.refl _ _ | apply Chg.alloc | apply Chg.drew | apply Chg.drewN | (refine Chg.setCell ?_ _ _ (by simp))))
  have b0 : W.heap[w.heap.size]? = some (.cells #[.slice Ag g.kinds.length cg, .int .i64 g.root] 43 (0, 0)) := by rw [hW]; exact heap_old (heap_old (heap_old (heap_new _ _ rfl) _) _) _
  have b1 : W.heap[w.heap.size + 1]? = some (.cells #[.int .i64 (Tr.id t), .int .i64 (Tr.kind t), .string (Tr.text t), .slice A (Tr.kids t).length c] 24 (0, 0)) := by rw [hW]; exact heap_old (heap_old (heap_new _ _ (by simp)) _) _
  have b2 : W.heap[w.heap.size + 1 + 1]? = some (.cells #[.int .i8 s.op, .int .i64 s.id, .int .i64 s.par, .int .i64 s.place, .string s.text, .int .i64 s.sub.id, .int .i64 s.sub.kind, .string s.sub.text, .slice As s.sub.kids.length c'] 27 (0, 0)) := by rw [hW]; exact heap_old (heap_new _ _ (by simp)) _
  have b3 : W.heap[w.heap.size + 1 + 1 + 1]? = some (.cells #[.int .i64 0, .int .i64 0, .string ⟨#[]⟩, .slice none 0 0] 24 (0, 0)) := by rw [hW]; exact heap_new _ _ (by simp)
  have hap := apply_any t s A c _ W ((hT.kept hcW (by simp)).weak (fun b hb _ => Nat.lt_of_lt_of_le hb hcW.size)) ⟨As, c', rfl, (hsub.kept hcW (by simp)).weak (fun b hb _ => Nat.lt_of_lt_of_le hb hcW.size), htx, hlo, hhi⟩
  obtain ⟨p0, p1, p2, p3⟩ := blk4 b1
  obtain ⟨q0, q1, q2, q3, q4, q5, q6, q7, q8⟩ := blk9 b2
  have HW := Lib.hid (And.intro hW (And.intro hcW (And.intro b0 (And.intro b3 (And.intro hap (And.intro hG hj))))))
  rw [hW] at p0 p1 p2 p3 q0 q1 q2 q3 q4 q5 q6 q7 q8
  clear hW hcW b0 b1 b2 b3 hap hG hT hsub hj
  go_enter Try.func24, Try.ntmps24
  go_wp2_with fail
  rw [← HW.out.1]
  clear p0 p1 p2 p3 q0 q1 q2 q3 q4 q5 q6 q7 q8
  have hap := HW.out.2.2.2.2.1
  cases hr : applyT t s with
  | error n =>
    have hn0 := applyT_ne hr
    have e0 : (n == 0) = false := by simpa using hn0
    have e0' : (n != 0) = true := by simpa using hn0
    have hd : doJ j t s = .error n := by unfold doJ; rw [hr]
    unfold ApplyPost at hap
    simp only [hr] at hap
    have HA := Lib.hid (And.intro hap hd)
    clear hap hd hr hn0
    refine HA.out.1.mono ?_
    rintro e X ⟨rfl, hX⟩
    have x3 := hX.at HW.out.2.2.2.1 (by simp)
    have hl3 := lt_of_block x3
    obtain ⟨r0, r1, r2, r3⟩ := blk4 x3
    have f0 := blkF x3 0
    have f1 := blkF x3 1
    have f2 := blkF x3 2
    have f3 := blkF x3 3
    have HX := Lib.hid (And.intro hX x3)
    clear hX x3
    go_wp2_with (skip; fail)
    refine bodyPost_ret (v := .tuple #[.agg #[.int .i64 0, .int .i64 0, .string ⟨#[]⟩, .slice none 0 0], .int .i64 n]) (results_row_tmp rfl _ _ (w.heap.size + 1 + 1 + 1) _ _ _ _ _ rfl rfl (heap_old (set4 HX.out.2) _) Try.underlying24 rfl szNode) rfl ?_
    unfold ApplyPost
    rw [HA.out.2]
    exact ⟨rfl, ((HW.out.2.1.trans HX.out.1).andThen (chg4 _ _ _ _ _ _) (by simp; omega)).alloc _⟩
  | ok x =>
    have hxn := applyT_nodes hr
    have hd : doJ j t s = if j.ok then (if j.fit x then .ok x else .error 70) else .error 50 := by unfold doJ; rw [hr]
    unfold ApplyPost at hap
    simp only [hr] at hap
    have HA := Lib.hid (And.intro hap (And.intro hd hxn))
    clear hap hd hr hxn
    refine HA.out.1.mono ?_
    rintro e X ⟨B, d, rfl, hV, hX⟩
    have x0 := hX.at HW.out.2.2.1 (by simp)
    have x3 := hX.at HW.out.2.2.2.1 (by simp)
    have hl3 := lt_of_block x3
    obtain ⟨Y, hY⟩ : ∃ Y, Y = X.alloc (.cells #[.int .i64 (Tr.id x), .int .i64 (Tr.kind x), .string (Tr.text x), .slice B (Tr.kids x).length d] 24) := ⟨_, rfl⟩
    have hXY : Chg [] X Y := by rw [hY]; exact (by with_reducible repeat (first | exact Chg.refl _ _ | apply Chg.alloc | apply Chg.drew | apply Chg.drewN | (refine Chg.setCell ?_ _ _ (by simp))))
    have y0 := hXY.at x0 (by simp)
    have y3 := hXY.at x3 (by simp)
    have y4 : Y.heap[X.heap.size]? = some (.cells #[.int .i64 (Tr.id x), .int .i64 (Tr.kind x), .string (Tr.text x), .slice B (Tr.kids x).length d] 24 (0, 0)) := by rw [hY]; exact heap_new _ _ rfl
    have hYs : Y.heap.size = X.heap.size + 1 := by rw [hY]; simp
    obtain ⟨a0, a1⟩ := cell2 y0
    obtain ⟨m0, m1, m2, m3⟩ := blk4 y4
    have HX := Lib.hid (And.intro (hX.trans hXY) (And.intro y3 (And.intro y4 (And.intro (hV.kept hXY (by simp)) (And.intro hXY (And.intro hYs hY))))))
    rw [hY] at a0 a1 m0 m1 m2 m3
    have htr := gtree_any g Ag cg x B d Y (HW.out.2.2.2.2.2.1.kept (HW.out.2.1.trans HX.out.1)) (HX.out.2.2.2.1.toC.weak (fun b hb _ => by have := hb.2; omega)) (by have := HA.out.2.2; omega)
    have HT := Lib.hid htr
    clear hX hV x0 x3 hXY y0 y3 y4 hY hYs htr
    go_wp2_with fail
    rw [← HX.out.2.2.2.2.2.2]
    clear a0 a1 m0 m1 m2 m3
    refine HT.out.mono ?_
    rintro e Z ⟨a, z, rfl, h1, h2, hZ⟩
    have z3 := hZ.at HX.out.2.1 (by simp)
    have z4 := hZ.at HX.out.2.2.1 (by simp)
    obtain ⟨r0, r1, r2, r3⟩ := blk4 z3
    have f0 := blkF z3 0
    have f1 := blkF z3 1
    have f2 := blkF z3 2
    have f3 := blkF z3 3
    obtain ⟨m0, m1, m2, m3⟩ := blk4 z4
    have hC4 := chg4 Z (w.heap.size + 1 + 1 + 1)
    have HZ := Lib.hid (And.intro h1 (And.intro h2 (And.intro hZ (And.intro z3 hC4))))
    have hWs := lt_of_block HW.out.2.2.2.1
    have hXs := HX.out.2.2.2.2.2.1
    clear h1 h2 hZ z3 z4 hC4
    by_cases hz : z = 0
    · subst hz
      have HO := Lib.hid (HZ.out.1.1 rfl)
      go_wp2_with (skip; fail)
      refine bodyPost_ret (v := .tuple #[.agg #[.int .i64 (Tr.id x), .int .i64 (Tr.kind x), .string (Tr.text x), .slice B (Tr.kids x).length d], .int .i64 0]) (results_row_tmp rfl _ _ (w.heap.size + 1 + 1 + 1) _ _ _ _ _ rfl rfl (set4 HZ.out.2.2.2.1) Try.underlying24 rfl szNode) rfl ?_
      unfold ApplyPost
      rw [HA.out.2.1, if_pos (HW.out.2.2.2.2.2.2.ok.2 HO.out.1), if_pos ((HW.out.2.2.2.2.2.2.fit x).2 HO.out.2)]
      have hc4 := HZ.out.2.2.2.2 (.int .i64 x.id) (.int .i64 x.kind) (.string x.text) (.slice B x.kids.length d)
      have hs := HZ.out.2.2.1.size
      have hs2 := hc4.size
      exact ⟨B, d, rfl, ((HX.out.2.2.2.1.kept HZ.out.2.2.1 (by simp)).kept hc4 (fun b hb => by simp; omega)).weak (fun b hb => ⟨by omega, by omega⟩), ((HW.out.2.1.trans HX.out.1).trans HZ.out.2.2.1).andThen hc4 (by simp; omega)⟩
    · have e0 : (z == 0) = false := by simpa using hz
      have e0' : (z != 0) = true := by simpa using hz
      have hres : (if j.ok then (if j.fit x then (.ok x : Except Int Tr) else .error 70) else .error 50) = .error z := by
        rcases HZ.out.2.1 with h | ⟨h, h'⟩ | ⟨h, h'⟩
        · exact absurd h hz
        · rw [if_neg (fun e => h' (HW.out.2.2.2.2.2.2.ok.1 e)), h]
        · rw [if_pos (HW.out.2.2.2.2.2.2.ok.2 h'), if_neg (fun e => hz (HZ.out.1.2 ⟨h', (HW.out.2.2.2.2.2.2.fit x).1 e⟩)), h]
      have HR := Lib.hid hres
      clear hz hres
      go_wp2_with (skip; fail)
      refine bodyPost_ret (v := .tuple #[.agg #[.int .i64 0, .int .i64 0, .string ⟨#[]⟩, .slice none 0 0], .int .i64 z]) (results_row_tmp rfl _ _ (w.heap.size + 1 + 1 + 1) _ _ _ _ _ rfl rfl (set4 HZ.out.2.2.2.1) Try.underlying24 rfl szNode) rfl ?_
      unfold ApplyPost
      rw [HA.out.2.1, HR.out]
      exact ⟨rfl, ((HW.out.2.1.trans HX.out.1).trans HZ.out.2.2.1).andThen (HZ.out.2.2.2.2 _ _ _ _) (by simp; omega)⟩
end Go.Proofs.Ytofjocjljbkjgaa
namespace Go.Proofs.Ytofjocjljbkjgaa
open Go.RowKit
def Tr.lab (t : Tr) : Int × Int × ByteArray := (t.id, t.kind, t.text)
mutual
def Tr.labs : Tr → List (Int × Int × ByteArray)
  | ⟨i, k, x, ks⟩ => (i, k, x) :: labsL ks
def labsL : List Tr → List (Int × Int × ByteArray)
  | [] => []
  | k :: ks => k.labs ++ labsL ks
end
theorem Tr.labs_eq (t : Tr) : t.labs = t.lab :: labsL t.kids := by cases t; rfl
theorem labsL_append (a b : List Tr) : labsL (a ++ b) = labsL a ++ labsL b := by
  induction a with
  | nil => rfl
  | cons k a ih => simp only [List.cons_append, labsL, ih, List.append_assoc]
mutual
theorem Tr.labs_ids : ∀ t : Tr, t.labs.map (·.1) = t.ids
  | ⟨i, k, x, ks⟩ => by simp only [Tr.labs, Tr.ids, List.map_cons, labsL_ids ks]
theorem labsL_ids : ∀ ks : List Tr, (labsL ks).map (·.1) = idsL ks
  | [] => rfl
  | k :: ks => by simp only [labsL, idsL, List.map_append, Tr.labs_ids k, labsL_ids ks]
end
mutual
theorem Tr.walk_labs : ∀ (t : Tr) (d : Int), (t.walk d).map (·.1.lab) = t.labs
  | ⟨i, k, x, ks⟩, d => by simp only [Tr.walk, Tr.labs, List.map_cons, walkL_labs ks (d + 1)]; rfl
theorem walkL_labs : ∀ (ks : List Tr) (d : Int), (walkL ks d).map (·.1.lab) = labsL ks
  | [], _ => rfl
  | k :: ks, d => by simp only [walkL, labsL, List.map_append, Tr.walk_labs k d, walkL_labs ks d]
end
theorem upd_labs : ∀ (p : List Nat) (t n : Tr), Tr.at? p t = some n → ∃ l1 l2, t.labs = l1 ++ n.labs ++ l2 ∧ ∀ x, (Tr.upd p t x).labs = l1 ++ x.labs ++ l2
  | [], t, n, h => by simp only [Tr.at?, Option.some.injEq] at h; subst h; exact ⟨[], [], by simp, fun x => by simp [Tr.upd]⟩
  | i :: p, t, n, h => by
    simp only [Tr.at?] at h
    cases hk : t.kids[i]? with
    | none => rw [hk] at h; cases h
    | some k =>
      rw [hk] at h
      obtain ⟨l1, l2, h1, h2⟩ := upd_labs p k n h
      have hi := (List.getElem?_eq_some_iff.1 hk).1
      have he := (List.getElem?_eq_some_iff.1 hk).2
      have h3 : t.kids = t.kids.take i ++ k :: t.kids.drop (i + 1) := by
        rw [← he, ← List.drop_eq_getElem_cons hi, List.take_append_drop]
      refine ⟨t.lab :: labsL (t.kids.take i) ++ l1, l2 ++ labsL (t.kids.drop (i + 1)), ?_, fun x => ?_⟩
      · rw [Tr.labs_eq, congrArg labsL h3, labsL_append]
        simp only [labsL, h1, List.append_assoc, List.cons_append]
      · simp only [Tr.upd, hk]
        rw [Tr.labs_eq]
        simp only [List.set_eq_take_append_cons_drop, if_pos hi, labsL_append, labsL, h2, List.append_assoc, List.cons_append]
        rfl
mutual
theorem Tr.out_labs (id : Int) : ∀ (t y r : Tr), t.out id = some (y, r) → t.labs.Perm (r.labs ++ y.labs)
  | ⟨i, k, x, ks⟩, y, r, h => by
    rw [Tr.out] at h
    cases h1 : outL id ks with
    | none => rw [h1] at h; cases h
    | some z =>
      obtain ⟨z1, z2⟩ := z
      rw [h1] at h
      simp at h
      obtain ⟨rfl, rfl⟩ := h
      exact (by simp only [Tr.labs, List.cons_append]; exact (outL_labs id ks z1 z2 h1).cons _)
theorem outL_labs (id : Int) : ∀ (ks : List Tr) (y : Tr) (rs : List Tr), outL id ks = some (y, rs) → (labsL ks).Perm (labsL rs ++ y.labs)
  | [], y, rs, h => by simp [outL] at h
  | k :: ks, y, rs, h => by
    rw [outL] at h
    by_cases hk : k.id = id
    · rw [if_pos hk] at h; simp at h; obtain ⟨rfl, rfl⟩ := h; exact (by simp only [labsL]; exact List.perm_append_comm)
    · rw [if_neg hk] at h
      cases h1 : k.out id with
      | some z =>
        obtain ⟨z1, z2⟩ := z
        rw [h1] at h; simp at h; obtain ⟨rfl, rfl⟩ := h
        have h2 := Tr.out_labs id k z1 z2 h1
        simp only [labsL, List.append_assoc]
        refine (h2.append_right _).trans ?_
        rw [List.append_assoc]
        exact (List.perm_append_comm).append_left _
      | none =>
        rw [h1] at h
        cases h2 : outL id ks with
        | none => rw [h2] at h; cases h
        | some z =>
          obtain ⟨z1, z2⟩ := z
          rw [h2] at h; simp at h; obtain ⟨rfl, rfl⟩ := h
          have h3 := outL_labs id ks z1 z2 h2
          simp only [labsL, List.append_assoc]
          exact h3.append_left _
end
theorem insAt_labs (l : List Tr) (k : Nat) (x : Tr) : (labsL (insAt l k x)).Perm (labsL l ++ x.labs) := by
  unfold insAt
  have h : labsL l = labsL (l.take k) ++ labsL (l.drop k) := by rw [← labsL_append, List.take_append_drop]
  rw [labsL_append, h]
  simp only [labsL, List.append_assoc]
  exact List.perm_append_comm.append_left _
theorem ins_labs {p : List Nat} {t n x : Tr} {k : Nat} (h : Tr.at? p t = some n) : (Tr.upd p t { n with kids := insAt n.kids k x }).labs.Perm (t.labs ++ x.labs) := by
  obtain ⟨l1, l2, h1, h2⟩ := upd_labs p t n h
  rw [h2, h1, Tr.labs_eq { n with kids := insAt n.kids k x }, Tr.labs_eq n]
  have h3 : ({ n with kids := insAt n.kids k x } : Tr).lab = n.lab := rfl
  rw [h3]
  simp only [List.append_assoc, List.cons_append]
  refine ((((insAt_labs n.kids k x).append_right l2).cons _).append_left l1).trans ?_
  simp only [List.append_assoc]
  exact (((List.perm_append_comm).append_left _).cons _).append_left l1
def nodesOf (t : Tr) : List Tr := (t.walk 1).map (·.1)
theorem nodesOf_labs (t : Tr) : (nodesOf t).map Tr.lab = t.labs := by unfold nodesOf; rw [List.map_map]; exact Tr.walk_labs t 1
theorem nodesOf_ids (t : Tr) : (nodesOf t).map (·.id) = t.ids := by unfold nodesOf; rw [List.map_map]; exact Tr.walk_ids t 1
theorem lastOf_mem {n : Int} {y : Tr} : ∀ {l : List Tr}, lastOf n l = some y → y ∈ l ∧ y.id = n
  | [], h => by simp [lastOf] at h
  | x :: l, h => by
    rw [lastOf] at h
    cases h1 : lastOf n l with
    | some z => rw [h1] at h; cases h; have := lastOf_mem h1; exact ⟨by simp [this.1], this.2⟩
    | none =>
      rw [h1] at h
      simp only [] at h
      split at h
      · cases h; exact ⟨by simp, by assumption⟩
      · cases h
theorem lastOf_none_iff (n : Int) : ∀ l : List Tr, lastOf n l = none ↔ n ∉ l.map (·.id)
  | [] => by simp [lastOf]
  | x :: l => by
    have ih := lastOf_none_iff n l
    rw [lastOf]
    cases h1 : lastOf n l with
    | some z =>
      rw [h1] at ih
      simp only [reduceCtorEq, false_iff, List.map_cons, List.mem_cons, not_or, not_and, Classical.not_not]
      intro _
      exact Classical.byContradiction fun h => by have := ih.2 h; cases this
    | none =>
      rw [h1] at ih
      have := ih.1 rfl
      simp only [List.map_cons, List.mem_cons, not_or]
      by_cases hx : x.id = n
      · simp [hx]
      · simp only [hx, if_false, true_iff]; exact ⟨fun e => hx e.symm, this⟩
theorem lastOf_lab {n : Int} {t y : Tr} (h : lastOf n (nodesOf t) = some y) : y.lab ∈ t.labs ∧ y.id = n := by
  obtain ⟨h1, h2⟩ := lastOf_mem h
  exact ⟨by rw [← nodesOf_labs]; exact List.mem_map_of_mem h1, h2⟩
theorem lastOf_ids {n : Int} {t : Tr} : lastOf n (nodesOf t) = none ↔ n ∉ t.ids := by rw [lastOf_none_iff, nodesOf_ids]
theorem lastOf_some {n : Int} {t : Tr} (h : n ∈ t.ids) : ∃ y, lastOf n (nodesOf t) = some y := by
  cases e : lastOf n (nodesOf t) with
  | none => exact absurd h (lastOf_ids.1 e)
  | some y => exact ⟨y, rfl⟩
theorem lab_uniq {l : List (Int × Int × ByteArray)} (h : (l.map (·.1)).Nodup) {a b : Int × Int × ByteArray} (ha : a ∈ l) (hb : b ∈ l) (e : a.1 = b.1) : a = b := by
  obtain ⟨i, hi, rfl⟩ := List.getElem_of_mem ha
  obtain ⟨j, hj, rfl⟩ := List.getElem_of_mem hb
  rcases Nat.lt_trichotomy i j with h1 | h1 | h1
  · exact absurd (by rw [List.getElem_map, List.getElem_map]; exact e) (List.pairwise_iff_getElem.1 h i j (by simpa using hi) (by simpa using hj) h1)
  · subst h1; rfl
  · exact absurd (by rw [List.getElem_map, List.getElem_map]; exact e.symm) (List.pairwise_iff_getElem.1 h j i (by simpa using hj) (by simpa using hi) h1)
theorem lastOf_of_lab {t : Tr} (h : t.ids.Nodup) {a : Int × Int × ByteArray} (ha : a ∈ t.labs) : ∃ z, lastOf a.1 (nodesOf t) = some z ∧ z.lab = a := by
  obtain ⟨z, hz⟩ := lastOf_some (n := a.1) (t := t) (by rw [← Tr.labs_ids]; exact List.mem_map_of_mem ha)
  obtain ⟨h1, h2⟩ := lastOf_lab hz
  exact ⟨z, hz, lab_uniq (by rw [Tr.labs_ids]; exact h) h1 ha h2⟩
mutual
theorem Tr.at_walk : ∀ (t : Tr) (p : List Nat) (y : Tr) (d : Int), Tr.at? p t = some y → ∃ e, (y, e) ∈ t.walk d
  | ⟨i, k, x, ks⟩, [], y, d, h => by simp only [Tr.at?, Option.some.injEq] at h; subst h; exact ⟨d, by simp [Tr.walk]⟩
  | ⟨i, k, x, ks⟩, j :: p, y, d, h => by
    simp only [Tr.at?] at h
    cases hk : ks[j]? with
    | none => rw [hk] at h; cases h
    | some kk =>
      rw [hk] at h
      obtain ⟨e, he⟩ := atL_walk ks j kk p y (d + 1) hk h
      exact ⟨e, by simp [Tr.walk, he]⟩
theorem atL_walk : ∀ (ks : List Tr) (j : Nat) (kk : Tr) (p : List Nat) (y : Tr) (d : Int), ks[j]? = some kk → Tr.at? p kk = some y → ∃ e, (y, e) ∈ walkL ks d
  | [], j, kk, p, y, d, h, _ => by simp at h
  | k :: ks, 0, kk, p, y, d, h, h2 => by
    simp at h; subst h
    obtain ⟨e, he⟩ := Tr.at_walk k p y d h2
    exact ⟨e, by simp [walkL, he]⟩
  | k :: ks, j + 1, kk, p, y, d, h, h2 => by
    obtain ⟨e, he⟩ := atL_walk ks j kk p y d (by simpa using h) h2
    exact ⟨e, by simp [walkL, he]⟩
end
theorem node_uniq {t a b : Tr} (h : t.ids.Nodup) (ha : a ∈ nodesOf t) (hb : b ∈ nodesOf t) (e : a.id = b.id) : a = b := by
  rw [← nodesOf_ids] at h
  obtain ⟨i, hi, rfl⟩ := List.getElem_of_mem ha
  obtain ⟨j, hj, rfl⟩ := List.getElem_of_mem hb
  rcases Nat.lt_trichotomy i j with h1 | h1 | h1
  · exact absurd (by rw [List.getElem_map, List.getElem_map]; exact e) (List.pairwise_iff_getElem.1 h i j (by simpa using hi) (by simpa using hj) h1)
  · subst h1; rfl
  · exact absurd (by rw [List.getElem_map, List.getElem_map]; exact e.symm) (List.pairwise_iff_getElem.1 h j i (by simpa using hj) (by simpa using hi) h1)
theorem upd_id {p : List Nat} {t n x : Tr} (h : Tr.at? p t = some n) (hx : x.id = n.id) : (Tr.upd p t x).id = t.id := by
  cases p with
  | nil => simp only [Tr.at?, Option.some.injEq] at h; subst h; exact hx
  | cons i p =>
    simp only [Tr.at?] at h
    cases hk : t.kids[i]? with
    | none => rw [hk] at h; cases h
    | some k => simp only [Tr.upd, hk]
theorem ids_len (t : Tr) : t.ids.length = t.nodes := by rw [← Tr.walk_ids t 1, List.length_map, Tr.walk_length]
structure Keeps (t x : Tr) (s : Stp) : Prop where
  root : x.id = t.id
  dels : s.op = 2 → ∃ d, lastOf s.id (nodesOf t) = some d ∧ ∀ i y, lastOf i (nodesOf t) = some y → ((lastOf i (nodesOf x)).isSome = !(lastOf i (nodesOf d)).isSome) ∧ ∀ z, lastOf i (nodesOf x) = some z → y.kind = z.kind ∧ y.text = z.text
  stay : s.op ≠ 2 → ∀ i y, lastOf i (nodesOf t) = some y → ∃ z, lastOf i (nodesOf x) = some z ∧ y.kind = z.kind ∧ (y.text = z.text ∨ (s.op = 4 ∧ i = s.id))
  come : ∀ i, lastOf i (nodesOf x) ≠ none → lastOf i (nodesOf t) ≠ none ∨ (s.op = 1 ∧ lastOf i (nodesOf s.sub) ≠ none)
  count : s.op = 1 → x.nodes = t.nodes + s.sub.nodes ∧ s.sub.ids.Nodup
theorem stay_of_perm {t x : Tr} {l : List (Int × Int × ByteArray)} (hx : x.ids.Nodup) (h : x.labs.Perm (t.labs ++ l)) {i : Int} {y : Tr} (hy : lastOf i (nodesOf t) = some y) : ∃ z, lastOf i (nodesOf x) = some z ∧ y.kind = z.kind ∧ y.text = z.text := by
  obtain ⟨h1, rfl⟩ := lastOf_lab hy
  obtain ⟨z, hz, hl⟩ := lastOf_of_lab hx (h.mem_iff.2 (List.mem_append_left _ h1))
  simp only [Tr.lab, Prod.mk.injEq] at hl
  exact ⟨z, hz, hl.2.1.symm, hl.2.2.symm⟩
theorem doT_keeps {t x : Tr} {s : Stp} (ht : t.ids.Nodup) (hx : x.ids.Nodup) (h : doT t s = .ok x) : Keeps t x s := by
  unfold doT at h
  split at h
  · rename_i ho
    obtain ⟨p, n, _, hn, _, _, hf, rfl⟩ := insertT_ok h
    have hp := ins_labs (k := s.place.toNat) (x := s.sub) hn
    refine ⟨upd_id hn rfl, fun h => by omega, fun _ i y hy => ?_, fun i hi => ?_, fun _ => ⟨ins_nodes hn, hf.1⟩⟩
    · obtain ⟨z, h1, h2, h3⟩ := stay_of_perm hx hp hy
      exact ⟨z, h1, h2, .inl h3⟩
    · have h1 : i ∈ (Tr.upd p t { n with kids := insAt n.kids s.place.toNat s.sub }).ids := Classical.byContradiction fun h => hi (lastOf_ids.2 h)
      rw [← Tr.labs_ids] at h1
      rw [(hp.map (·.1)).mem_iff, List.map_append, Tr.labs_ids, Tr.labs_ids] at h1
      rcases List.mem_append.1 h1 with h1 | h1
      · exact .inl fun e => lastOf_ids.1 e h1
      · exact .inr ⟨ho, fun e => lastOf_ids.1 e h1⟩
  split at h
  · rename_i ho
    obtain ⟨hne, d, hd⟩ := deleteT_ok h
    have hp := Tr.out_labs _ _ _ _ hd
    have hi := Tr.out_perm _ _ _ _ hd
    obtain ⟨q, hq, hat⟩ := Tr.out_path _ _ _ _ hd hne
    obtain ⟨e, he⟩ := Tr.at_walk t q d 1 hat
    have hdm : d ∈ nodesOf t := List.mem_map.2 ⟨(d, e), he, rfl⟩
    have hlast : lastOf s.id (nodesOf t) = some d := by
      obtain ⟨z, hz⟩ := lastOf_some (n := s.id) (t := t) (by rw [← hi.2.1, ← nodesOf_ids]; exact List.mem_map_of_mem hdm)
      have := lastOf_mem hz
      rw [hz, node_uniq ht this.1 hdm (by rw [this.2, hi.2.1])]
    have hnd : (x.ids ++ d.ids).Nodup := hi.1.nodup_iff.1 ht
    refine ⟨hi.2.2, fun _ => ⟨d, hlast, fun i y hy => ⟨?_, fun z hz => ?_⟩⟩, fun h => absurd ho h, fun i hx' => .inl fun e => ?_, fun h => by omega⟩
    · have h1 : i ∈ t.ids := by have := lastOf_lab hy; rw [← Tr.labs_ids, ← this.2]; exact List.mem_map_of_mem this.1
      rw [hi.1.mem_iff] at h1
      rw [List.nodup_append] at hnd
      rcases List.mem_append.1 h1 with h1 | h1
      · obtain ⟨z, hz⟩ := lastOf_some h1
        have : lastOf i (nodesOf d) = none := lastOf_ids.2 fun h2 => hnd.2.2 i h1 i h2 rfl
        rw [hz, this]; rfl
      · obtain ⟨z, hz⟩ := lastOf_some h1
        have : lastOf i (nodesOf x) = none := lastOf_ids.2 fun h2 => hnd.2.2 i h2 i h1 rfl
        rw [hz, this]; rfl
    · obtain ⟨h1, h2⟩ := lastOf_lab hy
      obtain ⟨h3, h4⟩ := lastOf_lab hz
      have := lab_uniq (by rw [Tr.labs_ids]; exact ht) h1 (hp.mem_iff.2 (List.mem_append_left _ h3)) (by show y.id = z.id; rw [h2, h4])
      simp only [Tr.lab, Prod.mk.injEq] at this
      exact ⟨this.2.1, this.2.2⟩
    · exact hx' (lastOf_ids.2 fun h1 => lastOf_ids.1 e (hi.1.mem_iff.2 (List.mem_append_left _ h1)))
  split at h
  · rename_i ho
    obtain ⟨hne, p, x0, y, r, q, n, _, _, _, h0, _, h1, _, rfl⟩ := moveT_ok h
    have hp : (Tr.upd q r { n with kids := insAt n.kids s.place.toNat y }).labs.Perm (t.labs ++ []) := by
      rw [List.append_nil]
      exact (ins_labs h1).trans (Tr.out_labs _ _ _ _ h0).symm
    refine ⟨(upd_id (x := { n with kids := insAt n.kids s.place.toNat y }) h1 rfl).trans (Tr.out_perm _ _ _ _ h0).2.2, fun h => by omega, fun _ i y hy => ?_, fun i hi => .inl fun e => ?_, fun h => by omega⟩
    · obtain ⟨z, h1, h2, h3⟩ := stay_of_perm hx hp hy
      exact ⟨z, h1, h2, .inl h3⟩
    · refine hi (lastOf_ids.2 fun h2 => lastOf_ids.1 e ?_)
      rw [← Tr.labs_ids] at h2 ⊢
      rw [(hp.map (·.1)).mem_iff, List.append_nil] at h2
      exact h2
  split at h
  · rename_i ho
    obtain ⟨p, n, hpn, hn, rfl⟩ := textT_ok h
    obtain ⟨l1, l2, e1, e2⟩ := upd_labs p t n hn
    have e3 := e2 { n with text := s.text }
    obtain ⟨n', hn', hid⟩ := Tr.path_at s.id t p hpn
    rw [hn] at hn'; cases hn'
    have hids : (Tr.upd p t { n with text := s.text }).ids = t.ids := by
      rw [← Tr.labs_ids, ← Tr.labs_ids, e3, e1, Tr.labs_eq { n with text := s.text }, Tr.labs_eq n]
      simp [Tr.lab]
    refine ⟨upd_id hn rfl, fun h => by omega, fun _ i y hy => ?_, fun i hi => .inl fun e => ?_, fun h => by omega⟩
    · obtain ⟨h1, rfl⟩ := lastOf_lab hy
      rw [e1, Tr.labs_eq n] at h1
      by_cases hc : y.lab ∈ l1 ++ labsL n.kids ++ l2
      · obtain ⟨z, hz, hl⟩ := lastOf_of_lab (a := y.lab) hx (by
          rw [e3, Tr.labs_eq { n with text := s.text }]
          simp only [List.mem_append, List.mem_cons] at hc ⊢
          rcases hc with (h | h) | h
          · exact .inl (.inl h)
          · exact .inl (.inr (.inr h))
          · exact .inr h)
        simp only [Tr.lab, Prod.mk.injEq] at hl
        exact ⟨z, hz, hl.2.1.symm, .inl hl.2.2.symm⟩
      · have hyn : y.lab = n.lab := by
          simp only [List.mem_append, List.mem_cons, not_or] at hc h1
          rcases h1 with (h | h | h) | h
          · exact absurd h hc.1.1
          · exact h
          · exact absurd h hc.1.2
          · exact absurd h hc.2
        simp only [Tr.lab, Prod.mk.injEq] at hyn
        obtain ⟨z, hz, hl⟩ := lastOf_of_lab (a := ({ n with text := s.text } : Tr).lab) hx (by rw [e3, Tr.labs_eq { n with text := s.text }]; simp)
        simp only [Tr.lab, Prod.mk.injEq] at hl
        exact ⟨z, by rw [hyn.1]; exact hz, by rw [hyn.2.1, hl.2.1], .inr ⟨ho, by rw [hyn.1, hid]⟩⟩
    · refine hi (lastOf_ids.2 fun h2 => lastOf_ids.1 e ?_)
      rw [hids] at h2; exact h2
  · cases h
end Go.Proofs.Ytofjocjljbkjgaa
namespace Go.Proofs.Ytofjocjljbkjgaa
open Go.RowKit
set_option maxHeartbeats 4000000 in
set_option maxRecDepth 100000 in
theorem nodes_any : ∀ (t : Tr) (g o n : Nat) (w : World), TrAt (fun _ => True) w g o t → n ≤ 200 → Calls Try.prog 111 #[.pointer (some ⟨g, o, none⟩), .int .i64 n] w fun e w' => e = .returned (.int .i64 (min 201 (n + t.nodes) : Nat)) ∧ w = w' := by
  intro t
  induction t using Tr.ind with
  | h t ih =>
  intro g o n w hT hn
  obtain ⟨A, c, c0, c1, c2, c3, hlc, hcm, htx, hK⟩ := hT.cells
  have htn := t.nodes_eq
  have HH := Lib.hid (And.intro ih (And.intro hK htn))
  clear ih hT hK htx c0 c1 c2 htn
  go_enter Try.func111, Try.ntmps111
  go_wp2_with (skip; fail)
  go_loop [1, 13] (fun nv iv => ∃ k : Nat, k ≤ t.kids.length ∧ iv = .int .i64 k ∧ nv = .int .i64 (min 201 (n + 1 + nodesL (t.kids.take k)) : Nat)) (fun _ iv => t.kids.length - (intOf iv).toNat)
  case atStart => exact ⟨0, Nat.zero_le _, rfl, by simp only [List.take_zero, nodesL]; rw [show min 201 (n + 1 + 0) = n + 1 by omega]; go_num⟩
  case round =>
    obtain ⟨k, hk, rfl, rfl⟩ := hrel
    obtain ⟨m, hm⟩ : ∃ m, m = min 201 (n + 1 + nodesL (t.kids.take k)) := ⟨_, rfl⟩
    rw [← hm]
    have hm1 : m ≤ 201 := by omega
    have HM := Lib.hid hm
    clear hm
    have htn := HH.out.2.2
    by_cases hlt : k < t.kids.length
    · have hnk := nodesL_take t.kids k hlt
      have hnl := nodesL_take_le t.kids (k + 1)
      by_cases hbig : 200 < m
      · have d1 : decide (200 < (m : Int)) = true := decide_eq_true (by omega)
        have d1' : decide (200 < m) = true := decide_eq_true hbig
        have HE := Lib.hid (show min 201 (n + t.nodes) = m by have := HM.out; omega)
        clear hnk hnl htn
        go_wp2_with (skip; fail)
        go_ret
        exact ⟨by rw [HE.out]; rfl, rfl⟩
      · have d1 : decide (200 < (m : Int)) = false := decide_eq_false (by omega)
        have d1' : decide (200 < m) = false := decide_eq_false hbig
        obtain ⟨gk, ok, hA, _, hat⟩ := HH.out.2.1.at hlt
        subst hA
        have HC := Lib.hid (And.intro (HH.out.1 (t.kids[k]) (List.getElem_mem hlt) gk (ok + k * 4) m w hat (by omega)) (show min 201 (m + (t.kids[k]).nodes) = min 201 (n + 1 + nodesL (t.kids.take (k + 1))) by rw [hnk]; have := HM.out; omega))
        clear hat hnk hnl htn hbig
        go_wp2_with fail
        refine HC.out.1.mono ?_
        rintro e X ⟨rfl, rfl⟩
        go_wp2_with (skip; fail)
        go_round
        case rel => exact ⟨k + 1, by omega, by go_num, by rw [HC.out.2]⟩
        case measure => simp [intOf]; omega
    · obtain rfl : k = t.kids.length := by omega
      have HE := Lib.hid (show min 201 (n + t.nodes) = m by have := HM.out; rw [List.take_of_length_le (Nat.le_refl _)] at this; omega)
      clear htn
      go_wp2_with (skip; fail)
      go_ret
      exact ⟨by rw [HE.out]; rfl, rfl⟩
def insN : List Stp → Nat
  | [] => 0
  | s :: l => (if s.op = 1 then s.sub.nodes else 0) + insN l
def insM : List Stp → Nat
  | [] => 0
  | s :: l => (if s.op = 1 then min 201 s.sub.nodes else 0) + insM l
theorem insM_snoc (l : List Stp) (s : Stp) : insM (l ++ [s]) = insM l + (if s.op = 1 then min 201 s.sub.nodes else 0) := by
  induction l with
  | nil => simp [insM]
  | cons x l ih => simp only [List.cons_append, insM, ih]; omega
theorem insM_le (l : List Stp) : insM l ≤ 201 * l.length := by
  induction l with
  | nil => simp [insM]
  | cons x l ih => simp only [insM, List.length_cons]; split <;> omega
theorem insM_iff (l : List Stp) : insM l ≤ 200 ↔ insN l ≤ 200 := by
  have h1 : insM l ≤ insN l := by
    induction l with
    | nil => simp [insM, insN]
    | cons x l ih => simp only [insM, insN]; split <;> omega
  have h2 : insM l ≤ 200 → insN l = insM l := by
    induction l with
    | nil => simp [insM, insN]
    | cons x l ih =>
      simp only [insM, insN]
      intro h
      have h3 : insM l ≤ insN l := by
        clear ih h h1
        induction l with
        | nil => simp [insM, insN]
        | cons x l ih => simp only [insM, insN]; split <;> omega
      have := ih h3 (by split at h <;> omega)
      split at h <;> rename_i ho
      · rw [if_pos ho, if_pos ho]; omega
      · rw [if_neg ho, if_neg ho]; omega
  exact ⟨fun h => by rw [h2 h]; exact h, fun h => Nat.le_trans h1 h⟩
def checkB (l : List Stp) : Bool := decide (l.length ≤ 60) && decide (insN l ≤ 200)
def checkE (l : List Stp) : Int := if checkB l then 0 else 3
set_option maxHeartbeats 4000000 in
set_option maxRecDepth 100000 in
theorem check_any (ss : List Stp) (B : Option Addr) (d : Nat) (w : World) (hS : StpsC (fun b => b < w.heap.size) w B ss) (hl : ss.length ≤ 9223372036854775807) :
    Calls Try.prog 62 #[.slice B ss.length d] w fun e w' => e = .returned (.int .i64 (checkE ss)) ∧ w = w' := by
  have HH := Lib.hid hS
  clear hS
  go_enter Try.func62, Try.ntmps62
  by_cases h60 : 60 < ss.length
  · have d1 : decide (60 < (ss.length : Int)) = true := decide_eq_true (by omega)
    have d1' : decide (60 < ss.length) = true := decide_eq_true h60
    have HE := Lib.hid (show checkE ss = 3 by unfold checkE checkB; rw [decide_eq_false (p := ss.length ≤ 60) (by omega)]; rfl)
    clear h60
    go_wp2_with (skip; fail)
    go_ret
    exact ⟨by rw [HE.out]; rfl, rfl⟩
  have d1 : decide (60 < (ss.length : Int)) = false := decide_eq_false (by omega)
  have d1' : decide (60 < ss.length) = false := decide_eq_false h60
  go_wp2_with (skip; fail)
  clear d1 d1'
  go_loop [3, 10] (fun nv iv => ∃ k : Nat, k ≤ ss.length ∧ iv = .int .i64 k ∧ nv = .int .i64 (insM (ss.take k) : Nat)) (fun _ iv => ss.length - (intOf iv).toNat)
  case atStart => exact ⟨0, Nat.zero_le _, rfl, rfl⟩
  case round =>
    obtain ⟨k, hk, rfl, rfl⟩ := hrel
    have hle : insM (ss.take k) ≤ 12060 := by have := insM_le (ss.take k); rw [List.length_take] at this; omega
    by_cases hlt : k < ss.length
    · obtain ⟨g, o, A, c, rfl, _, hr, hTr, htx, hop⟩ := HH.out.at hlt
      obtain ⟨s, hs⟩ : ∃ s, s = ss[k] := ⟨_, rfl⟩
      rw [← hs] at hr hTr
      have hsn : insM (ss.take (k + 1)) = insM (ss.take k) + (if s.op = 1 then min 201 s.sub.nodes else 0) := by rw [take_snoc' ss k hlt, insM_snoc, hs]
      have r0 := hr 0 _ rfl
      simp only [Nat.add_zero] at r0
      have hat : TrAt (fun _ => True) w g (o + k * 9 + 5) s.sub := ⟨_, range_drop hr 5, hTr.weak (fun _ _ _ => trivial)⟩
      have hc := nodes_any s.sub g (o + k * 9 + 5) 0 w hat (by omega)
      have HC := Lib.hid (And.intro hc hsn)
      clear hr hTr hat hc hsn hs htx hop
      by_cases ho : s.op = 1
      · have d2 : (s.op == 1) = true := by simpa using ho
        have HO := Lib.hid ho
        have hn1 : min 201 (0 + s.sub.nodes) ≤ 201 := by omega
        clear ho
        go_wp2_with fail
        refine HC.out.1.mono ?_
        rintro e X ⟨rfl, rfl⟩
        go_wp2_with (skip; fail)
        go_round
        case rel => exact ⟨k + 1, by omega, by go_num, by rw [HC.out.2, if_pos HO.out]; go_num⟩
        case measure => simp [intOf]; omega
      · have d2 : (s.op == 1) = false := by simpa using ho
        have HO := Lib.hid ho
        clear ho
        go_wp2_with (skip; fail)
        go_round
        case rel => exact ⟨k + 1, by omega, by go_num, by rw [HC.out.2, if_neg HO.out, Nat.add_zero]⟩
        case measure => simp [intOf]; omega
    · obtain rfl : k = ss.length := by omega
      rw [List.take_of_length_le (Nat.le_refl _)] at hle ⊢
      by_cases h2 : 200 < insM ss
      · have d2 : decide (200 < (insM ss : Int)) = true := decide_eq_true (by omega)
        have d2' : decide (200 < insM ss) = true := decide_eq_true h2
        have HE := Lib.hid (show checkE ss = 3 by unfold checkE checkB; rw [decide_eq_false (p := insN ss ≤ 200) (fun h => by have := (insM_iff ss).2 h; omega)]; simp)
        clear h2
        go_wp2_with (skip; fail)
        go_ret
        exact ⟨by rw [HE.out]; rfl, rfl⟩
      · have d2 : decide (200 < (insM ss : Int)) = false := decide_eq_false (by omega)
        have d2' : decide (200 < insM ss) = false := decide_eq_false h2
        have HE := Lib.hid (show checkE ss = 0 by unfold checkE checkB; rw [decide_eq_true (p := insN ss ≤ 200) ((insM_iff ss).1 (by omega)), decide_eq_true (by omega)]; rfl)
        clear h2
        go_wp2_with (skip; fail)
        go_ret
        exact ⟨by rw [HE.out]; rfl, rfl⟩
end Go.Proofs.Ytofjocjljbkjgaa
namespace Go.Proofs.Ytofjocjljbkjgaa
open Go.RowKit
def GBox (g : Gr) (Ag : Option Addr) (cg bg : Nat) (W : World) : Prop := W.heap[bg]? = some (.cells #[.slice Ag g.kinds.length cg, .int .i64 g.root] 43 (0, 0)) ∧ GrC W Ag cg g.kinds
set_option maxHeartbeats 4000000 in
set_option maxRecDepth 100000 in
theorem apply1_any (g : Gr) (j : GJ) (hj : j.Of g) (Ag : Option Addr) (cg bg : Nat) (x : Tr) (A : Option Addr) (c : Nat) (s : Stp) (As : Option Addr) (cs : Nat) (W : World) (hG : GBox g Ag cg bg W) (hT : TrC (fun b => b < W.heap.size) W x [.int .i64 (Tr.id x), .int .i64 (Tr.kind x), .string (Tr.text x), .slice A (Tr.kids x).length c]) (hS : StpC (fun b => b < W.heap.size) W s (#[.int .i8 (Stp.op s), .int .i64 (Stp.id s), .int .i64 (Stp.par s), .int .i64 (Stp.place s), .string (Stp.text s), .int .i64 (Stp.sub s).id, .int .i64 (Stp.sub s).kind, .string (Stp.sub s).text, .slice As (Stp.sub s).kids.length cs] : Array Value).toList) :
    Calls Try.prog 69 #[.agg #[.int .i64 (Tr.id x), .int .i64 (Tr.kind x), .string (Tr.text x), .slice A (Tr.kids x).length c], .agg #[.int .i8 (Stp.op s), .int .i64 (Stp.id s), .int .i64 (Stp.par s), .int .i64 (Stp.place s), .string (Stp.text s), .int .i64 (Stp.sub s).id, .int .i64 (Stp.sub s).kind, .string (Stp.sub s).text, .slice As (Stp.sub s).kids.length cs], .pointer (some ⟨bg, 0, none⟩)] W (ApplyPost (doJ j x s) W) := by
  obtain ⟨V, hV⟩ : ∃ V, V = ((W.alloc (.cells #[.int .i64 (Tr.id x), .int .i64 (Tr.kind x), .string (Tr.text x), .slice A (Tr.kids x).length c] 24)).alloc (.cells #[.int .i8 (Stp.op s), .int .i64 (Stp.id s), .int .i64 (Stp.par s), .int .i64 (Stp.place s), .string (Stp.text s), .int .i64 (Stp.sub s).id, .int .i64 (Stp.sub s).kind, .string (Stp.sub s).text, .slice As (Stp.sub s).kids.length cs] 27)).alloc (.cells #[.int .i64 0, .int .i64 0, .string ⟨#[]⟩, .slice none 0 0] 24) := ⟨_, rfl⟩
  have hc : Chg [] W V := by rw [hV]; exact (by with_reducible repeat (first | exact Chg.refl _ _ | apply Chg.alloc | apply Chg.drew | apply Chg.drewN | (refine Chg.setCell ?_ _ _ (by simp))))
  have b0 : V.heap[W.heap.size]? = some (.cells #[.int .i64 (Tr.id x), .int .i64 (Tr.kind x), .string (Tr.text x), .slice A (Tr.kids x).length c] 24 (0, 0)) := by rw [hV]; exact heap_old (heap_old (heap_new _ _ rfl) _) _
  have b1 : V.heap[W.heap.size + 1]? = some (.cells #[.int .i8 (Stp.op s), .int .i64 (Stp.id s), .int .i64 (Stp.par s), .int .i64 (Stp.place s), .string (Stp.text s), .int .i64 (Stp.sub s).id, .int .i64 (Stp.sub s).kind, .string (Stp.sub s).text, .slice As (Stp.sub s).kids.length cs] 27 (0, 0)) := by rw [hV]; exact heap_old (heap_new _ _ (by simp)) _
  have b2 : V.heap[W.heap.size + 1 + 1]? = some (.cells #[.int .i64 0, .int .i64 0, .string ⟨#[]⟩, .slice none 0 0] 24 (0, 0)) := by rw [hV]; exact heap_new _ _ (by simp)
  obtain ⟨g0, g1⟩ := cell2 (hc.at hG.1 (by simp))
  obtain ⟨p0, p1, p2, p3⟩ := blk4 b0
  obtain ⟨q0, q1, q2, q3, q4, q5, q6, q7, q8⟩ := cells9 b1
  have hdo := do_any g j hj Ag cg x s A c (#[.int .i8 (Stp.op s), .int .i64 (Stp.id s), .int .i64 (Stp.par s), .int .i64 (Stp.place s), .string (Stp.text s), .int .i64 (Stp.sub s).id, .int .i64 (Stp.sub s).kind, .string (Stp.sub s).text, .slice As (Stp.sub s).kids.length cs] : Array Value).toList V (hG.2.kept hc) (hT.next hc) (hS.next hc)
  have HV := Lib.hid (And.intro hV (And.intro hc (And.intro b2 hdo)))
  rw [hV] at g0 g1 p0 p1 p2 p3 q0 q1 q2 q3 q4 q5 q6 q7 q8
  clear hV hc b0 b1 b2 hdo hG hT hS hj
  go_enter Try.func69, Try.ntmps69
  go_wp2_with fail
  rw [← HV.out.1]
  clear g0 g1 p0 p1 p2 p3 q0 q1 q2 q3 q4 q5 q6 q7 q8
  have hdo := HV.out.2.2.2
  unfold ApplyPost at hdo
  cases hr : doJ j x s with
  | error n =>
    simp only [hr] at hdo
    have HR := Lib.hid (And.intro hdo hr)
    clear hdo hr
    refine HR.out.1.mono ?_
    rintro e X ⟨rfl, hX⟩
    have x2 := hX.at HV.out.2.2.1 (by simp)
    obtain ⟨r0, r1, r2, r3⟩ := blk4 x2
    have f0 := blkF x2 0
    have f1 := blkF x2 1
    have f2 := blkF x2 2
    have f3 := blkF x2 3
    have HX := Lib.hid (And.intro hX x2)
    clear hX x2
    go_wp2_with (skip; fail)
    refine bodyPost_ret (v := .tuple #[.agg #[.int .i64 0, .int .i64 0, .string ⟨#[]⟩, .slice none 0 0], .int .i64 n]) (results_row_tmp rfl _ _ (W.heap.size + 1 + 1) _ _ _ _ _ rfl rfl (set4 HX.out.2) Try.underlying24 rfl szNode) rfl ?_
    unfold ApplyPost
    rw [HR.out.2]
    exact ⟨rfl, (HV.out.2.1.trans HX.out.1).andThen (chg4 _ _ _ _ _ _) (by simp; omega)⟩
  | ok y =>
    simp only [hr] at hdo
    have HR := Lib.hid (And.intro hdo hr)
    clear hdo hr
    refine HR.out.1.mono ?_
    rintro e X ⟨Ay, cy, rfl, hTy, hX⟩
    have x2 := hX.at HV.out.2.2.1 (by simp)
    obtain ⟨r0, r1, r2, r3⟩ := blk4 x2
    have f0 := blkF x2 0
    have f1 := blkF x2 1
    have f2 := blkF x2 2
    have f3 := blkF x2 3
    have hl2 := lt_of_block HV.out.2.2.1
    have HX := Lib.hid (And.intro hX (And.intro x2 hTy))
    clear hX x2 hTy
    go_wp2_with (skip; fail)
    refine bodyPost_ret (v := .tuple #[.agg #[.int .i64 (Tr.id y), .int .i64 (Tr.kind y), .string (Tr.text y), .slice Ay (Tr.kids y).length cy], .int .i64 0]) (results_row_tmp rfl _ _ (W.heap.size + 1 + 1) _ _ _ _ _ rfl rfl (set4 HX.out.2.1) Try.underlying24 rfl szNode) rfl ?_
    have hc4 := chg4 X (W.heap.size + 1 + 1) (.int .i64 y.id) (.int .i64 y.kind) (.string y.text) (.slice Ay y.kids.length cy)
    have hs4 := hc4.size
    unfold ApplyPost
    rw [HR.out.2]
    exact ⟨Ay, cy, rfl, (HX.out.2.2.kept hc4 (fun b hb => by simp; omega)).weak (fun b hb => ⟨by omega, by omega⟩), (HV.out.2.1.trans HX.out.1).andThen hc4 (by simp; omega)⟩
def applyL (j : GJ) (t : Tr) (l : List Stp) : Tr × Nat × Int :=
  if checkB l then (if (foldF (doJ j) t l 0).2.2 = 0 then foldF (doJ j) t l 0 else (t, (foldF (doJ j) t l 0).2.1, (foldF (doJ j) t l 0).2.2)) else (t, 0, 3)
def ApplyL (r : Tr × Nat × Int) (w : World) (e : Ending) (w' : World) : Prop :=
  ∃ A c, e = .returned (.tuple #[.agg #[.int .i64 (Tr.id r.1), .int .i64 (Tr.kind r.1), .string (Tr.text r.1), .slice A (Tr.kids r.1).length c], .int .i64 r.2.1, .int .i64 r.2.2]) ∧ TrC (fun b => b < w'.heap.size) w' r.1 [.int .i64 (Tr.id r.1), .int .i64 (Tr.kind r.1), .string (Tr.text r.1), .slice A (Tr.kids r.1).length c] ∧ Chg [] w w'
set_option maxHeartbeats 4000000 in
set_option maxRecDepth 100000 in
theorem capply_any (g : Gr) (j : GJ) (hj : j.Of g) (Ag : Option Addr) (cg : Nat) (t : Tr) (A : Option Addr) (c : Nat) (ss : List Stp) (B : Option Addr) (d : Nat) (w : World) (hG : GrC w Ag cg g.kinds) (hT : TrC (fun b => b < w.heap.size) w t [.int .i64 (Tr.id t), .int .i64 (Tr.kind t), .string (Tr.text t), .slice A (Tr.kids t).length c]) (hS : StpsC (fun b => b < w.heap.size) w B ss) (hl : ss.length ≤ 9223372036854775807) (hn : t.nodes ≤ 100000) :
    Calls Try.prog 31 #[.agg #[.slice Ag g.kinds.length cg, .int .i64 g.root], .agg #[.int .i64 (Tr.id t), .int .i64 (Tr.kind t), .string (Tr.text t), .slice A (Tr.kids t).length c], .slice B ss.length d] w (ApplyL (applyL j t ss) w) := by
  obtain ⟨W, hW⟩ : ∃ W, W = ((w.alloc (.cells #[.slice Ag g.kinds.length cg, .int .i64 g.root] 43)).alloc (.cells #[.int .i64 (Tr.id t), .int .i64 (Tr.kind t), .string (Tr.text t), .slice A (Tr.kids t).length c] 24)).alloc (.cells #[.int .i64 0, .int .i64 0, .string ⟨#[]⟩, .slice none 0 0] 24) := ⟨_, rfl⟩
  have hcW : Chg [] w W := by rw [hW]; exact (by with_reducible repeat (first | exact Chg.refl _ _ | apply Chg.alloc | apply Chg.drew | apply Chg.drewN | (refine Chg.setCell ?_ _ _ (by simp))))
  have b0 : W.heap[w.heap.size]? = some (.cells #[.slice Ag g.kinds.length cg, .int .i64 g.root] 43 (0, 0)) := by rw [hW]; exact heap_old (heap_old (heap_new _ _ rfl) _) _
  have b1 : W.heap[w.heap.size + 1]? = some (.cells #[.int .i64 (Tr.id t), .int .i64 (Tr.kind t), .string (Tr.text t), .slice A (Tr.kids t).length c] 24 (0, 0)) := by rw [hW]; exact heap_old (heap_new _ _ (by simp)) _
  have b2 : W.heap[w.heap.size + 1 + 1]? = some (.cells #[.int .i64 0, .int .i64 0, .string ⟨#[]⟩, .slice none 0 0] 24 (0, 0)) := by rw [hW]; exact heap_new _ _ (by simp)
  have hck := check_any ss B d W (hS.next hcW) hl
  have HW := Lib.hid (And.intro hW (And.intro hcW (And.intro b0 (And.intro b1 (And.intro b2 (And.intro hck (And.intro hG (And.intro hT (And.intro hS (And.intro hj hn))))))))))
  clear hW hcW b0 b1 b2 hck hG hT hS hj hn
  go_enter Try.func31, Try.ntmps31
  go_wp2_with fail
  rw [← HW.out.1]
  refine HW.out.2.2.2.2.2.1.mono ?_
  rintro e X ⟨rfl, rfl⟩
  have hown := cown_any t A c W ((HW.out.2.2.2.2.2.2.2.1.kept HW.out.2.1 (by simp)).weak (fun _ _ _ => trivial)) HW.out.2.2.2.2.2.2.2.2.2.2
  have HO := Lib.hid hown
  obtain ⟨p0, p1, p2, p3⟩ := blk4 HW.out.2.2.2.1
  clear hown
  by_cases hch : checkB ss = true
  · have he : checkE ss = 0 := by unfold checkE; rw [hch]; rfl
    rw [he]
    have HA := Lib.hid (show applyL j t ss = if (foldF (doJ j) t ss 0).2.2 = 0 then foldF (doJ j) t ss 0 else (t, (foldF (doJ j) t ss 0).2.1, (foldF (doJ j) t ss 0).2.2) by unfold applyL; rw [hch]; rfl)
    clear hch he
    go_wp2_with fail
    refine HO.out.mono ?_
    rintro e X ⟨A1, c1, rfl, hT1, hX⟩
    have hwX := HW.out.2.1.trans hX
    have hf := fold_any 69 #[.pointer (some ⟨w.heap.size, 0, none⟩)] (enters_of Try.func69 (by kernel_rfl) rfl) (doJ j) [] (fun _ _ => True) (fun b => W.heap.size ≤ b ∧ b < X.heap.size) (fun _ _ V => Chg [] X V) ss B d t A1 c1 X hl (by simp) ((HW.out.2.2.2.2.2.2.2.2.1.next hwX).weak (fun b hb _ => ⟨hb, by simp⟩)) (fun b hb => hb.2) (fun _ _ _ _ _ _ => trivial) (fun _ _ => trivial) hT1.toC
      (fun i x V V' h hc => h.andThen hc (by simp)) (Chg.refl _ _)
      (fun i x A c s As cs V hcV hsV hJV hs hTx hSx => (apply1_any g j HW.out.2.2.2.2.2.2.2.2.2.1 Ag cg w.heap.size x A c s As cs V ⟨(hX.trans hJV).at HW.out.2.2.1 (by simp), HW.out.2.2.2.2.2.2.1.kept (hwX.trans hJV)⟩ (hTx.weak (fun b hb _ => hb.1)) (hSx.weak (fun b hb _ => Nat.lt_of_lt_of_le hb.1 hcV.size))).mono fun e V' he => by
        unfold ApplyPost at he
        unfold FoldOne
        cases hr : doJ j x s with
        | error n =>
          rw [hr] at he
          obtain ⟨rfl, hc⟩ := he
          exact ⟨_, rfl, doJ_ne hr, hc, ⟨⟨0, 0, ⟨#[]⟩, []⟩, none, 0, rfl⟩, hJV.trans hc⟩
        | ok y =>
          rw [hr] at he
          obtain ⟨Ay, cy, rfl, hTy, hc⟩ := he
          exact ⟨_, rfl, Kp.of_chg hc (by simp), ⟨Ay, cy, rfl, hTy.toC.weak (fun b hb _ => ⟨hb.1, hb.2, trivial⟩)⟩, hJV.trans hc⟩)
    have x1 := hX.at HW.out.2.2.2.1 (by simp)
    have x2 := hX.at HW.out.2.2.2.2.1 (by simp)
    have HX := Lib.hid (And.intro hwX (And.intro hf (And.intro x1 x2)))
    clear hX hT1 hf x1 x2 p0 p1 p2 p3 hwX
    go_wp2_with fail
    refine HX.out.2.1.mono ?_
    rintro e Y ⟨Af, cf, rfl, hTf, hXY, hcY⟩
    obtain ⟨r, hr⟩ : ∃ r, r = foldF (doJ j) t ss 0 := ⟨_, rfl⟩
    rw [← hr] at hTf ⊢
    obtain ⟨xf, nf, ef⟩ := r
    have y1 := hXY.at HX.out.2.2.1 (by simp)
    have y2 := hXY.at HX.out.2.2.2 (by simp)
    obtain ⟨r0, r1, r2, r3⟩ := blk4 y2
    have f0 := blkF y2 0
    have f1 := blkF y2 1
    have f2 := blkF y2 2
    have f3 := blkF y2 3
    have hc4 := chg4 Y (w.heap.size + 1 + 1) (.int .i64 xf.id) (.int .i64 xf.kind) (.string xf.text) (.slice Af xf.kids.length cf)
    have z1 := hc4.at y1 (by simp)
    obtain ⟨p0, p1, p2, p3⟩ := blk4 z1
    have z2 := set4 (v0 := .int .i64 xf.id) (v1 := .int .i64 xf.kind) (v2 := .string xf.text) (v3 := .slice Af xf.kids.length cf) y2
    obtain ⟨s0, s1, s2, s3⟩ := blk4 z2
    have g0 := blkF z2 0
    have g1 := blkF z2 1
    have g2 := blkF z2 2
    have g3 := blkF z2 3
    have hls : w.heap.size + 1 + 1 < W.heap.size := lt_of_block HW.out.2.2.2.2.1
    have HY := Lib.hid (And.intro (HX.out.1.trans hXY) (And.intro hTf (And.intro hr (And.intro hc4 (And.intro z1 z2)))))
    clear hXY hcY hTf hr y1 y2 hc4 z1 z2
    by_cases hz : ef = 0
    · subst hz
      have HE := Lib.hid (show applyL j t ss = (xf, nf, 0) by rw [HA.out, ← HY.out.2.2.1]; simp)
      go_wp2_with (skip; fail)
      refine bodyPost_ret (v := .tuple #[.agg #[.int .i64 (Tr.id xf), .int .i64 (Tr.kind xf), .string (Tr.text xf), .slice Af (Tr.kids xf).length cf], .int .i64 nf, .int .i64 0]) (results_row_tmp2 rfl _ _ (w.heap.size + 1 + 1) _ _ _ _ _ _ rfl rfl rfl (set4 HY.out.2.2.2.2.2) Try.underlying24 rfl szNode) rfl ?_
      rw [HE.out]
      have h5 := HY.out.2.2.2.1.trans (chg4 _ (w.heap.size + 1 + 1) (.int .i64 xf.id) (.int .i64 xf.kind) (.string xf.text) (.slice Af xf.kids.length cf))
      have hs5 := h5.size
      have hXl := lt_of_block HX.out.2.2.2
      exact ⟨Af, cf, rfl, (HY.out.2.1.kept h5 (fun b hb => by simp; omega)).weak (fun b hb _ => by omega), HY.out.1.andThen h5 (by simp; omega)⟩
    · have e0 : (ef == 0) = false := by simpa using hz
      have e0' : (ef != 0) = true := by simpa using hz
      have HE := Lib.hid (show applyL j t ss = (t, nf, ef) by rw [HA.out, ← HY.out.2.2.1]; simp [hz])
      clear hz
      obtain ⟨Z, hZ⟩ : ∃ Z, Z = (((Y.setCell ⟨w.heap.size + 1 + 1, 0, none⟩ (.int .i64 xf.id)).setCell ⟨w.heap.size + 1 + 1, 1, none⟩ (.int .i64 xf.kind)).setCell ⟨w.heap.size + 1 + 1, 2, none⟩ (.string xf.text)).setCell ⟨w.heap.size + 1 + 1, 3, none⟩ (.slice Af xf.kids.length cf) := ⟨_, rfl⟩
      have hYZ := HY.out.2.2.2.1
      have hz2 := HY.out.2.2.2.2.2
      rw [← hZ] at hYZ hz2
      have hwZ : Chg [] w Z := HY.out.1.andThen hYZ (by simp; omega)
      have hown := cown_any t A c Z ((HW.out.2.2.2.2.2.2.2.1.kept hwZ (by simp)).weak (fun _ _ _ => trivial)) HW.out.2.2.2.2.2.2.2.2.2.2
      have HZ := Lib.hid (And.intro hZ (And.intro hwZ (And.intro hown hz2)))
      clear hYZ hz2 hZ hwZ hown
      go_wp2_with fail
      rw [← HZ.out.1]
      clear p0 p1 p2 p3 s0 s1 s2 s3 g0 g1 g2 g3 r0 r1 r2 r3 f0 f1 f2 f3
      refine HZ.out.2.2.1.mono ?_
      rintro e V ⟨A2, c2, rfl, hT2, hV⟩
      have v2 := hV.at HZ.out.2.2.2 (by simp)
      obtain ⟨r0, r1, r2, r3⟩ := blk4 v2
      have f0 := blkF v2 0
      have f1 := blkF v2 1
      have f2 := blkF v2 2
      have f3 := blkF v2 3
      have hl3 := lt_of_block HZ.out.2.2.2
      have HV := Lib.hid (And.intro hV (And.intro v2 hT2))
      clear hV v2 hT2
      go_wp2_with (skip; fail)
      refine bodyPost_ret (v := .tuple #[.agg #[.int .i64 (Tr.id t), .int .i64 (Tr.kind t), .string (Tr.text t), .slice A2 (Tr.kids t).length c2], .int .i64 nf, .int .i64 ef]) (results_row_tmp2 rfl _ _ (w.heap.size + 1 + 1) _ _ _ _ _ _ rfl rfl rfl (set4 HV.out.2.1) Try.underlying24 rfl szNode) rfl ?_
      have hc4 := chg4 V (w.heap.size + 1 + 1) (.int .i64 t.id) (.int .i64 t.kind) (.string t.text) (.slice A2 t.kids.length c2)
      have hs4 := hc4.size
      rw [HE.out]
      exact ⟨A2, c2, rfl, (HV.out.2.2.toC.kept hc4 (fun b hb => by simp; omega)).weak (fun b hb _ => by omega), (HZ.out.2.1.trans HV.out.1).andThen hc4 (by simp; omega)⟩
  · have he : checkE ss = 3 := by unfold checkE; rw [if_neg hch]
    rw [he]
    have HA := Lib.hid (show applyL j t ss = (t, 0, 3) by unfold applyL; rw [if_neg hch])
    clear hch he
    go_wp2_with fail
    refine HO.out.mono ?_
    rintro e X ⟨A1, c1, rfl, hT1, hX⟩
    have x2 := hX.at HW.out.2.2.2.2.1 (by simp)
    obtain ⟨r0, r1, r2, r3⟩ := blk4 x2
    have f0 := blkF x2 0
    have f1 := blkF x2 1
    have f2 := blkF x2 2
    have f3 := blkF x2 3
    have hl2 := lt_of_block HW.out.2.2.2.2.1
    have HX := Lib.hid (And.intro hX (And.intro x2 hT1))
    clear hX x2 hT1
    go_wp2_with (skip; fail)
    refine bodyPost_ret (v := .tuple #[.agg #[.int .i64 (Tr.id t), .int .i64 (Tr.kind t), .string (Tr.text t), .slice A1 (Tr.kids t).length c1], .int .i64 0, .int .i64 3]) (results_row_tmp2 rfl _ _ (w.heap.size + 1 + 1) _ _ _ _ _ _ rfl rfl rfl (set4 HX.out.2.1) Try.underlying24 rfl szNode) rfl ?_
    have hc4 := chg4 X (w.heap.size + 1 + 1) (.int .i64 t.id) (.int .i64 t.kind) (.string t.text) (.slice A1 t.kids.length c1)
    have hs4 := hc4.size
    rw [HA.out]
    exact ⟨A1, c1, rfl, (HX.out.2.2.toC.kept hc4 (fun b hb => by simp; omega)).weak (fun b hb _ => by omega), (HW.out.2.1.trans HX.out.1).andThen hc4 (by simp; omega)⟩
end Go.Proofs.Ytofjocjljbkjgaa
namespace Go.Proofs.Ytofjocjljbkjgaa
open Go.RowKit
open Go.ChangeMaps (setBlock)
theorem findI_mem {l : List MapEntry} (h : KeysI l) {e : MapEntry} (he : e ∈ l) : findI l (keyInt e.key) = some e.val := by
  obtain ⟨hq, hp⟩ := h
  clear hq
  induction l with
  | nil => simp at he
  | cons a l ih =>
    obtain ⟨h1, h2⟩ := List.pairwise_cons.1 hp
    rcases List.mem_cons.1 he with rfl | he
    · simp [findI]
    · have := h1 e he
      simp only [findI]
      rw [if_neg this]
      exact ih he h2
theorem findI_some {l : List MapEntry} {n : Int} {v : Value} (h : findI l n = some v) : ∃ e ∈ l, keyInt e.key = n ∧ e.val = v := by
  induction l with
  | nil => simp [findI] at h
  | cons a l ih =>
    simp only [findI] at h
    split at h
    · rename_i e; cases h; exact ⟨a, by simp, e, rfl⟩
    · obtain ⟨e, he, h1, h2⟩ := ih h; exact ⟨e, by simp [he], h1, h2⟩
def IterI (w : World) (b r : Nat) (m : Int → Option Value) (done : List Int) : Prop :=
  ∃ es clock since seen c0, w.heap[b]? = some (.map es clock) ∧ (KeysI es.toList ∧ Go.MapKept.Stamped es clock) ∧ (∀ n, findI es.toList n = m n) ∧ w.heap[r]? = some (.mapIter (some b) since seen c0) ∧ (∀ x ∈ es.toList, x.born < since) ∧ (since ≤ c0 ∧ since ≤ clock) ∧
    ∀ x ∈ es.toList, seen.contains x.born = true ↔ keyInt x.key ∈ done
theorem IterI.map {w : World} {b r : Nat} {m : Int → Option Value} {done : List Int} (h : IterI w b r m done) : MapI w b m := by
  obtain ⟨es, clock, since, seen, c0, h1, h2, h3, _⟩ := h; exact ⟨es, clock, h1, h2, h3⟩
theorem IterI.lt {w : World} {b r : Nat} {m : Int → Option Value} {done : List Int} (h : IterI w b r m done) : r < w.heap.size := by
  obtain ⟨es, clock, since, seen, c0, _, _, _, h1, _⟩ := h; exact lt_of_block h1
theorem IterI.ne {w : World} {b r : Nat} {m : Int → Option Value} {done : List Int} (h : IterI w b r m done) : r ≠ b := by
  obtain ⟨es, clock, since, seen, c0, h1, _, _, h2, _⟩ := h
  intro e; rw [e, h1] at h2; cases h2
theorem IterI.kept {w w' : World} {b r : Nat} {m : Int → Option Value} {done : List Int} {l : List Nat} (h : IterI w b r m done) (hc : Chg l w w') (hb : b ∉ l) (hr : r ∉ l) : IterI w' b r m done := by
  obtain ⟨es, clock, since, seen, c0, h1, h2, h3, h4, h5⟩ := h
  exact ⟨es, clock, since, seen, c0, hc.at h1 hb, h2, h3, hc.at h4 hr, h5⟩
theorem IterI.left_kept {w w' : World} {b r : Nat} {m : Int → Option Value} {done : List Int} {l : List Nat} (h : IterI w b r m done) (hc : Chg l w w') (hb : b ∉ l) (hr : r ∉ l) : w'.rangeLeft b r = w.rangeLeft b r := by
  obtain ⟨es, clock, since, seen, c0, h1, h2, h3, h4, h5⟩ := h
  simp only [World.rangeLeft, h1, h4, hc.at h1 hb, hc.at h4 hr]
section
variable {P : Program} {T K E : TypeId} {w : World} {b r : Nat} {m : Int → Option Value} {done : List Int}
theorem range_run (hT : P.underlying T = some (.map K E)) (h : MapI w b m) :
    ∃ w', (Instr.range T (.map (some b))).run P w = .ok (.pointer (some ⟨w.heap.size, 0, none⟩)) w' ∧ IterI w' b w.heap.size m [] ∧ Chg [] w w' ∧ w'.heap.size = w.heap.size + 1 := by
  obtain ⟨es, clock, hb, hk, hm⟩ := h
  have hlt := lt_of_block hb
  exact ⟨_, run_range_map w T K E b es clock hT hb, ⟨es, clock, clock, #[], clock, heap_old hb _, hk, hm, heap_new _ _ rfl, hk.2.1, ⟨Nat.le_refl _, Nat.le_refl _⟩, fun x hx => by simp⟩, (Chg.refl _ _).alloc _, by simp⟩
theorem IterI.next (h : IterI w b r m done) (ty : TypeId) :
    ((∀ n v, m n = some v → n ∈ done) ∧ (Instr.next (.pointer (some ⟨r, 0, none⟩)) false ty).run P w = .ok (.tuple #[.bool false]) w) ∨
    ∃ n v w', m n = some v ∧ n ∉ done ∧ (Instr.next (.pointer (some ⟨r, 0, none⟩)) false ty).run P w = .ok (.tuple #[.bool true, .int .i64 n, v]) w' ∧ IterI w' b r m (done ++ [n]) ∧ w'.rangeLeft b r < w.rangeLeft b r ∧ Chg [r] w w' ∧ w'.heap.size = w.heap.size ∧ (Instr.entry (.pointer (some ⟨r, 0, none⟩))).run P w' = .ok (.tuple #[.int .i64 n, v]) w' := by
  have hne := h.ne
  obtain ⟨es, clock, since, seen, c0, hb, hk, hm, hr, hold, ⟨hsc, hsk⟩, hd⟩ := h
  rcases run_next_at (P := P) w ty r b since c0 seen es clock hr hb hold hsc with ⟨h0, hrun⟩ | ⟨e, he, w1, hal, hrun⟩
  · refine .inl ⟨fun n v hn => ?_, hrun⟩
    rw [← hm n] at hn
    obtain ⟨x, hx, h1, _⟩ := findI_some hn
    rw [← h1]
    exact (hd x hx).1 (all_seen es seen h0 x hx)
  · obtain ⟨hem, hes⟩ := mem_left he
    have hr1 : w1.heap[r]? = some (.mapIter (some b) since seen c0) := by rcases hal with rfl | rfl <;> exact hr
    have hb1 : w1.heap[b]? = some (.map es clock) := by rcases hal with rfl | rfl <;> exact hb
    have hset := Go.MapKept.heap_set (o' := .mapIter (some b) since (seen.push e.born) clock) hr1
    have hb' : (setBlock w1 r (.mapIter (some b) since (seen.push e.born) clock)).heap[b]? = some (.map es clock) := (hset.2 b (fun e1 => hne e1.symm)).trans hb1
    have hst := (Go.MapKept.stamped_iff es clock).1 hk.2
    have hkey := hk.1.ints e hem
    have hmn : m (keyInt e.key) = some e.val := by rw [← hm]; exact findI_mem hk.1 hem
    have hc1 : Chg [r] w (setBlock w1 r (.mapIter (some b) since (seen.push e.born) clock)) := by
      rcases hal with rfl | rfl <;> exact ⟨rfl, rfl, rfl, by simp [setBlock], fun i _ hi => hset.2 i (fun e1 => hi (by rw [e1]; simp))⟩
    refine .inr ⟨keyInt e.key, e.val, _, hmn, fun hin => ?_, by rw [← hkey]; exact hrun, ⟨es, clock, since, seen.push e.born, clock, hb', hk, hm, hset.1, hold, ⟨hsk, hsk⟩, fun x hx => ?_⟩, ?_, hc1, ?_, ?_⟩
    · have := (hd e hem).2 hin
      rw [this] at hes; cases hes
    · rw [contains_push]
      constructor
      · intro h1
        rcases Bool.or_eq_true_iff.1 h1 with h1 | h1
        · exact List.mem_append_left _ ((hd x hx).1 h1)
        · have : x = e := born_inj hst.2.1 hx hem (by simpa using h1)
          rw [this]; simp
      · intro h1
        rcases List.mem_append.1 h1 with h1 | h1
        · rw [(hd x hx).2 h1]; rfl
        · simp at h1
          have : x = e := by
            by_cases hxe : x = e
            · exact hxe
            · exfalso
              have := hk.1.apart
              obtain ⟨i, hi, rfl⟩ := List.getElem_of_mem hx
              obtain ⟨j, hj, rfl⟩ := List.getElem_of_mem hem
              rcases Nat.lt_trichotomy i j with h | h | h
              · exact List.pairwise_iff_getElem.1 this i j hi hj h h1
              · subst h; exact hxe rfl
              · exact List.pairwise_iff_getElem.1 this j i hj hi h h1.symm
          rw [this]; simp
    · have hsr : (setBlock w1 r (.mapIter (some b) since (seen.push e.born) clock)).heap[r]? = some (.mapIter (some b) since (seen.push e.born) clock) := hset.1
      simp only [World.rangeLeft, hb, hr, hb', hsr]
      exact left_shrinks es seen e he
    · rcases hal with rfl | rfl <;> simp [setBlock]
    · rw [← hkey]
      exact run_entry_at _ r b since seen es clock e hset.1 hb' hem hst.2.1
variable {ops : Array Oper} {rest : List Oper} {o : Oper} {a : Act} {Q : Exit → Act → World → Prop}
theorem wpList_range_I (hg : o.guard = none) (x : Operand) (hop : o.op = Op.range T x) (hT : P.underlying T = some (.map K E)) (h : MapI w b m) (hx : a.eval x = .map (some b))
    (k : ∀ w', IterI w' b w.heap.size m [] → Chg [] w w' → w'.heap.size = w.heap.size + 1 → wpList P ops Q rest (a.put o.dst (.pointer (some ⟨w.heap.size, 0, none⟩))) w') : wpList P ops Q (o :: rest) a w := by
  refine wpList_plain hg fun K' hK' => ?_
  obtain ⟨w', hrun, r1, r2, r3⟩ := range_run hT h
  unfold Oper.wp
  simp [execOp, hop, hx, hrun, Result.andThen]
  exact hK' _ _ (k w' r1 r2 r3)
theorem wpList_next_I (hg : o.guard = none) (it : Operand) (hop : o.op = Op.next it false) (hit : a.eval it = .pointer (some ⟨r, 0, none⟩)) (h : IterI w b r m done)
    (hDone : (∀ n v, m n = some v → n ∈ done) → wpList P ops Q rest (a.put o.dst (.tuple #[.bool false])) w)
    (hMore : ∀ n v w', m n = some v → n ∉ done → IterI w' b r m (done ++ [n]) → w'.rangeLeft b r < w.rangeLeft b r → Chg [r] w w' → w'.heap.size = w.heap.size → (Instr.entry (.pointer (some ⟨r, 0, none⟩))).run P w' = .ok (.tuple #[.int .i64 n, v]) w' → wpList P ops Q rest (a.put o.dst (.tuple #[.bool true, .int .i64 n, v])) w') : wpList P ops Q (o :: rest) a w := by
  refine wpList_plain hg fun K' hK' => ?_
  unfold Oper.wp
  rcases h.next (P := P) o.type with ⟨hl, hrun⟩ | ⟨n, v, w', h1, h2, hrun, h3, h4, h5, h6, h7⟩
  · simp [execOp, hop, hit, hrun, Result.andThen]
    exact hK' _ _ (hDone hl)
  · simp [execOp, hop, hit, hrun, Result.andThen]
    exact hK' _ _ (hMore n v w' h1 h2 h3 h4 h5 h6 h7)
theorem wpList_lookup_ok_I (hgd : o.guard = none) (x y : Operand) (ho : o.op = .lookup T x y true)
    (hT : P.underlying T = some (.map K E)) (hK : P.underlying K = some (.int .i64)) {z : Value} (hz : ∀ w, (zeroValue E).run P w = .ok z w) (h : MapI w b m) (n : Int) (hx : a.eval x = .map (some b)) (hy : a.eval y = .int .i64 n)
    {u : Value} (hu : (m n).getD z = u) {c : Bool} (hc : (m n).isSome = c) (k : wpList P ops Q rest (a.put o.dst (.tuple #[u, .bool c])) w) : wpList P ops Q (o :: rest) a w := by
  refine wpList_runv hgd (w' := w) ?_ k
  have := exec_lookup_I (P := P) (o := o) (a := a) x y true ho hT hK (hz w) h n hx hy
  rw [hu, hc] at this
  simpa using this
theorem exec_len_I {o : Oper} {a : Act} {w : World} {T K E : TypeId} (x : Operand) (ho : o.op = .call { callee := .builtin .len, args := #[x], argTypes := #[T] }) (hT : P.underlying T = some (.map K E)) (b : Nat) (es : Array MapEntry) (clock : Nat) (hx : a.eval x = .map (some b)) (hb : w.heap[b]? = some (.map es clock)) {n : Nat} (hn : es.size = n) :
    (execOp a.eval o).run P w = .ok (.value (.int .i64 n)) w := by
  subst hn
  have hrun : (Builtin.len_ #[T] o.type #[.map (some b)]).run P w = .ok (.int .i64 es.size) w := by
    simp [Builtin.len_, run_underlying hT, Go.MapKept.run_getObj_map hb, goInt, Result.andThen]
  simp [execOp, ho, resolve, invoke, builtin, hx, hrun, Result.andThen]
end
theorem MapI.count {w : World} {b : Nat} {m : Int → Option Value} (h : MapI w b m) {l : List Int} (hl : l.Nodup) (hm : ∀ n, (m n).isSome = true ↔ n ∈ l) : ∃ es clock, w.heap[b]? = some (.map es clock) ∧ es.size = l.length := by
  obtain ⟨es, clock, hb, ⟨hk, _⟩, hf⟩ := h
  refine ⟨es, clock, hb, ?_⟩
  have hp : (es.toList.map fun e => keyInt e.key).Perm l := by
    refine (List.perm_ext_iff_of_nodup (List.pairwise_map.2 hk.apart) hl).2 fun n => ?_
    rw [← hm, ← hf]
    constructor
    · intro hn
      obtain ⟨e, he, rfl⟩ := List.mem_map.1 hn
      rw [findI_mem hk he]; rfl
    · intro hn
      obtain ⟨v, hv⟩ := Option.isSome_iff_exists.1 hn
      obtain ⟨e, he, h1, _⟩ := findI_some hv
      exact List.mem_map.2 ⟨e, he, h1⟩
  have := hp.length_eq
  simpa using this
end Go.Proofs.Ytofjocjljbkjgaa
namespace Go.Proofs.Ytofjocjljbkjgaa
open Go.RowKit
def Tr.subT (id : Int) (t : Tr) : Option Tr := match t.path id with
  | some p => Tr.at? p t
  | none => none
theorem subT_root {id : Int} {t : Tr} (h : t.id = id) : t.subT id = some t := by
  unfold Tr.subT; rw [Tr.path_eq, if_pos h]; rfl
theorem subT_some {id : Int} {t : Tr} (h : id ∈ t.ids) : ∃ x, t.subT id = some x ∧ x.id = id := by
  obtain ⟨p, hp⟩ := path_some h
  obtain ⟨x, h1, h2⟩ := Tr.path_at id t p hp
  exact ⟨x, by unfold Tr.subT; rw [hp]; exact h1, h2⟩
theorem subT_none {id : Int} {t : Tr} (h : id ∉ t.ids) : t.subT id = none := by
  unfold Tr.subT; rw [path_none h]
theorem subT_kid {id : Int} {t : Tr} (h0 : t.id ≠ id) {k : Nat} (hk : k < t.kids.length) (h1 : ∀ j (hj : j < k), id ∉ (t.kids[j]'(by omega)).ids) (h2 : id ∈ (t.kids[k]).ids) : t.subT id = (t.kids[k]).subT id := by
  obtain ⟨p, hp⟩ := path_some h2
  unfold Tr.subT
  rw [Tr.path_eq, if_neg h0, pathL_step id t.kids k 0 hk (fun j hj => path_none (h1 j hj)), hp]
  simp only [Tr.at?, Nat.zero_add, List.getElem?_eq_getElem hk]
theorem ids_out {id : Int} {t : Tr} (h0 : t.id ≠ id) (h1 : ∀ j (hj : j < t.kids.length), id ∉ (t.kids[j]).ids) : id ∉ t.ids := by
  rw [Tr.ids_eq]
  intro h
  rcases List.mem_cons.1 h with h | h
  · exact h0 h.symm
  · have : ∀ ks : List Tr, (∀ k ∈ ks, id ∉ k.ids) → id ∉ idsL ks := by
      intro ks
      induction ks with
      | nil => intro _; simp [idsL]
      | cons k ks ih => intro h; rw [idsL, List.mem_append]; rintro (h2 | h2); exact h k (by simp) h2; exact ih (fun x hx => h x (by simp [hx])) h2
    exact this t.kids (fun k hk => by obtain ⟨j, hj, rfl⟩ := List.getElem_of_mem hk; exact h1 j hj) h
def marked (root : Int) (inn : Bool) (t : Tr) : List Int := if inn then t.ids else match t.subT root with
  | some x => x.ids
  | none => []
def BelowPost (t : Tr) (root : Int) (inn : Bool) (l : List Int) (bm : Nat) (w : World) (e : Ending) (w' : World) : Prop :=
  e = .returned (.bool (inn || decide (root ∈ t.ids))) ∧ MapI w' bm (seenM (l ++ marked root inn t)) ∧ Chg [bm] w w'
set_option maxHeartbeats 4000000 in
set_option maxRecDepth 100000 in
theorem below_any (bm : Nat) (root : Int) : ∀ (t : Tr) (g o : Nat) (inn : Bool) (l : List Int) (w : World), TrAt (fun b => b ≠ bm) w g o t → g ≠ bm → MapI w bm (seenM l) →
    Calls Try.prog 63 #[.pointer (some ⟨g, o, none⟩), .int .i64 root, .bool inn, .map (some bm)] w (BelowPost t root inn l bm w) := by
  intro t
  induction t using Tr.ind with
  | h t ih =>
  intro g o inn l w hT hgm hM
  obtain ⟨A, c, c0, c1, c2, c3, hlc, hcm, htx, hK⟩ := hT.cells
  have hti := Tr.ids_eq t
  have HH := Lib.hid (And.intro ih (And.intro hK (And.intro hti (And.intro hM c3))))
  clear ih hT hK htx c1 c2 hti hM
  by_cases hin : inn = true ∨ t.id = root
  · have hmk : marked root inn t = t.ids := by
      unfold marked
      rcases hin with h | h
      · rw [h]; rfl
      · cases inn
        · simp only [Bool.false_eq_true, if_false, subT_root h]
        · rfl
    have hres : (inn || decide (root ∈ t.ids)) = true := by
      rcases hin with h | h
      · rw [h]; rfl
      · rw [decide_eq_true (by rw [← h]; exact id_mem t)]; simp
    have HR := Lib.hid (And.intro hmk hres)
    clear hmk hres
    cases inn
    case' false => have d0 : (t.id == root) = true := by simpa using hin
    all_goals
      clear hin
      go_enter Try.func63, Try.ntmps63
      go_wp2_with (first
        | (at_mapUpdate; refine wpList_update_I (T := 114) rfl (.tmp 20) (.tmp 24) (.const (.bool true)) rfl Try.underlying114 Try.underlying3 HH.out.2.2.2.1 t.id (.bool true) rfl rfl rfl ?_
           intro Y hmY hcY hzY
           rw [seenM_snoc] at hmY
           have c3 := hcY.cell c3 (by simpa using hgm)
           have HY := Lib.hid (And.intro hmY hcY)
           clear hmY hcY hzY)
        | (skip; fail))
      go_loopw [30] (fun iv wr => ∃ k : Nat, k ≤ t.kids.length ∧ iv = .int .i64 k ∧ Hid (MapI wr bm (seenM (l ++ [t.id] ++ idsL (t.kids.take k))) ∧ Chg [bm] w wr)) (fun iv _ => t.kids.length - (intOf iv).toNat)
      case atStart => exact ⟨0, Nat.zero_le _, rfl, Lib.hid ⟨by simpa [idsL] using HY.out.1, HY.out.2⟩⟩
      case round =>
        obtain ⟨k, hk, rfl, H⟩ := hrel
        obtain ⟨V, hV⟩ : ∃ V, V = wr := ⟨_, rfl⟩
        subst hV
        clear c0 c3
        have c3 : V.cell? ⟨g, o + 3, none⟩ = some (.slice A t.kids.length c) := H.out.2.cell HH.out.2.2.2.2 (by simpa using hgm)
        by_cases hlt : k < t.kids.length
        · obtain ⟨gk, ok, hA, hok, hat⟩ := HH.out.2.1.at hlt
          subst hA
          have HC := Lib.hid (HH.out.1 (t.kids[k]) (List.getElem_mem hlt) gk (ok + k * 4) true (l ++ [t.id] ++ idsL (t.kids.take k)) V (hat.kept H.out.2 (by simpa using hok) (by simp)) hok H.out.1)
          clear hat
          go_wp2_with fail
          refine HC.out.mono ?_
          rintro e X ⟨rfl, h1, h2⟩
          have HX := Lib.hid (And.intro h1 h2)
          clear h1 h2
          go_wp2_with (skip; fail)
          go_roundw
          case rel => exact ⟨k + 1, by omega, by go_num, Lib.hid ⟨by rw [idsL_take t.kids k hlt, ← List.append_assoc]; exact HX.out.1, H.out.2.trans HX.out.2⟩⟩
          case measure => simp [intOf]; omega
        · obtain rfl : k = t.kids.length := by omega
          go_wp2_with (skip; fail)
          go_ret
          refine ⟨by rw [HR.out.2]; rfl, ?_, H.out.2⟩
          rw [HR.out.1, HH.out.2.2.1]
          have h := H.out.1
          rw [List.take_of_length_le (Nat.le_refl _), List.append_assoc] at h
          exact h
  · have hin' : inn = false := by cases inn; rfl; exact absurd (.inl rfl) hin
    subst hin'
    have hne : t.id ≠ root := fun e => hin (.inr e)
    have d0 : (t.id == root) = false := by simpa using hne
    have HN := Lib.hid hne
    clear hin hne
    go_enter Try.func63, Try.ntmps63
    go_wp2_with (skip; fail)
    go_loopw [30] (fun iv wr => ∃ k : Nat, k ≤ t.kids.length ∧ iv = .int .i64 k ∧ Hid (MapI wr bm (seenM l) ∧ Chg [bm] w wr ∧ ∀ j (hj : j < k) (hl : j < t.kids.length), root ∉ (t.kids[j]).ids)) (fun iv _ => t.kids.length - (intOf iv).toNat)
    case atStart => exact ⟨0, Nat.zero_le _, rfl, Lib.hid ⟨HH.out.2.2.2.1, Chg.refl _ _, fun j hj => by omega⟩⟩
    case round =>
      obtain ⟨k, hk, rfl, H⟩ := hrel
      obtain ⟨V, hV⟩ : ∃ V, V = wr := ⟨_, rfl⟩
      subst hV
      clear c0 c3
      have c3 : V.cell? ⟨g, o + 3, none⟩ = some (.slice A t.kids.length c) := H.out.2.1.cell HH.out.2.2.2.2 (by simpa using hgm)
      by_cases hlt : k < t.kids.length
      · obtain ⟨gk, ok, hA, hok, hat⟩ := HH.out.2.1.at hlt
        subst hA
        have hcall := HH.out.1 (t.kids[k]) (List.getElem_mem hlt) gk (ok + k * 4) false l V (hat.kept H.out.2.1 (by simpa using hok) (by simp)) hok H.out.1
        unfold BelowPost at hcall
        by_cases hm : root ∈ (t.kids[k]).ids
        · rw [decide_eq_true hm] at hcall
          have hsub : t.subT root = (t.kids[k]).subT root := subT_kid HN.out hlt (fun j hj => H.out.2.2 j hj (by omega)) hm
          have hmt : root ∈ t.ids := by rw [HH.out.2.2.1]; exact List.mem_cons_of_mem _ (mem_idsL (List.getElem_mem hlt) hm)
          have hmk : marked root false t = marked root false (t.kids[k]) := by unfold marked; rw [hsub]; simp
          have HC := Lib.hid (And.intro hcall (And.intro hmk hmt))
          clear hat hcall hsub hmt hmk hm
          go_wp2_with fail
          refine HC.out.1.mono ?_
          rintro e X ⟨rfl, h1, h2⟩
          have HX := Lib.hid (And.intro h1 h2)
          clear h1 h2
          go_wp2_with (skip; fail)
          go_ret
          exact ⟨by rw [decide_eq_true HC.out.2.2]; rfl, by rw [HC.out.2.1]; exact HX.out.1, H.out.2.1.trans HX.out.2⟩
        · rw [decide_eq_false hm] at hcall
          have hmk : marked root false (t.kids[k]) = [] := by unfold marked; rw [subT_none hm]; rfl
          rw [hmk, List.append_nil] at hcall
          have HC := Lib.hid (And.intro hcall hm)
          clear hat hcall hmk hm
          go_wp2_with fail
          refine HC.out.1.mono ?_
          rintro e X ⟨rfl, h1, h2⟩
          have HX := Lib.hid (And.intro h1 h2)
          clear h1 h2
          go_wp2_with (skip; fail)
          go_roundw
          case rel =>
            refine ⟨k + 1, by omega, by go_num, Lib.hid ⟨HX.out.1, H.out.2.1.trans HX.out.2, fun j hj hl => ?_⟩⟩
            rcases Nat.lt_or_ge j k with h | h
            · exact H.out.2.2 j h hl
            · obtain rfl : j = k := by omega
              exact HC.out.2
          case measure => simp [intOf]; omega
      · obtain rfl : k = t.kids.length := by omega
        have hno := ids_out HN.out (fun j hj => H.out.2.2 j hj hj)
        have HE := Lib.hid hno
        clear hno
        go_wp2_with (skip; fail)
        go_ret
        refine ⟨by rw [decide_eq_false HE.out]; rfl, ?_, H.out.2.1⟩
        unfold marked
        rw [subT_none HE.out]
        simpa using H.out.1
end Go.Proofs.Ytofjocjljbkjgaa
namespace Go.Proofs.Ytofjocjljbkjgaa
open Go.RowKit
attribute [local go_sem] Oper.semAt_some
def touches (s : Stp) : List Int := if s.op = 1 then [s.par] else if s.op = 2 ∨ s.op = 4 then [s.id] else if s.op = 3 then [s.id, s.par] else []
def insideB (root : Int) (t : Tr) (s : Stp) : Bool := match t.subT root with
  | none => false
  | some x => !(decide (s.id = root) && (decide (s.op = 2) || decide (s.op = 3))) && !(touches s).isEmpty && (touches s).all (fun i => decide (i ∈ x.ids))
theorem touch_any (s : Stp) (As : Option Addr) (cs : Nat) (w : World) : Calls Try.prog 110 #[.agg #[.int .i8 (Stp.op s), .int .i64 (Stp.id s), .int .i64 (Stp.par s), .int .i64 (Stp.place s), .string (Stp.text s), .int .i64 (Stp.sub s).id, .int .i64 (Stp.sub s).kind, .string (Stp.sub s).text, .slice As (Stp.sub s).kids.length cs]] w fun e w' => e = .returned (.func (.func 138) #[] #[.pointer (some ⟨w.heap.size, 0, none⟩)]) ∧ w'.heap[w.heap.size]? = some (.cells #[.int .i8 (Stp.op s), .int .i64 (Stp.id s), .int .i64 (Stp.par s), .int .i64 (Stp.place s), .string (Stp.text s), .int .i64 (Stp.sub s).id, .int .i64 (Stp.sub s).kind, .string (Stp.sub s).text, .slice As (Stp.sub s).kids.length cs] 27 (0, 0)) ∧ Chg [] w w' := by
  go_enter Try.func110, Try.ntmps110
  go_wp2
  go_ret
  exact ⟨rfl, heap_new _ _ rfl, (by with_reducible repeat (first | exact Chg.refl _ _ | apply Chg.alloc | apply Chg.drew | apply Chg.drewN | (refine Chg.setCell ?_ _ _ (by simp))))⟩
def RepI (l0 i : Nat) (x : Int) (args : Array Value) (W : World) : Prop := args = #[.int .i64 x]
def StI (B : Nat) (s : Stp) (As : Option Addr) (cs : Nat) (W : World) : Prop := W.heap[B]? = some (.cells #[.int .i8 (Stp.op s), .int .i64 (Stp.id s), .int .i64 (Stp.par s), .int .i64 (Stp.place s), .string (Stp.text s), .int .i64 (Stp.sub s).id, .int .i64 (Stp.sub s).kind, .string (Stp.sub s).text, .slice As (Stp.sub s).kids.length cs] 27 (0, 0))
set_option maxHeartbeats 4000000 in
set_option maxRecDepth 100000 in
theorem touch_iter (B : Nat) (s : Stp) (As : Option Addr) (cs : Nat) : Iter Try.prog 138 #[.pointer (some ⟨B, 0, none⟩)] RepI (touches s) (StI B s As cs) := by
  intro l0 J Jx W hSt hJ hJx hY h0 hl0
  have hs : W.heap[B]? = some (.cells #[.int .i8 (Stp.op s), .int .i64 (Stp.id s), .int .i64 (Stp.par s), .int .i64 (Stp.place s), .string (Stp.text s), .int .i64 (Stp.sub s).id, .int .i64 (Stp.sub s).kind, .string (Stp.sub s).text, .slice As (Stp.sub s).kids.length cs] 27 (0, 0)) := hSt 0 W h0
  obtain ⟨q0, q1, q2, _, _, _, _, _, _⟩ := blk9 hs
  refine callsIn_wide.1 (callsIn_of_wp (n := 0) Try.func138 rfl trivial ?_)
  simp only [Try.ntmps138, List.size_toArray, List.length_cons, List.length_nil, Nat.reduceAdd, Nat.reduceSub, Array.replicate_succ, Array.replicate_zero, List.push_toArray, List.append_toArray, List.nil_append, List.cons_append]
  by_cases h1 : s.op = 1
  · have ht : touches s = [s.par] := by unfold touches; rw [if_pos h1]
    obtain ⟨fn, tmps, assign, body, hy, hR⟩ := hY 0 s.par #[.int .i64 s.par] W h0 (by rw [ht]; rfl) rfl
    have HR := Lib.hid (And.intro hR ht)
    have d1 : (s.op == 1) = true := by simpa using h1
    clear hSt hJ hJx hY hR ht h1 hs h0
    gi_wp2
    refine ⟨rfl, ?_⟩
    refine HR.out.1.mono ?_
    rintro e W' (⟨rfl, hJ', hgr⟩ | ⟨rfl, hJx'⟩)
    · have HJ := Lib.hid hJ'
      clear hJ' hgr
      gi_wp2
      go_end0
      exact ⟨⟨_, rfl⟩, .inl (by rw [HR.out.2]; exact HJ.out)⟩
    · have HJ := Lib.hid hJx'
      clear hJx'
      gi_wp2
      go_end0
      exact ⟨⟨_, rfl⟩, .inr HJ.out⟩
  have d1 : (s.op == 1) = false := by simpa using h1
  by_cases h2 : s.op = 2 ∨ s.op = 4
  · have ht : touches s = [s.id] := by unfold touches; rw [if_neg h1, if_pos h2]
    obtain ⟨fn, tmps, assign, body, hy, hR⟩ := hY 0 s.id #[.int .i64 s.id] W h0 (by rw [ht]; rfl) rfl
    have HR := Lib.hid (And.intro hR ht)
    clear hSt hJ hJx hY hR ht h1 hs h0
    have key : ((s.op == 2) = true) ∨ ((s.op == 2) = false ∧ (s.op == 4) = true) := by
      rcases h2 with h | h
      · exact .inl (by simpa using h)
      · exact .inr ⟨by rw [h]; rfl, by simpa using h⟩
    clear h2
    rcases key with d2 | ⟨d2, d4⟩
    all_goals
      gi_wp2
      refine ⟨rfl, ?_⟩
      refine HR.out.1.mono ?_
      rintro e W' (⟨rfl, hJ', hgr⟩ | ⟨rfl, hJx'⟩)
      · have HJ := Lib.hid hJ'
        clear hJ' hgr
        gi_wp2
        go_end0
        exact ⟨⟨_, rfl⟩, .inl (by rw [HR.out.2]; exact HJ.out)⟩
      · have HJ := Lib.hid hJx'
        clear hJx'
        gi_wp2
        go_end0
        exact ⟨⟨_, rfl⟩, .inr HJ.out⟩
  have d2 : (s.op == 2) = false := by simpa using fun h => h2 (.inl h)
  have d4 : (s.op == 4) = false := by simpa using fun h => h2 (.inr h)
  by_cases h3 : s.op = 3
  · have ht : touches s = [s.id, s.par] := by unfold touches; rw [if_neg h1, if_neg h2, if_pos h3]
    obtain ⟨fn, tmps, assign, body, hy, hR⟩ := hY 0 s.id #[.int .i64 s.id] W h0 (by rw [ht]; rfl) rfl
    have HR := Lib.hid (And.intro hR (And.intro ht (And.intro hSt hY)))
    have d3 : (s.op == 3) = true := by simpa using h3
    clear hSt hJ hJx hY hR ht h1 h2 h3 hs h0
    gi_wp2
    refine ⟨rfl, ?_⟩
    refine HR.out.1.mono ?_
    rintro e W' (⟨rfl, hJ', hgr⟩ | ⟨rfl, hJx'⟩)
    · have hs : W'.heap[B]? = some (.cells #[.int .i8 (Stp.op s), .int .i64 (Stp.id s), .int .i64 (Stp.par s), .int .i64 (Stp.place s), .string (Stp.text s), .int .i64 (Stp.sub s).id, .int .i64 (Stp.sub s).kind, .string (Stp.sub s).text, .slice As (Stp.sub s).kids.length cs] 27 (0, 0)) := HR.out.2.2.1 1 W' hJ'
      obtain ⟨p0, p1, p2, _, _, _, _, _, _⟩ := blk9 hs
      obtain ⟨fn2, tmps2, assign2, body2, hy2, hR2⟩ := HR.out.2.2.2 1 s.par #[.int .i64 s.par] W' hJ' (by rw [HR.out.2.1]; rfl) rfl
      have HR2 := Lib.hid hR2
      clear hJ' hgr hs hR2 hy
      gi_wp2
      refine ⟨rfl, ?_⟩
      refine HR2.out.mono ?_
      rintro e W2 (⟨rfl, hJ', hgr⟩ | ⟨rfl, hJx'⟩)
      · have HJ := Lib.hid hJ'
        clear hJ' hgr
        gi_wp2
        go_end0
        exact ⟨⟨_, rfl⟩, .inl (by rw [HR.out.2.1]; exact HJ.out)⟩
      · have HJ := Lib.hid hJx'
        clear hJx'
        gi_wp2
        go_end0
        exact ⟨⟨_, rfl⟩, .inr HJ.out⟩
    · have HJ := Lib.hid hJx'
      clear hJx'
      gi_wp2
      go_end0
      exact ⟨⟨_, rfl⟩, .inr HJ.out⟩
  · have ht : touches s = [] := by unfold touches; rw [if_neg h1, if_neg h2, if_neg h3]
    have d3 : (s.op == 3) = false := by simpa using h3
    have HR := Lib.hid (And.intro h0 ht)
    clear hSt hJ hJx hY ht h1 h2 h3 hs h0
    gi_wp2
    go_end0
    exact ⟨⟨_, rfl⟩, .inl (by rw [HR.out.2]; exact HR.out.1)⟩
end Go.Proofs.Ytofjocjljbkjgaa
namespace Go.Proofs.Ytofjocjljbkjgaa
open Go.RowKit
theorem at_append : ∀ (p q : List Nat) (t : Tr), Tr.at? (p ++ q) t = match Tr.at? p t with | some r => Tr.at? q r | none => none
  | [], q, t => rfl
  | i :: p, q, t => by
    simp only [List.cons_append, Tr.at?]
    cases t.kids[i]? with
    | none => rfl
    | some k => exact at_append p q k
theorem at_upd : ∀ (p : List Nat) (t r x : Tr), Tr.at? p t = some r → Tr.at? p (Tr.upd p t x) = some x
  | [], t, r, x, _ => rfl
  | i :: p, t, r, x, h => by
    simp only [Tr.at?] at h
    cases hk : t.kids[i]? with
    | none => rw [hk] at h; cases h
    | some k =>
      rw [hk] at h
      simp only [Tr.upd, hk, Tr.at?]
      rw [List.getElem?_set_self (List.getElem?_eq_some_iff.1 hk).1]
      exact at_upd p k r x h
theorem upd_upd : ∀ (p : List Nat) (t r x y : Tr), Tr.at? p t = some r → Tr.upd p (Tr.upd p t x) y = Tr.upd p t y
  | [], t, r, x, y, _ => rfl
  | i :: p, t, r, x, y, h => by
    simp only [Tr.at?] at h
    cases hk : t.kids[i]? with
    | none => rw [hk] at h; cases h
    | some k =>
      rw [hk] at h
      simp only [Tr.upd, hk]
      rw [List.getElem?_set_self (List.getElem?_eq_some_iff.1 hk).1]
      simp only [List.set_set, upd_upd p k r x y h]
theorem upd_append : ∀ (p q : List Nat) (t r x : Tr), Tr.at? p t = some r → Tr.upd (p ++ q) t x = Tr.upd p t (Tr.upd q r x)
  | [], q, t, r, x, h => by simp only [Tr.at?, Option.some.injEq] at h; subst h; rfl
  | i :: p, q, t, r, x, h => by
    simp only [Tr.at?] at h
    cases hk : t.kids[i]? with
    | none => rw [hk] at h; cases h
    | some k =>
      rw [hk] at h
      simp only [List.cons_append, Tr.upd, hk, upd_append p q k r x h]
theorem upd_self : ∀ (p : List Nat) (t r : Tr), Tr.at? p t = some r → Tr.upd p t r = t
  | [], t, r, h => by simp only [Tr.at?, Option.some.injEq] at h; subst h; rfl
  | i :: p, t, r, h => by
    simp only [Tr.at?] at h
    cases hk : t.kids[i]? with
    | none => rw [hk] at h; cases h
    | some k =>
      rw [hk] at h
      simp only [Tr.upd, hk, upd_self p k r h]
      have he := (List.getElem?_eq_some_iff.1 hk).2
      have hi := (List.getElem?_eq_some_iff.1 hk).1
      rw [← he, List.set_getElem_self]
      exact Tr.eta t
theorem upd_ids {p : List Nat} {t r : Tr} (h : Tr.at? p t = some r) : ∃ l1 l2, t.ids = l1 ++ r.ids ++ l2 ∧ ∀ x, (Tr.upd p t x).ids = l1 ++ x.ids ++ l2 := by
  obtain ⟨l1, l2, h1, h2⟩ := upd_labs p t r h
  refine ⟨l1.map (·.1), l2.map (·.1), ?_, fun x => ?_⟩
  · rw [← Tr.labs_ids, h1, List.map_append, List.map_append, Tr.labs_ids]
  · rw [← Tr.labs_ids, h2, List.map_append, List.map_append, Tr.labs_ids]
theorem at_ids {p : List Nat} {t r : Tr} (h : Tr.at? p t = some r) {x : Int} (hx : x ∈ r.ids) : x ∈ t.ids := by
  obtain ⟨l1, l2, h1, _⟩ := upd_ids h
  rw [h1]; simp [hx]
theorem at_nodup {p : List Nat} {t r : Tr} (h : Tr.at? p t = some r) (hn : t.ids.Nodup) : r.ids.Nodup := by
  obtain ⟨l1, l2, h1, _⟩ := upd_ids h
  rw [h1, List.nodup_append, List.nodup_append] at hn
  exact hn.1.2.1
theorem kid_ids {ks : List Tr} {i : Nat} (hi : i < ks.length) : idsL ks = idsL (ks.take i) ++ (ks[i]).ids ++ idsL (ks.drop (i + 1)) := by
  have h : ks = ks.take i ++ ks[i] :: ks.drop (i + 1) := by rw [← List.drop_eq_getElem_cons hi, List.take_append_drop]
  rw [congrArg idsL h, idsL_append]
  simp [idsL]
theorem kid_apart {ks : List Tr} (hn : (idsL ks).Nodup) {i j : Nat} (hi : i < ks.length) (hj : j < i) {x : Int} (hx : x ∈ (ks[i]).ids) : x ∉ (ks[j]'(by omega)).ids := by
  rw [kid_ids hi, List.append_assoc, List.nodup_append] at hn
  intro h
  refine hn.2.2 x ?_ x (List.mem_append_left _ hx) rfl
  refine mem_idsL (k := ks[j]'(by omega)) ?_ h
  rw [List.mem_iff_getElem]
  exact ⟨j, by simp; omega, by simp⟩
theorem root_apart {t : Tr} (hn : t.ids.Nodup) {x : Int} (hx : x ∈ idsL t.kids) : t.id ≠ x := by
  rw [Tr.ids_eq, List.nodup_cons] at hn
  intro e
  exact hn.1 (by rw [e]; exact hx)
theorem path_comp {id : Int} : ∀ (p : List Nat) (t r : Tr) (q : List Nat), Tr.at? p t = some r → t.ids.Nodup → r.path id = some q → t.path id = some (p ++ q)
  | [], t, r, q, h, _, hq => by simp only [Tr.at?, Option.some.injEq] at h; subst h; exact hq
  | i :: p, t, r, q, h, hn, hq => by
    simp only [Tr.at?] at h
    cases hk : t.kids[i]? with
    | none => rw [hk] at h; cases h
    | some k =>
      rw [hk] at h
      have hi := (List.getElem?_eq_some_iff.1 hk).1
      have he := (List.getElem?_eq_some_iff.1 hk).2
      have hnk : (idsL t.kids).Nodup := by have := hn; rw [Tr.ids_eq, List.nodup_cons] at this; exact this.2
      have hkn : k.ids.Nodup := by rw [kid_ids hi, List.nodup_append, List.nodup_append] at hnk; rw [← he]; exact hnk.1.2.1
      have ih := path_comp p k r q h hkn hq
      have hid : id ∈ k.ids := (Tr.path_iff id k).1 (by rw [ih]; rfl)
      rw [← he] at hid ih
      rw [Tr.path_eq, if_neg (root_apart hn (mem_idsL (List.getElem_mem hi) hid)), pathL_step id t.kids i 0 hi (fun j hj => path_none (kid_apart hnk hi hj hid)), ih]
      simp
theorem out_comp {id : Int} {y r2 : Tr} : ∀ (p : List Nat) (t r : Tr), Tr.at? p t = some r → t.ids.Nodup → r.id ≠ id → r.out id = some (y, r2) → t.out id = some (y, Tr.upd p t r2)
  | [], t, r, h, _, _, hq => by simp only [Tr.at?, Option.some.injEq] at h; subst h; exact hq
  | i :: p, t, r, h, hn, hne, hq => by
    simp only [Tr.at?] at h
    cases hk : t.kids[i]? with
    | none => rw [hk] at h; cases h
    | some k =>
      rw [hk] at h
      have hi := (List.getElem?_eq_some_iff.1 hk).1
      have he := (List.getElem?_eq_some_iff.1 hk).2
      have hnk : (idsL t.kids).Nodup := by have := hn; rw [Tr.ids_eq, List.nodup_cons] at this; exact this.2
      have hkn : k.ids.Nodup := by rw [kid_ids hi, List.nodup_append, List.nodup_append] at hnk; rw [← he]; exact hnk.1.2.1
      have ih := out_comp p k r h hkn hne hq
      have hidr : id ∈ r.ids := by have := Tr.out_perm _ _ _ _ hq; rw [this.1.mem_iff, ← this.2.1]; exact List.mem_append_right _ (id_mem y)
      have hid : id ∈ k.ids := at_ids h hidr
      have hkid : k.id ≠ id := by
        cases p with
        | nil => simp only [Tr.at?, Option.some.injEq] at h; subst h; exact hne
        | cons i' p' =>
          simp only [Tr.at?] at h
          cases hk' : k.kids[i']? with
          | none => rw [hk'] at h; cases h
          | some k' =>
            rw [hk'] at h
            exact root_apart hkn (mem_idsL (List.mem_of_getElem? hk') (at_ids h hidr))
      have hno : ∀ j (hj : j < i), (t.kids[j]'(by omega)).id ≠ id ∧ (t.kids[j]'(by omega)).out id = none := fun j hj => by
        have := kid_apart hnk hi hj (by rw [he]; exact hid)
        exact ⟨fun e => this (by rw [← e]; exact id_mem _), out_none this⟩
      rw [Tr.out_eq, outL_in id y (Tr.upd p k r2) t.kids i hi (by rw [he]; exact hkid) (by rw [he]; exact ih) hno]
      simp only [Tr.upd, hk]
theorem doT_inside {t r y : Tr} {s : Stp} {p : List Nat} {root : Int} (hn : t.ids.Nodup) (hp : t.path root = some p) (hr : Tr.at? p t = some r) (hin : insideB root t s = true) (h : doT t s = .ok y) :
    ∃ r', doT r s = .ok r' ∧ y = Tr.upd p t r' ∧ r'.id = r.id := by
  have hsub : t.subT root = some r := by unfold Tr.subT; rw [hp]; exact hr
  obtain ⟨r0, hr0, hrid⟩ := Tr.path_at root t p hp
  rw [hr] at hr0
  cases hr0
  unfold insideB at hin
  rw [hsub] at hin
  simp only [Bool.and_eq_true, List.all_eq_true, decide_eq_true_eq, Bool.not_eq_true', Bool.and_eq_false_iff, Bool.or_eq_false_iff, decide_eq_false_iff_not] at hin
  obtain ⟨⟨hnot, _⟩, hall⟩ := hin
  have hrn := at_nodup hr hn
  unfold doT at h ⊢
  split at h
  · rename_i ho
    have hpar : s.par ∈ r.ids := hall _ (by unfold touches; rw [if_pos ho]; simp)
    obtain ⟨q, hq⟩ := path_some hpar
    obtain ⟨n, hqn, _⟩ := Tr.path_at _ _ _ hq
    have hpq := path_comp p t r q hr hn hq
    obtain ⟨p', n', hp', hn', hpl, hrange, hfr, rfl⟩ := insertT_ok h
    rw [hpq] at hp'; cases hp'
    rw [at_append, hr] at hn'
    simp only [] at hn'
    rw [hqn] at hn'; cases hn'
    refine ⟨Tr.upd q r { n with kids := insAt n.kids s.place.toNat s.sub }, ?_, upd_append p q t r _ hr, upd_id hqn rfl⟩
    unfold insertT
    rw [if_pos ho, hq]
    simp only [hqn]
    rw [if_pos hpl, if_pos hrange, if_pos ⟨hfr.1, fun i hi hm => hfr.2 i hi (at_ids hr hm)⟩]
  rename_i ho1
  split at h
  · rename_i ho
    have hid : s.id ∈ r.ids := hall _ (by unfold touches; rw [if_neg ho1, if_pos (.inl ho)]; simp)
    have hne : r.id ≠ s.id := by
      rcases hnot with h1 | h1
      · rw [hrid]; exact fun e => h1 e.symm
      · exact absurd ho h1.1
    obtain ⟨q, hq⟩ := path_some hid
    have hout := Tr.path_out s.id r (by rw [hq]; rfl) hne
    obtain ⟨⟨y0, r2⟩, ho2⟩ := Option.isSome_iff_exists.1 hout
    obtain ⟨_, y1, hy1⟩ := deleteT_ok h
    rw [out_comp p t r hr hn hne ho2] at hy1
    cases hy1
    refine ⟨r2, ?_, rfl, (Tr.out_perm _ _ _ _ ho2).2.2⟩
    unfold deleteT
    rw [if_neg ho1, if_pos ho, hq]
    simp only [ho2]
    rw [if_neg hne]
  rename_i ho2
  split at h
  · rename_i ho
    have hid : s.id ∈ r.ids := hall _ (by unfold touches; rw [if_neg ho1, if_neg (by omega), if_pos ho]; simp)
    have hpar : s.par ∈ r.ids := hall _ (by unfold touches; rw [if_neg ho1, if_neg (by omega), if_pos ho]; simp)
    have hne : r.id ≠ s.id := by
      rcases hnot with h1 | h1
      · rw [hrid]; exact fun e => h1 e.symm
      · exact absurd ho h1.2
    obtain ⟨q, hq⟩ := path_some hid
    obtain ⟨x1, hx1, _⟩ := Tr.path_at _ _ _ hq
    obtain ⟨qp, hqp⟩ := path_some hpar
    have hout := Tr.path_out s.id r (by rw [hq]; rfl) hne
    obtain ⟨⟨y0, r2⟩, ho3⟩ := Option.isSome_iff_exists.1 hout
    obtain ⟨_, p0, x0, y1, t2, q2, n2, hp0, hx0, hxp, hout2, hq2, hn2, hpl, rfl⟩ := moveT_ok h
    rw [path_comp p t r q hr hn hq] at hp0; cases hp0
    rw [at_append, hr] at hx0
    simp only [] at hx0
    rw [hx1] at hx0; cases hx0
    rw [out_comp p t r hr hn hne ho3] at hout2; cases hout2
    have hperm := Tr.out_perm _ _ _ _ ho3
    have ht2 := Tr.out_perm _ _ _ _ (out_comp p t r hr hn hne ho3)
    have ht2n : (Tr.upd p t r2).ids.Nodup := by
      have := ht2.1.nodup_iff.1 hn
      rw [List.nodup_append] at this
      exact this.1
    have hpr2 : s.par ∈ r2.ids := by
      rcases List.mem_append.1 (hperm.1.mem_iff.1 hpar) with h1 | h1
      · exact h1
      · exfalso
        obtain ⟨pp, hpp, hat⟩ := Tr.out_path _ _ _ _ ho3 hne
        rw [hq] at hpp; cases hpp
        rw [hx1] at hat; cases hat
        have := (Tr.path_iff s.par x1).2 h1
        rw [hxp] at this; cases this
    obtain ⟨q3, hq3⟩ := path_some hpr2
    obtain ⟨n3, hn3, _⟩ := Tr.path_at _ _ _ hq3
    have hat2 := at_upd p t r r2 hr
    rw [path_comp p _ r2 q3 hat2 ht2n hq3] at hq2; cases hq2
    rw [at_append, hat2] at hn2
    simp only [] at hn2
    rw [hn3] at hn2; cases hn2
    refine ⟨Tr.upd q3 r2 { n2 with kids := insAt n2.kids s.place.toNat y0 }, ?_, ?_, (upd_id (x := { n2 with kids := insAt n2.kids s.place.toNat y0 }) hn3 rfl).trans hperm.2.2⟩
    · unfold moveT
      rw [if_neg ho1, if_neg ho2, if_pos ho, hq, hqp]
      simp only [hx1, hxp, ho3, hq3, hn3]
      rw [if_neg hne, if_pos hpl]
      simp
    · rw [upd_append p q3 _ r2 _ hat2, upd_upd p t r _ _ hr]
  rename_i ho3
  split at h
  · rename_i ho
    have hid : s.id ∈ r.ids := hall _ (by unfold touches; rw [if_neg ho1, if_pos (.inr ho)]; simp)
    obtain ⟨q, hq⟩ := path_some hid
    obtain ⟨n, hqn, _⟩ := Tr.path_at _ _ _ hq
    obtain ⟨p', n', hp', hn', rfl⟩ := textT_ok h
    rw [path_comp p t r q hr hn hq] at hp'; cases hp'
    rw [at_append, hr] at hn'
    simp only [] at hn'
    rw [hqn] at hn'; cases hn'
    refine ⟨Tr.upd q r { n with text := s.text }, ?_, upd_append p q t r _ hr, upd_id hqn rfl⟩
    unfold textT
    rw [if_neg ho1, if_neg ho2, if_neg ho3, if_pos ho, hq]
    simp only [hqn]
  · cases h
end Go.Proofs.Ytofjocjljbkjgaa
namespace Go.Proofs.Ytofjocjljbkjgaa
open Go.RowKit
attribute [local go_sem] Oper.semAt_some
structure WS (w : World) (s : Stp) (As : Option Addr) (cs bV : Nat) (L : List Int) (v : Bool) (W : World) : Prop where
  sb : W.heap[w.heap.size + 1]? = some (.cells #[.int .i8 (Stp.op s), .int .i64 (Stp.id s), .int .i64 (Stp.par s), .int .i64 (Stp.place s), .string (Stp.text s), .int .i64 (Stp.sub s).id, .int .i64 (Stp.sub s).kind, .string (Stp.sub s).text, .slice As (Stp.sub s).kids.length cs] 27 (0, 0))
  mb : W.heap[w.heap.size + 1 + 1 + 1]? = some (.cells #[.map (some (w.heap.size + 1 + 1))] 114 (0, 0))
  mp : MapI W (w.heap.size + 1 + 1) (seenM L)
  vb : W.heap[bV]? = some (.cells #[.bool v] 4 (0, 0))
  lo : w.heap.size + 1 + 1 + 1 < bV
  chg : Chg [] w W
theorem WS.kept {w : World} {s : Stp} {As : Option Addr} {cs bV : Nat} {L : List Int} {v : Bool} {W W' : World} (h : WS w s As cs bV L v W) (hc : Chg [] W W') : WS w s As cs bV L v W' :=
  ⟨hc.at h.sb (by simp), hc.at h.mb (by simp), h.mp.kept hc (by simp), hc.at h.vb (by simp), h.lo, h.chg.trans hc⟩
theorem WS.quiet {w : World} {s : Stp} {As : Option Addr} {cs bV B : Nat} {L : List Int} {v : Bool} {W W' : World} (h : WS w s As cs bV L v W) (hq : Quiet B W W') (hB : bV < B) : WS w s As cs bV L v W' := by
  have hlo := h.lo
  obtain ⟨L', h1, h2⟩ := hq
  have hn : ∀ b, b < B → b ∉ L' := fun b hb hm => by have := (h2 b hm).1; omega
  exact ⟨h1.at h.sb (hn _ (by omega)), h1.at h.mb (hn _ (by omega)), h.mp.kept h1 (hn _ (by omega)), h1.at h.vb (hn _ hB), h.lo, h.chg.andThen h1 (fun i hi => .inr (by have := (h2 i hi).1; omega))⟩
theorem WS.set {w : World} {s : Stp} {As : Option Addr} {cs bV : Nat} {L : List Int} {v : Bool} {W : World} (h : WS w s As cs bV L v W) (u : Bool) : WS w s As cs bV L u (W.setCell ⟨bV, 0, none⟩ (.bool u)) ∧ Chg [bV] W (W.setCell ⟨bV, 0, none⟩ (.bool u)) := by
  have hlo := h.lo
  have hc : Chg [bV] W (W.setCell ⟨bV, 0, none⟩ (.bool u)) := (Chg.refl _ _).setCell _ _ (by simp)
  exact ⟨⟨hc.at h.sb (by simp; omega), hc.at h.mb (by simp; omega), h.mp.kept hc (by simp; omega), heap_setCell_same _ _ 0 _ _ _ h.vb, hlo, h.chg.andThen hc (by simp; omega)⟩, hc⟩
theorem bodyM_ret0 {P : Program} {fn : Func} {R : Ending → World → Prop} {a : Act} {w : World} {v : Value} (hd : a.defers = []) (hr : (results fn a.tmps).run P w = .ok v w) (h : R (.returned v) w) : bodyPostM W0 0 P fn R .ret a w := by
  show LeavesInM W0 0 P fn a.tmps R a.defers .returning w
  rw [hd]
  exact ⟨_, hr, h⟩
theorem step_ret0 {w W : World} {v : Bool} (hc : Chg [] w W) (a : Act) (hd : a.defers = []) (h6 : a.tmps.getD 6 undef = .bool v) : bodyPostM W0 0 Try.prog Try.f61 (fun e w' => e = .returned (.bool v) ∧ Chg [] w w') .ret a W := by
  have h6' : a.tmps[6]?.getD undef = .bool v := by simpa using h6
  refine bodyM_ret0 hd (v := .bool v) ?_ ⟨rfl, hc⟩
  simp [results, Try.results61, go_sem, h6']
theorem step_ret {w W : World} {s : Stp} {As : Option Addr} {cs bV D : Nat} {L : List Int} {v : Bool} (h : WS w s As cs bV L v W) (hD : bV < D) (hK : W.heap[D]? = some (.deferred (some []))) (a : Act) (hd : a.defers = [{ target := .collected D, args := #[] }]) (h6 : a.tmps.getD 6 undef = .bool v) :
    bodyPostM W0 0 Try.prog Try.f61 (fun e w' => e = .returned (.bool v) ∧ Chg [] w w') .ret a W := by
  have hlo := h.lo
  have hP : Chg [D] W (W.putObj D (.deferred none)) := ⟨rfl, rfl, rfl, by simp, fun j _ hj => World.putObj_heap_other (by simpa using hj)⟩
  have h6' : a.tmps[6]?.getD undef = .bool v := by simpa using h6
  refine bodyM_ret hd hK (v := .bool v) ?_ ⟨rfl, h.chg.andThen hP (fun j hj => .inr (by simp at hj; omega))⟩
  simp [results, Try.results61, go_sem, h6']
set_option maxHeartbeats 4000000 in
set_option maxRecDepth 100000 in
theorem wstep_any (t : Tr) (A : Option Addr) (c : Nat) (root : Int) (s : Stp) (As : Option Addr) (cs : Nat) (w : World) (hT : TrC (fun b => b < w.heap.size) w t [.int .i64 (Tr.id t), .int .i64 (Tr.kind t), .string (Tr.text t), .slice A (Tr.kids t).length c]) :
    Calls Try.prog 61 #[.agg #[.int .i64 (Tr.id t), .int .i64 (Tr.kind t), .string (Tr.text t), .slice A (Tr.kids t).length c], .int .i64 root, .agg #[.int .i8 (Stp.op s), .int .i64 (Stp.id s), .int .i64 (Stp.par s), .int .i64 (Stp.place s), .string (Stp.text s), .int .i64 (Stp.sub s).id, .int .i64 (Stp.sub s).kind, .string (Stp.sub s).text, .slice As (Stp.sub s).kids.length cs]] w fun e w' => e = .returned (.bool (insideB root t s)) ∧ Chg [] w w' := by
  have hmm := @run_makeMap Try.prog
  obtain ⟨W, hW⟩ : ∃ W, W = (((w.alloc (.cells #[.int .i64 (Tr.id t), .int .i64 (Tr.kind t), .string (Tr.text t), .slice A (Tr.kids t).length c] 24)).alloc (.cells #[.int .i8 (Stp.op s), .int .i64 (Stp.id s), .int .i64 (Stp.par s), .int .i64 (Stp.place s), .string (Stp.text s), .int .i64 (Stp.sub s).id, .int .i64 (Stp.sub s).kind, .string (Stp.sub s).text, .slice As (Stp.sub s).kids.length cs] 27)).alloc (.map #[] 0)).alloc (.cells #[.map (some (w.heap.size + 1 + 1))] 114) := ⟨_, rfl⟩
  have hcW : Chg [] w W := by rw [hW]; exact (by with_reducible repeat (first | exact Chg.refl _ _ | apply Chg.alloc | apply Chg.drew | apply Chg.drewN | (refine Chg.setCell ?_ _ _ (by simp))))
  have b0 : W.heap[w.heap.size]? = some (.cells #[.int .i64 (Tr.id t), .int .i64 (Tr.kind t), .string (Tr.text t), .slice A (Tr.kids t).length c] 24 (0, 0)) := by rw [hW]; exact heap_old (heap_old (heap_old (heap_new _ _ rfl) _) _) _
  have b1 : W.heap[w.heap.size + 1]? = some (.cells #[.int .i8 (Stp.op s), .int .i64 (Stp.id s), .int .i64 (Stp.par s), .int .i64 (Stp.place s), .string (Stp.text s), .int .i64 (Stp.sub s).id, .int .i64 (Stp.sub s).kind, .string (Stp.sub s).text, .slice As (Stp.sub s).kids.length cs] 27 (0, 0)) := by rw [hW]; exact heap_old (heap_old (heap_new _ _ (by simp)) _) _
  have b3 : W.heap[w.heap.size + 1 + 1 + 1]? = some (.cells #[.map (some (w.heap.size + 1 + 1))] 114 (0, 0)) := by rw [hW]; exact heap_new _ _ (by simp)
  have hM : MapI W (w.heap.size + 1 + 1) (seenM []) := by
    have h1 := MapI.made ((w.alloc (.cells #[.int .i64 (Tr.id t), .int .i64 (Tr.kind t), .string (Tr.text t), .slice A (Tr.kids t).length c] 24)).alloc (.cells #[.int .i8 (Stp.op s), .int .i64 (Stp.id s), .int .i64 (Stp.par s), .int .i64 (Stp.place s), .string (Stp.text s), .int .i64 (Stp.sub s).id, .int .i64 (Stp.sub s).kind, .string (Stp.sub s).text, .slice As (Stp.sub s).kids.length cs] 27))
    rw [show (fun _ => none : Int → Option Value) = seenM [] from by funext n; simp [seenM], show ((w.alloc (.cells #[.int .i64 (Tr.id t), .int .i64 (Tr.kind t), .string (Tr.text t), .slice A (Tr.kids t).length c] 24)).alloc (.cells #[.int .i8 (Stp.op s), .int .i64 (Stp.id s), .int .i64 (Stp.par s), .int .i64 (Stp.place s), .string (Stp.text s), .int .i64 (Stp.sub s).id, .int .i64 (Stp.sub s).kind, .string (Stp.sub s).text, .slice As (Stp.sub s).kids.length cs] 27)).heap.size = w.heap.size + 1 + 1 from by simp] at h1
    rw [hW]; exact h1.kept (l := []) (by with_reducible repeat (first | exact Chg.refl _ _ | apply Chg.alloc | apply Chg.drew | apply Chg.drewN | (refine Chg.setCell ?_ _ _ (by simp)))) (by simp)
  have hbl := below_any (w.heap.size + 1 + 1) root t w.heap.size 0 false [] W ⟨_, range_all b0, (hT.kept hcW (by simp)).weak (fun b hb _ => by omega)⟩ (by omega) hM
  have m3 := cellOne b3
  have HW := Lib.hid (And.intro hW (And.intro hcW (And.intro b1 (And.intro b3 hbl))))
  rw [hW] at m3
  clear hW hcW b0 b1 b3 hM hbl hT
  refine callsIn_wide.1 (callsIn_of_wp_marks (n := 0) Try.func61 rfl trivial (wpIn_wide.2 ?_))
  simp only [Try.ntmps61, List.size_toArray, List.length_cons, List.length_nil, Nat.reduceAdd, Nat.reduceSub, Array.replicate_succ, Array.replicate_zero, List.push_toArray, List.append_toArray, List.nil_append, List.cons_append]
  go_wp2_with fail
  go_step3
  go_wp2_with fail
  rw [← HW.out.1]
  clear m3
  refine HW.out.2.2.2.2.mono ?_
  rintro e X ⟨rfl, hmX, hcX⟩
  rw [List.nil_append] at hmX
  rw [Bool.false_or]
  have hwX : Chg [] w X := HW.out.2.1.andThen hcX (by simp; omega)
  have x1 := hcX.at HW.out.2.2.1 (by simp)
  have x3 := hcX.at HW.out.2.2.2.1 (by simp)
  have hlo := lt_of_block x3
  have hXs : X.heap.size ≠ 0 := by omega
  by_cases hr : root ∈ t.ids
  · obtain ⟨x, hx, _⟩ := subT_some hr
    have hin : insideB root t s = (!(decide (s.id = root) && (decide (s.op = 2) || decide (s.op = 3))) && !(touches s).isEmpty && (touches s).all (fun i => decide (i ∈ x.ids))) := by unfold insideB; rw [hx]
    have hmk : marked root false t = x.ids := by unfold marked; rw [hx]; rfl
    rw [hmk] at hmX
    rw [decide_eq_true hr]
    have hXV : Chg [] X (X.alloc (.cells #[.bool true] 4)) := (by with_reducible repeat (first | exact Chg.refl _ _ | apply Chg.alloc | apply Chg.drew | apply Chg.drewN | (refine Chg.setCell ?_ _ _ (by simp))))
    obtain ⟨q0, q1, q2, q3, q4, q5, q6, q7, q8⟩ := blk9 (hXV.at x1 (by simp))
    have HX := Lib.hid (And.intro hin (And.intro hmX (And.intro hwX (And.intro x1 x3))))
    clear hr hx hin hmk hmX hcX hwX x1 x3
    go_upto_region 3 with (skip; fail)
    go_cut [31] from 14 to 31 (fun v wx => wx = X.alloc (.cells #[.bool true] 4) ∧ v = .bool (decide (s.id = root) && (decide (s.op = 2) || decide (s.op = 3))))
    case first =>
      by_cases h1 : s.id = root
      · have d1 : (s.id == root) = true := by simpa using h1
        by_cases h2 : s.op = 2
        · have d2 : (s.op == 2) = true := by simpa using h2
          have HE := Lib.hid (show (decide (s.id = root) && (decide (s.op = 2) || decide (s.op = 3))) = true by simp [h1, h2])
          clear h1 h2
          go_wp2_with (skip; fail)
          go_meet
          exact ⟨rfl, by rw [HE.out]⟩
        · have d2 : (s.op == 2) = false := by simpa using h2
          by_cases h3 : s.op = 3
          · have d3 : (s.op == 3) = true := by simpa using h3
            have HE := Lib.hid (show (decide (s.id = root) && (decide (s.op = 2) || decide (s.op = 3))) = true by simp [h1, h3])
            clear h1 h2 h3
            go_wp2_with (skip; fail)
            go_meet
            exact ⟨rfl, by rw [HE.out]⟩
          · have d3 : (s.op == 3) = false := by simpa using h3
            have HE := Lib.hid (show (decide (s.id = root) && (decide (s.op = 2) || decide (s.op = 3))) = false by simp [h2, h3])
            clear h1 h2 h3
            go_wp2_with (skip; fail)
            go_meet
            exact ⟨rfl, by rw [HE.out]⟩
      · have d1 : (s.id == root) = false := by simpa using h1
        have HE := Lib.hid (show (decide (s.id = root) && (decide (s.op = 2) || decide (s.op = 3))) = false by simp [h1])
        clear h1
        go_wp2_with (skip; fail)
        go_meet
        exact ⟨rfl, by rw [HE.out]⟩
    case rest =>
    obtain ⟨rfl, rfl⟩ := hcut
    cases hb : (decide (s.id = root) && (decide (s.op = 2) || decide (s.op = 3))) with
    | true =>
      have HB := Lib.hid hb
      clear hb
      go_wp2_with (skip; fail)
      rw [Exit.noGoto_ret]
      show bodyPostM W0 0 Try.prog Try.f61 (fun e w' => e = .returned (.bool (insideB root t s)) ∧ Chg [] w w') .ret _ _
      rw [show insideB root t s = false from by rw [HX.out.1, HB.out]; rfl]
      exact step_ret0 (HX.out.2.2.1.alloc _) _ rfl rfl
    | false =>
      have HB := Lib.hid hb
      obtain ⟨Y, hY⟩ : ∃ Y, Y = X.alloc (.cells #[.bool false] 4) := ⟨_, rfl⟩
      have hXY : Chg [] X Y := by rw [hY]; exact (by with_reducible repeat (first | exact Chg.refl _ _ | apply Chg.alloc | apply Chg.drew | apply Chg.drewN | (refine Chg.setCell ?_ _ _ (by simp))))
      have hS : WS w s As cs X.heap.size x.ids false Y := ⟨hXY.at HX.out.2.2.2.1 (by simp), hXY.at HX.out.2.2.2.2 (by simp), HX.out.2.1.kept hXY (by simp), by rw [hY]; exact heap_new _ _ rfl, by omega, HX.out.2.2.1.trans hXY⟩
      obtain ⟨p0, p1, p2, p3, p4, p5, p6, p7, p8⟩ := blk9 hS.sb
      have HY := Lib.hid (And.intro hS (And.intro (show Y.heap.size = X.heap.size + 1 by rw [hY]; simp) hY))
      rw [hY] at p0 p1 p2 p3 p4 p5 p6 p7 p8
      clear hb hY hXY hS q0 q1 q2 q3 q4 q5 q6 q7 q8
      go_wp2_with (skip; fail)
      go_step3
      go_wp2_with fail
      rw [← HY.out.2.2]
      clear p0 p1 p2 p3 p4 p5 p6 p7 p8
      refine (touch_any s As cs Y).mono ?_
      rintro e Z ⟨rfl, hZb, hYZ⟩
      have HZ := Lib.hid (And.intro (HY.out.1.kept hYZ) (And.intro hZb (show X.heap.size < Y.heap.size by have := HY.out.2.1; omega)))
      have hYl := lt_of_block hZb
      clear hZb hYZ
      go_wp2_with fail
      refine wp_range (gf := 138) (lb := #[.pointer (some ⟨Y.heap.size, 0, none⟩)]) rfl (enters_of Try.func138 (by kernel_rfl) rfl) (touch_iter Y.heap.size s As cs) (fun l i x args W h => by rw [show args = #[.int .i64 x] from h]; rfl)
        (fun i W => WS w s As cs X.heap.size x.ids (decide (0 < i)) W ∧ StI Y.heap.size s As cs W ∧ ∀ (j : Nat) (y : Int), j < i → (touches s)[j]? = some y → y ∈ x.ids)
        (fun c W => c = .exit 0 ∧ WS w s As cs X.heap.size x.ids false W ∧ ∃ (j : Nat) (y : Int), (touches s)[j]? = some y ∧ y ∉ x.ids)
        (fun i W h => h.2.1) (fun i W W' h hq => ⟨h.1.quiet hq (by have := HZ.out.2.2; omega), hq.low h.2.1 hYl, h.2.2⟩) (fun c W W' h hq => ⟨h.1, h.2.1.quiet hq (by have := HZ.out.2.2; omega), h.2.2⟩)
        ⟨HZ.out.1, HZ.out.2.1, fun j y hj => by omega⟩ ?round ?done ?stop
      case round =>
        rintro l i y args W2 ⟨hS, hI, hall⟩ hy rfl hl hlB
        have H1 := Lib.hid (And.intro hS (And.intro hI (And.intro hall hy)))
        clear hS hI hall hy hl hlB
        gi_wp2
        refine ⟨Books.refl _ _, fun W3 hc3 hq3 => ?_⟩
        have hZX := HZ.out.2.2
        have hS3 := H1.out.1.quiet hq3 (by omega)
        have hI3 : StI Y.heap.size s As cs W3 := hq3.low H1.out.2.1 hYl
        have c7 := cellOne hS3.mb
        have c8 := cellOne hS3.vb
        have f8 := blkF hS3.vb 0
        obtain ⟨hS4, hcS⟩ := hS3.set (decide (y ∈ x.ids))
        have hlk := lookup_run (P := Try.prog) (T := 114) Try.underlying114 Try.underlying3 (zeroB W3) hS3.mp y false
        have hBk : Books Z.heap.size W3 (W3.setCell ⟨X.heap.size, 0, none⟩ (.bool (decide (y ∈ x.ids)))) := Books.of_chg hcS (by simp; omega)
        have hI4 : StI Y.heap.size s As cs (W3.setCell ⟨X.heap.size, 0, none⟩ (.bool (decide (y ∈ x.ids)))) := hcS.at hI3 (by simp; omega)
        by_cases hin : y ∈ x.ids
        · rw [show seenM x.ids y = some (.bool true) from by simp [seenM, hin]] at hlk
          simp only [Option.getD_some, Bool.false_eq_true, if_false] at hlk
          rw [decide_eq_true hin] at hS4 hBk hI4
          have H2 := Lib.hid (And.intro hS4 (And.intro hBk (And.intro hI4 hin)))
          clear hS3 hI3 hS4 hcS hBk hI4 hin hc3 hq3
          gi_wp2
          refine ⟨H2.out.2.1, ?_, H2.out.2.2.1, fun j z hj hz => ?_⟩
          · rw [decide_eq_true (by omega)]; exact H2.out.1
          · by_cases e : j = i
            · subst e
              rw [H1.out.2.2.2] at hz; cases hz
              exact H2.out.2.2.2
            · exact H1.out.2.2.1 j z (by omega) hz
        · rw [show seenM x.ids y = none from by simp [seenM, hin]] at hlk
          simp only [Option.getD_none, Bool.false_eq_true, if_false] at hlk
          rw [decide_eq_false hin] at hS4 hBk hI4
          have H2 := Lib.hid (And.intro hS4 (And.intro hBk hin))
          clear hS3 hI3 hS4 hcS hBk hI4 hin hc3 hq3
          gi_wp2
          exact ⟨H2.out.2.1, rfl, H2.out.1, i, y, H1.out.2.2.2, H2.out.2.2⟩
      case done =>
        rintro D W2 hD ⟨hS, hI, hall⟩ hK
        have hZX := HZ.out.2.2
        have c8 := cellOne hS.vb
        have H1 := Lib.hid (And.intro hS (And.intro hall hK))
        clear hS hI hall hK
        have hZs := lt_of_block HZ.out.1.vb
        go_wp2
        rw [Exit.noGoto_ret]
        show bodyPostM W0 0 Try.prog Try.f61 (fun e w' => e = .returned (.bool (insideB root t s)) ∧ Chg [] w w') .ret _ _
        have hv : insideB root t s = decide (0 < (touches s).length) := by
          rw [HX.out.1, HB.out]
          cases ht : touches s with
          | nil => rfl
          | cons a l =>
            simp only [Bool.not_false, List.isEmpty_cons, Bool.true_and, List.length_cons]
            rw [decide_eq_true (by omega), List.all_eq_true.2]
            intro z hz
            obtain ⟨j, hj, rfl⟩ := List.getElem_of_mem hz
            have := H1.out.2.1 j ((a :: l)[j]) (by rw [ht]; exact hj) (by rw [ht]; exact List.getElem?_eq_getElem hj)
            simpa using this
        rw [hv]
        exact step_ret H1.out.1 (by omega) H1.out.2.2 _ rfl rfl
      case stop =>
        rintro D c W2 hD ⟨rfl, hS, hno⟩ hK
        have hZX := HZ.out.2.2
        have c8 := cellOne hS.vb
        have H1 := Lib.hid (And.intro hS (And.intro hno hK))
        clear hS hno hK
        have hZs := lt_of_block HZ.out.1.vb
        go_wp2
        rw [Exit.noGoto_ret]
        show bodyPostM W0 0 Try.prog Try.f61 (fun e w' => e = .returned (.bool (insideB root t s)) ∧ Chg [] w w') .ret _ _
        have hv : insideB root t s = false := by
          obtain ⟨j, y, hj, hy⟩ := H1.out.2.1
          rw [HX.out.1, HB.out, List.all_eq_false.2 ⟨y, List.mem_of_getElem? hj, by simpa using hy⟩]
          simp
        rw [hv]
        exact step_ret H1.out.1 (by omega) H1.out.2.2 _ rfl rfl
  · have hin : insideB root t s = false := by unfold insideB; rw [subT_none hr]
    rw [decide_eq_false hr]
    have HX := Lib.hid (And.intro hin hwX)
    clear hr hin hmX hcX hwX x1 x3
    go_wp2_with (skip; fail)
    rw [Exit.noGoto_ret]
    show bodyPostM W0 0 Try.prog Try.f61 (fun e w' => e = .returned (.bool (insideB root t s)) ∧ Chg [] w w') .ret _ _
    rw [HX.out.1]
    exact step_ret0 (HX.out.2.alloc _) _ rfl rfl
end Go.Proofs.Ytofjocjljbkjgaa
namespace Go.Proofs.Ytofjocjljbkjgaa
open Go.RowKit
def Kd.Small (k : Kd) : Prop := k.name.size ≤ 200 ∧ k.slots.length ≤ 20 ∧ ∀ (j : Nat) (s : Sl), k.slots[j]? = some s → s.kinds.length ≤ 40
def Gr.Small (g : Gr) : Prop := g.kinds.length ≤ 40 ∧ ∀ (i : Nat) (k : Kd), g.kinds[i]? = some k → k.Small
set_option maxHeartbeats 16000000 in
set_option maxRecDepth 100000 in
theorem great5_any (g : Gr) (A : Option Addr) (c : Nat) (w : World) (hG : GrC w A c g.kinds) :
    Calls Try.prog 21 #[.agg #[.slice A g.kinds.length c, .int .i64 g.root]] w (BoolIs (¬ g.Small) w) := by
  obtain ⟨W1, hW1⟩ : ∃ W1, W1 = w.alloc (.cells #[.slice A g.kinds.length c, .int .i64 g.root] 43) := ⟨_, rfl⟩
  have hch : Chg [] w W1 := by rw [hW1]; exact (by with_reducible repeat (first | exact Chg.refl _ _ | apply Chg.alloc | apply Chg.drew | apply Chg.drewN | (refine Chg.setCell ?_ _ _ (by simp))))
  have hg1 : W1.heap[w.heap.size]? = some (.cells #[.slice A g.kinds.length c, .int .i64 g.root] 43 (0, 0)) := by rw [hW1]; exact heap_new _ _ rfl
  have hgl : g.kinds.length ≤ 9223372036854775807 := by have := hG.cap; have := hG.big; omega
  have HC := Lib.hid (And.intro hch (And.intro hg1 (And.intro hW1 (hG.kept hch))))
  obtain ⟨a0, a1⟩ := cell2 hg1
  rw [hW1] at a0 a1
  clear hG hch hg1 hW1
  go_enter Try.func21, Try.ntmps21
  by_cases h40 : 40 < g.kinds.length
  · have d1 : decide (40 < (g.kinds.length : Int)) = true := decide_eq_true (by omega)
    have d1' : decide (40 < g.kinds.length) = true := decide_eq_true h40
    have HN := Lib.hid (show ¬ g.Small from fun h => by have := h.1; omega)
    go_wp2_with (skip; fail)
    go_ret
    exact ⟨true, rfl, by simp [HN.out], (by with_reducible repeat (first | exact Chg.refl _ _ | apply Chg.alloc | apply Chg.drew | apply Chg.drewN | (refine Chg.setCell ?_ _ _ (by simp))))⟩
  have d1 : decide (40 < (g.kinds.length : Int)) = false := decide_eq_false (by omega)
  have d1' : decide (40 < g.kinds.length) = false := decide_eq_false h40
  go_wp2_with (skip; fail)
  clear d1 d1' a0 a1
  rw [← HC.out.2.2.1]
  go_loopw [12] (fun iv wr => ∃ i : Nat, i ≤ g.kinds.length ∧ iv = .int .i64 i ∧ Hid (Chg [] W1 wr ∧ ∀ (j : Nat) (k : Kd), j < i → g.kinds[j]? = some k → k.Small)) (fun iv _ => g.kinds.length - (intOf iv).toNat)
  case atStart => exact ⟨0, Nat.zero_le _, rfl, Lib.hid ⟨Chg.refl _ _, fun j k hj => by omega⟩⟩
  case round =>
    obtain ⟨i, hi, rfl, H⟩ := hrel
    obtain ⟨V, hV⟩ : ∃ V, V = wr := ⟨_, rfl⟩
    subst hV
    obtain ⟨a0, a1⟩ := cell2 (H.out.1.at HC.out.2.1 (by simp))
    by_cases hlt : i < g.kinds.length
    · obtain ⟨gk, ok, hA, _, hat⟩ := (HC.out.2.2.2.kept H.out.1).row.at hlt
      obtain ⟨k, hk⟩ : ∃ k, k = g.kinds[i] := ⟨_, rfl⟩
      rw [← hk] at hat
      have hke : g.kinds[i]? = some k := by rw [hk]; exact List.getElem?_eq_getElem hlt
      obtain ⟨As, cs, hr, hnm, hsl, hrs⟩ := hat.range
      subst hA
      have e0 : V.cell? ⟨gk, ok + i * 3, none⟩ = some (.string k.name) := hr 0 _ rfl
      have e2 : V.cell? ⟨gk, ok + i * 3 + 2, none⟩ = some (.slice As k.slots.length cs) := hr 2 _ rfl
      have HK := Lib.hid (And.intro hke (And.intro hrs (And.intro e2 HC.out.2.1)))
      clear hk hat hke hr hrs
      by_cases h200 : 200 < k.name.size
      · have d1 : decide (200 < (k.name.size : Int)) = true := decide_eq_true (by omega)
        have d1' : decide (200 < k.name.size) = true := decide_eq_true h200
        have HN := Lib.hid (show ¬ g.Small from fun h => by have := (h.2 i k HK.out.1).1; omega)
        go_wp2_with (skip; fail)
        go_ret
        exact ⟨true, rfl, by simp [HN.out], HC.out.1.trans H.out.1⟩
      have d1 : decide (200 < (k.name.size : Int)) = false := decide_eq_false (by omega)
      have d1' : decide (200 < k.name.size) = false := decide_eq_false h200
      by_cases h20 : 20 < k.slots.length
      · have d2 : decide (20 < (k.slots.length : Int)) = true := decide_eq_true (by omega)
        have d2' : decide (20 < k.slots.length) = true := decide_eq_true h20
        have HN := Lib.hid (show ¬ g.Small from fun h => by have := (h.2 i k HK.out.1).2.1; omega)
        go_wp2_with (skip; fail)
        go_ret
        exact ⟨true, rfl, by simp [HN.out], HC.out.1.trans H.out.1⟩
      have d2 : decide (20 < (k.slots.length : Int)) = false := decide_eq_false (by omega)
      have d2' : decide (20 < k.slots.length) = false := decide_eq_false h20
      go_wp2_with (skip; fail)
      clear d1 d1' d2 d2' e0
      go_loopw [40] (fun iv wq => ∃ j : Nat, j ≤ k.slots.length ∧ iv = .int .i64 j ∧ Hid (Chg [] V wq ∧ ∀ (l : Nat) (s : Sl), l < j → k.slots[l]? = some s → s.kinds.length ≤ 40)) (fun iv _ => k.slots.length - (intOf iv).toNat)
      case atStart => exact ⟨0, Nat.zero_le _, rfl, Lib.hid ⟨Chg.refl _ _, fun j k hj => by omega⟩⟩
      case round =>
        obtain ⟨j, hj, rfl, HJ⟩ := hrel
        obtain ⟨U, hU⟩ : ∃ U, U = wr := ⟨_, rfl⟩
        subst hU
        clear a0 a1 e2
        obtain ⟨a0, a1⟩ := cell2 (HJ.out.1.at (H.out.1.at HC.out.2.1 (by simp)) (by simp))
        have e2 := HJ.out.1.cell HK.out.2.2.1 (by simp)
        by_cases hjl : j < k.slots.length
        · obtain ⟨gs, os, hA, _, hat⟩ := (HK.out.2.1.imp HJ.out.1.size fun _ _ _ => SlAt.kept HJ.out.1).at hjl
          obtain ⟨s, hs⟩ : ∃ s, s = k.slots[j] := ⟨_, rfl⟩
          rw [← hs] at hat
          have hse : k.slots[j]? = some s := by rw [hs]; exact List.getElem?_eq_getElem hjl
          obtain ⟨Ai, ci, hri, hci, hcm, hrw⟩ := hat.range
          subst hA
          have f0 : U.cell? ⟨gs, os + j * 3, none⟩ = some (.slice Ai s.kinds.length ci) := hri 0 _ rfl
          have HS := Lib.hid hse
          have hsl2 : s.kinds.length ≤ 9223372036854775807 := by omega
          clear hs hat hri hrw hse
          by_cases h3 : 40 < s.kinds.length
          · have d1 : decide (40 < (s.kinds.length : Int)) = true := decide_eq_true (by omega)
            have d1' : decide (40 < s.kinds.length) = true := decide_eq_true h3
            have HN := Lib.hid (show ¬ g.Small from fun h => by have := (h.2 i k HK.out.1).2.2 j s HS.out; omega)
            go_wp2_with (skip; fail)
            go_ret
            exact ⟨true, rfl, by simp [HN.out], (HC.out.1.trans H.out.1).trans HJ.out.1⟩
          have d1 : decide (40 < (s.kinds.length : Int)) = false := decide_eq_false (by omega)
          have d1' : decide (40 < s.kinds.length) = false := decide_eq_false h3
          go_wp2_with (skip; fail)
          go_roundw
          case rel =>
            refine ⟨j + 1, by omega, by go_num, Lib.hid ⟨HJ.out.1, fun l s' hl hs' => ?_⟩⟩
            by_cases e : l = j
            · subst e; rw [HS.out] at hs'; cases hs'; omega
            · exact HJ.out.2 l s' (by omega) hs'
          case measure => simp [intOf]; omega
        · obtain rfl : j = k.slots.length := by omega
          have HKS : Hid (k.Small) := Lib.hid ⟨by omega, by omega, fun l s hs => HJ.out.2 l s (List.getElem?_eq_some_iff.1 hs).1 hs⟩
          go_wp2_with (skip; fail)
          go_wp2_with (skip; fail)
          go_roundw
          case rel =>
            refine ⟨i + 1, by omega, by go_num, Lib.hid ⟨H.out.1.trans HJ.out.1, fun l k' hl hk' => ?_⟩⟩
            by_cases e : l = i
            · subst e; rw [HK.out.1] at hk'; cases hk'; exact HKS.out
            · exact H.out.2 l k' (by omega) hk'
          case measure => simp [intOf]; omega
    · obtain rfl : i = g.kinds.length := by omega
      have HN := Lib.hid (show g.Small from ⟨by omega, fun j k hk => H.out.2 j k (List.getElem?_eq_some_iff.1 hk).1 hk⟩)
      go_wp2_with (skip; fail)
      go_wp2_with (skip; fail)
      go_ret
      exact ⟨false, rfl, by simp [HN.out], HC.out.1.trans H.out.1⟩
end Go.Proofs.Ytofjocjljbkjgaa
namespace Go.Proofs.Ytofjocjljbkjgaa
open Go.RowKit
def nodesS (l : List Stp) : Nat := (l.map fun s => s.sub.nodes).sum
theorem nodesS_take (l : List Stp) (k : Nat) (h : k < l.length) : nodesS (l.take (k + 1)) = nodesS (l.take k) + (l[k]).sub.nodes := by
  unfold nodesS; rw [take_snoc' l k h, List.map_append, List.sum_append]; simp
def SmallS (ss : List Stp) : Prop := ss.length ≤ 70 ∧ (∀ s ∈ ss, s.sub.nodes ≤ 250) ∧ nodesS ss ≤ 300
def GreatSt (ss : List Stp) (w : World) (e : Ending) (w' : World) : Prop := ∃ r : Bool, e = .returned (.bool r) ∧ (r = false → SmallS ss) ∧ Chg [] w w'
set_option maxHeartbeats 4000000 in
set_option maxRecDepth 100000 in
theorem greatS_any (ss : List Stp) (B : Option Addr) (d : Nat) (w : World) (hS : StpsC (fun b => b < w.heap.size) w B ss) (hl : ss.length ≤ 9223372036854775807) : Calls Try.prog 22 #[.slice B ss.length d] w (GreatSt ss w) := by
  have HH := Lib.hid hS
  clear hS
  go_enter Try.func22, Try.ntmps22
  by_cases h70 : 70 < ss.length
  · have d1 : decide (70 < (ss.length : Int)) = true := decide_eq_true (by omega)
    have d1' : decide (70 < ss.length) = true := decide_eq_true h70
    clear h70
    go_wp2_with (skip; fail)
    go_ret
    exact ⟨true, rfl, (fun h => by cases h), Chg.refl _ _⟩
  have d1 : decide (70 < (ss.length : Int)) = false := decide_eq_false (by omega)
  have d1' : decide (70 < ss.length) = false := decide_eq_false h70
  go_wp2_with (skip; fail)
  clear d1 d1'
  go_loopw [3, 4, 11] (fun nv tv iv wr => ∃ (k : Nat) (T : Int), k ≤ ss.length ∧ iv = .int .i64 k ∧ tv = .int .i64 T ∧ 0 ≤ T ∧ T ≤ 20000 ∧ nv = .int .i64 (nodesS (ss.take k)) ∧ nodesS (ss.take k) ≤ 300 ∧ Hid (Chg [] w wr ∧ ∀ s ∈ ss.take k, s.sub.nodes ≤ 250)) (fun _ _ iv _ => ss.length - (intOf iv).toNat)
  case atStart => exact ⟨0, 0, Nat.zero_le _, rfl, rfl, by omega, by omega, rfl, by simp [nodesS], Lib.hid ⟨Chg.refl _ _, by simp⟩⟩
  case round =>
    obtain ⟨k, T, hk, rfl, rfl, hT0, hT1, rfl, hN, H⟩ := hrel
    obtain ⟨V, hV⟩ : ∃ V, V = wr := ⟨_, rfl⟩
    subst hV
    by_cases hlt : k < ss.length
    · obtain ⟨g, o, A, c, rfl, _, hr, hTr, htx, _⟩ := (HH.out.next H.out.1).at hlt
      obtain ⟨s, hs⟩ : ∃ s, s = ss[k] := ⟨_, rfl⟩
      rw [← hs] at hr hTr htx
      have hsum := nodesS_take ss k hlt
      rw [← hs] at hsum
      have hmem : ss.take (k + 1) = ss.take k ++ [s] := by rw [take_snoc' ss k hlt, hs]
      have r4 : V.cell? ⟨g, o + k * 9 + 4, none⟩ = some (.string s.text) := hr 4 _ rfl
      have hr5 : V.rangeAt g (o + k * 9 + 5) [.int .i64 (Tr.id (Stp.sub s)), .int .i64 (Tr.kind (Stp.sub s)), .string (Tr.text (Stp.sub s)), .slice A (Tr.kids (Stp.sub s)).length c] := range_drop hr 5
      have hgr := great_t s.sub A c V hTr
      have HC := Lib.hid (And.intro hgr (And.intro hr5 (And.intro hTr (And.intro hsum hmem))))
      clear hgr hr5 hTr hsum hmem hr hs
      go_wp2_with (first
        | (refine wpList_load_mid rfl 24 (.tmp 17) rfl g (o + k * 9 + 5) (by kernel_rfl) _ _ HC.out.2.1 Try.underlying24 rfl (by kernel_rfl) ?_
           ((try dsimp only); (try simp only [Act.put, List.setIfInBounds_toArray, List.set_cons_zero, List.set_cons_succ])))
        | (skip; fail))
      refine HC.out.1.mono ?_
      rintro e X ⟨r, rfl, hr, hX⟩
      have HX := Lib.hid (And.intro hr hX)
      have r4 := hX.cell r4 (by simp)
      clear hr hX
      cases r with
      | true =>
        go_wp2_with (skip; fail)
        go_ret
        exact ⟨true, rfl, (fun h => by cases h), H.out.1.trans HX.out.2⟩
      | false =>
        have HN := Lib.hid (HX.out.1 rfl)
        by_cases hb : 20000 - T < (s.text.size : Int)
        · have hbb : decide (20000 - T < (s.text.size : Int)) = true := by simpa using hb
          go_wp2_with (skip; fail)
          go_ret
          exact ⟨true, rfl, (fun h => by cases h), H.out.1.trans HX.out.2⟩
        · have hbb : decide (20000 - T < (s.text.size : Int)) = false := by simpa using hb
          have hwk := walkT_any X.heap.size 251 (by omega) s.sub A c X (HC.out.2.2.1.next HX.out.2) (Nat.le_refl _)
          have hr5 := HX.out.2.range HC.out.2.1 (by simp)
          have HW := Lib.hid (And.intro hwk hr5)
          clear hwk hr5
          go_wp2_with (first
            | (refine wpList_load_mid rfl 24 (.tmp 43) rfl g (o + k * 9 + 5) (by kernel_rfl) _ _ HW.out.2 Try.underlying24 rfl (by kernel_rfl) ?_
               ((try dsimp only); (try simp only [Act.put, List.setIfInBounds_toArray, List.set_cons_zero, List.set_cons_succ])))
            | (skip; fail))
          refine HW.out.1.mono ?_
          rintro e Y ⟨v, rfl, hR, hY⟩
          obtain ⟨A', c', rfl⟩ := hR.slice
          have hlen : ((s.sub.walk 1).take 251).length = s.sub.nodes := by rw [List.length_take, Tr.walk_length]; have := HN.out; omega
          rw [hlen]
          have hn := HN.out
          have HY := Lib.hid hY
          have hsum := HC.out.2.2.2.1
          clear hR hlen hY
          by_cases h3 : 300 < nodesS (ss.take k) + s.sub.nodes
          · have d1 : decide (300 < (nodesS (ss.take k) : Int) + (s.sub.nodes : Int)) = true := decide_eq_true (by omega)
            have d2 : decide (300 < nodesS (ss.take k) + s.sub.nodes) = true := decide_eq_true h3
            clear hsum
            go_wp2_with (skip; fail)
            go_ret
            exact ⟨true, rfl, (fun h => by cases h), (H.out.1.trans HX.out.2).trans HY.out⟩
          · have d1 : decide (300 < (nodesS (ss.take k) : Int) + (s.sub.nodes : Int)) = false := decide_eq_false (by omega)
            have d2 : decide (300 < nodesS (ss.take k) + s.sub.nodes) = false := decide_eq_false h3
            clear hsum
            go_wp2_with (skip; fail)
            go_roundw
            case rel =>
              refine ⟨k + 1, T + s.text.size, by omega, by go_num, rfl, by omega, by omega, by rw [HC.out.2.2.2.1]; go_num, by rw [HC.out.2.2.2.1]; omega, Lib.hid ⟨(H.out.1.trans HX.out.2).trans HY.out, fun x hx => ?_⟩⟩
              rw [HC.out.2.2.2.2] at hx
              rcases List.mem_append.1 hx with hx | hx
              · exact H.out.2 x hx
              · simp at hx; subst hx; exact HN.out
            case measure => simp [intOf]; omega
    · obtain rfl : k = ss.length := by omega
      have hall := H.out.2
      rw [List.take_of_length_le (Nat.le_refl _)] at hall hN
      have HA := Lib.hid (show SmallS ss from ⟨by omega, hall, hN⟩)
      clear hall
      go_wp2_with (skip; fail)
      go_ret
      exact ⟨false, rfl, fun _ => HA.out, H.out.1⟩
end Go.Proofs.Ytofjocjljbkjgaa
namespace Go.Proofs.Ytofjocjljbkjgaa
open Go.RowKit
theorem sz0 : (⟨#[]⟩ : ByteArray).size ≤ 9223372036854775807 := by decide
theorem TrC.kidsC {ok : Nat → Prop} {w : World} {t : Tr} {A : Option Addr} {c : Nat} (h : TrC ok w t [.int .i64 (Tr.id t), .int .i64 (Tr.kind t), .string (Tr.text t), .slice A (Tr.kids t).length c]) : KidsC ok w A t.kids := by
  obtain ⟨A', c', hcs, _, _, _, hK⟩ := h.opens
  simp only [List.cons.injEq, Value.slice.injEq, true_and, and_true] at hcs
  obtain ⟨rfl, rfl⟩ := hcs
  exact hK
def leafT (i : Int) : Tr := ⟨i, 0, ⟨#[]⟩, []⟩
def smallT : Tr := ⟨1, 0, ⟨#[]⟩, [leafT 2, ⟨3, 0, ⟨#[]⟩, [leafT 4]⟩]⟩
theorem small_wk (w : World) : Calls Try.prog 54 #[] w fun e w' => ∃ A c, e = .returned (.agg #[.int .i64 (Tr.id smallT), .int .i64 (Tr.kind smallT), .string (Tr.text smallT), .slice A (Tr.kids smallT).length c]) ∧ TrC (fun b => b < w'.heap.size) w' smallT [.int .i64 (Tr.id smallT), .int .i64 (Tr.kind smallT), .string (Tr.text smallT), .slice A (Tr.kids smallT).length c] ∧ Chg [] w w' := by
  go_enter Try.func54, Try.ntmps54
  go_wp2
  have k0 : (((w.alloc (.cells #[.int .i64 1, .int .i64 0, .string ⟨#[]⟩, .slice (some ⟨w.heap.size + 1 + 1, 0, none⟩) 2 2] 24)).alloc (.cells #[.int .i64 4, .int .i64 0, .string ⟨#[]⟩, .slice none 0 0] 24)).alloc (.cells #[.int .i64 2, .int .i64 0, .string ⟨#[]⟩, .slice none 0 0, .int .i64 3, .int .i64 0, .string ⟨#[]⟩, .slice (some ⟨w.heap.size + 1, 0, none⟩) 1 1] 24)).heap[w.heap.size]? = some (.cells #[.int .i64 1, .int .i64 0, .string ⟨#[]⟩, .slice (some ⟨w.heap.size + 1 + 1, 0, none⟩) 2 2] 24 (0, 0)) := heap_old (heap_old (heap_new _ _ rfl) _) _
  have k1 : (((w.alloc (.cells #[.int .i64 1, .int .i64 0, .string ⟨#[]⟩, .slice (some ⟨w.heap.size + 1 + 1, 0, none⟩) 2 2] 24)).alloc (.cells #[.int .i64 4, .int .i64 0, .string ⟨#[]⟩, .slice none 0 0] 24)).alloc (.cells #[.int .i64 2, .int .i64 0, .string ⟨#[]⟩, .slice none 0 0, .int .i64 3, .int .i64 0, .string ⟨#[]⟩, .slice (some ⟨w.heap.size + 1, 0, none⟩) 1 1] 24)).heap[w.heap.size + 1]? = some (.cells #[.int .i64 4, .int .i64 0, .string ⟨#[]⟩, .slice none 0 0] 24 (0, 0)) := heap_old (heap_new _ _ (by simp)) _
  have k2 : (((w.alloc (.cells #[.int .i64 1, .int .i64 0, .string ⟨#[]⟩, .slice (some ⟨w.heap.size + 1 + 1, 0, none⟩) 2 2] 24)).alloc (.cells #[.int .i64 4, .int .i64 0, .string ⟨#[]⟩, .slice none 0 0] 24)).alloc (.cells #[.int .i64 2, .int .i64 0, .string ⟨#[]⟩, .slice none 0 0, .int .i64 3, .int .i64 0, .string ⟨#[]⟩, .slice (some ⟨w.heap.size + 1, 0, none⟩) 1 1] 24)).heap[w.heap.size + 1 + 1]? = some (.cells #[.int .i64 2, .int .i64 0, .string ⟨#[]⟩, .slice none 0 0, .int .i64 3, .int .i64 0, .string ⟨#[]⟩, .slice (some ⟨w.heap.size + 1, 0, none⟩) 1 1] 24 (0, 0)) := heap_new _ _ (by simp)
  refine bodyPost_ret (v := .agg #[.int .i64 1, .int .i64 0, .string ⟨#[]⟩, .slice (some ⟨w.heap.size + 1 + 1, 0, none⟩) 2 2]) (results_cell_row rfl _ _ w.heap.size _ _ _ _ rfl k0 Try.underlying24 rfl szNode) rfl ⟨some ⟨w.heap.size + 1 + 1, 0, none⟩, 2, rfl, ?_, (by with_reducible repeat (first | exact Chg.refl _ _ | apply Chg.alloc | apply Chg.drew | apply Chg.drewN | (refine Chg.setCell ?_ _ _ (by simp))))⟩
  have h1 := lt_of_block k1
  have h2 := lt_of_block k2
  refine TrC.mk smallT (A := some ⟨w.heap.size + 1 + 1, 0, none⟩) (c := 2) (by simp [smallT]) (by omega) sz0 (fun i k hk => ?_)
  match i, hk with
  | 0, hk =>
    simp [smallT] at hk; subst hk
    exact ⟨_, 0, _, rfl, h2, range_of_block (cs := [.int .i64 2, .int .i64 0, .string ⟨#[]⟩, .slice none 0 0, .int .i64 3, .int .i64 0, .string ⟨#[]⟩, .slice (some ⟨w.heap.size + 1, 0, none⟩) 1 1]) k2 0 4, TrC.none (leafT 2) none 0 rfl (by omega) sz0⟩
  | 1, hk =>
    simp [smallT] at hk; subst hk
    refine ⟨_, 0, _, rfl, h2, range_of_block (cs := [.int .i64 2, .int .i64 0, .string ⟨#[]⟩, .slice none 0 0, .int .i64 3, .int .i64 0, .string ⟨#[]⟩, .slice (some ⟨w.heap.size + 1, 0, none⟩) 1 1]) k2 4 4, TrC.mk ⟨3, 0, ⟨#[]⟩, [leafT 4]⟩ (A := some ⟨w.heap.size + 1, 0, none⟩) (c := 1) (by simp) (by omega) sz0 (fun i k hk => ?_)⟩
    match i, hk with
    | 0, hk =>
      simp at hk; subst hk
      exact ⟨_, 0, _, rfl, h1, range_of_block (cs := [.int .i64 4, .int .i64 0, .string ⟨#[]⟩, .slice none 0 0]) k1 0 4, TrC.none (leafT 4) none 0 rfl (by omega) sz0⟩
    | i + 1, hk => simp at hk
  | i + 2, hk => simp [smallT] at hk
theorem w1 : applyMove smallT 2 3 1 (leafT 0) = .ok ⟨1, 0, ⟨#[]⟩, [⟨3, 0, ⟨#[]⟩, [leafT 4, leafT 2]⟩]⟩ := by rfl
theorem w2 : applyMove smallT 3 4 0 (leafT 0) = .error 91 := by rfl
theorem w3 : applyMove smallT 2 1 1 (leafT 0) = .ok ⟨1, 0, ⟨#[]⟩, [⟨3, 0, ⟨#[]⟩, [leafT 4]⟩, leafT 2]⟩ := by rfl
theorem apply_zero (t : Tr) (id par pl : Int) (A : Option Addr) (c : Nat) (w : World) (hT : TrC (fun b => b < w.heap.size) w t [.int .i64 (Tr.id t), .int .i64 (Tr.kind t), .string (Tr.text t), .slice A (Tr.kids t).length c]) :
    Calls Try.prog 19 #[.agg #[.int .i64 (Tr.id t), .int .i64 (Tr.kind t), .string (Tr.text t), .slice A (Tr.kids t).length c], .agg #[.int .i8 3, .int .i64 id, .int .i64 par, .int .i64 pl, .string ⟨#[]⟩, .int .i64 0, .int .i64 0, .string ⟨#[]⟩, .slice none 0 0]] w (ApplyPost (applyMove t id par pl (leafT 0)) w) :=
  apply_move t id par pl ⟨#[]⟩ (leafT 0) A c none 0 w hT (TrC.none (leafT 0) none 0 rfl (by omega) sz0)
set_option maxHeartbeats 4000000 in
set_option maxRecDepth 100000 in
theorem swakes_any (w : World) : Calls Try.prog 17 #[] w fun e w' => e = .returned (.bool true) ∧ Chg [] w w' := by
  go_enter Try.func17, Try.ntmps17
  go_wp2_with fail
  refine (small_wk _).mono ?_
  rintro e X ⟨A, c, rfl, hT, hX⟩
  have hc := apply_zero smallT 2 3 1 A c X hT
  rw [w1] at hc
  have HC := Lib.hid (And.intro hc hX)
  clear hc hX hT
  go_wp2_with fail
  refine HC.out.1.mono ?_
  rintro e Y ⟨A1, c1, rfl, hV1, hY⟩
  obtain ⟨g1, o1, cs1, rfl, _, hr1, hT1⟩ := hV1.toC.kidsC 0 _ rfl
  obtain ⟨A2, c2, rfl, _, _, _, hK2⟩ := hT1.opens
  obtain ⟨g2, o2, cs2, rfl, _, hr2, hT2⟩ := hK2 1 _ rfl
  obtain ⟨A3, c3, rfl, _⟩ := hT2.opens
  have a1 : Y.cell? ⟨g1, o1 + 3, none⟩ = some (.slice (some ⟨g2, o2, none⟩) 2 c2) := hr1 3 _ rfl
  have a2 : Y.cell? ⟨g2, o2 + 4, none⟩ = some (.int .i64 2) := hr2 0 _ rfl
  have HY := Lib.hid (And.intro a1 (And.intro a2 (HC.out.2.trans hY)))
  clear hV1 hY HC hr1 hT1 hK2 hr2 hT2 a1 a2
  go_wp2_with fail
  obtain ⟨Y2, hY2e⟩ : ∃ Y2, Y2 = Y.alloc (.cells #[.int .i64 1, .int .i64 0, .string ⟨#[]⟩, .slice (some ⟨g1, o1, none⟩) 1 c1] 24) := ⟨_, rfl⟩
  have hY2 : Chg [] Y Y2 := by rw [hY2e]; exact (by with_reducible repeat (first | exact Chg.refl _ _ | apply Chg.alloc | apply Chg.drew | apply Chg.drewN | (refine Chg.setCell ?_ _ _ (by simp))))
  have hb1 : Y2.heap[Y.heap.size]? = some (.cells #[.int .i64 1, .int .i64 0, .string ⟨#[]⟩, .slice (some ⟨g1, o1, none⟩) 1 c1] 24 (0, 0)) := by rw [hY2e]; exact heap_new _ _ rfl
  rw [← hY2e]
  have HY2 := Lib.hid (And.intro hY2 hb1)
  clear hY2e hY2 hb1
  refine (small_wk _).mono ?_
  rintro e X2 ⟨A4, c4, rfl, hT, hX2⟩
  have hc := apply_zero smallT 3 4 0 A4 c4 X2 hT
  rw [w2] at hc
  have HC := Lib.hid (And.intro hc hX2)
  clear hc hX2 hT
  go_wp2_with fail
  refine HC.out.1.mono ?_
  rintro e Z ⟨rfl, hZ⟩
  have HZ := Lib.hid (HC.out.2.trans hZ)
  clear hZ HC
  go_wp2_with fail
  obtain ⟨Z2, hZ2e⟩ : ∃ Z2, Z2 = Z.alloc (.cells #[.int .i64 0, .int .i64 0, .string ⟨#[]⟩, .slice none 0 0] 24) := ⟨_, rfl⟩
  have hZ2 : Chg [] Z Z2 := by rw [hZ2e]; exact (by with_reducible repeat (first | exact Chg.refl _ _ | apply Chg.alloc | apply Chg.drew | apply Chg.drewN | (refine Chg.setCell ?_ _ _ (by simp))))
  rw [← hZ2e]
  have HZ2 := Lib.hid hZ2
  clear hZ2e hZ2
  refine (small_wk _).mono ?_
  rintro e X3 ⟨A5, c5, rfl, hT, hX3⟩
  have hc := apply_zero smallT 2 1 1 A5 c5 X3 hT
  rw [w3] at hc
  have HC := Lib.hid (And.intro hc hX3)
  clear hc hX3 hT
  go_wp2_with fail
  refine HC.out.1.mono ?_
  rintro e V ⟨A6, c6, rfl, hV6, hV⟩
  obtain ⟨g6, o6, cs6, rfl, _, hr6, hT6⟩ := hV6.toC.kidsC 1 _ rfl
  obtain ⟨A7, c7, rfl, _⟩ := hT6.opens
  have hall : Chg [] Y V := HY2.out.1.trans (HZ.out.trans (HZ2.out.trans (HC.out.2.trans hV)))
  have hall2 : Chg [] Y2 V := HZ.out.trans (HZ2.out.trans (HC.out.2.trans hV))
  have hV2 : Chg [] V (V.alloc (.cells #[.int .i64 1, .int .i64 0, .string ⟨#[]⟩, .slice (some ⟨g6, o6, none⟩) 2 c6] 24)) := (by with_reducible repeat (first | exact Chg.refl _ _ | apply Chg.alloc | apply Chg.drew | apply Chg.drewN | (refine Chg.setCell ?_ _ _ (by simp))))
  have e1 := (hall.trans hV2).cell HY.out.1 (by simp)
  have e2 := (hall.trans hV2).cell HY.out.2.1 (by simp)
  have e3 : (V.alloc (.cells #[.int .i64 1, .int .i64 0, .string ⟨#[]⟩, .slice (some ⟨g6, o6, none⟩) 2 c6] 24)).cell? ⟨g6, o6 + 4, none⟩ = some (.int .i64 2) := hV2.cell (hr6 0 _ rfl) (by simp)
  have e4 := (blk4 ((hall2.trans hV2).at HY2.out.2 (by simp))).2.2.2
  have HF := Lib.hid (HY.out.2.2.trans (hall.trans hV2))
  clear hV6 hr6 hT6 hall hall2 hV2 hV HC HZ HZ2 HY HY2
  go_wp2
  go_ret
  exact ⟨rfl, HF.out⟩
end Go.Proofs.Ytofjocjljbkjgaa
namespace Go.Proofs.Ytofjocjljbkjgaa
open Go.RowKit
structure Box3 (g : Gr) (Ag : Option Addr) (cg : Nat) (t : Tr) (A : Option Addr) (c : Nat) (s : Stp) (As : Option Addr) (cs : Nat) (w W : World) : Prop where
  g : W.heap[w.heap.size]? = some (.cells #[.slice Ag g.kinds.length cg, .int .i64 g.root] 43 (0, 0))
  t : W.heap[w.heap.size + 1]? = some (.cells #[.int .i64 (Tr.id t), .int .i64 (Tr.kind t), .string (Tr.text t), .slice A (Tr.kids t).length c] 24 (0, 0))
  s : W.heap[w.heap.size + 1 + 1]? = some (.cells #[.int .i8 (Stp.op s), .int .i64 (Stp.id s), .int .i64 (Stp.par s), .int .i64 (Stp.place s), .string (Stp.text s), .int .i64 (Stp.sub s).id, .int .i64 (Stp.sub s).kind, .string (Stp.sub s).text, .slice As (Stp.sub s).kids.length cs] 27 (0, 0))
  chg : Chg [] w W
theorem Box3.kept {g : Gr} {Ag : Option Addr} {cg : Nat} {t : Tr} {A : Option Addr} {c : Nat} {s : Stp} {As : Option Addr} {cs : Nat} {w W W' : World} (h : Box3 g Ag cg t A c s As cs w W) (hc : Chg [] W W') : Box3 g Ag cg t A c s As cs w W' :=
  ⟨hc.at h.g (by simp), hc.at h.t (by simp), hc.at h.s (by simp), h.chg.trans hc⟩
theorem Box3.new (g : Gr) (Ag : Option Addr) (cg : Nat) (t : Tr) (A : Option Addr) (c : Nat) (s : Stp) (As : Option Addr) (cs : Nat) (w : World) : Box3 g Ag cg t A c s As cs w (((w.alloc (.cells #[.slice Ag g.kinds.length cg, .int .i64 g.root] 43)).alloc (.cells #[.int .i64 (Tr.id t), .int .i64 (Tr.kind t), .string (Tr.text t), .slice A (Tr.kids t).length c] 24)).alloc (.cells #[.int .i8 (Stp.op s), .int .i64 (Stp.id s), .int .i64 (Stp.par s), .int .i64 (Stp.place s), .string (Stp.text s), .int .i64 (Stp.sub s).id, .int .i64 (Stp.sub s).kind, .string (Stp.sub s).text, .slice As (Stp.sub s).kids.length cs] 27)) :=
  ⟨heap_old (heap_old (heap_new _ _ rfl) _) _, heap_old (heap_new _ _ (by simp)) _, heap_new _ _ (by simp), (by with_reducible repeat (first | exact Chg.refl _ _ | apply Chg.alloc | apply Chg.drew | apply Chg.drewN | (refine Chg.setCell ?_ _ _ (by simp))))⟩
theorem Box3.gc {g : Gr} {Ag : Option Addr} {cg : Nat} {t : Tr} {A : Option Addr} {c : Nat} {s : Stp} {As : Option Addr} {cs : Nat} {w W : World} (h : Box3 g Ag cg t A c s As cs w W) : W.cell? ⟨w.heap.size, 0, none⟩ = some (.slice Ag g.kinds.length cg) ∧ W.cell? ⟨w.heap.size, 1, none⟩ = some (.int .i64 g.root) := cell2 h.g
theorem wpList_guard {P : Program} {ops : Array Oper} {rest : List Oper} {o : Oper} {a : Act} {w : World} {Q : Exit → Act → World → Prop} {v : Value} {w' : World} (hw : Region.wanted o (yielded ops a.tmps) = true) (hrun : (execOp a.eval o).run P w = .ok (.value v) w') (h : wpList P ops Q rest (a.put o.dst v) w') : wpList P ops Q (o :: rest) a w := by
  simp only [wpList, hw, if_true]
  refine .inl ?_
  unfold Oper.wp
  rw [hrun]
  exact h
theorem StpsC.one {w W : World} {s : Stp} {cs : List Value} {b : Nat} (hb : W.heap[b]? = some (.cells cs.toArray 27 (0, 0))) (h : StpC (fun b => b < W.heap.size) W s cs) : StpsC (fun b => b < W.heap.size) W (some ⟨b, 0, none⟩) [s] := fun i x hi => by
  have : i = 0 := by have := (List.getElem?_eq_some_iff.1 hi).1; simp at this; omega
  subst this
  simp at hi; subst hi
  exact ⟨b, 0, cs, rfl, lt_of_block hb, by rw [Nat.zero_mul]; exact range_all hb, h⟩
theorem exec_slice_one {P : Program} {o : Oper} {a : Act} {w : World} (T E : TypeId) (x : Operand) (ho : o.op = .buildSlice T 1 #[(0, x)]) (hT : P.underlying T = some (.slice E)) (i : TypeInfo) (z : Value) (hi : P.info? E = some i) (hz : i.zero = some z) (hzs : z.cells.size = i.size) (hpos : 0 < i.size) (hle : i.size ≤ 16777216)
    (v : Value) (hx : a.eval x = v) (hv : v.cells.size = i.size) : (execOp a.eval o).run P w = .ok (.value (.slice (some ⟨w.heap.size, 0, none⟩) 1 1)) (w.alloc (.cells v.cells E)) := by
  simp [execOp, ho, hx, buildSlice_one T E hT i z hi hz hzs hpos hle v hv, Result.andThen]
theorem infoStep : (Try.prog.info? 27).map (fun i => (i.zero, i.size, i.bytes)) = some (some (.agg #[.int .i8 0, .int .i64 0, .int .i64 0, .int .i64 0, .string ⟨#[]⟩, .int .i64 0, .int .i64 0, .string ⟨#[]⟩, .slice none 0 0]), 9, 104) := by kernel_rfl
theorem doJ_ok {j : GJ} {t x : Tr} {s : Stp} (h : doJ j t s = .ok x) : j.ok = true ∧ j.fit x = true ∧ applyT t s = .ok x := by
  unfold doJ at h
  split at h
  · cases h
  · rename_i y e
    split at h
    · rename_i h1
      split at h
      · rename_i h2
        injection h with h
        subst h
        exact ⟨h1, h2, e⟩
      · cases h
    · cases h
theorem applyT_ok {t x : Tr} {s : Stp} (h : applyT t s = .ok x) : t.nodes ≤ 2000 ∧ s.sub.nodes ≤ 2000 ∧ doT t s = .ok x := by
  unfold applyT at h
  split at h
  · rename_i h1; exact ⟨h1.1, h1.2, h⟩
  · cases h
theorem SubOk.nodup {g : Gr} {t : Tr} (h : SubOk g t) : t.ids.Nodup := by
  rw [← Tr.walk_ids t 1]
  refine List.pairwise_iff_getElem.2 fun i j hi hj hij => ?_
  rw [List.getElem_map, List.getElem_map]
  have hj' : j < (t.walk 1).length := by simpa using hj
  have hi' : i < (t.walk 1).length := by simpa using hi
  exact (h.2 j _ hj' (List.getElem?_eq_getElem hj')).2 i _ hij (List.getElem?_eq_getElem hi')
def MapN (B : Nat) (w : World) (b : Nat) (f : Int → Option Tr) : Prop := ∃ m, MapI w b m ∧ ∀ n, IsNode B w (m n) (f n)
theorem MapN.kept {B : Nat} {w w' : World} {b : Nat} {f : Int → Option Tr} (h : MapN B w b f) (hc : Chg [] w w') : MapN B w' b f := by
  obtain ⟨m, h1, h2⟩ := h; exact ⟨m, h1.kept hc (by simp), fun n => (h2 n).kept hc (by simp)⟩
theorem MapT.toN {B : Nat} {w : World} {b : Nat} {t : Tr} (h : MapT B w b (((t.walk 1).take 1000).map (·.1))) (hn : t.nodes ≤ 1000) : MapN B w b (fun i => lastOf i (nodesOf t)) := by
  rw [List.take_of_length_le (by rw [Tr.walk_length]; exact hn)] at h
  exact h
structure KeepM (s : Stp) (la lb lm lg : Int → Option Tr) : Prop where
  one : ∀ i y, la i = some y → ((lb i).isSome = !(lg i).isSome) ∧ ∀ z, lb i = some z → y.kind = z.kind ∧ (y.text = z.text ∨ (s.op = 4 ∧ i = s.id))
  two : ∀ i, lb i ≠ none → la i ≠ none ∨ (s.op = 1 ∧ lm i ≠ none)
def NodeM (w : World) (m : Int → Option Value) (f : Int → Option Tr) : Prop := ∃ B, ∀ n, IsNode B w (m n) (f n)
theorem NodeM.at {w : World} {m : Int → Option Value} {f : Int → Option Tr} (h : NodeM w m f) {n : Int} {v : Value} (hv : m n = some v) : ∃ y A c, f n = some y ∧ v = .agg #[.int .i64 (Tr.id y), .int .i64 (Tr.kind y), .string (Tr.text y), .slice A (Tr.kids y).length c] := by
  obtain ⟨B, h⟩ := h
  have h1 := h n
  unfold IsNode at h1
  split at h1
  · rw [hv] at h1; cases h1
  · rename_i y e
    obtain ⟨A, c, h2, _⟩ := h1
    rw [hv] at h2; cases h2
    exact ⟨y, A, c, e, rfl⟩
theorem NodeM.none {w : World} {m : Int → Option Value} {f : Int → Option Tr} (h : NodeM w m f) {n : Int} (hv : f n = Option.none) : m n = Option.none := by
  obtain ⟨B, h⟩ := h
  have h1 := h n
  rw [hv] at h1
  exact h1
theorem NodeM.some {w : World} {m : Int → Option Value} {f : Int → Option Tr} (h : NodeM w m f) {n : Int} {y : Tr} (hv : f n = Option.some y) : ∃ A c, m n = Option.some (.agg #[.int .i64 (Tr.id y), .int .i64 (Tr.kind y), .string (Tr.text y), .slice A (Tr.kids y).length c]) := by
  obtain ⟨B, h⟩ := h
  have h1 := h n
  rw [hv] at h1
  obtain ⟨A, c, h2, _⟩ := h1
  exact ⟨A, c, h2⟩
theorem NodeM.iff {w : World} {m : Int → Option Value} {t : Tr} (h : NodeM w m (fun i => lastOf i (nodesOf t))) (n : Int) : (m n).isSome = true ↔ n ∈ t.ids := by
  cases e : lastOf n (nodesOf t) with
  | none =>
    have h1 := h.none (n := n) e
    rw [h1]
    simp only [Option.isSome_none, Bool.false_eq_true, false_iff]
    exact lastOf_ids.1 e
  | some y =>
    obtain ⟨A, c, h1⟩ := h.some (n := n) e
    rw [h1]
    simp only [Option.isSome_some, true_iff]
    exact Classical.byContradiction fun hn => by rw [lastOf_ids.2 hn] at e; cases e
structure KQ (s : Stp) (Q : World) (ba bb bm bg : Nat) (ma mb mm mg : Int → Option Value) (la lb lm lg : Int → Option Tr) : Prop where
  a : MapI Q ba ma
  b : MapI Q bb mb
  m : MapI Q bm mm
  g : MapI Q bg mg
  an : NodeM Q ma la
  bn : NodeM Q mb lb
  mn : NodeM Q mm lm
  gn : NodeM Q mg lg
  k : KeepM s la lb lm lg
theorem zeroN (w : World) : (zeroValue 24).run Try.prog w = .ok (.agg #[.int .i64 0, .int .i64 0, .string ⟨#[]⟩, .slice none 0 0]) w := by kernel_rfl
set_option maxHeartbeats 4000000 in
set_option maxRecDepth 100000 in
theorem keeps_any (g : Gr) (Ag : Option Addr) (cg : Nat) (t : Tr) (A : Option Addr) (c : Nat) (s : Stp) (As : Option Addr) (cs : Nat) (w : World) (hG : GrC w Ag cg g.kinds) (hT : TrC (fun b => b < w.heap.size) w t [.int .i64 (Tr.id t), .int .i64 (Tr.kind t), .string (Tr.text t), .slice A (Tr.kids t).length c]) (hS : StpC (fun b => b < w.heap.size) w s (#[.int .i8 (Stp.op s), .int .i64 (Stp.id s), .int .i64 (Stp.par s), .int .i64 (Stp.place s), .string (Stp.text s), .int .i64 (Stp.sub s).id, .int .i64 (Stp.sub s).kind, .string (Stp.sub s).text, .slice As (Stp.sub s).kids.length cs] : Array Value).toList) :
    Calls Try.prog 4 #[.agg #[.slice Ag g.kinds.length cg, .int .i64 g.root], .agg #[.int .i64 (Tr.id t), .int .i64 (Tr.kind t), .string (Tr.text t), .slice A (Tr.kids t).length c], .agg #[.int .i8 (Stp.op s), .int .i64 (Stp.id s), .int .i64 (Stp.par s), .int .i64 (Stp.place s), .string (Stp.text s), .int .i64 (Stp.sub s).id, .int .i64 (Stp.sub s).kind, .string (Stp.sub s).text, .slice As (Stp.sub s).kids.length cs]] w (fun e w' => e = .returned (.bool true) ∧ Chg [] w w') := by
  obtain ⟨j, hj⟩ := GJ.ex g
  obtain ⟨W, hW⟩ : ∃ W, W = ((w.alloc (.cells #[.slice Ag g.kinds.length cg, .int .i64 g.root] 43)).alloc (.cells #[.int .i64 (Tr.id t), .int .i64 (Tr.kind t), .string (Tr.text t), .slice A (Tr.kids t).length c] 24)).alloc (.cells #[.int .i8 (Stp.op s), .int .i64 (Stp.id s), .int .i64 (Stp.par s), .int .i64 (Stp.place s), .string (Stp.text s), .int .i64 (Stp.sub s).id, .int .i64 (Stp.sub s).kind, .string (Stp.sub s).text, .slice As (Stp.sub s).kids.length cs] 27) := ⟨_, rfl⟩
  have hB : Box3 g Ag cg t A c s As cs w W := by rw [hW]; exact Box3.new _ _ _ _ _ _ _ _ _ _
  obtain ⟨g0, g1⟩ := hB.gc
  obtain ⟨i0, hi, hz0, hz1, hz2⟩ := info_parts infoStep
  have HI := Lib.hid (And.intro hi (And.intro hz0 (And.intro hz1 hz2)))
  have HW := Lib.hid (And.intro hW (And.intro hB (And.intro hG (And.intro hT (And.intro hS hj)))))
  rw [hW] at g0 g1
  clear hW hB hG hT hS hj hi hz0 hz1 hz2
  go_enter Try.func4, Try.ntmps4
  go_wp2_with fail
  rw [← HW.out.1]
  clear g0 g1
  refine (great5_any g Ag cg W (HW.out.2.2.1.kept HW.out.2.1.chg)).mono ?_
  rintro e X ⟨b5, rfl, hsm, hX⟩
  clear hsm
  have HX := Lib.hid (HW.out.2.1.kept hX)
  clear hX
  cases b5 with
  | true =>
    go_wp2_with (go_at_call 17; refine (swakes_any _).mono ?_; rintro e V ⟨rfl, hV⟩; have HV := Lib.hid hV; clear hV)
    go_ret
    exact ⟨rfl, HX.out.chg.trans HV.out⟩
  | false =>
  obtain ⟨p0, p1, p2, p3⟩ := blk4 HX.out.t
  go_wp2_with fail
  clear p0 p1 p2 p3
  refine (great_t t A c X (HW.out.2.2.2.1.next HX.out.chg)).mono ?_
  rintro e Y ⟨bt, rfl, hbt, hY⟩
  have HY := Lib.hid (And.intro (HX.out.kept hY) hbt)
  clear hY hbt
  cases bt with
  | true =>
    go_wp2_with (go_at_call 17; refine (swakes_any _).mono ?_; rintro e V ⟨rfl, hV⟩; have HV := Lib.hid hV; clear hV)
    go_ret
    exact ⟨rfl, HY.out.1.chg.trans HV.out⟩
  | false =>
  have HTn := Lib.hid (HY.out.2 rfl)
  obtain ⟨q0, q1, q2, q3, q4, q5, q6, q7, q8⟩ := blk9 HY.out.1.s
  obtain ⟨Z, hZ⟩ : ∃ Z, Z = Y.alloc (.cells #[.int .i8 (Stp.op s), .int .i64 (Stp.id s), .int .i64 (Stp.par s), .int .i64 (Stp.place s), .string (Stp.text s), .int .i64 (Stp.sub s).id, .int .i64 (Stp.sub s).kind, .string (Stp.sub s).text, .slice As (Stp.sub s).kids.length cs] 27) := ⟨_, rfl⟩
  have hYZ : Chg [] Y Z := by rw [hZ]; exact (by with_reducible repeat (first | exact Chg.refl _ _ | apply Chg.alloc | apply Chg.drew | apply Chg.drewN | (refine Chg.setCell ?_ _ _ (by simp))))
  have hZb : Z.heap[Y.heap.size]? = some (.cells #[.int .i8 (Stp.op s), .int .i64 (Stp.id s), .int .i64 (Stp.par s), .int .i64 (Stp.place s), .string (Stp.text s), .int .i64 (Stp.sub s).id, .int .i64 (Stp.sub s).kind, .string (Stp.sub s).text, .slice As (Stp.sub s).kids.length cs] 27 (0, 0)) := by rw [hZ]; exact heap_new _ _ rfl
  have hgs := greatS_any [s] (some ⟨Y.heap.size, 0, none⟩) 1 Z (StpsC.one (w := Z) (cs := (#[.int .i8 (Stp.op s), .int .i64 (Stp.id s), .int .i64 (Stp.par s), .int .i64 (Stp.place s), .string (Stp.text s), .int .i64 (Stp.sub s).id, .int .i64 (Stp.sub s).kind, .string (Stp.sub s).text, .slice As (Stp.sub s).kids.length cs] : Array Value).toList) hZb (HW.out.2.2.2.2.1.next (HY.out.1.chg.trans hYZ))) (by simp)
  have HZ := Lib.hid (And.intro hZ (And.intro (HY.out.1.kept hYZ) hgs))
  clear hZ hYZ hZb hgs
  go_wp2_with (first
    | (refine wpList_guard rfl (exec_slice_one 46 27 (.tmp 35) rfl Try.underlying46 i0 _ HI.out.1 HI.out.2.1 (by rw [HI.out.2.2.1]; rfl) (by rw [HI.out.2.2.1]; omega) (by rw [HI.out.2.2.1]; omega) (.agg #[.int .i8 (Stp.op s), .int .i64 (Stp.id s), .int .i64 (Stp.par s), .int .i64 (Stp.place s), .string (Stp.text s), .int .i64 (Stp.sub s).id, .int .i64 (Stp.sub s).kind, .string (Stp.sub s).text, .slice As (Stp.sub s).kids.length cs]) rfl (by rw [HI.out.2.2.1]; rfl)) ?_
       ((try dsimp only); (try simp only [Act.put, List.setIfInBounds_toArray, List.set_cons_zero, List.set_cons_succ])))
    | (skip; fail))
  rw [← HZ.out.1]
  clear q0 q1 q2 q3 q4 q5 q6 q7 q8
  refine HZ.out.2.2.mono ?_
  rintro e V ⟨bs, rfl, hbs, hV⟩
  have HV := Lib.hid (And.intro (HZ.out.2.1.kept hV) hbs)
  clear hV hbs
  cases bs with
  | true =>
    go_wp2_with (go_at_call 17; refine (swakes_any _).mono ?_; rintro e V2 ⟨rfl, hV2⟩; have HV2 := Lib.hid hV2; clear hV2)
    go_ret
    exact ⟨rfl, HV.out.1.chg.trans HV2.out⟩
  | false =>
  have HSn := Lib.hid (HV.out.2 rfl)
  obtain ⟨g0, g1⟩ := HV.out.1.gc
  obtain ⟨p0, p1, p2, p3⟩ := blk4 HV.out.1.t
  have htr := rtree_any g Ag cg t A c V (HW.out.2.2.1.kept HV.out.1.chg) (HW.out.2.2.2.1.next HV.out.1.chg)
  have HR := Lib.hid htr
  clear htr
  go_wp2_with fail
  clear g0 g1 p0 p1 p2 p3
  refine HR.out.mono ?_
  rintro e U ⟨a1, z1, rfl, h1, h2, hU⟩
  have HU := Lib.hid (And.intro (HV.out.1.kept hU) h1)
  clear hU h1 h2
  by_cases hz : z1 = 0
  · subst hz
    have HO := Lib.hid (HU.out.2.1 rfl)
    obtain ⟨g0, g1⟩ := HU.out.1.gc
    obtain ⟨p0, p1, p2, p3⟩ := blk4 HU.out.1.t
    obtain ⟨q0, q1, q2, q3, q4, q5, q6, q7, q8⟩ := blk9 HU.out.1.s
    have hdo := do_any g j HW.out.2.2.2.2.2 Ag cg t s A c (#[.int .i8 (Stp.op s), .int .i64 (Stp.id s), .int .i64 (Stp.par s), .int .i64 (Stp.place s), .string (Stp.text s), .int .i64 (Stp.sub s).id, .int .i64 (Stp.sub s).kind, .string (Stp.sub s).text, .slice As (Stp.sub s).kids.length cs] : Array Value).toList U (HW.out.2.2.1.kept HU.out.1.chg) (HW.out.2.2.2.1.next HU.out.1.chg) (HW.out.2.2.2.2.1.next HU.out.1.chg)
    cases hr : doJ j t s with
    | error n =>
      have hn0 := doJ_ne hr
      have e0 : (n == 0) = false := by simpa using hn0
      have e0' : (n != 0) = true := by simpa using hn0
      unfold ApplyPost at hdo
      simp only [hr] at hdo
      have HD := Lib.hid hdo
      clear hdo hr hn0
      go_wp2_with fail
      clear g0 g1 p0 p1 p2 p3 q0 q1 q2 q3 q4 q5 q6 q7 q8
      refine HD.out.mono ?_
      rintro e D ⟨rfl, hD⟩
      have HDc := Lib.hid hD
      clear hD
      go_wp2_with (go_at_call 17; refine (swakes_any _).mono ?_; rintro e V2 ⟨rfl, hV2⟩; have HV2 := Lib.hid hV2; clear hV2)
      go_ret
      exact ⟨rfl, (((HU.out.1.chg.trans HDc.out).alloc _)).trans HV2.out⟩
    | ok x =>
      unfold ApplyPost at hdo
      simp only [hr] at hdo
      have HD := Lib.hid (And.intro hdo hr)
      clear hdo hr
      go_wp2_with fail
      clear g0 g1 p0 p1 p2 p3 q0 q1 q2 q3 q4 q5 q6 q7 q8
      refine HD.out.1.mono ?_
      rintro e D ⟨Bx, dx, rfl, hTx, hD⟩
      obtain ⟨D2, hD2⟩ : ∃ D2, D2 = D.alloc (.cells #[.int .i64 (Tr.id x), .int .i64 (Tr.kind x), .string (Tr.text x), .slice Bx (Tr.kids x).length dx] 24) := ⟨_, rfl⟩
      have hcD : Chg [] D D2 := by rw [hD2]; exact (by with_reducible repeat (first | exact Chg.refl _ _ | apply Chg.alloc | apply Chg.drew | apply Chg.drewN | (refine Chg.setCell ?_ _ _ (by simp))))
      have hbD : D2.heap[D.heap.size]? = some (.cells #[.int .i64 (Tr.id x), .int .i64 (Tr.kind x), .string (Tr.text x), .slice Bx (Tr.kids x).length dx] 24 (0, 0)) := by rw [hD2]; exact heap_new _ _ rfl
      have HE := Lib.hid (And.intro hD2 (And.intro (HU.out.1.kept (hD.trans hcD)) (And.intro hbD (hTx.kept hcD (by simp)).toC)))
      have hxT := HE.out.2.2.2.weak (ok' := fun b => b < D2.heap.size) (fun b hb hlt => hlt)
      obtain ⟨g0, g1⟩ := HE.out.2.1.gc
      obtain ⟨p0, p1, p2, p3⟩ := blk4 HE.out.2.2.1
      rw [hD2] at g0 g1 p0 p1 p2 p3
      have htr := rtree_any g Ag cg x Bx dx D2 (HW.out.2.2.1.kept HE.out.2.1.chg) hxT
      have HR2 := Lib.hid (And.intro htr hxT)
      clear hD2 hcD hbD hTx hD htr hxT
      go_wp2_with fail
      rw [← HE.out.1]
      clear g0 g1 p0 p1 p2 p3
      refine HR2.out.1.mono ?_
      rintro e Z2 ⟨a2, z2, rfl, h1, h2, hZ2⟩
      have hok := doJ_ok HD.out.2
      have hfit := HW.out.2.2.2.2.2
      have hz2 : z2 = 0 := h1.2 ⟨hfit.ok.1 hok.1, (hfit.fit x).1 hok.2.1⟩
      subst hz2
      have hxS := (hfit.fit x).1 hok.2.1
      have hap := applyT_ok hok.2.2
      have hkeep := doT_keeps HO.out.2.2.nodup hxS.2.nodup hap.2.2
      have hrt := hkeep.root
      have HK := Lib.hid (And.intro hkeep (And.intro hxS hap))
      have hE := HE.out.2.1.kept hZ2
      have hxb := hZ2.at HE.out.2.2.1 (by simp)
      have hxT := HR2.out.2.next hZ2
      obtain ⟨p0, p1, p2, p3⟩ := blk4 hE.t
      obtain ⟨x0, x1, x2, x3⟩ := blk4 hxb
      obtain ⟨q0, q1, q2, q3, q4, q5, q6, q7, q8⟩ := blk9 hE.s
      have d0 : (x.id != t.id) = false := by rw [hrt]; simp
      have HZ2 := Lib.hid (And.intro hE (And.intro hxb hxT))
      clear h1 h2 hZ2 hok hfit hxS hap hkeep hrt hE hxb hxT
      go_wp2_with (skip; fail)
      clear d0 q0 q1 q2 q3 q4
      refine wp_region_M (fun V => (V.cell? ⟨D.heap.size, 0, none⟩ = some (.int .i64 x.id) ∧ V.cell? ⟨D.heap.size, 1, none⟩ = some (.int .i64 x.kind) ∧ V.cell? ⟨D.heap.size, 2, none⟩ = some (.string x.text) ∧ V.cell? ⟨D.heap.size, 3, none⟩ = some (.slice Bx x.kids.length dx)) ∧ V.cell? ⟨w.heap.size + 1 + 1, 5, none⟩ = some (.int .i64 s.sub.id) ∧ V.cell? ⟨w.heap.size + 1 + 1, 6, none⟩ = some (.int .i64 s.sub.kind) ∧ V.cell? ⟨w.heap.size + 1 + 1, 7, none⟩ = some (.string s.sub.text) ∧ V.cell? ⟨w.heap.size + 1 + 1, 8, none⟩ = some (.slice As s.sub.kids.length cs)) (fun k => [1, 3, 6].contains k) (fun k => [6].contains k) (by kernel_rfl) ?_
      ((try dsimp only); (try simp only [Act.put, List.setIfInBounds_toArray, List.set_cons_zero, List.set_cons_succ]))
      have hS := (And.intro (And.intro x0 (And.intro x1 (And.intro x2 x3))) (And.intro q5 (And.intro q6 (And.intro q7 q8))))
      have HSx := Lib.hid hS
      refine M_take (i := 0) (v := ?_) rfl (by kernel_rfl) (by kernel_rfl) (by kernel_rfl) (by kernel_rfl) (fun _ _ _ h => h) (by rfl) ?hy ?_; (case hy => (go_simp; with_reducible rfl)); ((try dsimp only); (try simp only [Act.put, List.setIfInBounds_toArray, List.set_cons_zero, List.set_cons_succ]))
      refine M_semi (i := 2) (v := ?_) rfl (by kernel_rfl) (by kernel_rfl) (by kernel_rfl) (by kernel_rfl) (fun _ _ _ h => h) (by rfl) HSx.out ?hy ?_; (case hy => (intro w hS; go_simp; with_reducible rfl)); ((try dsimp only); (try simp only [Act.put, List.setIfInBounds_toArray, List.set_cons_zero, List.set_cons_succ]))
      refine M_pure (i := 4) (v := ?_) rfl (by kernel_rfl) (by kernel_rfl) (by kernel_rfl) (fun _ _ _ h => h) (by rfl) ?hy ?_; (case hy => (intro w; go_simp; with_reducible rfl)); ((try dsimp only); (try simp only [Act.put, List.setIfInBounds_toArray, List.set_cons_zero, List.set_cons_succ]))
      refine M_semi (i := 5) (v := ?_) rfl (by kernel_rfl) (by kernel_rfl) (by kernel_rfl) (by kernel_rfl) (fun _ _ _ h => h) (by rfl) HSx.out ?hy ?_; (case hy => (intro w hS; go_simp; with_reducible rfl)); ((try dsimp only); (try simp only [Act.put, List.setIfInBounds_toArray, List.set_cons_zero, List.set_cons_succ]))
      clear hS p0 p1 p2 p3 x0 x1 x2 x3 q5 q6 q7 q8
      have hsubT : TrC (fun b => b < w.heap.size) w s.sub [.int .i64 (Tr.id (Stp.sub s)), .int .i64 (Tr.kind (Stp.sub s)), .string (Tr.text (Stp.sub s)), .slice As (Tr.kids (Stp.sub s)).length cs] := by
        obtain ⟨As', cs', e, h, _⟩ := HW.out.2.2.2.2.1
        simp only [List.cons.injEq, Value.slice.injEq, true_and, and_true] at e
        obtain ⟨rfl, rfl⟩ := e
        exact h
      have HSub := Lib.hid hsubT
      clear hsubT
      refine M_eff (i := 1) rfl (by kernel_rfl) (by rfl) ?_
      go_wp2_with fail
      refine (ids_any t A c Z2.drew (HW.out.2.2.2.1.next HZ2.out.1.chg.drew)).mono ?_
      rintro e I1 ⟨ba, rfl, hMa, _, hI1⟩
      have hS1 : Chg [] Z2 I1 := ((Chg.refl [] Z2).drew).trans hI1
      have HI1 := Lib.hid (And.intro hS1 (hMa.toN (by have := HO.out.2.2.1; omega)))
      clear hS1 hMa hI1
      go_wp2_with fail
      refine ⟨⟨⟨HI1.out.1.cell HSx.out.1.1 (by simp), HI1.out.1.cell HSx.out.1.2.1 (by simp), HI1.out.1.cell HSx.out.1.2.2.1 (by simp), HI1.out.1.cell HSx.out.1.2.2.2 (by simp)⟩, HI1.out.1.cell HSx.out.2.1 (by simp), HI1.out.1.cell HSx.out.2.2.1 (by simp), HI1.out.1.cell HSx.out.2.2.2.1 (by simp), HI1.out.1.cell HSx.out.2.2.2.2 (by simp)⟩, ?_⟩
      ((try dsimp only); (try simp only [Act.put, List.setIfInBounds_toArray, List.set_cons_zero, List.set_cons_succ]))
      refine M_eff (i := 3) rfl (by kernel_rfl) (by rfl) ?_
      go_wp2_with fail
      refine (ids_any x Bx dx I1 (HZ2.out.2.2.next HI1.out.1)).mono ?_
      rintro e I2 ⟨bb, rfl, hMb, _, hI2⟩
      have hS2 : Chg [] Z2 I2 := HI1.out.1.trans hI2
      have HI2 := Lib.hid (And.intro hS2 (And.intro (hMb.toN (by have := HK.out.2.1.2.1; omega)) (HI1.out.2.kept hI2)))
      clear hS2 hMb hI2
      go_wp2_with fail
      refine ⟨⟨⟨HI2.out.1.cell HSx.out.1.1 (by simp), HI2.out.1.cell HSx.out.1.2.1 (by simp), HI2.out.1.cell HSx.out.1.2.2.1 (by simp), HI2.out.1.cell HSx.out.1.2.2.2 (by simp)⟩, HI2.out.1.cell HSx.out.2.1 (by simp), HI2.out.1.cell HSx.out.2.2.1 (by simp), HI2.out.1.cell HSx.out.2.2.2.1 (by simp), HI2.out.1.cell HSx.out.2.2.2.2 (by simp)⟩, ?_⟩
      ((try dsimp only); (try simp only [Act.put, List.setIfInBounds_toArray, List.set_cons_zero, List.set_cons_succ]))
      refine M_brk (i := 6) rfl (by kernel_rfl) (by rfl) (by rfl) ?_
      go_wp2_with fail
      refine (ids_any s.sub As cs I2 (HSub.out.next (HZ2.out.1.chg.trans HI2.out.1))).mono ?_
      rintro e I3 ⟨bm, rfl, hMm, _, hI3⟩
      have hsn : s.sub.nodes ≤ 1000 := by have := HSn.out.2.1 s (by simp); omega
      have HI3 := Lib.hid (And.intro (HZ2.out.1.kept (HI2.out.1.trans hI3)) (And.intro (HI2.out.2.2.kept hI3) (And.intro (HI2.out.2.1.kept hI3) (hMm.toN hsn))))
      clear hMm hI3 hsn
      go_wp2_with fail
      ((try dsimp only [EffQ]); (try simp only [Act.put, List.setIfInBounds_toArray, List.set_cons_zero, List.set_cons_succ]))
      refine M_pure (i := 7) (v := ?_) rfl (by kernel_rfl) (by kernel_rfl) (by kernel_rfl) (fun _ _ _ h => h) (by rfl) ?hy ?_; (case hy => (intro w; go_simp; with_reducible rfl)); ((try dsimp only); (try simp only [Act.put, List.setIfInBounds_toArray, List.set_cons_zero, List.set_cons_succ]))
      refine M_pure (i := 8) (v := ?_) rfl (by kernel_rfl) (by kernel_rfl) (by kernel_rfl) (fun _ _ _ h => h) (by rfl) ?hy ?_; (case hy => (intro w; go_simp; with_reducible rfl)); ((try dsimp only); (try simp only [Act.put, List.setIfInBounds_toArray, List.set_cons_zero, List.set_cons_succ]))
      refine M_pure (i := 9) (v := ?_) rfl (by kernel_rfl) (by kernel_rfl) (by kernel_rfl) (fun _ _ _ h => h) (by rfl) ?hy ?_; (case hy => (intro w; go_simp; with_reducible rfl)); ((try dsimp only); (try simp only [Act.put, List.setIfInBounds_toArray, List.set_cons_zero, List.set_cons_succ]))
      refine M_done (by kernel_rfl) ?_ _
      have hmm := @run_makeMap Try.prog
      obtain ⟨q0, q1, q2, q3, q4, q5, q6, q7, q8⟩ := blk9 HI3.out.1.s
      clear q2 q3 q4 q5 q6 q7 q8
      have hl := lt_of_block HI3.out.1.s
      have hM0 := MapI.made I3
      have HM0 := Lib.hid hM0
      clear hM0
      go_upto_if 95 with (skip; fail)
      obtain ⟨J, hJ⟩ : ∃ J, J = I3.alloc (.map #[] 0) := ⟨_, rfl⟩
      have hcJ : Chg [] I3 J := by rw [hJ]; exact (Chg.refl _ _).alloc _
      rw [← hJ] at HM0 ⊢
      have HJ := Lib.hid (And.intro (HI3.out.1.kept hcJ) (And.intro (HI3.out.2.1.kept hcJ) (And.intro (HI3.out.2.2.1.kept hcJ) (And.intro (HI3.out.2.2.2.kept hcJ) hcJ))))
      clear hJ hcJ q0 q1 hl hmm
      obtain ⟨q0, q1, q2, q3, q4, q5, q6, q7, q8⟩ := blk9 HJ.out.1.s
      clear q2 q3 q4 q5 q6 q7 q8
      go_cut [16] (fun gv wx => ∃ (bg : Nat) (lg : Int → Option Tr), gv = .map (some bg) ∧ Hid (MapN J.heap.size wx bg lg ∧ Chg [] J wx ∧ KeepM s (fun i => lastOf i (nodesOf t)) (fun i => lastOf i (nodesOf x)) (fun i => lastOf i (nodesOf s.sub)) lg))
      case first =>
        by_cases hop : s.op = 2
        · have d2 : (s.op == 2) = true := by simpa using hop
          obtain ⟨d, hd, hdel⟩ := HK.out.1.dels hop
          obtain ⟨m, hm, hmn⟩ := HJ.out.2.1
          have hn : IsNode _ J (m s.id) (lastOf s.id (nodesOf t)) := hmn s.id
          rw [hd] at hn
          have hdn : d.nodes ≤ 1000 := by
            obtain ⟨h1, _⟩ := lastOf_mem hd
            obtain ⟨⟨d', e'⟩, h2, rfl⟩ := List.mem_map.1 h1
            have := walk_nodes t 1 d' e' h2
            have := HO.out.2.2.1
            show d'.nodes ≤ 1000
            omega
          obtain ⟨Ad, cd, hmd, hTd⟩ := hn
          have HD2 := Lib.hid (And.intro hm (And.intro hmd (And.intro hTd (And.intro hdel (And.intro hdn hop)))))
          have hid := ids_any d Ad cd J (hTd.weak (fun b hb hlt => hlt))
          have HID := Lib.hid hid
          clear hop hd hdel hm hmn hmd hTd hid hdn
          go_wp2_with (first
            | (at_lookup; refine wpList_lookup_I (T := 29) (z := .agg #[.int .i64 0, .int .i64 0, .string ⟨#[]⟩, .slice none 0 0]) rfl (.tmp 96) (.tmp 98) rfl Try.underlying29 Try.underlying3 zeroN HD2.out.1 s.id rfl rfl (u := .agg #[.int .i64 (Tr.id d), .int .i64 (Tr.kind d), .string (Tr.text d), .slice Ad (Tr.kids d).length cd]) (by rw [HD2.out.2.1]; rfl) ?_
               ((try dsimp only); (try simp only [Act.put, List.setIfInBounds_toArray, List.set_cons_zero, List.set_cons_succ])))
            | (skip; fail))
          refine HID.out.mono ?_
          rintro e V ⟨bg, rfl, hMg, _, hV⟩
          have HVg := Lib.hid (And.intro hMg hV)
          clear hMg hV
          go_wp2_with (skip; fail)
          go_meet
          refine ⟨bg, fun i => lastOf i (nodesOf d), rfl, Lib.hid ⟨HVg.out.1.toN HD2.out.2.2.2.2.1, HVg.out.2, ⟨fun i y hy => ⟨(HD2.out.2.2.2.1 i y hy).1, fun z hz => ?_⟩, HK.out.1.come⟩⟩⟩
          have := (HD2.out.2.2.2.1 i y hy).2 z hz
          exact ⟨this.1, .inl this.2⟩
        · have d2 : (s.op == 2) = false := by simpa using hop
          have HN := Lib.hid hop
          clear hop
          go_wp2_with (skip; fail)
          go_meet
          refine ⟨_, fun _ => none, rfl, Lib.hid ⟨⟨_, HM0.out, fun n => rfl⟩, Chg.refl _ _, ⟨fun i y hy => ?_, HK.out.1.come⟩⟩⟩
          obtain ⟨z, h1, h2, h3⟩ := HK.out.1.stay HN.out i y hy
          refine ⟨by rw [h1]; rfl, fun z' h => ?_⟩
          rw [h1] at h; cases h
          exact ⟨h2, h3⟩
      case rest =>
      obtain ⟨bg, lg, rfl, hg⟩ := hcut
      obtain ⟨Q, hQ⟩ : ∃ Q, Q = wc := ⟨_, rfl⟩
      subst hQ
      have hJQ := hg.out.2.1
      obtain ⟨ma, hma, hna⟩ := HJ.out.2.1.kept hJQ
      obtain ⟨mb, hmb, hnb⟩ := HJ.out.2.2.1.kept hJQ
      obtain ⟨mm, hmm, hnm⟩ := HJ.out.2.2.2.1.kept hJQ
      obtain ⟨mg, hmg, hng⟩ := hg.out.1
      have HQ := Lib.hid (show KQ s Q ba bb bm bg ma mb mm mg (fun i => lastOf i (nodesOf t)) (fun i => lastOf i (nodesOf x)) (fun i => lastOf i (nodesOf s.sub)) lg from ⟨hma, hmb, hmm, hmg, ⟨_, hna⟩, ⟨_, hnb⟩, ⟨_, hnm⟩, ⟨_, hng⟩, hg.out.2.2⟩)
      have HQB := Lib.hid (HJ.out.1.kept hJQ)
      clear hg hJQ hma hna hmb hnb hmm hnm hmg hng q0 q1
      go_wp2_with (first
        | (at_range; refine wpList_range_I rfl (.tmp 101) rfl Try.underlying29 HQ.out.a rfl ?_
           intro Q1 hit0 hc0 hs0
           ((try dsimp only); (try simp only [Act.put, List.setIfInBounds_toArray, List.set_cons_zero, List.set_cons_succ])))
        | (skip; fail))
      have HQ1 := Lib.hid (And.intro hit0 (And.intro hc0 hs0))
      clear hit0 hc0 hs0
      go_loopw [] (fun wr => ∃ done, Hid (IterI wr ba Q.heap.size ma done ∧ Chg [] Q wr)) (fun wr => wr.rangeLeft ba Q.heap.size)
      case atStart => exact ⟨[], Lib.hid ⟨HQ1.out.1, HQ1.out.2.1⟩⟩
      case round =>
        obtain ⟨done, H⟩ := hrel
        obtain ⟨V, hV⟩ : ∃ V, V = wr := ⟨_, rfl⟩
        subst hV
        go_wp2_with (first
          | (at_next; refine wpList_next_I rfl (.tmp 102) rfl rfl H.out.1 ?_ ?_)
          | (skip; fail))
        · intro hall
          clear hall
          go_wp2_with (first
            | (at_range; refine wpList_range_I rfl (.tmp 151) rfl Try.underlying29 (HQ.out.b.kept H.out.2 (by simp)) rfl ?_
               intro Q2 hit0 hc0 hs0
               ((try dsimp only); (try simp only [Act.put, List.setIfInBounds_toArray, List.set_cons_zero, List.set_cons_succ])))
            | (skip; fail))
          have HQ2 := Lib.hid (And.intro hit0 (And.intro (H.out.2.trans hc0) hs0))
          have hVs := H.out.2.size
          clear hit0 hc0 hs0
          go_loopw [] (fun wr => ∃ done2, Hid (IterI wr bb V.heap.size mb done2 ∧ Chg [] Q wr)) (fun wr => wr.rangeLeft bb V.heap.size)
          case atStart => exact ⟨[], Lib.hid ⟨HQ2.out.1, HQ2.out.2.1⟩⟩
          case round =>
            obtain ⟨done2, H2⟩ := hrel
            obtain ⟨U2, hU2⟩ : ∃ U2, U2 = wr := ⟨_, rfl⟩
            subst hU2
            go_wp2_with (first
              | (at_next; refine wpList_next_I rfl (.tmp 152) rfl rfl H2.out.1 ?_ ?_)
              | (skip; fail))
            · intro hall
              clear hall
              obtain ⟨q0, q1, q2, q3, q4, q5, q6, q7, q8⟩ := blk9 (HQB.out.kept H2.out.2).s
              clear q1 q2 q3 q4 q5 q6 q7 q8
              have hend : Chg [] w U2 := (HQB.out.kept H2.out.2).chg
              have HEnd := Lib.hid hend
              clear hend
              by_cases ho : s.op = 1
              · have d3 : (s.op != 1) = false := by rw [ho]; rfl
                obtain ⟨hcn, hsd⟩ := HK.out.1.count ho
                obtain ⟨eb, kb, hbb, hbs⟩ := (HQ.out.b.kept H2.out.2 (by simp)).count HK.out.2.1.2.nodup (fun n => HQ.out.bn.iff n)
                obtain ⟨ea, ka, hba, has⟩ := (HQ.out.a.kept H2.out.2 (by simp)).count HO.out.2.2.nodup (fun n => HQ.out.an.iff n)
                obtain ⟨em, km, hbm, hms⟩ := (HQ.out.m.kept H2.out.2 (by simp)).count hsd (fun n => HQ.out.mn.iff n)
                rw [ids_len] at hbs has hms
                have b1 : t.nodes ≤ 200 := HO.out.2.2.1
                have b2 : s.sub.nodes ≤ 2000 := HK.out.2.2.2.1
                have d4 : ((x.nodes : Int) == (t.nodes : Int) + (s.sub.nodes : Int)) = true := by simp; omega
                have HC := Lib.hid (And.intro hbb (And.intro hbs (And.intro hba (And.intro has (And.intro hbm hms)))))
                clear ho hcn hsd hbb hbs hba has hbm hms
                go_wp2_with (first
                  | (refine wpList_guard rfl (exec_len_I (.tmp 184) rfl Try.underlying29 bb eb kb rfl HC.out.1 HC.out.2.1) ?_
                     ((try dsimp only); (try simp only [Act.put, List.setIfInBounds_toArray, List.set_cons_zero, List.set_cons_succ])))
                  | (refine wpList_guard rfl (exec_len_I (.tmp 186) rfl Try.underlying29 ba ea ka rfl HC.out.2.2.1 HC.out.2.2.2.1) ?_
                     ((try dsimp only); (try simp only [Act.put, List.setIfInBounds_toArray, List.set_cons_zero, List.set_cons_succ])))
                  | (refine wpList_guard rfl (exec_len_I (.tmp 188) rfl Try.underlying29 bm em km rfl HC.out.2.2.2.2.1 HC.out.2.2.2.2.2) ?_
                     ((try dsimp only); (try simp only [Act.put, List.setIfInBounds_toArray, List.set_cons_zero, List.set_cons_succ])))
                  | (go_at_call 17; refine (swakes_any _).mono ?_; rintro e V2 ⟨rfl, hV2⟩; have HV2 := Lib.hid hV2; clear hV2)
                  | (skip; fail))
                go_ret
                exact ⟨rfl, HEnd.out.trans HV2.out⟩
              · have d3 : (s.op != 1) = true := by simpa using ho
                clear ho
                go_wp2_with (first
                  | (go_at_call 17; refine (swakes_any _).mono ?_; rintro e V2 ⟨rfl, hV2⟩; have HV2 := Lib.hid hV2; clear hV2)
                  | (skip; fail))
                go_ret
                exact ⟨rfl, HEnd.out.trans HV2.out⟩
            · intro i v w1 hmi _ hit1 hlt1 hc1 hs1 hen
              obtain ⟨y0, A0, c0, hy0, rfl⟩ := HQ.out.bn.at hmi
              have htwo := HQ.out.k.two i (fun e => by have : lastOf i (nodesOf x) = some y0 := hy0; rw [e] at this; cases this)
              have hQ1 : Chg [] Q w1 := H2.out.2.andThen hc1 (by simp; omega)
              have HR1 := Lib.hid (And.intro hit1 (And.intro hlt1 (And.intro hc1 (And.intro hs1 hQ1))))
              clear hmi hit1 hlt1 hc1 hs1 hQ1 hy0
              cases hz : lastOf i (nodesOf t) with
              | none =>
                have hla := HQ.out.an.none (n := i) hz
                obtain ⟨ho, hm⟩ := htwo.resolve_left (fun h => h hz)
                obtain ⟨q, hq⟩ : ∃ q, lastOf i (nodesOf s.sub) = some q := by
                  cases e : lastOf i (nodesOf s.sub) with
                  | none => exact absurd e hm
                  | some q => exact ⟨q, rfl⟩
                obtain ⟨Aq, cq, hlm⟩ := HQ.out.mn.some (n := i) hq
                obtain ⟨q0, q1, q2, q3, q4, q5, q6, q7, q8⟩ := blk9 (HQB.out.kept ((HR1.out.2.2.2.2.alloc (.cells #[.int .i64 0, .int .i64 0, .string ⟨#[]⟩, .slice none 0 0] 24)).alloc (.cells #[.int .i64 (Tr.id q), .int .i64 (Tr.kind q), .string (Tr.text q), .slice Aq (Tr.kids q).length cq] 24))).s
                have d3 : (s.op != 1) = false := by rw [ho]; rfl
                have HL := Lib.hid (And.intro hla hlm)
                clear hz hla ho hm hq hlm htwo q1 q2 q3 q4 q5 q6 q7 q8
                go_wp2_with (first
                  | (at_lookup; refine wpList_lookup_ok_I (T := 29) (z := .agg #[.int .i64 0, .int .i64 0, .string ⟨#[]⟩, .slice none 0 0]) rfl (.tmp 158) (.tmp 159) rfl Try.underlying29 Try.underlying3 zeroN (HQ.out.a.kept HR1.out.2.2.2.2 (by simp)) i rfl rfl (u := .agg #[.int .i64 0, .int .i64 0, .string ⟨#[]⟩, .slice none 0 0]) (by rw [HL.out.1]; rfl) (c := false) (by rw [HL.out.1]; rfl) ?_
                     ((try dsimp only); (try simp only [Act.put, List.setIfInBounds_toArray, List.set_cons_zero, List.set_cons_succ])))
                  | (at_lookup; refine wpList_lookup_ok_I (T := 29) (z := .agg #[.int .i64 0, .int .i64 0, .string ⟨#[]⟩, .slice none 0 0]) rfl (.tmp 164) (.tmp 165) rfl Try.underlying29 Try.underlying3 zeroN (HQ.out.m.kept (HR1.out.2.2.2.2.alloc _) (by simp)) i rfl rfl (u := .agg #[.int .i64 (Tr.id q), .int .i64 (Tr.kind q), .string (Tr.text q), .slice Aq (Tr.kids q).length cq]) (by rw [HL.out.2]; rfl) (c := true) (by rw [HL.out.2]; rfl) ?_
                     ((try dsimp only); (try simp only [Act.put, List.setIfInBounds_toArray, List.set_cons_zero, List.set_cons_succ])))
                  | (skip; fail))
                go_roundw
                case rel => exact ⟨done2 ++ [i], Lib.hid ⟨HR1.out.1.kept (l := []) (by with_reducible repeat (first | exact Chg.refl _ _ | apply Chg.alloc | apply Chg.drew | apply Chg.drewN | (refine Chg.setCell ?_ _ _ (by simp)))) (by simp) (by simp), (HR1.out.2.2.2.2.alloc _).alloc _⟩⟩
                case measure =>
                  rw [HR1.out.1.left_kept (l := []) (show Chg [] w1 _ from (by with_reducible repeat (first | exact Chg.refl _ _ | apply Chg.alloc | apply Chg.drew | apply Chg.drewN | (refine Chg.setCell ?_ _ _ (by simp))))) (by simp) (by simp)]; exact HR1.out.2.1
              | some y =>
                obtain ⟨Ay, cy, hla⟩ := HQ.out.an.some (n := i) hz
                clear htwo hz
                cases hq : lastOf i (nodesOf s.sub) with
                | none =>
                  have hlm := HQ.out.mn.none (n := i) hq
                  have HL := Lib.hid (And.intro hla hlm)
                  clear hq hla hlm
                  go_wp2_with (first
                    | (at_lookup; refine wpList_lookup_ok_I (T := 29) (z := .agg #[.int .i64 0, .int .i64 0, .string ⟨#[]⟩, .slice none 0 0]) rfl (.tmp 158) (.tmp 159) rfl Try.underlying29 Try.underlying3 zeroN (HQ.out.a.kept HR1.out.2.2.2.2 (by simp)) i rfl rfl (u := .agg #[.int .i64 (Tr.id y), .int .i64 (Tr.kind y), .string (Tr.text y), .slice Ay (Tr.kids y).length cy]) (by rw [HL.out.1]; rfl) (c := true) (by rw [HL.out.1]; rfl) ?_
                       ((try dsimp only); (try simp only [Act.put, List.setIfInBounds_toArray, List.set_cons_zero, List.set_cons_succ])))
                    | (at_lookup; refine wpList_lookup_ok_I (T := 29) (z := .agg #[.int .i64 0, .int .i64 0, .string ⟨#[]⟩, .slice none 0 0]) rfl (.tmp 164) (.tmp 165) rfl Try.underlying29 Try.underlying3 zeroN (HQ.out.m.kept (HR1.out.2.2.2.2.alloc _) (by simp)) i rfl rfl (u := .agg #[.int .i64 0, .int .i64 0, .string ⟨#[]⟩, .slice none 0 0]) (by rw [HL.out.2]; rfl) (c := false) (by rw [HL.out.2]; rfl) ?_
                       ((try dsimp only); (try simp only [Act.put, List.setIfInBounds_toArray, List.set_cons_zero, List.set_cons_succ])))
                    | (skip; fail))
                  go_roundw
                  case rel => exact ⟨done2 ++ [i], Lib.hid ⟨HR1.out.1.kept (l := []) (by with_reducible repeat (first | exact Chg.refl _ _ | apply Chg.alloc | apply Chg.drew | apply Chg.drewN | (refine Chg.setCell ?_ _ _ (by simp)))) (by simp) (by simp), (HR1.out.2.2.2.2.alloc _).alloc _⟩⟩
                  case measure =>
                    rw [HR1.out.1.left_kept (l := []) (show Chg [] w1 _ from (by with_reducible repeat (first | exact Chg.refl _ _ | apply Chg.alloc | apply Chg.drew | apply Chg.drewN | (refine Chg.setCell ?_ _ _ (by simp))))) (by simp) (by simp)]; exact HR1.out.2.1
                | some q =>
                  obtain ⟨Aq, cq, hlm⟩ := HQ.out.mn.some (n := i) hq
                  have HL := Lib.hid (And.intro hla hlm)
                  clear hq hla hlm
                  go_wp2_with (first
                    | (at_lookup; refine wpList_lookup_ok_I (T := 29) (z := .agg #[.int .i64 0, .int .i64 0, .string ⟨#[]⟩, .slice none 0 0]) rfl (.tmp 158) (.tmp 159) rfl Try.underlying29 Try.underlying3 zeroN (HQ.out.a.kept HR1.out.2.2.2.2 (by simp)) i rfl rfl (u := .agg #[.int .i64 (Tr.id y), .int .i64 (Tr.kind y), .string (Tr.text y), .slice Ay (Tr.kids y).length cy]) (by rw [HL.out.1]; rfl) (c := true) (by rw [HL.out.1]; rfl) ?_
                       ((try dsimp only); (try simp only [Act.put, List.setIfInBounds_toArray, List.set_cons_zero, List.set_cons_succ])))
                    | (at_lookup; refine wpList_lookup_ok_I (T := 29) (z := .agg #[.int .i64 0, .int .i64 0, .string ⟨#[]⟩, .slice none 0 0]) rfl (.tmp 164) (.tmp 165) rfl Try.underlying29 Try.underlying3 zeroN (HQ.out.m.kept (HR1.out.2.2.2.2.alloc _) (by simp)) i rfl rfl (u := .agg #[.int .i64 (Tr.id q), .int .i64 (Tr.kind q), .string (Tr.text q), .slice Aq (Tr.kids q).length cq]) (by rw [HL.out.2]; rfl) (c := true) (by rw [HL.out.2]; rfl) ?_
                       ((try dsimp only); (try simp only [Act.put, List.setIfInBounds_toArray, List.set_cons_zero, List.set_cons_succ])))
                    | (skip; fail))
                  go_roundw
                  case rel => exact ⟨done2 ++ [i], Lib.hid ⟨HR1.out.1.kept (l := []) (by with_reducible repeat (first | exact Chg.refl _ _ | apply Chg.alloc | apply Chg.drew | apply Chg.drewN | (refine Chg.setCell ?_ _ _ (by simp)))) (by simp) (by simp), (HR1.out.2.2.2.2.alloc _).alloc _⟩⟩
                  case measure =>
                    rw [HR1.out.1.left_kept (l := []) (show Chg [] w1 _ from (by with_reducible repeat (first | exact Chg.refl _ _ | apply Chg.alloc | apply Chg.drew | apply Chg.drewN | (refine Chg.setCell ?_ _ _ (by simp))))) (by simp) (by simp)]; exact HR1.out.2.1
        · intro i v w1 hmi _ hit1 hlt1 hc1 hs1 hen
          obtain ⟨y, Ay, cy, hy, rfl⟩ := HQ.out.an.at hmi
          have hone := HQ.out.k.one i y hy
          have hQ1 : Chg [] Q w1 := H.out.2.andThen hc1 (by simp)
          have HR1 := Lib.hid (And.intro hit1 (And.intro hlt1 (And.intro hc1 (And.intro hs1 (And.intro hone hQ1)))))
          clear hmi hit1 hlt1 hc1 hs1 hone hQ1 hy
          cases hz : lastOf i (nodesOf x) with
          | none =>
            have hlb := HQ.out.bn.none (n := i) hz
            have hgs : (lg i).isSome = true := by have := HR1.out.2.2.2.2.1.1; simp only [hz] at this; simpa using this
            obtain ⟨q, hq⟩ := Option.isSome_iff_exists.1 hgs
            obtain ⟨Aq, cq, hlg⟩ := HQ.out.gn.some hq
            have HL := Lib.hid (And.intro hlb hlg)
            clear hz hlb hgs hq hlg
            go_wp2_with (first
              | (at_lookup; refine wpList_lookup_ok_I (T := 29) (z := .agg #[.int .i64 0, .int .i64 0, .string ⟨#[]⟩, .slice none 0 0]) rfl (.tmp 109) (.tmp 110) rfl Try.underlying29 Try.underlying3 zeroN (HQ.out.b.kept (HR1.out.2.2.2.2.2.alloc _) (by simp)) i rfl rfl (u := .agg #[.int .i64 0, .int .i64 0, .string ⟨#[]⟩, .slice none 0 0]) (by rw [HL.out.1]; rfl) (c := false) (by rw [HL.out.1]; rfl) ?_
                 ((try dsimp only); (try simp only [Act.put, List.setIfInBounds_toArray, List.set_cons_zero, List.set_cons_succ])))
              | (at_lookup; refine wpList_lookup_ok_I (T := 29) (z := .agg #[.int .i64 0, .int .i64 0, .string ⟨#[]⟩, .slice none 0 0]) rfl (.tmp 115) (.tmp 116) rfl Try.underlying29 Try.underlying3 zeroN (HQ.out.g.kept ((HR1.out.2.2.2.2.2.alloc _).alloc _) (by simp)) i rfl rfl (u := .agg #[.int .i64 (Tr.id q), .int .i64 (Tr.kind q), .string (Tr.text q), .slice Aq (Tr.kids q).length cq]) (by rw [HL.out.2]; rfl) (c := true) (by rw [HL.out.2]; rfl) ?_
                 ((try dsimp only); (try simp only [Act.put, List.setIfInBounds_toArray, List.set_cons_zero, List.set_cons_succ])))
              | (skip; fail))
            go_roundw
            case rel => exact ⟨done ++ [i], Lib.hid ⟨HR1.out.1.kept (l := []) (by with_reducible repeat (first | exact Chg.refl _ _ | apply Chg.alloc | apply Chg.drew | apply Chg.drewN | (refine Chg.setCell ?_ _ _ (by simp)))) (by simp) (by simp), ((HR1.out.2.2.2.2.2.alloc _).alloc _).alloc _⟩⟩
            case measure =>
              rw [HR1.out.1.left_kept (l := []) (show Chg [] w1 _ from (by with_reducible repeat (first | exact Chg.refl _ _ | apply Chg.alloc | apply Chg.drew | apply Chg.drewN | (refine Chg.setCell ?_ _ _ (by simp))))) (by simp) (by simp)]; exact HR1.out.2.1
          | some z =>
            obtain ⟨Az, cz, hlb⟩ := HQ.out.bn.some (n := i) hz
            have hgs : lg i = none := by have := HR1.out.2.2.2.2.1.1; simp only [hz] at this; simpa using this
            have hlg := HQ.out.gn.none hgs
            obtain ⟨hk, htx⟩ := HR1.out.2.2.2.2.1.2 z hz
            have HL := Lib.hid (And.intro hlb hlg)
            obtain ⟨zi, zk, zt, zks⟩ := z
            simp only at hk htx hlb
            subst hk
            clear hz hgs HL
            by_cases htz : y.text = zt
            · subst htz
              have HL := Lib.hid (And.intro hlb hlg)
              clear hlb hlg htx
              go_wp2_with (first
                | (at_lookup; refine wpList_lookup_ok_I (T := 29) (z := .agg #[.int .i64 0, .int .i64 0, .string ⟨#[]⟩, .slice none 0 0]) rfl (.tmp 109) (.tmp 110) rfl Try.underlying29 Try.underlying3 zeroN (HQ.out.b.kept (HR1.out.2.2.2.2.2.alloc _) (by simp)) i rfl rfl (u := .agg #[.int .i64 zi, .int .i64 y.kind, .string y.text, .slice Az zks.length cz]) (by rw [HL.out.1]; rfl) (c := true) (by rw [HL.out.1]; rfl) ?_
                   ((try dsimp only); (try simp only [Act.put, List.setIfInBounds_toArray, List.set_cons_zero, List.set_cons_succ])))
                | (at_lookup; refine wpList_lookup_ok_I (T := 29) (z := .agg #[.int .i64 0, .int .i64 0, .string ⟨#[]⟩, .slice none 0 0]) rfl (.tmp 115) (.tmp 116) rfl Try.underlying29 Try.underlying3 zeroN (HQ.out.g.kept ((HR1.out.2.2.2.2.2.alloc _).alloc _) (by simp)) i rfl rfl (u := .agg #[.int .i64 0, .int .i64 0, .string ⟨#[]⟩, .slice none 0 0]) (by rw [HL.out.2]; rfl) (c := false) (by rw [HL.out.2]; rfl) ?_
                   ((try dsimp only); (try simp only [Act.put, List.setIfInBounds_toArray, List.set_cons_zero, List.set_cons_succ])))
                | (skip; fail))
              go_roundw
              case rel => exact ⟨done ++ [i], Lib.hid ⟨HR1.out.1.kept (l := []) (by with_reducible repeat (first | exact Chg.refl _ _ | apply Chg.alloc | apply Chg.drew | apply Chg.drewN | (refine Chg.setCell ?_ _ _ (by simp)))) (by simp) (by simp), ((HR1.out.2.2.2.2.2.alloc _).alloc _).alloc _⟩⟩
              case measure =>
                rw [HR1.out.1.left_kept (l := []) (show Chg [] w1 _ from (by with_reducible repeat (first | exact Chg.refl _ _ | apply Chg.alloc | apply Chg.drew | apply Chg.drewN | (refine Chg.setCell ?_ _ _ (by simp))))) (by simp) (by simp)]; exact HR1.out.2.1
            · obtain ⟨ho, hi⟩ := htx.resolve_left htz
              have hne : ¬ y.text.toList = zt.toList := fun e => htz (text_inj e)
              have d2 : (y.text.toList != zt.toList) = true := by simpa using hne
              obtain ⟨q0, q1, q2, q3, q4, q5, q6, q7, q8⟩ := blk9 (HQB.out.kept ((((HR1.out.2.2.2.2.2.alloc (.cells #[.int .i64 (Tr.id y), .int .i64 (Tr.kind y), .string (Tr.text y), .slice Ay (Tr.kids y).length cy] 24)).alloc (.cells #[.int .i64 zi, .int .i64 y.kind, .string zt, .slice Az zks.length cz] 24)).alloc (.cells #[.int .i64 0, .int .i64 0, .string ⟨#[]⟩, .slice none 0 0] 24)))).s
              have d3 : (s.op != 4) = false := by rw [ho]; rfl
              have d4 : (i != s.id) = false := by rw [hi]; simp
              have HL := Lib.hid (And.intro hlb hlg)
              clear htz htx ho hi q2 q3 q4 q5 q6 q7 q8 hlb hlg
              go_wp2_with (first
                | (at_lookup; refine wpList_lookup_ok_I (T := 29) (z := .agg #[.int .i64 0, .int .i64 0, .string ⟨#[]⟩, .slice none 0 0]) rfl (.tmp 109) (.tmp 110) rfl Try.underlying29 Try.underlying3 zeroN (HQ.out.b.kept (HR1.out.2.2.2.2.2.alloc _) (by simp)) i rfl rfl (u := .agg #[.int .i64 zi, .int .i64 y.kind, .string zt, .slice Az zks.length cz]) (by rw [HL.out.1]; rfl) (c := true) (by rw [HL.out.1]; rfl) ?_
                   ((try dsimp only); (try simp only [Act.put, List.setIfInBounds_toArray, List.set_cons_zero, List.set_cons_succ])))
                | (at_lookup; refine wpList_lookup_ok_I (T := 29) (z := .agg #[.int .i64 0, .int .i64 0, .string ⟨#[]⟩, .slice none 0 0]) rfl (.tmp 115) (.tmp 116) rfl Try.underlying29 Try.underlying3 zeroN (HQ.out.g.kept ((HR1.out.2.2.2.2.2.alloc _).alloc _) (by simp)) i rfl rfl (u := .agg #[.int .i64 0, .int .i64 0, .string ⟨#[]⟩, .slice none 0 0]) (by rw [HL.out.2]; rfl) (c := false) (by rw [HL.out.2]; rfl) ?_
                   ((try dsimp only); (try simp only [Act.put, List.setIfInBounds_toArray, List.set_cons_zero, List.set_cons_succ])))
                | (skip; fail))
              go_roundw
              case rel => exact ⟨done ++ [i], Lib.hid ⟨HR1.out.1.kept (l := []) (by with_reducible repeat (first | exact Chg.refl _ _ | apply Chg.alloc | apply Chg.drew | apply Chg.drewN | (refine Chg.setCell ?_ _ _ (by simp)))) (by simp) (by simp), ((HR1.out.2.2.2.2.2.alloc _).alloc _).alloc _⟩⟩
              case measure =>
                rw [HR1.out.1.left_kept (l := []) (show Chg [] w1 _ from (by with_reducible repeat (first | exact Chg.refl _ _ | apply Chg.alloc | apply Chg.drew | apply Chg.drewN | (refine Chg.setCell ?_ _ _ (by simp))))) (by simp) (by simp)]; exact HR1.out.2.1
  · have e0 : (z1 == 0) = false := by simpa using hz
    have e0' : (z1 != 0) = true := by simpa using hz
    clear hz
    go_wp2_with (go_at_call 17; refine (swakes_any _).mono ?_; rintro e V2 ⟨rfl, hV2⟩; have HV2 := Lib.hid hV2; clear hV2)
    go_ret
    exact ⟨rfl, HU.out.1.chg.trans HV2.out⟩
end Go.Proofs.Ytofjocjljbkjgaa
namespace Go.Proofs.Ytofjocjljbkjgaa
open Go.RowKit
def allJ (j : GJ) (root : Int) : Tr → List Stp → Nat → Nat × Int
  | _, [], i => (i, 0)
  | t, s :: l, i => if insideB root t s then match doJ j t s with
      | .error n => (i, n)
      | .ok x => allJ j root x l (i + 1)
    else (i, 130)
def withinAll (j : GJ) (root : Int) (t : Tr) (l : List Stp) : Nat × Int :=
  if checkB l then (if root ∈ t.ids then allJ j root t l 0 else (0, 4)) else (0, 3)
structure WA (g : Gr) (Ag : Option Addr) (cg : Nat) (w : World) (x : Tr) (A : Option Addr) (c : Nat) (W : World) : Prop where
  g : W.heap[w.heap.size]? = some (.cells #[.slice Ag g.kinds.length cg, .int .i64 g.root] 43 (0, 0))
  t : W.heap[w.heap.size + 1]? = some (.cells #[.int .i64 (Tr.id x), .int .i64 (Tr.kind x), .string (Tr.text x), .slice A (Tr.kids x).length c] 24 (0, 0))
  x : TrC (fun b => b < W.heap.size ∧ b ≠ w.heap.size + 1) W x [.int .i64 (Tr.id x), .int .i64 (Tr.kind x), .string (Tr.text x), .slice A (Tr.kids x).length c]
  chg : Chg [] w W
theorem WA.kept {g : Gr} {Ag : Option Addr} {cg : Nat} {w : World} {x : Tr} {A : Option Addr} {c : Nat} {W W' : World} (h : WA g Ag cg w x A c W) (hc : Chg [] W W') : WA g Ag cg w x A c W' :=
  ⟨hc.at h.g (by simp), hc.at h.t (by simp), (h.x.kept hc (by simp)).weak (fun b hb _ => ⟨Nat.lt_of_lt_of_le hb.1 hc.size, hb.2⟩), h.chg.trans hc⟩
theorem WA.read {g : Gr} {Ag : Option Addr} {cg : Nat} {w : World} {x : Tr} {A : Option Addr} {c : Nat} {W : World} (h : WA g Ag cg w x A c W) : TrC (fun b => b < W.heap.size) W x [.int .i64 (Tr.id x), .int .i64 (Tr.kind x), .string (Tr.text x), .slice A (Tr.kids x).length c] := h.x.weak (fun b hb _ => hb.1)
set_option maxHeartbeats 4000000 in
set_option maxRecDepth 100000 in
theorem wall_any (g : Gr) (j : GJ) (hj : j.Of g) (Ag : Option Addr) (cg : Nat) (t : Tr) (A : Option Addr) (c : Nat) (root : Int) (ss : List Stp) (B : Option Addr) (d : Nat) (w : World) (hG : GrC w Ag cg g.kinds) (hT : TrC (fun b => b < w.heap.size) w t [.int .i64 (Tr.id t), .int .i64 (Tr.kind t), .string (Tr.text t), .slice A (Tr.kids t).length c]) (hS : StpsC (fun b => b < w.heap.size) w B ss) (hl : ss.length ≤ 9223372036854775807) :
    Calls Try.prog 26 #[.agg #[.slice Ag g.kinds.length cg, .int .i64 g.root], .agg #[.int .i64 (Tr.id t), .int .i64 (Tr.kind t), .string (Tr.text t), .slice A (Tr.kids t).length c], .int .i64 root, .slice B ss.length d] w fun e w' => e = .returned (.tuple #[.int .i64 (withinAll j root t ss).1, .int .i64 (withinAll j root t ss).2]) ∧ Chg [] w w' := by
  have hmm := @run_makeMap Try.prog
  obtain ⟨W, hW⟩ : ∃ W, W = ((w.alloc (.cells #[.slice Ag g.kinds.length cg, .int .i64 g.root] 43)).alloc (.cells #[.int .i64 (Tr.id t), .int .i64 (Tr.kind t), .string (Tr.text t), .slice A (Tr.kids t).length c] 24)).alloc (.map #[] 0) := ⟨_, rfl⟩
  have hcW : Chg [] w W := by rw [hW]; exact (by with_reducible repeat (first | exact Chg.refl _ _ | apply Chg.alloc | apply Chg.drew | apply Chg.drewN | (refine Chg.setCell ?_ _ _ (by simp))))
  have hWA : WA g Ag cg w t A c W := ⟨by rw [hW]; exact heap_old (heap_old (heap_new _ _ rfl) _) _, by rw [hW]; exact heap_old (heap_new _ _ (by simp)) _, (hT.kept hcW (by simp)).weak (fun b hb _ => ⟨Nat.lt_of_lt_of_le hb hcW.size, by omega⟩), hcW⟩
  have hM : MapI W (w.heap.size + 1 + 1) (seenM []) := by
    have h1 := MapI.made ((w.alloc (.cells #[.slice Ag g.kinds.length cg, .int .i64 g.root] 43)).alloc (.cells #[.int .i64 (Tr.id t), .int .i64 (Tr.kind t), .string (Tr.text t), .slice A (Tr.kids t).length c] 24))
    rw [show (fun _ => none : Int → Option Value) = seenM [] from by funext n; simp [seenM], show ((w.alloc (.cells #[.slice Ag g.kinds.length cg, .int .i64 g.root] 43)).alloc (.cells #[.int .i64 (Tr.id t), .int .i64 (Tr.kind t), .string (Tr.text t), .slice A (Tr.kids t).length c] 24)).heap.size = w.heap.size + 1 + 1 from by simp] at h1
    rw [hW]; exact h1
  have hck := check_any ss B d W (hS.next hcW) hl
  have hbl := below_any (w.heap.size + 1 + 1) root t (w.heap.size + 1) 0 false [] W ⟨_, range_all hWA.t, (hT.kept hcW (by simp)).weak (fun b hb _ => by omega)⟩ (by omega) hM
  have HW := Lib.hid (And.intro hW (And.intro hWA (And.intro hck (And.intro hbl (And.intro hG (And.intro hS (And.intro hj hT)))))))
  clear hW hcW hWA hM hck hbl hG hS hT hj
  go_enter Try.func26, Try.ntmps26
  go_wp2_with fail
  rw [← HW.out.1]
  refine HW.out.2.2.1.mono ?_
  rintro e X ⟨rfl, rfl⟩
  by_cases hch : checkB ss = true
  · have he : checkE ss = 0 := by unfold checkE; rw [hch]; rfl
    rw [he]
    have hwa : withinAll j root t ss = if root ∈ t.ids then allJ j root t ss 0 else (0, 4) := by unfold withinAll; rw [hch]; rfl
    have HA := Lib.hid hwa
    clear hch he hwa
    go_wp2_with fail
    refine HW.out.2.2.2.1.mono ?_
    rintro e X ⟨rfl, _, hX⟩
    rw [Bool.false_or]
    have hXA : WA g Ag cg w t A c X := by
      have h := HW.out.2.1
      have hwX : Chg [] w X := h.chg.andThen hX (by simp; omega)
      exact ⟨hX.at h.g (by simp; omega), hX.at h.t (by simp), (HW.out.2.2.2.2.2.2.2.kept hwX (by simp)).weak (fun b hb _ => ⟨Nat.lt_of_lt_of_le hb hwX.size, by omega⟩), hwX⟩
    by_cases hr : root ∈ t.ids
    · rw [decide_eq_true hr]
      have HX := Lib.hid (And.intro hXA (show withinAll j root t ss = allJ j root t ss 0 by rw [HA.out, if_pos hr]))
      clear hX hXA hr
      go_wp2_with (skip; fail)
      go_loopw [25] (fun iv wr => ∃ (k : Nat) (x : Tr) (Ax : Option Addr) (cx : Nat), k ≤ ss.length ∧ iv = .int .i64 k ∧ Hid (WA g Ag cg w x Ax cx wr ∧ withinAll j root t ss = allJ j root x (ss.drop k) k)) (fun iv _ => ss.length - (intOf iv).toNat)
      case atStart => exact ⟨0, t, A, c, Nat.zero_le _, rfl, Lib.hid ⟨HX.out.1, by rw [HX.out.2]; rfl⟩⟩
      case round =>
        obtain ⟨k, x, Ax, cx, hk, rfl, H⟩ := hrel
        obtain ⟨V, hV⟩ : ∃ V, V = wr := ⟨_, rfl⟩
        subst hV
        by_cases hlt : k < ss.length
        · obtain ⟨gs, os, As, cs, rfl, _, hrs, hTs, hts, hop⟩ := (HW.out.2.2.2.2.2.1.next H.out.1.chg).at hlt
          obtain ⟨s, hs⟩ : ∃ s, s = ss[k] := ⟨_, rfl⟩
          rw [← hs] at hrs hTs hts hop
          have hun : withinAll j root t ss = if insideB root x s then match doJ j x s with | .error n => (k, n) | .ok y => allJ j root y (ss.drop (k + 1)) (k + 1) else (k, 130) := by
            rw [H.out.2, List.drop_eq_getElem_cons hlt, ← hs]; rfl
          obtain ⟨U, hU⟩ : ∃ U, U = V.alloc (.cells #[.int .i8 (Stp.op s), .int .i64 (Stp.id s), .int .i64 (Stp.par s), .int .i64 (Stp.place s), .string (Stp.text s), .int .i64 (Stp.sub s).id, .int .i64 (Stp.sub s).kind, .string (Stp.sub s).text, .slice As (Stp.sub s).kids.length cs] 27) := ⟨_, rfl⟩
          have hVU : Chg [] V U := by rw [hU]; exact (by with_reducible repeat (first | exact Chg.refl _ _ | apply Chg.alloc | apply Chg.drew | apply Chg.drewN | (refine Chg.setCell ?_ _ _ (by simp))))
          have hUA := H.out.1.kept hVU
          have hUb : U.heap[V.heap.size]? = some (.cells #[.int .i8 (Stp.op s), .int .i64 (Stp.id s), .int .i64 (Stp.par s), .int .i64 (Stp.place s), .string (Stp.text s), .int .i64 (Stp.sub s).id, .int .i64 (Stp.sub s).kind, .string (Stp.sub s).text, .slice As (Stp.sub s).kids.length cs] 27 (0, 0)) := by rw [hU]; exact heap_new _ _ rfl
          have HU := Lib.hid (And.intro hrs (And.intro hU (And.intro hUA (And.intro hUb (And.intro (show StpC (fun b => b < U.heap.size) U s (#[.int .i8 (Stp.op s), .int .i64 (Stp.id s), .int .i64 (Stp.par s), .int .i64 (Stp.place s), .string (Stp.text s), .int .i64 (Stp.sub s).id, .int .i64 (Stp.sub s).kind, .string (Stp.sub s).text, .slice As (Stp.sub s).kids.length cs] : Array Value).toList from (show StpC _ V s _ from ⟨As, cs, rfl, hTs, hts, hop⟩).next hVU) hun)))))
          clear hrs hTs hts hop hs hun hU hVU hUA hUb
          obtain ⟨p0, p1, p2, p3⟩ := blk4 HU.out.2.2.1.t
          obtain ⟨q0, q1, q2, q3, q4, q5, q6, q7, q8⟩ := blk9 HU.out.2.2.2.1
          rw [HU.out.2.1] at p0 p1 p2 p3 q0 q1 q2 q3 q4 q5 q6 q7 q8
          have hws := wstep_any x Ax cx root s As cs U HU.out.2.2.1.read
          have HS := Lib.hid hws
          clear hws
          go_wp2_with (first
            | (refine wpList_load_mid rfl 27 (.tmp 28) rfl gs (os + k * 9) (by kernel_rfl) _ _ HU.out.1 Try.underlying27 rfl (by kernel_rfl) ?_
               ((try dsimp only); (try simp only [Act.put, List.setIfInBounds_toArray, List.set_cons_zero, List.set_cons_succ])))
            | (skip; fail))
          rw [← HU.out.2.1]
          clear p0 p1 p2 p3 q0 q1 q2 q3 q4 q5 q6 q7 q8
          refine HS.out.mono ?_
          rintro e Y ⟨rfl, hY⟩
          have hYA := HU.out.2.2.1.kept hY
          have hYb := hY.at HU.out.2.2.2.1 (by simp)
          cases hin : insideB root x s with
          | false =>
            have HE := Lib.hid (And.intro hYA.chg (show withinAll j root t ss = (k, 130) by rw [HU.out.2.2.2.2.2, hin]; rfl))
            clear hin hY hYA hYb
            go_wp2_with (skip; fail)
            go_ret2
            exact ⟨by rw [HE.out.2]; rfl, HE.out.1⟩
          | true =>
            obtain ⟨g0, g1⟩ := cell2 hYA.g
            obtain ⟨p0, p1, p2, p3⟩ := blk4 hYA.t
            obtain ⟨q0, q1, q2, q3, q4, q5, q6, q7, q8⟩ := blk9 hYb
            have hdo := do_any g j HW.out.2.2.2.2.2.2.1 Ag cg x s Ax cx (#[.int .i8 (Stp.op s), .int .i64 (Stp.id s), .int .i64 (Stp.par s), .int .i64 (Stp.place s), .string (Stp.text s), .int .i64 (Stp.sub s).id, .int .i64 (Stp.sub s).kind, .string (Stp.sub s).text, .slice As (Stp.sub s).kids.length cs] : Array Value).toList Y (HW.out.2.2.2.2.1.kept hYA.chg) hYA.read (HU.out.2.2.2.2.1.next hY)
            have hun : withinAll j root t ss = match doJ j x s with | .error n => (k, n) | .ok y => allJ j root y (ss.drop (k + 1)) (k + 1) := by rw [HU.out.2.2.2.2.2, hin]; rfl
            unfold ApplyPost at hdo
            cases hr : doJ j x s with
            | error n =>
              have hn0 := doJ_ne hr
              have e0 : (n == 0) = false := by simpa using hn0
              have e0' : (n != 0) = true := by simpa using hn0
              simp only [hr] at hdo hun
              have HD := Lib.hid (And.intro hdo (And.intro hun hYA))
              clear hdo hun hr hn0 hin hY hYA hYb
              go_wp2_with fail
              refine HD.out.1.mono ?_
              rintro e Z ⟨rfl, hZ⟩
              have hZA := HD.out.2.2.kept hZ
              obtain ⟨p0, p1, p2, p3⟩ := blk4 hZA.t
              have f0 := blkF hZA.t 0
              have f1 := blkF hZA.t 1
              have f2 := blkF hZA.t 2
              have f3 := blkF hZA.t 3
              have HZ := Lib.hid hZA.chg
              clear hZ hZA
              go_wp2_with (skip; fail)
              go_ret2
              exact ⟨by rw [HD.out.2.1]; rfl, HZ.out.andThen (chg4 _ _ _ _ _ _) (by simp)⟩
            | ok y =>
              simp only [hr] at hdo hun
              have HD := Lib.hid (And.intro hdo (And.intro hun hYA))
              clear hdo hun hr hin hY hYA hYb
              go_wp2_with fail
              refine HD.out.1.mono ?_
              rintro e Z ⟨Ay, cy, rfl, hTy, hZ⟩
              have hZA := HD.out.2.2.kept hZ
              obtain ⟨p0, p1, p2, p3⟩ := blk4 hZA.t
              have f0 := blkF hZA.t 0
              have f1 := blkF hZA.t 1
              have f2 := blkF hZA.t 2
              have f3 := blkF hZA.t 3
              have hYl := lt_of_block HD.out.2.2.t
              have HZ := Lib.hid (And.intro hZA (hTy.toC.weak (ok' := fun b => b < Z.heap.size ∧ b ≠ w.heap.size + 1) (fun b hb _ => ⟨hb.2, by omega⟩)))
              clear hZ hZA hTy
              go_wp2_with (skip; fail)
              go_roundw
              case rel =>
                have hc4 := chg4 Z (w.heap.size + 1) (.int .i64 y.id) (.int .i64 y.kind) (.string y.text) (.slice Ay y.kids.length cy)
                have hs4 := hc4.size
                refine ⟨k + 1, y, Ay, cy, by omega, by go_num, Lib.hid ⟨⟨hc4.at HZ.out.1.g (by simp), set4 HZ.out.1.t, ?_, HZ.out.1.chg.andThen hc4 (by simp)⟩, by rw [HD.out.2.1]⟩⟩
                exact (HZ.out.2.kept hc4 (fun b hb => by simp; exact hb.2)).weak (fun b hb _ => ⟨by omega, hb.2⟩)
              case measure => simp [intOf]; omega
        · obtain rfl : k = ss.length := by omega
          have hfin := H.out.2
          rw [List.drop_length] at hfin
          have HF := Lib.hid hfin
          clear hfin
          go_wp2_with (skip; fail)
          go_ret2
          exact ⟨by rw [HF.out]; rfl, H.out.1.chg⟩
    · rw [decide_eq_false hr]
      have HX := Lib.hid (And.intro hXA.chg (show withinAll j root t ss = (0, 4) by rw [HA.out, if_neg hr]))
      clear hX hXA hr
      go_wp2_with (skip; fail)
      go_ret2
      exact ⟨by rw [HX.out.2]; rfl, HX.out.1⟩
  · have he : checkE ss = 3 := by unfold checkE; rw [if_neg hch]
    rw [he]
    have HA := Lib.hid (show withinAll j root t ss = (0, 3) by unfold withinAll; rw [if_neg hch])
    clear hch he
    go_wp2_with (skip; fail)
    go_ret2
    exact ⟨by rw [HA.out]; rfl, HW.out.2.1.chg⟩
end Go.Proofs.Ytofjocjljbkjgaa
namespace Go.Proofs.Ytofjocjljbkjgaa
open Go.RowKit
theorem subT_path {id : Int} {t x : Tr} (h : t.subT id = some x) : ∃ p, t.path id = some p ∧ Tr.at? p t = some x ∧ x.id = id := by
  unfold Tr.subT at h
  cases hp : t.path id with
  | none => rw [hp] at h; cases h
  | some p =>
    rw [hp] at h
    simp only [] at h
    obtain ⟨y, h1, h2⟩ := Tr.path_at id t p hp
    rw [h] at h1; cases h1
    exact ⟨p, rfl, h, h2⟩
theorem subT_comp {id root : Int} {t x : Tr} (hn : t.ids.Nodup) (h : t.subT id = some x) (hr : root ∈ x.ids) : ∃ p q r, t.path id = some p ∧ Tr.at? p t = some x ∧ x.path root = some q ∧ Tr.at? q x = some r ∧ t.path root = some (p ++ q) ∧ Tr.at? (p ++ q) t = some r ∧ r.id = root ∧ x.id = id := by
  obtain ⟨p, hp, hx, hid⟩ := subT_path h
  obtain ⟨q, hq⟩ := path_some hr
  obtain ⟨r, hr1, hr2⟩ := Tr.path_at root x q hq
  refine ⟨p, q, r, hp, hx, hq, hr1, path_comp p t x q hx hn hq, ?_, hr2, hid⟩
  rw [at_append, hx]; exact hr1
theorem inside_above {root above : Int} {t x : Tr} {s : Stp} (hn : t.ids.Nodup) (h : t.subT above = some x) (hr : root ∈ x.ids) (hin : insideB root t s = true) : insideB above t s = true := by
  obtain ⟨p, q, r, _, hx, _, hrx, hpr, hat, hrid, hxid⟩ := subT_comp hn h hr
  have hsub : t.subT root = some r := by unfold Tr.subT; rw [hpr]; exact hat
  have hxn := at_nodup hx hn
  unfold insideB at hin ⊢
  rw [hsub] at hin
  rw [h]
  simp only [Bool.and_eq_true, List.all_eq_true, decide_eq_true_eq, Bool.not_eq_true', Bool.and_eq_false_iff, Bool.or_eq_false_iff, decide_eq_false_iff_not] at hin ⊢
  obtain ⟨⟨hnot, hne⟩, hall⟩ := hin
  refine ⟨⟨?_, hne⟩, fun i hi => at_ids hrx (hall i hi)⟩
  by_cases hop : s.op = 2 ∨ s.op = 3
  · refine .inl fun e => ?_
    have hid : s.id ∈ r.ids := hall _ (by
      unfold touches
      rcases hop with h | h
      · rw [if_neg (by omega), if_pos (.inl h)]; simp
      · rw [if_neg (by omega), if_neg (by omega), if_pos h]; simp)
    cases q with
    | nil =>
      simp only [Tr.at?, Option.some.injEq] at hrx
      subst hrx
      rcases hnot with h1 | h1
      · exact h1 (by rw [e, ← hrid, hxid])
      · rcases hop with h | h
        · exact h1.1 h
        · exact h1.2 h
    | cons i q =>
      simp only [Tr.at?] at hrx
      cases hk : x.kids[i]? with
      | none => rw [hk] at hrx; cases hrx
      | some k =>
        rw [hk] at hrx
        exact root_apart hxn (mem_idsL (List.mem_of_getElem? hk) (at_ids hrx hid)) (by rw [hxid, e])
  · exact .inr ⟨fun e => hop (.inl e), fun e => hop (.inr e)⟩
theorem doJ_fit {j : GJ} {g : Gr} (hj : j.Of g) {t y : Tr} {s : Stp} (h : doJ j t s = .ok y) : y.kind = g.root ∧ SubOk g y := (hj.fit y).1 (doJ_ok h).2.1
theorem stay_above {j : GJ} {g : Gr} (hj : j.Of g) {root above : Int} {t x y : Tr} {s : Stp} (hn : t.ids.Nodup) (h : t.subT above = some x) (hr : root ∈ x.ids) (hin : insideB root t s = true) (hd : doJ j t s = .ok y) : ∃ x', y.subT above = some x' ∧ root ∈ x'.ids := by
  obtain ⟨p, q, r, _, hx, _, hrx, hpr, hat, hrid, hxid⟩ := subT_comp hn h hr
  obtain ⟨r', _, rfl, hid⟩ := doT_inside hn hpr hat hin (applyT_ok (doJ_ok hd).2.2).2.2
  have hyn := (doJ_fit hj hd).2.nodup
  rw [upd_append p q t x r' hx] at hyn ⊢
  have hat2 := at_upd p t x (Tr.upd q x r') hx
  have hid2 : (Tr.upd q x r').id = above := (upd_id hrx hid).trans hxid
  refine ⟨Tr.upd q x r', ?_, at_ids (at_upd q x r r' hrx) (by rw [← hrid, ← hid]; exact id_mem r')⟩
  unfold Tr.subT
  rw [path_comp p _ _ [] hat2 hyn (by rw [Tr.path_eq, if_pos hid2]), List.append_nil]
  exact hat2
theorem above_all {j : GJ} {g : Gr} (hj : j.Of g) {root above : Int} : ∀ (l : List Stp) (t : Tr) (i : Nat), t.ids.Nodup → (∃ x, t.subT above = some x ∧ root ∈ x.ids) → (allJ j root t l i).2 = 0 → allJ j above t l i = (i + l.length, 0)
  | [], t, i, _, _, _ => rfl
  | s :: l, t, i, hn, ⟨x, hx, hr⟩, h => by
    rw [allJ] at h ⊢
    by_cases hin : insideB root t s = true
    · rw [if_pos hin] at h
      rw [if_pos (inside_above hn hx hr hin)]
      cases hd : doJ j t s with
      | error n => rw [hd] at h; exact absurd h (doJ_ne hd)
      | ok y =>
        rw [hd] at h
        simp only [] at h ⊢
        rw [above_all hj l y (i + 1) (doJ_fit hj hd).2.nodup (stay_above hj hn hx hr hin hd) h]
        simp only [List.length_cons, Prod.mk.injEq, and_true]; omega
    · rw [if_neg hin] at h
      simp at h
theorem within_above {j : GJ} {g : Gr} (hj : j.Of g) {root above : Int} {t x : Tr} {l : List Stp} (hn : t.ids.Nodup) (hx : t.subT above = some x) (hr : root ∈ x.ids) (h : (withinAll j root t l).2 = 0) : withinAll j above t l = (l.length, 0) := by
  unfold withinAll at h ⊢
  split at h
  · rename_i h1
    rw [if_pos h1]
    split at h
    · obtain ⟨p, _, hat, hid⟩ := subT_path hx
      rw [if_pos (at_ids hat (by rw [← hid]; exact id_mem x)), above_all hj l t 0 hn ⟨x, hx, hr⟩ h]
      simp
    · simp at h
  · simp at h
end Go.Proofs.Ytofjocjljbkjgaa
namespace Go.Proofs.Ytofjocjljbkjgaa
open Go.RowKit
theorem foldF_err {f : Tr → Stp → Except Int Tr} {t : Tr} {s : Stp} {n : Int} (h : f t s = .error n) (l : List Stp) (i : Nat) : foldF f t (s :: l) i = (t, i, n) := by simp only [foldF, h]
theorem foldF_yes {f : Tr → Stp → Except Int Tr} {t y : Tr} {s : Stp} (h : f t s = .ok y) (l : List Stp) (i : Nat) : foldF f t (s :: l) i = foldF f y l (i + 1) := by simp only [foldF, h]
theorem foldF_append {f : Tr → Stp → Except Int Tr} (hf : ∀ x s n, f x s = .error n → n ≠ 0) : ∀ (a b : List Stp) (t : Tr) (i : Nat), foldF f t (a ++ b) i = if (foldF f t a i).2.2 = 0 then foldF f (foldF f t a i).1 b (i + a.length) else foldF f t a i
  | [], b, t, i => by simp [foldF]
  | s :: a, b, t, i => by
    rw [List.cons_append]
    cases hx : f t s with
    | error n => rw [foldF_err hx, foldF_err hx, if_neg (hf t s n hx)]
    | ok y =>
      rw [foldF_yes hx, foldF_yes hx, foldF_append hf a b y (i + 1), List.length_cons, show i + 1 + a.length = i + (a.length + 1) by omega]
theorem foldF_shift {f : Tr → Stp → Except Int Tr} : ∀ (a : List Stp) (t : Tr) (i k : Nat), foldF f t a (i + k) = ((foldF f t a k).1, i + (foldF f t a k).2.1, (foldF f t a k).2.2)
  | [], t, i, k => rfl
  | s :: a, t, i, k => by
    cases hx : f t s with
    | error n => rw [foldF_err hx, foldF_err hx]
    | ok y => rw [foldF_yes hx, foldF_yes hx, show i + k + 1 = i + (k + 1) by omega, foldF_shift a y i (k + 1)]
theorem foldF_len' {f : Tr → Stp → Except Int Tr} (hf : ∀ x s n, f x s = .error n → n ≠ 0) : ∀ (l : List Stp) (t : Tr) (i : Nat), (foldF f t l i).2.2 = 0 → (foldF f t l i).2.1 = i + l.length
  | [], t, i, _ => rfl
  | s :: l, t, i, h => by
    unfold foldF at h ⊢
    cases hx : f t s with
    | error n => rw [hx] at h; exact absurd h (hf t s n hx)
    | ok y => rw [hx] at h; simp only [] at h ⊢; rw [foldF_len' hf l y (i + 1) h, List.length_cons]; omega
theorem foldF_nodes {f : Tr → Stp → Except Int Tr} {n : Nat} (hf : ∀ x s y, f x s = .ok y → y.nodes ≤ n) : ∀ (l : List Stp) (t : Tr) (i : Nat), t.nodes ≤ n → (foldF f t l i).1.nodes ≤ n
  | [], t, i, h => h
  | s :: l, t, i, h => by
    simp only [foldF]
    cases hx : f t s with
    | error e => exact h
    | ok y => exact foldF_nodes hf l y (i + 1) (hf t s y hx)
theorem foldF_le {f : Tr → Stp → Except Int Tr} : ∀ (l : List Stp) (t : Tr) (i : Nat), (foldF f t l i).2.1 ≤ i + l.length
  | [], t, i => by simp [foldF]
  | s :: l, t, i => by
    cases hx : f t s with
    | error n => rw [foldF_err hx]; simp
    | ok y => rw [foldF_yes hx]; have := foldF_le (f := f) l y (i + 1); simp; omega
theorem applyL_le (j : GJ) (t : Tr) (l : List Stp) : (applyL j t l).2.1 ≤ l.length := by
  have h := foldF_le (f := doJ j) l t 0
  unfold applyL
  split
  · split
    · omega
    · simp only []; omega
  · exact Nat.zero_le _
theorem insN_append : ∀ (a b : List Stp), insN (a ++ b) = insN a + insN b
  | [], b => by simp [insN]
  | s :: a, b => by simp only [List.cons_append, insN, insN_append a b, Nat.add_assoc]
theorem checkB_app {a b : List Stp} (h : checkB (a ++ b) = true) : checkB a = true ∧ checkB b = true ∧ (a ++ b).length ≤ 60 := by
  unfold checkB at h ⊢
  simp only [Bool.and_eq_true, decide_eq_true_eq, List.length_append, insN_append] at h ⊢
  exact ⟨⟨by omega, by omega⟩, ⟨by omega, by omega⟩, by omega⟩
theorem applyL_nodes {j : GJ} {t : Tr} {l : List Stp} {n : Nat} (hn : t.nodes ≤ n) (h4 : 4000 ≤ n) : (applyL j t l).1.nodes ≤ n := by
  have hd : ∀ x s y, doJ j x s = .ok y → y.nodes ≤ n := fun x s y h => Nat.le_trans (applyT_nodes (doJ_ok h).2.2) h4
  unfold applyL
  split
  · split
    · exact foldF_nodes hd l t 0 hn
    · exact hn
  · exact hn
theorem join_law (j : GJ) (t : Tr) {a b : List Stp} (h : checkB (a ++ b) = true) :
    ((applyL j t a).2.2 ≠ 0 → (applyL j t (a ++ b)).2.2 = (applyL j t a).2.2 ∧ (applyL j t (a ++ b)).1 = t) ∧
    ((applyL j t a).2.2 = 0 → (applyL j (applyL j t a).1 b).2.2 ≠ 0 → applyL j t (a ++ b) = (t, a.length + (applyL j (applyL j t a).1 b).2.1, (applyL j (applyL j t a).1 b).2.2)) ∧
    ((applyL j t a).2.2 = 0 → (applyL j (applyL j t a).1 b).2.2 = 0 → applyL j t (a ++ b) = ((applyL j (applyL j t a).1 b).1, (a ++ b).length, 0)) := by
  obtain ⟨h1, h2, h3⟩ := checkB_app h
  have hne : ∀ x s n, doJ j x s = .error n → n ≠ 0 := fun x s n => doJ_ne
  have e1 : applyL j t a = if (foldF (doJ j) t a 0).2.2 = 0 then foldF (doJ j) t a 0 else (t, (foldF (doJ j) t a 0).2.1, (foldF (doJ j) t a 0).2.2) := by unfold applyL; rw [if_pos h1]
  have e2 : ∀ x, applyL j x b = if (foldF (doJ j) x b 0).2.2 = 0 then foldF (doJ j) x b 0 else (x, (foldF (doJ j) x b 0).2.1, (foldF (doJ j) x b 0).2.2) := fun x => by unfold applyL; rw [if_pos h2]
  have e3 : applyL j t (a ++ b) = if (foldF (doJ j) t (a ++ b) 0).2.2 = 0 then foldF (doJ j) t (a ++ b) 0 else (t, (foldF (doJ j) t (a ++ b) 0).2.1, (foldF (doJ j) t (a ++ b) 0).2.2) := by unfold applyL; rw [if_pos h]
  have e4 := foldF_append hne a b t 0
  by_cases hz : (foldF (doJ j) t a 0).2.2 = 0
  · rw [if_pos hz] at e1
    have e5 := foldF_shift (f := doJ j) b (foldF (doJ j) t a 0).1 a.length 0
    rw [Nat.add_zero] at e5
    rw [if_pos hz, Nat.zero_add, e5] at e4
    rw [e4] at e3
    rw [e1]
    have e2' := e2 (foldF (doJ j) t a 0).1
    refine ⟨fun h => absurd hz h, fun _ hb => ?_, fun _ hb => ?_⟩
    · by_cases hzb : (foldF (doJ j) (foldF (doJ j) t a 0).1 b 0).2.2 = 0
      · rw [e2', if_pos hzb] at hb; exact absurd hzb hb
      · rw [e3, e2', if_neg hzb, if_neg hzb]
    · by_cases hzb : (foldF (doJ j) (foldF (doJ j) t a 0).1 b 0).2.2 = 0
      · have hlen := foldF_len' hne b (foldF (doJ j) t a 0).1 0 hzb
        rw [e3, e2', if_pos hzb, if_pos hzb, hlen, hzb, List.length_append, Nat.zero_add]
      · rw [e2', if_neg hzb] at hb; exact absurd hb hzb
  · rw [if_neg hz] at e1
    rw [if_neg hz] at e4
    rw [e4, if_neg hz] at e3
    rw [e1, e3]
    exact ⟨fun _ => ⟨rfl, rfl⟩, fun h => absurd h hz, fun h => absurd h hz⟩
end Go.Proofs.Ytofjocjljbkjgaa
namespace Go.Proofs.Ytofjocjljbkjgaa
open Go.RowKit
structure Cop (w wr : World) (t : Tr) (A : Option Addr) (c k : Nat) (v : Value) : Prop where
  arg : wr.heap[w.heap.size]? = some (.cells #[.int .i64 (Tr.id t), .int .i64 (Tr.kind t), .string (Tr.text t), .slice A (Tr.kids t).length c] 24 (0, 0))
  res : wr.heap[w.heap.size + 1]? = some (.cells #[.int .i64 0, .int .i64 0, .string ⟨#[]⟩, .slice none 0 0] 24 (0, 0))
  chg : Chg [] w wr
  row : RowV wr (w.heap.size + 2) v (t.kids.take k) (fun g => w.heap.size + 2 ≤ g)
set_option maxHeartbeats 4000000 in
set_option maxRecDepth 100000 in
theorem tcopy_any : ∀ (t : Tr) (A : Option Addr) (c : Nat) (w : World), TrC (fun _ => True) w t [.int .i64 (Tr.id t), .int .i64 (Tr.kind t), .string (Tr.text t), .slice A (Tr.kids t).length c] → t.nodes ≤ 100000 → Calls Try.prog 90 #[.agg #[.int .i64 (Tr.id t), .int .i64 (Tr.kind t), .string (Tr.text t), .slice A (Tr.kids t).length c]] w (NewPost t w) := by
  intro t
  induction t using Tr.ind with
  | h t ih =>
  intro A c w hT hN
  obtain ⟨ip, hi, hz0, hz1, hz2⟩ := info_parts infoNode
  obtain ⟨A', c', hcs, hlc, hcm, htx, hK⟩ := hT.opens
  simp only [List.cons.injEq, Value.slice.injEq, true_and, and_true] at hcs
  obtain ⟨rfl, rfl⟩ := hcs
  have hlen : t.kids.length ≤ 100000 := by have := nodesL_len t.kids; rw [Tr.nodes_eq] at hN; omega
  have HI := Lib.hid (And.intro hi (And.intro hz0 (And.intro hz1 hz2)))
  have HH := Lib.hid (And.intro ih (And.intro hN (And.intro hcm (And.intro hlc (And.intro htx hK)))))
  clear hi hz0 hz1 hz2 hT hK ih hN hcm hlc htx
  go_enter Try.func90, Try.ntmps90
  go_wp2
  refine wp_world (fun W => Cop w W t A c 0 (.slice none 0 0)) ⟨heap_old (heap_new _ _ rfl) _, heap_new _ _ (by simp), (by with_reducible repeat (first | exact Chg.refl _ _ | apply Chg.alloc | apply Chg.drew | apply Chg.drewN | (refine Chg.setCell ?_ _ _ (by simp)))), RowV.nil _ _ _⟩ ?_
  intro W hCop
  have HX := Lib.hid hCop
  clear hCop
  go_loopw [3, 9] (fun vs i wr => ∃ (k : Nat) (v : Value), k ≤ t.kids.length ∧ v = vs ∧ i = .int .i64 k ∧ Hid (Cop w wr t A c k v)) (fun _ i _ => t.kids.length - (intOf i).toNat)
  case atStart => exact ⟨0, _, Nat.zero_le _, rfl, rfl, HX.out⟩
  case round =>
    obtain ⟨k, v, hk, rfl, rfl, H⟩ := hrel
    clear HX
    obtain ⟨Av, cv, rfl⟩ : ∃ Av cv, v = .slice Av k cv := by
      obtain ⟨css, fs, ho, _⟩ := H.out.row
      obtain ⟨Av, cv, e⟩ := own_slice ho
      rw [show (t.kids.take k).length = k from by simp; omega] at e
      exact ⟨Av, cv, e⟩
    by_cases hlt : k < t.kids.length
    · obtain ⟨gk, ok, cs, rfl, _, hr, hat⟩ := HH.out.2.2.2.2.2 k _ (List.getElem?_eq_getElem hlt)
      obtain ⟨Ak, ck, rfl, _⟩ := hat.opens
      have hr' := H.out.chg.range hr (by simp)
      have hkn : (t.kids[k]).nodes ≤ 100000 := by have := nodesL_mem (List.getElem_mem hlt); have h2 := HH.out.2.1; rw [Tr.nodes_eq] at h2; omega
      have hAl : Chg [] wr (wr.alloc (.cells #[.int .i64 (Tr.id (t.kids[k])), .int .i64 (Tr.kind (t.kids[k])), .string (Tr.text (t.kids[k])), .slice Ak (Tr.kids (t.kids[k])).length ck] 24)) := (by with_reducible repeat (first | exact Chg.refl _ _ | apply Chg.alloc | apply Chg.drew | apply Chg.drewN | (refine Chg.setCell ?_ _ _ (by simp))))
      have hcall := HH.out.1 (t.kids[k]) (List.getElem_mem hlt) Ak ck (wr.alloc (.cells #[.int .i64 (Tr.id (t.kids[k])), .int .i64 (Tr.kind (t.kids[k])), .string (Tr.text (t.kids[k])), .slice Ak (Tr.kids (t.kids[k])).length ck] 24)) (hat.kept (H.out.chg.trans hAl) (by simp)) hkn
      have HC := Lib.hid (And.intro hcall (And.intro hr' hAl))
      clear hcall hat hkn hr hr' hAl
      go_wp2_with (first
        | (refine wpList_load_mid rfl 24 (.tmp 11) rfl gk (ok + k * 4) rfl _ _ HC.out.2.1 Try.underlying24 rfl szNode ?_)
        | (go_at_call 90; refine HC.out.1.mono ?_; rintro e X ⟨A1, c1, rfl, hV, hX⟩; have HX := Lib.hid (And.intro hV hX); clear hV hX)
        | (have hwr := lt_of_block H.out.res
           have hXs : wr.heap.size + 1 ≤ X.heap.size := by have := HX.out.2.size; simpa using this
           have hC2 : Chg [] wr X := HC.out.2.2.trans HX.out.2
           have hXa : Chg [] X (X.alloc (.cells #[.int .i64 (Tr.id (t.kids[k])), .int .i64 (Tr.kind (t.kids[k])), .string (Tr.text (t.kids[k])), .slice A1 (Tr.kids (t.kids[k])).length c1] 24)) := (by with_reducible repeat (first | exact Chg.refl _ _ | apply Chg.alloc | apply Chg.drew | apply Chg.drewN | (refine Chg.setCell ?_ _ _ (by simp))))
           obtain ⟨xs, hown, hgrow⟩ := H.out.row.growBox (F := fun g => w.heap.size + 2 ≤ g) hC2 (HX.out.1.weak (fun g hg => ⟨by have := hg.1; simp at this; omega, hg.2⟩)) (fun x hx => by have := H.out.chg.size; have := lt_of_block H.out.res; omega) #[.int .i64 (Tr.id (t.kids[k])), .int .i64 (Tr.kind (t.kids[k])), .string (Tr.text (t.kids[k])), .slice A1 (Tr.kids (t.kids[k])).length c1]
           rw [show (t.kids.take k).length = k from by simp; omega] at hown hgrow
           have HG := Lib.hid (And.intro hgrow (And.intro hC2 hXa))
           clear hgrow hC2 hXa
           refine wpList_append_own_at _ rfl (.tmp 13) (.tmp 16) 22 rfl _ 24 ip _ 4 56 Try.underlying22 HI.out.1 HI.out.2.1 HI.out.2.2.1 HI.out.2.2.2 rfl (by omega) (.slice Av k cv) _ _ rfl hown ⟨X.heap.size, 0, none⟩ 1 1 _ rfl rfl (fun j u hu => by rw [Addr.add_mid]; exact range_all (heap_new X _ rfl) j u hu) (HX.out.1.one) (by unfold maxLen; omega) (by omega) (by simp; omega) ?_
           intro v' X3 hown' hgr _ hat
           have hrow3 := HG.out.1 X3 v' hown' hgr hat
           rw [← take_snoc' _ _ hlt] at hrow3
           obtain ⟨A', c', rfl⟩ := own_slice hown'
           have H3 := Lib.hid (And.intro hrow3 hgr)
           clear hrow3 hgr hat hown')
        | fail)
      go_roundw
      case rel =>
        have hC3 : Chg (Value.slice Av k cv).ownBlock.toList wr X3 := ((HG.out.2.1.trans HG.out.2.2).mono (by simp)).grown H3.out.2 (by intro k hk; rw [hk]; simp)
        have hnb : ∀ b, b ∈ (Value.slice Av k cv).ownBlock.toList → w.heap.size + 2 ≤ b := fun b hb => by have := H.out.row.own b (by simpa using hb); omega
        refine ⟨k + 1, _, by omega, rfl, by go_num, ?_, ?_, ?_, H3.out.1⟩
        · exact hC3.at H.out.arg (fun hm => by have := hnb _ hm; omega)
        · exact hC3.at H.out.res (fun hm => by have := hnb _ hm; omega)
        · exact H.out.chg.andThen hC3 (fun i hi => .inr (by have := hnb i hi; omega))
      case measure => simp [intOf]; omega
    · obtain rfl : k = t.kids.length := by omega
      have hrow := H.out.row
      rw [List.take_of_length_le (Nat.le_refl _)] at hrow
      obtain ⟨A', c', he, hV⟩ := hrow.node t HH.out.2.2.2.2.1
      injection he with hA1 _ hc1
      subst hA1 hc1
      have HV := Lib.hid hV
      clear hrow hV
      obtain ⟨q0, q1, q2, q3⟩ := blk4 H.out.arg
      obtain ⟨r0, r1, r2, r3⟩ := blk4 H.out.res
      have f0 := blkF H.out.res 0
      have f1 := blkF H.out.res 1
      have f2 := blkF H.out.res 2
      have f3 := blkF H.out.res 3
      have g3 := blkF H.out.arg 3
      go_wp2
      have hCs : Chg [w.heap.size] wr (wr.setCell ⟨w.heap.size, 3, none⟩ (.slice Av t.kids.length cv)) := (Chg.refl _ _).setCell _ _ (by simp)
      have hC0 := chg4 (wr.setCell ⟨w.heap.size, 3, none⟩ (.slice Av t.kids.length cv)) (w.heap.size + 1) (.int .i64 t.id) (.int .i64 t.kind) (.string t.text) (.slice Av t.kids.length cv)
      have hsz := H.out.chg.size
      have hlt1 := lt_of_block H.out.res
      have hF : ∀ g, w.heap.size + 2 ≤ g ∨ (Value.slice Av t.kids.length cv).ownBlock = some g → w.heap.size + 2 ≤ g := fun g hg => by
        rcases hg with hg | hg
        · omega
        · have := H.out.row.own g hg; omega
      have hC2 : Chg [w.heap.size, w.heap.size + 1] wr _ := (hCs.mono (by simp)).trans (hC0.mono (by simp))
      refine bodyPost_ret (v := .agg #[.int .i64 (Tr.id t), .int .i64 (Tr.kind t), .string (Tr.text t), .slice Av (Tr.kids t).length cv]) (results_cell_row rfl _ _ (w.heap.size + 1) _ _ _ _ rfl (set4 (hCs.at H.out.res (by simp))) Try.underlying24 rfl szNode) rfl ⟨Av, cv, rfl, ?_, H.out.chg.andThen hC2 (fun i hi => by simp at hi; omega)⟩
      exact ((HV.out.bound.weak (F' := fun g => w.heap.size + 2 ≤ g ∧ g < wr.heap.size) (fun g hg => ⟨hF g hg.1, hg.2⟩)).kept hC2 (fun g hg => by simp; omega)).weak (fun g hg => ⟨by omega, Nat.lt_of_lt_of_le hg.2 hC2.size⟩)
end Go.Proofs.Ytofjocjljbkjgaa
namespace Go.Proofs.Ytofjocjljbkjgaa
open Go.RowKit
attribute [local go_sem] Oper.semAt_some
def RepT (l i : Nat) (x : Tr × Int) (args : Array Value) (W : World) : Prop := ∃ A c base, args = #[.int .i64 x.2, .agg #[.int .i64 (Tr.id x.1), .int .i64 (Tr.kind x.1), .string (Tr.text x.1), .slice A (Tr.kids x.1).length c]] ∧ l < base ∧ TrC (fun b => base ≤ b ∧ b < W.heap.size) W x.1 [.int .i64 (Tr.id x.1), .int .i64 (Tr.kind x.1), .string (Tr.text x.1), .slice A (Tr.kids x.1).length c]
structure DBox (l yb db : Nat) (W : World) : Prop where
  y : W.heap[yb]? = some (.cells #[.func (.yield l) #[] #[]] 123 (0, 0))
  d : W.heap[db]? = some (.cells #[.func (.func 163) #[] #[.pointer (some ⟨yb, 0, none⟩), .pointer (some ⟨db, 0, none⟩)]] 123 (0, 0))
theorem DBox.above {l yb db S : Nat} {W W' : World} (h : DBox l yb db W) (ha : Above S W W') (h1 : S ≤ yb) (h2 : S ≤ db) : DBox l yb db W' := ⟨ha.at h.y h1, ha.at h.d h2⟩
theorem TrC.above {S : Nat} {W W' : World} {base : Nat} {t : Tr} {cs : List Value} (h : TrC (fun b => base ≤ b ∧ b < W.heap.size) W t cs) (ha : Above S W W') (hS : S ≤ base) : TrC (fun b => base ≤ b ∧ b < W'.heap.size) W' t cs :=
  h.move fun g hg hlt => ⟨ha.2 g (by omega) hlt, hg.1, Nat.lt_of_lt_of_le hg.2 ha.1⟩
set_option maxHeartbeats 8000000 in
set_option maxRecDepth 100000 in
theorem down_any (l S yb db base : Nat) (xs : List (Tr × Int)) (J : Nat → World → Prop) (Jx : World → Prop) (hl : l < base) (hSb : S ≤ base) (hy1 : S ≤ yb) (hd1 : S ≤ db)
    (hJ : ∀ i W W', J i W → Quiet S W W' → J i W') (hJx : ∀ W W', Jx W → Quiet S W W' → Jx W')
    (hY : ∀ i x args W1, J i W1 → S ≤ W1.heap.size → xs[i]? = some x → RepT l i x args W1 → YieldAt W0 0 Try.prog l args W1 fun e W' => ((e = .returned (.bool true) ∧ J (i + 1) W') ∨ (e = .returned (.bool false) ∧ Jx W')) ∧ Above S W1 W') :
    ∀ (x : Tr) (A : Option Addr) (c : Nat) (d : Int) (i : Nat) (W : World), J i W → S ≤ W.heap.size → base ≤ W.heap.size → (∀ (q : Nat) z, (x.walk d)[q]? = some z → xs[i + q]? = some z) → DBox l yb db W → TrC (fun b => base ≤ b ∧ b < W.heap.size) W x [.int .i64 (Tr.id x), .int .i64 (Tr.kind x), .string (Tr.text x), .slice A (Tr.kids x).length c] → 0 ≤ d → d + x.nodes ≤ 1000000 →
    Calls Try.prog 163 #[.int .i64 d, .agg #[.int .i64 (Tr.id x), .int .i64 (Tr.kind x), .string (Tr.text x), .slice A (Tr.kids x).length c], .pointer (some ⟨yb, 0, none⟩), .pointer (some ⟨db, 0, none⟩)] W fun e W' => ((e = .returned (.bool true) ∧ J (i + x.nodes) W') ∨ (e = .returned (.bool false) ∧ Jx W')) ∧ Above S W W' := by
  intro x
  induction x using Tr.ind with
  | h x ih =>
  intro A c d i W h0 hS hbase hxs hB hT hd0 hd2
  obtain ⟨A', c', hcs, hlc, hcm, htx, hK⟩ := hT.opens
  simp only [List.cons.injEq, Value.slice.injEq, true_and, and_true] at hcs
  obtain ⟨rfl, rfl⟩ := hcs
  have hwx : xs[i]? = some (x, d) := by have := hxs 0 (x, d) (by rw [x.walk_eq]; rfl); simpa using this
  obtain ⟨W1, hW1⟩ : ∃ W1, W1 = W.alloc (.cells #[.int .i64 (Tr.id x), .int .i64 (Tr.kind x), .string (Tr.text x), .slice A (Tr.kids x).length c] 24) := ⟨_, rfl⟩
  have hc1 : Chg [] W W1 := by rw [hW1]; exact (by with_reducible repeat (first | exact Chg.refl _ _ | apply Chg.alloc | apply Chg.drew | apply Chg.drewN | (refine Chg.setCell ?_ _ _ (by simp))))
  have hb1 : W1.heap[W.heap.size]? = some (.cells #[.int .i64 (Tr.id x), .int .i64 (Tr.kind x), .string (Tr.text x), .slice A (Tr.kids x).length c] 24 (0, 0)) := by rw [hW1]; exact heap_new _ _ rfl
  have hJ1 := hJ i W W1 h0 (.of_chg hc1)
  have ha1 : Above S W W1 := Above.of_chg0 hc1
  have hT1 := hT.above ha1 hSb
  obtain ⟨fn, tmps, assign, body, hy, hR⟩ := hY i _ #[.int .i64 d, .agg #[.int .i64 (Tr.id x), .int .i64 (Tr.kind x), .string (Tr.text x), .slice A (Tr.kids x).length c]] W1 hJ1 (Nat.le_trans hS hc1.size) hwx ⟨A, c, base, rfl, hl, hT1⟩
  have y0 := cellOne ((hB.above ha1 hy1 hd1).y)
  obtain ⟨p0, p1, p2, p3⟩ := blk4 hb1
  rw [hW1] at hy y0 p0 p1 p2 p3
  have HH := Lib.hid (And.intro hR (And.intro ha1 (And.intro hb1 (And.intro hB (And.intro hT1 (And.intro hW1 (And.intro hxs hK)))))))
  have HI := Lib.hid (And.intro ih (And.intro hJ (And.intro hJx hY)))
  have hkl : x.kids.length ≤ 1000000 := by have := x.kids_le; omega
  clear hR ha1 hb1 hB hT1 hW1 hxs hK ih hJ hJx hY hJ1 hwx hc1 h0 hT
  refine callsIn_wide.1 (callsIn_of_wp (n := 0) Try.func163 rfl trivial ?_)
  simp only [Try.ntmps163, List.size_toArray, List.length_cons, List.length_nil, Nat.reduceAdd, Nat.reduceSub, Array.replicate_succ, Array.replicate_zero, List.push_toArray, List.append_toArray, List.nil_append, List.cons_append]
  gi_wp2
  refine ⟨rfl, ?_⟩
  rw [← HH.out.2.2.2.2.2.1]
  refine HH.out.1.mono ?_
  clear hy y0 p0 p1 p2 p3
  rintro e W2 ⟨(⟨rfl, hj⟩ | ⟨rfl, hjx⟩), hab⟩
  · have H2 := Lib.hid (And.intro hj hab)
    obtain ⟨p0, p1, p2, p3⟩ := blk4 (hab.at HH.out.2.2.1 hS)
    clear hj hab
    gi_wp2
    gi_loopw [17] (fun iv wr => ∃ k : Nat, k ≤ x.kids.length ∧ iv = .int .i64 k ∧ Hid (J (i + 1 + nodesL (x.kids.take k)) wr ∧ Above S W wr)) (fun iv _ => x.kids.length - (intOf iv).toNat)
    case atStart => exact ⟨0, Nat.zero_le _, rfl, Lib.hid ⟨by simpa [nodesL] using H2.out.1, HH.out.2.1.trans H2.out.2⟩⟩
    case round =>
      obtain ⟨k, hk, rfl, H⟩ := hrel
      obtain ⟨V, hV⟩ : ∃ V, V = wr := ⟨_, rfl⟩
      subst hV
      clear p0 p1 p2 p3
      by_cases hlt : k < x.kids.length
      · obtain ⟨gk, ok, hA, hokg, cs, hr, hTk⟩ := HH.out.2.2.2.2.2.2.2.at hlt
        subst hA
        obtain ⟨y, hye⟩ : ∃ y, y = x.kids[k] := ⟨_, rfl⟩
        have hym : y ∈ x.kids := by rw [hye]; exact List.getElem_mem hlt
        rw [← hye] at hTk
        obtain ⟨Ak, ck, hcsk, _⟩ := hTk.opens
        subst hcsk
        have hyn : d + 1 + y.nodes ≤ 1000000 := by have h1 := nodesL_mem hym; have h2 := x.nodes_eq; omega
        have hr' : V.rangeAt gk (ok + k * 4) [.int .i64 (Tr.id y), .int .i64 (Tr.kind y), .string (Tr.text y), .slice Ak (Tr.kids y).length ck] := fun j v hv => (World.cell?_of_block (w := W) (H.out.2.2 gk (by omega) hokg.2)).trans (hr j v hv)
        have hcV : Chg [] V (V.alloc (.cells #[.int .i64 (Tr.id y), .int .i64 (Tr.kind y), .string (Tr.text y), .slice Ak (Tr.kids y).length ck] 24)) := (by with_reducible repeat (first | exact Chg.refl _ _ | apply Chg.alloc | apply Chg.drew | apply Chg.drewN | (refine Chg.setCell ?_ _ _ (by simp))))
        have haV : Above S W (V.alloc (.cells #[.int .i64 (Tr.id y), .int .i64 (Tr.kind y), .string (Tr.text y), .slice Ak (Tr.kids y).length ck] 24)) := H.out.2.trans (Above.of_chg0 hcV)
        have hDV := HH.out.2.2.2.1.above H.out.2 hy1 hd1
        have hDV1 := HH.out.2.2.2.1.above haV hy1 hd1
        have d0 := cellOne hDV.d
        have d1 := cellOne hDV1.d
        have hnb : (V.alloc (.cells #[.int .i64 (Tr.id y), .int .i64 (Tr.kind y), .string (Tr.text y), .slice Ak (Tr.kids y).length ck] 24)).heap[V.heap.size]? = some (.cells #[.int .i64 (Tr.id y), .int .i64 (Tr.kind y), .string (Tr.text y), .slice Ak (Tr.kids y).length ck] 24 (0, 0)) := heap_new _ _ rfl
        obtain ⟨v0, v1, v2, v3⟩ := blk4 hnb
        have hxs' : ∀ (q : Nat) z, (y.walk (d + 1))[q]? = some z → xs[i + 1 + nodesL (x.kids.take k) + q]? = some z := fun q z hz => by
          have h := HH.out.2.2.2.2.2.2.1 _ _ (x.walk_at d k q hlt z (by rw [← hye]; exact hz))
          rw [← h]; congr 1; omega
        have hcall := HI.out.1 y hym Ak ck (d + 1) (i + 1 + nodesL (x.kids.take k)) (V.alloc (.cells #[.int .i64 (Tr.id y), .int .i64 (Tr.kind y), .string (Tr.text y), .slice Ak (Tr.kids y).length ck] 24)) (HI.out.2.1 _ _ _ H.out.1 (.of_chg hcV)) (Nat.le_trans hS haV.1) (Nat.le_trans hbase haV.1) hxs' (HH.out.2.2.2.1.above haV hy1 hd1) (hTk.above haV hSb) (by omega) hyn
        have HC := Lib.hid (And.intro hcall (And.intro hr' (And.intro haV hye)))
        clear hcall hr' haV hye hxs' hnb hr hTk hokg hcV hym hDV hDV1
        have q0 : V.cell? ⟨gk, ok + k * 4, none⟩ = some (.int .i64 y.id) := HC.out.2.1 0 _ rfl
        have q1 : V.cell? ⟨gk, ok + k * 4 + 1, none⟩ = some (.int .i64 y.kind) := HC.out.2.1 1 _ rfl
        have q2 : V.cell? ⟨gk, ok + k * 4 + 2, none⟩ = some (.string y.text) := HC.out.2.1 2 _ rfl
        have q3 : V.cell? ⟨gk, ok + k * 4 + 3, none⟩ = some (.slice Ak y.kids.length ck) := HC.out.2.1 3 _ rfl
        gi_wp2
        refine ⟨trivial, rfl, ?_⟩
        gi_at_call 163
        refine (callsIn_wide.2 HC.out.1).mono ?_
        clear q0 q1 q2 q3 v0 v1 v2 v3 d0 d1
        rintro e V2 ⟨(⟨rfl, hj⟩ | ⟨rfl, hjx⟩), hab⟩
        · have H4 := Lib.hid (And.intro hj (HC.out.2.2.1.trans hab))
          clear hj hab
          gi_wp2
          refine ⟨⟨k + 1, by omega, by go_num, Lib.hid ⟨?_, H4.out.2⟩⟩, by simp [intOf]; omega⟩
          have h := H4.out.1
          rw [nodesL_take x.kids k hlt, ← Nat.add_assoc, ← HC.out.2.2.2]
          exact h
        · have H4 := Lib.hid (And.intro hjx (HC.out.2.2.1.trans hab))
          clear hjx hab
          gi_wp2
          go_ret
          exact ⟨.inr ⟨rfl, H4.out.1⟩, H4.out.2⟩
      · obtain rfl : k = x.kids.length := by omega
        gi_wp2
        go_ret
        refine ⟨.inl ⟨rfl, ?_⟩, H.out.2⟩
        have h := H.out.1
        rw [List.take_of_length_le (Nat.le_refl _)] at h
        rw [x.nodes_eq, ← Nat.add_assoc]
        exact h
  · have H2 := Lib.hid (And.intro hjx hab)
    clear hjx hab
    gi_wp2
    go_ret
    exact ⟨.inr ⟨rfl, H2.out.1⟩, HH.out.2.1.trans H2.out.2⟩
structure StV (Wb : World) (B bt : Nat) (t : Tr) (A : Option Addr) (c : Nat) (W : World) : Prop where
  b : W.heap[bt]? = some (.cells #[.int .i64 (Tr.id t), .int .i64 (Tr.kind t), .string (Tr.text t), .slice A (Tr.kids t).length c] 24 (0, 0))
  base : ∀ k, k < B → W.heap[k]? = Wb.heap[k]?
theorem TrC.base {B : Nat} {Wb W : World} {t : Tr} {cs : List Value} (h : TrC (fun b => b < B) Wb t cs) (hb : ∀ k, k < B → W.heap[k]? = Wb.heap[k]?) : TrC (fun b => b < B) W t cs :=
  h.move fun k hk _ => ⟨hb k hk, hk⟩
structure Made (l : Nat) (W W' : World) : Prop where
  box : DBox l W.heap.size (W.heap.size + 1) W'
  chg : Chg [] W W'
set_option maxHeartbeats 8000000 in
set_option maxRecDepth 100000 in
theorem walk1_iter (B : Nat) (Wb : World) (t : Tr) (A : Option Addr) (c bt : Nat) (hT : TrC (fun b => b < B) Wb t [.int .i64 (Tr.id t), .int .i64 (Tr.kind t), .string (Tr.text t), .slice A (Tr.kids t).length c]) (hn : t.nodes ≤ 100000) : IterK Try.prog 162 #[.pointer (some ⟨bt, 0, none⟩)] RepT (t.walk 1) (StV Wb B bt t A c) := by
  intro l S J Jx W hSt hJ hJx hY h0 hl hS
  have hs := hSt 0 W h0
  have HH := Lib.hid (And.intro hSt (And.intro hJ (And.intro hJx (And.intro hY (And.intro h0 (And.intro hl (And.intro hS (And.intro hT hs))))))))
  clear hSt hJ hJx hY h0 hl hS hT hs
  show Calls Try.prog 162 #[.func (.yield l) #[] #[], .pointer (some ⟨bt, 0, none⟩)] W _
  go_enter Try.func162, Try.ntmps162
  go_wp2
  refine wp_world (fun W' => Made l W W') ⟨⟨heap_old (heap_new _ _ rfl) _, heap_new _ _ (by simp)⟩, (by with_reducible repeat (first | exact Chg.refl _ _ | apply Chg.alloc | apply Chg.drew | apply Chg.drewN | (refine Chg.setCell ?_ _ _ (by simp))))⟩ ?_
  intro V hV
  refine wp_region_M (fun V' => V'.cell? ⟨W.heap.size + 1, 0, none⟩ = some (.func (.func 163) #[] #[.pointer (some ⟨W.heap.size, 0, none⟩), .pointer (some ⟨W.heap.size + 1, 0, none⟩)])) (fun k => [2, 3].contains k) (fun k => [3].contains k) (by kernel_rfl) ?_
  obtain ⟨Z, hZ⟩ : ∃ Z, Z = V.drew := ⟨_, rfl⟩
  rw [← hZ]
  have hcZ : Chg [] V Z := by rw [hZ]; exact (Chg.refl _ _).drew
  have hM : Made l W Z := ⟨hV.box.above (S := 0) (Above.of_chg0 hcZ) (by omega) (by omega), hV.chg.trans hcZ⟩
  clear hV hZ hcZ V
  have hS0 := cellOne hM.box.d
  obtain ⟨p0, p1, p2, p3⟩ := blk4 (hM.chg.at HH.out.2.2.2.2.2.2.2.2.b (by simp))
  have hcop := tcopy_any t A c Z ((HH.out.2.2.2.2.2.2.2.1.base (HH.out.1 0 Z (HH.out.2.1 0 W Z HH.out.2.2.2.2.1 (.of_chg hM.chg))).base).weak (fun _ _ _ => trivial)) hn
  have HC := Lib.hid (And.intro hcop hM)
  clear hcop hM
  ((try dsimp only); (try simp only [Act.put, List.setIfInBounds_toArray, List.set_cons_zero, List.set_cons_succ]))
  refine M_semi (i := 0) (v := ?_) rfl (by kernel_rfl) (by kernel_rfl) (by kernel_rfl) (by kernel_rfl) (fun _ _ _ h => h) (by rfl) hS0 ?hy ?_; (case hy => (intro w hS; go_simp; with_reducible rfl)); ((try dsimp only); (try simp only [Act.put, List.setIfInBounds_toArray, List.set_cons_zero, List.set_cons_succ]))
  refine M_take (i := 1) (v := ?_) rfl (by kernel_rfl) (by kernel_rfl) (by kernel_rfl) (by kernel_rfl) (fun _ _ _ h => h) (by rfl) ?hy ?_; (case hy => (go_simp; with_reducible rfl)); ((try dsimp only); (try simp only [Act.put, List.setIfInBounds_toArray, List.set_cons_zero, List.set_cons_succ]))
  refine M_eff (i := 2) rfl (by kernel_rfl) (by rfl) ?_
  go_wp2_with fail
  refine HC.out.1.mono ?_
  rintro e Y ⟨A', c', rfl, hV, hc⟩
  have hS1 := hc.cell hS0 (by simp)
  have hM1 := HC.out.2
  have hsz : W.heap.size + 2 ≤ Z.heap.size := by have := lt_of_block hM1.box.d; omega
  have hYM := hM1.box.above (S := 0) (Above.of_chg0 hc) (by omega) (by omega)
  have hS3 := HH.out.2.2.2.2.2.2.1
  have hl3 := HH.out.2.2.2.2.2.1
  have hdn := down_any l S W.heap.size (W.heap.size + 1) Z.heap.size (t.walk 1) J Jx (by omega) (by omega) hS3 (by omega) HH.out.2.1 HH.out.2.2.1 HH.out.2.2.2.1 t A' c' 1 0 Y (HH.out.2.1 0 W Y HH.out.2.2.2.2.1 (.of_chg (hM1.chg.trans hc))) (by have := hc.size; omega) hc.size (fun q z hz => by rw [Nat.zero_add]; exact hz) hYM (hV.toC) (by omega) (by omega)
  have H4 := Lib.hid (And.intro hdn (And.intro (hM1.chg.trans hc).size hS1))
  clear hV hc hS0 p0 p1 p2 p3 hdn hYM hM1 hsz hS3 hl3
  go_wp2_with fail
  refine ⟨hS1, ?_⟩
  refine M_brk (i := 3) rfl (by kernel_rfl) (by rfl) (by rfl) ?_
  go_wp2_with fail
  go_at_call 163
  refine H4.out.1.mono ?_
  rintro e Y2 ⟨hor, hab⟩
  obtain ⟨v, rfl, h5⟩ : ∃ v : Bool, e = .returned (.bool v) ∧ (J (t.walk 1).length Y2 ∨ Jx Y2) := by
    rcases hor with ⟨rfl, h⟩ | ⟨rfl, h⟩
    · exact ⟨true, rfl, .inl (by rw [Tr.walk_length]; rw [Nat.zero_add] at h; exact h)⟩
    · exact ⟨false, rfl, .inr h⟩
  have H5 := Lib.hid (And.intro h5 (Nat.le_trans H4.out.2.1 hab.1))
  clear hor hab h5 hS1
  go_wp2_with fail
  refine M_done (by kernel_rfl) ?_ _
  go_wp2_with fail
  go_end0
  exact ⟨⟨_, rfl⟩, H5.out.1, H5.out.2⟩
theorem twalk_any (t : Tr) (A : Option Addr) (c : Nat) (w : World) : Calls Try.prog 157 #[.agg #[.int .i64 (Tr.id t), .int .i64 (Tr.kind t), .string (Tr.text t), .slice A (Tr.kids t).length c]] w fun e w' => e = .returned (.func (.func 162) #[] #[.pointer (some ⟨w.heap.size, 0, none⟩)]) ∧ w'.heap[w.heap.size]? = some (.cells #[.int .i64 (Tr.id t), .int .i64 (Tr.kind t), .string (Tr.text t), .slice A (Tr.kids t).length c] 24 (0, 0)) ∧ Chg [] w w' := by
  go_enter Try.func157, Try.ntmps157
  go_wp2
  go_ret
  exact ⟨rfl, heap_new _ _ rfl, (by with_reducible repeat (first | exact Chg.refl _ _ | apply Chg.alloc | apply Chg.drew | apply Chg.drewN | (refine Chg.setCell ?_ _ _ (by simp))))⟩
end Go.Proofs.Ytofjocjljbkjgaa
