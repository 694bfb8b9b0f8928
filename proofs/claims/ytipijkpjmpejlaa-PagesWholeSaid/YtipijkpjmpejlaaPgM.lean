import Derived.Test.YtipijkpjmpejlaaPgL
/- The contracts of pages.Look, of Blank and of Free. -/
set_option linter.unusedVariables false
set_option linter.unusedSimpArgs false
namespace Go.Proofs.Ytipijkpjmpejlaa
open Go.RowKit
theorem results_row_tmp {P : Program} {fn : Func} {p u : Tmp} {ty : TypeId} (h : fn.results = #[.cell p ty, .tmp u]) (tmps : Array Value) (w : World) (g : Nat) (t : TypeId) (cs : Array Value) (fr : Nat × Nat) (d : TypeDesc) (x : Value)
    (hp : tmps.getD p undef = .pointer (some ⟨g, 0, none⟩)) (hv : tmps.getD u undef = x) (hg : w.heap[g]? = some (.cells cs t fr)) (hu : P.underlying ty = some d) (hd : (match d with | .struct _ | .array _ _ => true | _ => false) = true) (hi : (P.info? ty).map (·.size) = some cs.size) :
    (results fn tmps).run P w = .ok (.tuple #[.agg cs, x]) w := by
  have hp' : tmps[p]?.getD undef = .pointer (some ⟨g, 0, none⟩) := by simpa using hp
  have hv' : tmps[u]?.getD undef = x := by simpa using hv
  simp [results, h, hp', hv', asAddr, run_loadVar_row w g t ty cs fr d hg hu hd hi]
theorem image_any (w0 w : World) (p : Nat) (D : DS) (hD : DiskI w0 w p D) : Calls Try.prog 95 #[.pointer (some ⟨p, 0, none⟩)] w (ImgPost3 (imageOf D) w) := by
  cases hdn : D.down with
  | true =>
    have e : imageOf D = (Img.zero, 0, 5) := by unfold imageOf; rw [if_pos hdn]
    rw [e]
    obtain ⟨bm, v, hA, _⟩ := hD
    rw [hdn] at hA
    exact image_down w p bm v D.L D.armed D.left hA
  | false =>
    have e : imageOf D = imageS (secOf D.L) := by unfold imageOf; rw [if_neg (by simp [hdn])]
    rw [e]
    exact image_up w0 w p D hD hdn
/-- What Look answers. -/
def LookPost (t : Img × Int) (w : World) (e : Ending) (w' : World) : Prop :=
  ∃ v, e = .returned (.tuple #[.agg #[.int .i64 t.1.gen, .int .i64 t.1.half, .int .i64 t.1.boot, v], .int .i64 t.2]) ∧ RecsA w' w.heap.size v t.1.recs ∧ Chg [] w w'
theorem look_of (pv : Value) (t : Img × Nat × Int) (w : World) (H : ∀ X, Chg [] w X → Calls Try.prog 95 #[pv] X (ImgPost3 t X)) : Calls Try.prog 61 #[pv] w (LookPost (t.1, t.2.2) w) := by
  have H := Lib.hid H
  go_enter Try.func61, Try.ntmps61
  go_wp2_with (first
    | (refine wpList_alloc rfl 98 rfl _ zeroImg ?_
       refine wpList_world (fun X => X.heap[w.heap.size]? = some (.cells #[.int .i64 0, .int .i64 0, .int .i64 0, .slice none 0 0] 98 (0, 0)) ∧ Chg [] w X ∧ w.heap.size < X.heap.size) ⟨heap_new _ _ rfl, (by with_reducible repeat (first | exact Chg.refl _ _ | apply Chg.alloc | apply Chg.drew | apply Chg.drewN | (refine Chg.setCell ?_ _ _ (by simp)))), by simp⟩ ?_
       rintro X ⟨hb, hX, hz⟩
       have HX := Lib.hid (And.intro hb (And.intro hX hz))
       clear hb hX hz)
    | fail)
  refine (H.out _ HX.out.2.1).mono ?_
  rintro e Y ⟨v, rfl, hr, hc⟩
  have HY := Lib.hid (And.intro hr hc)
  clear hr hc
  obtain ⟨Av, cv, rfl⟩ := HY.out.1.slice
  go_wp2_with (first
    | (refine wpList_alloc rfl 98 rfl _ zeroImg ?_
       refine wpList_world (fun Z => Z.heap[Y.heap.size]? = some (.cells #[.int .i64 0, .int .i64 0, .int .i64 0, .slice none 0 0] 98 (0, 0)) ∧ Chg [] Y Z) ⟨heap_new _ _ rfl, (by with_reducible repeat (first | exact Chg.refl _ _ | apply Chg.alloc | apply Chg.drew | apply Chg.drewN | (refine Chg.setCell ?_ _ _ (by simp))))⟩ ?_
       rintro Z ⟨hb, hZ⟩
       refine wpList_store_row rfl 98 (.tmp 4) (.tmp 10) rfl Y.heap.size (by kernel_rfl) #[.int .i64 t.1.gen, .int .i64 t.1.half, .int .i64 t.1.boot, .slice Av t.1.recs.length cv] (by kernel_rfl) _ _ hb infoImg rfl (img_one _ _ _ _ rfl) ?_
       refine wpList_world (fun U => U.heap[Y.heap.size]? = some (.cells #[.int .i64 t.1.gen, .int .i64 t.1.half, .int .i64 t.1.boot, .slice Av t.1.recs.length cv] 98 (0, 0)) ∧ Chg [] Y U) ⟨setRow_heap _ _ _ _ _ _ hb, hZ.andThen (setRow_chg _ _ _) (by simp)⟩ ?_
       rintro U ⟨hu, hU⟩
       have HU := Lib.hid (And.intro hu hU)
       clear hb hZ hu hU
       ((try dsimp only); (try simp only [Act.put, List.setIfInBounds_toArray, List.set_cons_zero, List.set_cons_succ])))
    | (refine wpList_load_mid rfl 98 (.tmp 4) rfl Y.heap.size 0 (by kernel_rfl) _ _ (range_all (cs := [_, _, _, _]) HU.out.1) Try.underlying98 rfl infoImg ?_
       ((try dsimp only); (try simp only [Act.put, List.setIfInBounds_toArray, List.set_cons_zero, List.set_cons_succ])))
    | (refine wpList_store_row rfl 98 (.tmp 2) (.tmp 13) rfl w.heap.size (by kernel_rfl) #[.int .i64 t.1.gen, .int .i64 t.1.half, .int .i64 t.1.boot, .slice Av t.1.recs.length cv] (by kernel_rfl) _ _ (HU.out.2.at (HY.out.2.at HX.out.1 (by simp)) (by simp)) infoImg rfl (img_one _ _ _ _ rfl) ?_)
    | (skip; fail))
  refine bodyPost_ret (v := .tuple #[.agg #[.int .i64 t.1.gen, .int .i64 t.1.half, .int .i64 t.1.boot, .slice Av t.1.recs.length cv], .int .i64 t.2.2]) (results_row_tmp rfl _ _ w.heap.size _ _ _ _ _ (by kernel_rfl) (by kernel_rfl) (setRow_heap _ _ _ _ _ _ (HU.out.2.at (HY.out.2.at HX.out.1 (by simp)) (by simp))) Try.underlying98 rfl infoImg) (by kernel_rfl) ⟨_, rfl, ?_, ?_⟩
  · refine ((HY.out.1.kept0 HU.out.2).kept (w0 := w) (T := [some 98]) (ChgT.of_chg (setRow_chg _ _ _) (fun k hk _ => ?_)) (by decide) (by decide)).base HX.out.2.1.size
    simp at hk; subst hk
    exact ⟨Nat.le_refl _, fun o ho => by rw [HU.out.2.at (HY.out.2.at HX.out.1 (by simp)) (by simp)] at ho; cases ho; simp [okind]⟩
  · exact ((HX.out.2.1.trans HY.out.2).trans HU.out.2).andThen (setRow_chg _ _ _) (by simp)
def lookOf (D : DS) : Img × Int := ((imageOf D).1, (imageOf D).2.2)
theorem look_any (w0 w : World) (p : Nat) (D : DS) (hD : DiskI w0 w p D) : Calls Try.prog 61 #[.pointer (some ⟨p, 0, none⟩)] w (LookPost (lookOf D) w) :=
  look_of _ (imageOf D) w fun X hX => image_any w0 X p D (hD.kept0 hX)
theorem look_nil (w : World) : Calls Try.prog 61 #[.pointer none] w (LookPost (Img.zero, 1) w) :=
  look_of _ (Img.zero, 0, 1) w fun X _ => image_nil X
/-- Pages' state. -/
structure PS where
  img : Img
  used : Nat
  dead : Bool
def PagesI (w0 w : World) (q p : Nat) (P : PS) : Prop := ∃ v, w.heap[q]? = some (.cells #[.pointer (some ⟨p, 0, none⟩), .int .i64 P.img.gen, .int .i64 P.img.half, .int .i64 P.img.boot, v, .int .i64 P.used, .bool P.dead] 152 (0, 0)) ∧ RecsA w w0.heap.size v P.img.recs ∧ w0.heap.size ≤ q
theorem PagesI.kept {w0 w w' : World} {q p : Nat} {P : PS} (h : PagesI w0 w q p P) {w1 : World} {T : List (Option TypeId)} (hc : ChgT w1 T w w') (h1 : some 152 ∉ T) (h2 : some 5 ∉ T) (h3 : some 49 ∉ T) : PagesI w0 w' q p P := by
  obtain ⟨v, hb, hr, hq⟩ := h
  exact ⟨v, hc.at hb h1, hr.kept hc h2 h3, hq⟩
theorem PagesI.kept0 {w0 w w' : World} {q p : Nat} {P : PS} (h : PagesI w0 w q p P) (hc : Chg [] w w') : PagesI w0 w' q p P := h.kept (w1 := w) (T := []) (ChgT.of_nil hc) (by simp) (by simp) (by simp)
theorem cell7 {W : World} {b : Nat} {x0 x1 x2 x3 x4 x5 x6 : Value} {t : TypeId} (h : W.heap[b]? = some (.cells #[x0, x1, x2, x3, x4, x5, x6] t (0, 0))) : W.cell? ⟨b, 0, none⟩ = some x0 ∧ W.cell? ⟨b, 1, none⟩ = some x1 ∧ W.cell? ⟨b, 2, none⟩ = some x2 ∧ W.cell? ⟨b, 3, none⟩ = some x3 ∧ W.cell? ⟨b, 4, none⟩ = some x4 ∧ W.cell? ⟨b, 5, none⟩ = some x5 ∧ W.cell? ⟨b, 6, none⟩ = some x6 ∧ ∀ i, W.frozen? ⟨b, i, none⟩ = false :=
  ⟨range_all (cs := [_, _, _, _, _, _, _]) h 0 _ rfl, range_all (cs := [_, _, _, _, _, _, _]) h 1 _ rfl, range_all (cs := [_, _, _, _, _, _, _]) h 2 _ rfl, range_all (cs := [_, _, _, _, _, _, _]) h 3 _ rfl, range_all (cs := [_, _, _, _, _, _, _]) h 4 _ rfl, range_all (cs := [_, _, _, _, _, _, _]) h 5 _ rfl, range_all (cs := [_, _, _, _, _, _, _]) h 6 _ rfl, fun i => by simp [World.frozen?, h]⟩
theorem blank_nil (w : World) : Calls Try.prog 58 #[.pointer none] w fun e w' => e = .returned (.bool false) ∧ w = w' := by
  go_enter Try.func58, Try.ntmps58
  go_wp2
  go_ret
  exact ⟨rfl, rfl⟩
theorem blank_any (w0 w : World) (q p : Nat) (P : PS) (h : PagesI w0 w q p P) : Calls Try.prog 58 #[.pointer (some ⟨q, 0, none⟩)] w fun e w' => e = .returned (.bool (P.img.gen == 0)) ∧ w = w' := by
  obtain ⟨v, hb, _⟩ := h
  obtain ⟨c0, c1, _⟩ := cell7 hb
  clear hb
  go_enter Try.func58, Try.ntmps58
  go_wp2
  go_ret
  exact ⟨rfl, rfl⟩
theorem free_nil (w : World) : Calls Try.prog 65 #[.pointer none] w fun e w' => e = .returned (.int .i64 0) ∧ w = w' := by
  go_enter Try.func65, Try.ntmps65
  go_wp2
  go_ret
  exact ⟨rfl, rfl⟩
def freeOf (P : PS) : Int := if P.img.gen = 0 then 0 else 1024 - P.used
theorem free_any (w0 w : World) (q p : Nat) (P : PS) (h : PagesI w0 w q p P) (hu : P.used ≤ 1024) : Calls Try.prog 65 #[.pointer (some ⟨q, 0, none⟩)] w fun e w' => e = .returned (.int .i64 (freeOf P)) ∧ w = w' := by
  have H := Lib.hid h
  obtain ⟨v, hb, _⟩ := h
  obtain ⟨_, _, _, _, _, c5, _⟩ := cell7 hb
  clear hb
  unfold freeOf
  by_cases hg : P.img.gen = 0
  · have e1 : (P.img.gen == 0) = true := by simpa using hg
    rw [if_pos hg]
    clear hg
    go_enter Try.func65, Try.ntmps65
    go_wp2_with (go_at_call 58; refine (blank_any w0 w q p P H.out).mono ?_; rintro e w' ⟨rfl, rfl⟩)
    go_ret
    exact ⟨rfl, rfl⟩
  · have e1 : (P.img.gen == 0) = false := by simpa using hg
    rw [if_neg hg]
    clear hg
    go_enter Try.func65, Try.ntmps65
    go_wp2_with (go_at_call 58; refine (blank_any w0 w q p P H.out).mono ?_; rintro e w' ⟨rfl, rfl⟩)
    go_ret
    exact ⟨rfl, rfl⟩
end Go.Proofs.Ytipijkpjmpejlaa
