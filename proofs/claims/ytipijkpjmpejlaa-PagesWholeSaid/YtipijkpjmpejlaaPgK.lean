import Derived.Test.YtipijkpjmpejlaaPgJ
/- The contract of pages.image where it ends early: no disk, a disk that is down, a blank one, a bad sector 0. -/
set_option linter.unusedVariables false
set_option linter.unusedSimpArgs false
namespace Go.Proofs.Ytipijkpjmpejlaa
open Go.RowKit
theorem results_row_tmp2 {P : Program} {fn : Func} {p u u2 : Tmp} {ty : TypeId} (h : fn.results = #[.cell p ty, .tmp u, .tmp u2]) (tmps : Array Value) (w : World) (g : Nat) (t : TypeId) (cs : Array Value) (fr : Nat × Nat) (d : TypeDesc) (x y : Value)
    (hp : tmps.getD p undef = .pointer (some ⟨g, 0, none⟩)) (hv : tmps.getD u undef = x) (hv2 : tmps.getD u2 undef = y) (hg : w.heap[g]? = some (.cells cs t fr)) (hu : P.underlying ty = some d) (hd : (match d with | .struct _ | .array _ _ => true | _ => false) = true) (hi : (P.info? ty).map (·.size) = some cs.size) :
    (results fn tmps).run P w = .ok (.tuple #[.agg cs, x, y]) w := by
  have hp' : tmps[p]?.getD undef = .pointer (some ⟨g, 0, none⟩) := by simpa using hp
  have hv' : tmps[u]?.getD undef = x := by simpa using hv
  have hv2' : tmps[u2]?.getD undef = y := by simpa using hv2
  simp [results, h, hp', hv', hv2', asAddr, run_loadVar_row w g t ty cs fr d hg hu hd hi]
theorem infoImg : (Try.prog.info? 98).map (·.size) = some 4 := by kernel_rfl
theorem img_one (a b c : Int) (v : Value) (h : v.oneCell' = true) : (#[.int .i64 a, .int .i64 b, .int .i64 c, v] : Array Value).all (·.oneCell') = true := by
  rw [Array.all_eq_true_iff_forall_mem]
  intro u hu
  simp only [List.mem_toArray, List.mem_cons, List.not_mem_nil, or_false] at hu
  rcases hu with rfl | rfl | rfl | rfl
  · rfl
  · rfl
  · rfl
  · exact h
theorem zeroImg (w : World) : (zeroValue 98).run Try.prog w = .ok (.agg #[.int .i64 0, .int .i64 0, .int .i64 0, .slice none 0 0]) w := by kernel_rfl
/-- The image of no disk. -/
def ImgPost (x : Img) (used : Nat) (err : Int) (w : World) (e : Ending) (w' : World) : Prop :=
  ∃ v, e = .returned (.tuple #[.agg #[.int .i64 x.gen, .int .i64 x.half, .int .i64 x.boot, v], .int .i64 used, .int .i64 err]) ∧ RecsA w' w.heap.size v x.recs ∧ Chg [] w w'
theorem ImgPost.zero {w w' : World} {err : Int} (hc : Chg [] w w') : ImgPost Img.zero 0 err w (.returned (.tuple #[.agg #[.int .i64 0, .int .i64 0, .int .i64 0, .slice none 0 0], .int .i64 0, .int .i64 err])) w' := ⟨_, rfl, RecsA.nil _ _, hc⟩
set_option maxHeartbeats 4000000 in
set_option maxRecDepth 100000 in
theorem image_nil (w : World) : Calls Try.prog 95 #[.pointer none] w (ImgPost Img.zero 0 1 w) := by
  go_enter Try.func95, Try.ntmps95
  go_wp2_with (first
    | (refine wpList_alloc rfl 98 rfl _ zeroImg ?_
       refine wpList_world (fun X => X.heap[w.heap.size]? = some (.cells #[.int .i64 0, .int .i64 0, .int .i64 0, .slice none 0 0] 98 (0, 0)) ∧ Chg [] w X) ⟨heap_new _ _ rfl, (by with_reducible repeat (first | exact Chg.refl _ _ | apply Chg.alloc | apply Chg.drew | apply Chg.drewN | (refine Chg.setCell ?_ _ _ (by simp))))⟩ ?_
       rintro X ⟨hb, hX⟩
       have HX := Lib.hid (And.intro hb hX)
       clear hb hX)
    | fail)
  go_step3
  go_wp2_with (first
    | (go_at_call 30; refine (read_nil 0 _).mono ?_; rintro e w' ⟨rfl, rfl⟩)
    | (refine wpList_load_mid rfl 98 (.tmp 2) rfl w.heap.size 0 rfl _ _ (range_all (cs := [_, _, _, _]) HX.out.1) Try.underlying98 rfl infoImg ?_)
    | (refine wpList_store_row rfl 98 (.tmp 2) (.tmp 23) rfl w.heap.size rfl _ rfl _ _ HX.out.1 infoImg rfl (img_one _ _ _ _ rfl) ?_)
    | fail)
  rw [Exit.noGoto_ret]
  exact bodyPost_ret (v := .tuple #[.agg #[.int .i64 0, .int .i64 0, .int .i64 0, .slice none 0 0], .int .i64 0, .int .i64 1]) (results_row_tmp2 rfl _ _ w.heap.size _ _ _ _ _ _ rfl rfl rfl (setRow_heap _ _ _ _ _ _ HX.out.1) Try.underlying98 rfl infoImg) rfl (ImgPost.zero (HX.out.2.andThen (setRow_chg _ _ _) (by simp)))
set_option maxHeartbeats 4000000 in
set_option maxRecDepth 100000 in
theorem image_down (w : World) (p bm : Nat) (v : Value) (L : List (Int × List Int)) (armed : Bool) (left : Int) (hD : DiskA w p bm v L true armed left) : Calls Try.prog 95 #[.pointer (some ⟨p, 0, none⟩)] w (ImgPost Img.zero 0 5 w) := by
  have HD := Lib.hid hD
  clear hD
  go_enter Try.func95, Try.ntmps95
  go_wp2_with (first
    | (refine wpList_alloc rfl 98 rfl _ zeroImg ?_
       refine wpList_world (fun X => X.heap[w.heap.size]? = some (.cells #[.int .i64 0, .int .i64 0, .int .i64 0, .slice none 0 0] 98 (0, 0)) ∧ Chg [] w X) ⟨heap_new _ _ rfl, (by with_reducible repeat (first | exact Chg.refl _ _ | apply Chg.alloc | apply Chg.drew | apply Chg.drewN | (refine Chg.setCell ?_ _ _ (by simp))))⟩ ?_
       rintro X ⟨hb, hX⟩
       have HX := Lib.hid (And.intro hb hX)
       clear hb hX)
    | fail)
  go_step3
  go_wp2_with (first
    | (go_at_call 30; refine (read_down p bm v L armed left 0 _ (HD.out.kept HX.out.2 (by simp) (by simp) (by simp))).mono ?_; rintro e w' ⟨rfl, rfl⟩)
    | (refine wpList_load_mid rfl 98 (.tmp 2) rfl w.heap.size 0 rfl _ _ (range_all (cs := [_, _, _, _]) HX.out.1) Try.underlying98 rfl infoImg ?_)
    | (refine wpList_store_row rfl 98 (.tmp 2) (.tmp 23) rfl w.heap.size rfl _ rfl _ _ HX.out.1 infoImg rfl (img_one _ _ _ _ rfl) ?_)
    | fail)
  rw [Exit.noGoto_ret]
  exact bodyPost_ret (v := .tuple #[.agg #[.int .i64 0, .int .i64 0, .int .i64 0, .slice none 0 0], .int .i64 0, .int .i64 5]) (results_row_tmp2 rfl _ _ w.heap.size _ _ _ _ _ _ rfl rfl rfl (setRow_heap _ _ _ _ _ _ HX.out.1) Try.underlying98 rfl infoImg) rfl (ImgPost.zero (HX.out.2.andThen (setRow_chg _ _ _) (by simp)))
end Go.Proofs.Ytipijkpjmpejlaa
