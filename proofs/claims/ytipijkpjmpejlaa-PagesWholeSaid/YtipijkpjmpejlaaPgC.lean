import Derived.Test.YtipijkpjmpejlaaPgB
/- The contract of a reader's Number, where eight bytes are left. -/
set_option linter.unusedVariables false
set_option linter.unusedSimpArgs false
namespace Go.Proofs.Ytipijkpjmpejlaa
open Go.RowKit
theorem ask_idle (p q : Addr) (w : World) : CallsD Try.prog 132 #[.pointer (some p), .pointer (some q)] .returning w fun e u' w' => e = .returned (.tuple #[]) ∧ u' = .returning ∧ w' = w := by
  refine callsD_of_wpS Try.func132 rfl fun c₀ cs hu => ?_
  apply wpS_seq
  apply wpS_region
  simp [wpOpsS, go_sem, recoverD, hu, Try.ntmps132, Exit.thenS]
  apply wpS_seq
  apply wpS_region
  simp [wpOpsS, go_sem, Exit.thenS]
  refine wpS_cond (t := false) (by simp [Act.eval, Array.replicate]) ?_
  simp only [Bool.false_eq_true, if_false]
  refine wpS_of_wp (wp_skip ?_)
  cases c₀
  simp_all [bodyPostS, results, Try.results132]
set_option maxHeartbeats 4000000 in
set_option maxRecDepth 100000 in
theorem ask8_any (w : World) (r : Nat) (A : Option Addr) (c : Nat) (bs : List Int) (at' : Nat) (h : RdrA w r A c bs at') (h8 : at' + 8 ≤ bs.length) (hby : Bytes bs) :
    Calls Try.prog 127 #[.pointer (some ⟨r, 0, none⟩), .func (.func 128) #[.pointer (some ⟨r, 0, none⟩)] #[]] w fun e w' => e = .returned (.int .i64 (num8 bs at')) ∧ RdrA w' r A c bs (at' + 8) ∧ Chg [r] w w' := by
  have hmf : ∀ (fn : Fn) (first cap : Array Value) (w : World), (Instr.makeFunc fn first cap).run Try.prog w = .ok (.func fn first cap) w := fun _ _ _ _ => rfl
  obtain ⟨X, hX⟩ : ∃ X, X = (w.alloc (.cells #[.pointer (some ⟨r, 0, none⟩)] 168)).alloc (.cells #[.int .i64 0] 3) := ⟨_, rfl⟩
  have hc : Chg [] w X := by rw [hX]; exact (by with_reducible repeat (first | exact Chg.refl _ _ | apply Chg.alloc | apply Chg.drew | apply Chg.drewN | (refine Chg.setCell ?_ _ _ (by simp))))
  have c2 : ((w.alloc (.cells #[.pointer (some ⟨r, 0, none⟩)] 168)).alloc (.cells #[.int .i64 0] 3)).cell? ⟨r, 2, none⟩ = some (.int .i64 (-1)) := by rw [← hX]; exact range_all (hc.at h.blk (by simp)) 2 _ rfl
  have hrl : r < w.heap.size := (Array.getElem?_eq_some_iff.1 h.blk).1
  have hb1 : X.heap[w.heap.size + 1]? = some (.cells #[.int .i64 0] 3 (0, 0)) := by rw [hX]; exact heap_new _ _ (by simp)
  have HH := Lib.hid h
  have hn := number8_any X r A c bs at' (h.kept hc) h8 hby
  have H := Lib.hid (And.intro hn (And.intro (Eq.symm hX) (And.intro hc (And.intro hb1 hrl))))
  clear h h8 hby hn hc hX hb1 hrl
  go_enter_defers Try.func127, Try.ntmps127
  go_wp2_with fail
  rw [H.out.2.1]
  refine H.out.1.mono ?_
  rintro e Y ⟨rfl, hR, hY⟩
  have hb := hY.at H.out.2.2.2.1 (by have := H.out.2.2.2.2; simp; omega)
  have f1 : Y.frozen? ⟨w.heap.size + 1, 0, none⟩ = false := by simp [World.frozen?, hb]
  have d1 : Y.cell? ⟨w.heap.size + 1, 0, none⟩ = some (.int .i64 0) := range_all hb 0 _ rfl
  have HY := Lib.hid (And.intro hR (And.intro hY hb))
  clear hR hY hb c2
  go_wp2_with fail
  refine leaves_cons (f := 132) (args := #[.pointer (some ⟨w.heap.size, 0, none⟩), .pointer (some ⟨w.heap.size + 1, 0, none⟩)]) (by simp) (by simp [go_sem]) ?_
  refine (ask_idle _ _ _).mono ?_
  rintro e u' w'' ⟨rfl, rfl, rfl⟩
  have hd : (Y.setCell ⟨w.heap.size + 1, 0, none⟩ (.int .i64 (num8 bs at'))).cell? ⟨w.heap.size + 1, 0, none⟩ = some (.int .i64 (num8 bs at')) := range_all (heap_setCell_same Y (w.heap.size + 1) 0 _ _ _ HY.out.2.2) 0 _ rfl
  simp [Leaves, settle, results, Try.results127, go_sem, hd]
  have hC : Chg [r] w (Y.setCell ⟨w.heap.size + 1, 0, none⟩ (.int .i64 (num8 bs at'))) := Chg.setCell ((H.out.2.2.1.mono (by simp)).trans (HY.out.2.1.andThen (Chg.refl [] _) (by simp)) |>.mono (by simp)) _ _ (by simp)
  refine ⟨⟨?_, HH.out.bytes.kept (l := [r]) hC (fun a e _ => by simpa using HH.out.apart a e), HH.out.cap, HH.out.most, HH.out.apart⟩, hC⟩
  rw [heap_setCell_other _ _ _ _ (by have := H.out.2.2.2.2; simp; omega)]
  exact HY.out.1.blk
set_option maxHeartbeats 4000000 in
theorem rnum8_any (w : World) (r : Nat) (A : Option Addr) (c : Nat) (bs : List Int) (at' : Nat) (h : RdrA w r A c bs at') (h8 : at' + 8 ≤ bs.length) (hby : Bytes bs) :
    Calls Try.prog 112 #[.pointer (some ⟨r, 0, none⟩)] w fun e w' => e = .returned (.int .i64 (num8 bs at')) ∧ RdrA w' r A c bs (at' + 8) ∧ Chg [r] w w' := by
  have hmf : ∀ (fn : Fn) (first cap : Array Value) (w : World), (Instr.makeFunc fn first cap).run Try.prog w = .ok (.func fn first cap) w := fun _ _ _ _ => rfl
  have H := Lib.hid (ask8_any w r A c bs at' h h8 hby)
  clear h h8 hby
  go_enter Try.func112, Try.ntmps112
  go_wp2_with (go_at_call 127; refine H.out.mono ?_; rintro e X ⟨rfl, hR, hc⟩; have HX := Lib.hid (And.intro hR hc); clear hR hc)
  go_ret
  exact ⟨rfl, HX.out.1, HX.out.2⟩
end Go.Proofs.Ytipijkpjmpejlaa
