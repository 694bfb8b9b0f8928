import Derived.Test.YtipijkpjmpejlaaNetU
/- The contract of Look. -/
set_option linter.unusedVariables false
set_option linter.unusedSimpArgs false
namespace Go.Proofs.Ytipijkpjmpejlaa
open Go.RowKit
theorem results_row_tmp2 {P : Program} {fn : Func} {p u u2 : Tmp} {ty : TypeId} (h : fn.results = #[.cell p ty, .tmp u, .tmp u2]) (tmps : Array Value) (w : World) (g : Nat) (t : TypeId) (cs : Array Value) (fr : Nat × Nat) (d : TypeDesc) (x y : Value)
    (hp : tmps.getD p undef = .pointer (some ⟨g, 0, none⟩)) (hv : tmps.getD u undef = x) (hv2 : tmps.getD u2 undef = y) (hg : w.heap[g]? = some (.cells cs t fr)) (hu : P.underlying ty = some d) (hd : (match d with | .struct _ | .array _ _ => true | _ => false) = true) (hi : (P.info? ty).map (·.size) = some cs.size) :
    (results fn tmps).run P w = .ok (.tuple #[.agg cs, x, y]) w := by
  have hp' : tmps[p]?.getD undef = .pointer (some ⟨g, 0, none⟩) := by simpa using hp
  have hv' : tmps[u]?.getD undef = x := by simpa using hv
  have hv2' : tmps[u2]?.getD undef = y := by simpa using hv2
  simp [results, h, hp', hv', hv2', asAddr, run_loadVar_row w g t ty cs fr d hg hu hd hi]
/-- What Look answers. -/
def LookPost (l : List (Msg × Bool)) (k : Int) (w : World) (e : Ending) (w' : World) : Prop :=
  (¬ (0 ≤ k ∧ k < l.length) ∧ e = .returned (.tuple #[.agg #[.int .i8 0, .int .i64 0, .int .i64 0, .int .i64 0, .int .i64 0, .int .i64 0, .int .i64 0, .int .i64 0, .int .i64 0, .int .i64 0, .int .i64 0, .slice none 0 0, .int .i64 0, .int .i64 0, .string ⟨#[]⟩, .slice none 0 0], .bool false, .int .i64 4]) ∧ Chg [] w w') ∨
  ∃ x A c B d, 0 ≤ k ∧ l[k.toNat]? = some x ∧ e = .returned (.tuple #[.agg #[.int .i8 (Msg.kind x.1), .int .i64 (Msg.frm x.1), .int .i64 (Msg.to x.1), .int .i64 (Msg.boot x.1), .int .i64 (Msg.server x.1), .int .i64 (Msg.number x.1), .int .i64 (Msg.node x.1), .int .i64 (Msg.lease x.1), .int .i64 (Msg.epoch x.1), .int .i64 (Msg.version x.1), .int .i64 (Msg.e x.1), .slice B (Msg.steps x.1).length d, .int .i64 (Msg.tree x.1).id, .int .i64 (Msg.tree x.1).kind, .string (Msg.tree x.1).text, .slice A (Msg.tree x.1).kids.length c], .bool x.2, .int .i64 0]) ∧ MsgC (fun b => w.heap.size ≤ b ∧ b < w'.heap.size) w' x.1 A c B d ∧ Chg [] w w'
set_option maxHeartbeats 4000000 in
set_option maxRecDepth 100000 in
theorem look_any (w : World) (g : Nat) (l : List (Msg × Bool)) (N : Nat → Prop) (h : NetV w g l N) (k : Int) : Calls Try.prog 49 #[.pointer (some ⟨g, 0, none⟩), .int .i64 k] w (LookPost l k w) := by
  have hCb : Chg [] w (w.alloc (.cells #[.int .i8 0, .int .i64 0, .int .i64 0, .int .i64 0, .int .i64 0, .int .i64 0, .int .i64 0, .int .i64 0, .int .i64 0, .int .i64 0, .int .i64 0, .slice none 0 0, .int .i64 0, .int .i64 0, .string ⟨#[]⟩, .slice none 0 0] 39)) := (by with_reducible repeat (first | exact Chg.refl _ _ | apply Chg.alloc | apply Chg.drew | apply Chg.drewN | (refine Chg.setCell ?_ _ _ (by simp))))
  have ht := there_any _ g l N (h.kept hCb (by simp)) k
  have hm : (Try.prog.info? 39).map (·.size) = some 16 := infoMsg
  have HV := Lib.hid (And.intro h (And.intro hCb (And.intro ht hm)))
  obtain ⟨v, css, h⟩ := h
  obtain ⟨Av, cv, rfl⟩ := h.slice
  have c0 := hCb.cell (cell1 h.box) (by simp)
  have HN := Lib.hid h
  clear h hCb ht hm
  by_cases h1 : 0 ≤ k ∧ k < l.length
  · have hv : (if 0 ≤ k ∧ k < l.length then (0 : Int) else 4) = 0 := if_pos h1
    obtain ⟨i, rfl⟩ : ∃ i : Nat, k = i := ⟨k.toNat, by omega⟩
    have hlt : i < l.length := by omega
    go_enter Try.func49, Try.ntmps49
    go_wp2_with (first
      | (go_at_call 83; refine HV.out.2.2.1.mono ?_; rintro e X ⟨rfl, rfl⟩; rw [hv])
      | fail)
    clear hv h1
    obtain ⟨X, hXe⟩ : ∃ X, X = w.alloc (.cells #[.int .i8 0, .int .i64 0, .int .i64 0, .int .i64 0, .int .i64 0, .int .i64 0, .int .i64 0, .int .i64 0, .int .i64 0, .int .i64 0, .int .i64 0, .slice none 0 0, .int .i64 0, .int .i64 0, .string ⟨#[]⟩, .slice none 0 0] 39) := ⟨_, rfl⟩
    rw [← hXe] at c0 ⊢
    have hwX : Chg [] w X := by rw [hXe]; exact (by with_reducible repeat (first | exact Chg.refl _ _ | apply Chg.alloc | apply Chg.drew | apply Chg.drewN | (refine Chg.setCell ?_ _ _ (by simp))))
    have kb : X.heap[w.heap.size]? = some (.cells #[.int .i8 0, .int .i64 0, .int .i64 0, .int .i64 0, .int .i64 0, .int .i64 0, .int .i64 0, .int .i64 0, .int .i64 0, .int .i64 0, .int .i64 0, .slice none 0 0, .int .i64 0, .int .i64 0, .string ⟨#[]⟩, .slice none 0 0] 39 (0, 0)) := by rw [hXe]; exact heap_new _ _ rfl
    obtain ⟨b, cb, C, hv, _, hb, hj1, hj2, hj3, hj4, hrg⟩ := HN.out.row.block (by rw [HN.out.len]; omega)
    clear hj1 hj2 hj3 hj4
    injection hv with hv1 hv2 hv3
    clear hv2
    subst hv1 hv3
    have hic : i < css.length := by rw [HN.out.len]; exact hlt
    obtain ⟨⟨m, hd⟩, hx⟩ : ∃ x, l[i]? = some x := ⟨_, List.getElem?_eq_getElem hlt⟩
    obtain ⟨A, c, B, d, hcs, hM⟩ := HN.out.has i _ _ hx (List.getElem?_eq_getElem hic)
    have hr := hwX.range (hrg i hic) (by simp)
    rw [hcs] at hr
    have hr16 : X.drew.rangeAt b (i * 17) (#[.int .i8 (Msg.kind m), .int .i64 (Msg.frm m), .int .i64 (Msg.to m), .int .i64 (Msg.boot m), .int .i64 (Msg.server m), .int .i64 (Msg.number m), .int .i64 (Msg.node m), .int .i64 (Msg.lease m), .int .i64 (Msg.epoch m), .int .i64 (Msg.version m), .int .i64 (Msg.e m), .slice B (Msg.steps m).length d, .int .i64 (Msg.tree m).id, .int .i64 (Msg.tree m).kind, .string (Msg.tree m).text, .slice A (Msg.tree m).kids.length c] : Array Value).toList := fun j u hu => hr j u (by
      have hj : j < 16 := by have := (List.getElem?_eq_some_iff.1 hu).1; simpa using this
      rw [show (#[.int .i8 (Msg.kind m), .int .i64 (Msg.frm m), .int .i64 (Msg.to m), .int .i64 (Msg.boot m), .int .i64 (Msg.server m), .int .i64 (Msg.number m), .int .i64 (Msg.node m), .int .i64 (Msg.lease m), .int .i64 (Msg.epoch m), .int .i64 (Msg.version m), .int .i64 (Msg.e m), .slice B (Msg.steps m).length d, .int .i64 (Msg.tree m).id, .int .i64 (Msg.tree m).kind, .string (Msg.tree m).text, .slice A (Msg.tree m).kids.length c, .bool hd] : Array Value).toList = (#[.int .i8 (Msg.kind m), .int .i64 (Msg.frm m), .int .i64 (Msg.to m), .int .i64 (Msg.boot m), .int .i64 (Msg.server m), .int .i64 (Msg.number m), .int .i64 (Msg.node m), .int .i64 (Msg.lease m), .int .i64 (Msg.epoch m), .int .i64 (Msg.version m), .int .i64 (Msg.e m), .slice B (Msg.steps m).length d, .int .i64 (Msg.tree m).id, .int .i64 (Msg.tree m).kind, .string (Msg.tree m).text, .slice A (Msg.tree m).kids.length c] : Array Value).toList ++ [.bool hd] from rfl, List.getElem?_append_left (by simpa using hj)]
      exact hu)
    have ch : X.cell? ⟨b, i * 17 + 16, none⟩ = some (.bool hd) := hr 16 _ rfl
    have hfit : m.Fit := HN.out.fit (m, hd) (List.mem_of_getElem? hx)
    have hcall := copied_any m A c B d X.drew ((hM.kept hwX.drew (by simp)).weak (fun b hb _ => by have := HN.out.low b hb.1; have := hwX.size; simp; omega)) hfit
    have HX := Lib.hid (And.intro hcall (And.intro hwX (And.intro kb (And.intro hr16 hx))))
    clear hcall hwX kb hr16 hx hr hcs hM hfit hrg hXe hb
    refine wp_region_M (fun W => W.cell? ⟨g, 0, none⟩ = some (.slice (some ⟨b, 0, none⟩) l.length cv) ∧ W.cell? ⟨b, i * 17 + 16, none⟩ = some (.bool hd)) (fun k => [8, 17].contains k) (fun k => [].contains k) (by kernel_rfl) ?_
    ((try dsimp only); (try simp only [Act.put, List.setIfInBounds_toArray, List.set_cons_zero, List.set_cons_succ]))
    refine M_pure (i := 0) (v := ?_) rfl (by kernel_rfl) (by kernel_rfl) (by kernel_rfl) (fun _ _ _ h => h) (by rfl) ?hy ?_; (case hy => (intro w; go_simp; with_reducible rfl)); ((try dsimp only); (try simp only [Act.put, List.setIfInBounds_toArray, List.set_cons_zero, List.set_cons_succ]))
    refine M_pure (i := 1) (v := ?_) rfl (by kernel_rfl) (by kernel_rfl) (by kernel_rfl) (fun _ _ _ h => h) (by rfl) ?hy ?_; (case hy => (intro w; go_simp; with_reducible rfl)); ((try dsimp only); (try simp only [Act.put, List.setIfInBounds_toArray, List.set_cons_zero, List.set_cons_succ]))
    refine M_pure (i := 2) (v := ?_) rfl (by kernel_rfl) (by kernel_rfl) (by kernel_rfl) (fun _ _ _ h => h) (by rfl) ?hy ?_; (case hy => (intro w; go_simp; with_reducible rfl)); ((try dsimp only); (try simp only [Act.put, List.setIfInBounds_toArray, List.set_cons_zero, List.set_cons_succ]))
    refine M_take (i := 3) (v := ?_) rfl (by kernel_rfl) (by kernel_rfl) (by kernel_rfl) (by kernel_rfl) (fun _ _ _ h => h) (by rfl) ?hy ?_; (case hy => (go_simp; with_reducible rfl)); ((try dsimp only); (try simp only [Act.put, List.setIfInBounds_toArray, List.set_cons_zero, List.set_cons_succ]))
    refine M_pure (i := 4) (v := ?_) rfl (by kernel_rfl) (by kernel_rfl) (by kernel_rfl) (fun _ _ _ h => h) (by rfl) ?hy ?_; (case hy => (intro w; go_simp; with_reducible rfl)); ((try dsimp only); (try simp only [Act.put, List.setIfInBounds_toArray, List.set_cons_zero, List.set_cons_succ]))
    refine M_pure (i := 5) (v := ?_) rfl (by kernel_rfl) (by kernel_rfl) (by kernel_rfl) (fun _ _ _ h => h) (by rfl) ?hy ?_; (case hy => (intro w; go_simp; with_reducible rfl)); ((try dsimp only); (try simp only [Act.put, List.setIfInBounds_toArray, List.set_cons_zero, List.set_cons_succ]))
    refine M_pure (i := 6) (v := ?_) rfl (by kernel_rfl) (by kernel_rfl) (by kernel_rfl) (fun _ _ _ h => h) (by rfl) ?hy ?_; (case hy => (intro w; go_simp; with_reducible rfl)); ((try dsimp only); (try simp only [Act.put, List.setIfInBounds_toArray, List.set_cons_zero, List.set_cons_succ]))
    refine M_take (i := 7) rfl (by kernel_rfl) (by kernel_rfl) (by kernel_rfl) (by kernel_rfl) (fun _ _ _ h => h) (by rfl) (exec_load_mid 39 (.tmp 18) rfl b (i * 17) rfl _ _ (w := X.drew) HX.out.2.2.2.1 Try.underlying39 rfl infoMsg) ?_; ((try dsimp only); (try simp only [Act.put, List.setIfInBounds_toArray, List.set_cons_zero, List.set_cons_succ]))
    refine M_pure (i := 9) (v := ?_) rfl (by kernel_rfl) (by kernel_rfl) (by kernel_rfl) (fun _ _ _ h => h) (by rfl) ?hy ?_; (case hy => (intro w; go_simp; with_reducible rfl)); ((try dsimp only); (try simp only [Act.put, List.setIfInBounds_toArray, List.set_cons_zero, List.set_cons_succ]))
    refine M_pure (i := 10) (v := ?_) rfl (by kernel_rfl) (by kernel_rfl) (by kernel_rfl) (fun _ _ _ h => h) (by rfl) ?hy ?_; (case hy => (intro w; go_simp; with_reducible rfl)); ((try dsimp only); (try simp only [Act.put, List.setIfInBounds_toArray, List.set_cons_zero, List.set_cons_succ]))
    refine M_pure (i := 11) (v := ?_) rfl (by kernel_rfl) (by kernel_rfl) (by kernel_rfl) (fun _ _ _ h => h) (by rfl) ?hy ?_; (case hy => (intro w; go_simp; with_reducible rfl)); ((try dsimp only); (try simp only [Act.put, List.setIfInBounds_toArray, List.set_cons_zero, List.set_cons_succ]))
    refine M_semi (i := 12) (v := ?_) rfl (by kernel_rfl) (by kernel_rfl) (by kernel_rfl) (by kernel_rfl) (fun _ _ _ h => h) (by rfl) ⟨c0, ch⟩ ?hy ?_; (case hy => (intro w hS; go_simp; with_reducible rfl)); ((try dsimp only); (try simp only [Act.put, List.setIfInBounds_toArray, List.set_cons_zero, List.set_cons_succ]))
    refine M_pure (i := 13) (v := ?_) rfl (by kernel_rfl) (by kernel_rfl) (by kernel_rfl) (fun _ _ _ h => h) (by rfl) ?hy ?_; (case hy => (intro w; go_simp; with_reducible rfl)); ((try dsimp only); (try simp only [Act.put, List.setIfInBounds_toArray, List.set_cons_zero, List.set_cons_succ]))
    refine M_pure (i := 14) (v := ?_) rfl (by kernel_rfl) (by kernel_rfl) (by kernel_rfl) (fun _ _ _ h => h) (by rfl) ?hy ?_; (case hy => (intro w; go_simp; with_reducible rfl)); ((try dsimp only); (try simp only [Act.put, List.setIfInBounds_toArray, List.set_cons_zero, List.set_cons_succ]))
    refine M_pure (i := 15) (v := ?_) rfl (by kernel_rfl) (by kernel_rfl) (by kernel_rfl) (fun _ _ _ h => h) (by rfl) ?hy ?_; (case hy => (intro w; go_simp; with_reducible rfl)); ((try dsimp only); (try simp only [Act.put, List.setIfInBounds_toArray, List.set_cons_zero, List.set_cons_succ]))
    refine M_semi (i := 16) (v := ?_) rfl (by kernel_rfl) (by kernel_rfl) (by kernel_rfl) (by kernel_rfl) (fun _ _ _ h => h) (by rfl) ⟨c0, ch⟩ ?hy ?_; (case hy => (intro w hS; go_simp; with_reducible rfl)); ((try dsimp only); (try simp only [Act.put, List.setIfInBounds_toArray, List.set_cons_zero, List.set_cons_succ]))
    refine M_eff (i := 8) rfl (by kernel_rfl) (by rfl) ?_
    go_wp2_with (go_at_call 79; refine HX.out.1.mono ?_; rintro e Y ⟨A1, c1, B1, d1, rfl, hM1, hXY⟩; have q0 := hXY.cell (show X.drew.cell? ⟨g, 0, none⟩ = _ from c0) (by simp); have q1 := hXY.cell (show X.drew.cell? ⟨b, i * 17 + 16, none⟩ = _ from ch) (by simp); have q2 := hXY.at (show X.drew.heap[w.heap.size]? = _ from HX.out.2.2.1) (by simp); have HY := Lib.hid (And.intro hM1 (And.intro hXY q2)); clear hM1 hXY q2)
    refine ⟨⟨q0, q1⟩, ?_⟩
    ((try dsimp only); (try simp only [Act.put, List.setIfInBounds_toArray, List.set_cons_zero, List.set_cons_succ]))
    refine M_eff (i := 17) rfl (by kernel_rfl) (by rfl) ?_
    have h1c : (#[.int .i8 (Msg.kind m), .int .i64 (Msg.frm m), .int .i64 (Msg.to m), .int .i64 (Msg.boot m), .int .i64 (Msg.server m), .int .i64 (Msg.number m), .int .i64 (Msg.node m), .int .i64 (Msg.lease m), .int .i64 (Msg.epoch m), .int .i64 (Msg.version m), .int .i64 (Msg.e m), .slice B1 (Msg.steps m).length d1, .int .i64 (Msg.tree m).id, .int .i64 (Msg.tree m).kind, .string (Msg.tree m).text, .slice A1 (Msg.tree m).kids.length c1] : Array Value).all (·.oneCell') = true := by simp [Value.oneCell']
    refine wpList_store_row rfl 39 (.tmp 4) (.tmp 20) rfl w.heap.size rfl #[.int .i8 (Msg.kind m), .int .i64 (Msg.frm m), .int .i64 (Msg.to m), .int .i64 (Msg.boot m), .int .i64 (Msg.server m), .int .i64 (Msg.number m), .int .i64 (Msg.node m), .int .i64 (Msg.lease m), .int .i64 (Msg.epoch m), .int .i64 (Msg.version m), .int .i64 (Msg.e m), .slice B1 (Msg.steps m).length d1, .int .i64 (Msg.tree m).id, .int .i64 (Msg.tree m).kind, .string (Msg.tree m).text, .slice A1 (Msg.tree m).kids.length c1] rfl _ _ HY.out.2.2 HV.out.2.2.2 rfl h1c ?_
    have hgl := HN.out.low g HN.out.foot
    have hbl := HN.out.low b (HN.out.own b rfl).1
    have hC1 := setRow_chg Y w.heap.size #[.int .i8 (Msg.kind m), .int .i64 (Msg.frm m), .int .i64 (Msg.to m), .int .i64 (Msg.boot m), .int .i64 (Msg.server m), .int .i64 (Msg.number m), .int .i64 (Msg.node m), .int .i64 (Msg.lease m), .int .i64 (Msg.epoch m), .int .i64 (Msg.version m), .int .i64 (Msg.e m), .slice B1 (Msg.steps m).length d1, .int .i64 (Msg.tree m).id, .int .i64 (Msg.tree m).kind, .string (Msg.tree m).text, .slice A1 (Msg.tree m).kids.length c1]
    have z1 := setRow_heap Y w.heap.size _ #[.int .i8 (Msg.kind m), .int .i64 (Msg.frm m), .int .i64 (Msg.to m), .int .i64 (Msg.boot m), .int .i64 (Msg.server m), .int .i64 (Msg.number m), .int .i64 (Msg.node m), .int .i64 (Msg.lease m), .int .i64 (Msg.epoch m), .int .i64 (Msg.version m), .int .i64 (Msg.e m), .slice B1 (Msg.steps m).length d1, .int .i64 (Msg.tree m).id, .int .i64 (Msg.tree m).kind, .string (Msg.tree m).text, .slice A1 (Msg.tree m).kids.length c1] _ _ HY.out.2.2
    have hsz1 : (Y.setRow w.heap.size #[.int .i8 (Msg.kind m), .int .i64 (Msg.frm m), .int .i64 (Msg.to m), .int .i64 (Msg.boot m), .int .i64 (Msg.server m), .int .i64 (Msg.number m), .int .i64 (Msg.node m), .int .i64 (Msg.lease m), .int .i64 (Msg.epoch m), .int .i64 (Msg.version m), .int .i64 (Msg.e m), .slice B1 (Msg.steps m).length d1, .int .i64 (Msg.tree m).id, .int .i64 (Msg.tree m).kind, .string (Msg.tree m).text, .slice A1 (Msg.tree m).kids.length c1]).heap.size = Y.heap.size := by simp
    have s0 := hC1.cell q0 (by simp; omega)
    have s1 := hC1.cell q1 (by simp; omega)
    obtain ⟨Z, hZ⟩ : ∃ Z, Z = Y.setRow w.heap.size #[.int .i8 (Msg.kind m), .int .i64 (Msg.frm m), .int .i64 (Msg.to m), .int .i64 (Msg.boot m), .int .i64 (Msg.server m), .int .i64 (Msg.number m), .int .i64 (Msg.node m), .int .i64 (Msg.lease m), .int .i64 (Msg.epoch m), .int .i64 (Msg.version m), .int .i64 (Msg.e m), .slice B1 (Msg.steps m).length d1, .int .i64 (Msg.tree m).id, .int .i64 (Msg.tree m).kind, .string (Msg.tree m).text, .slice A1 (Msg.tree m).kids.length c1] := ⟨_, rfl⟩
    rw [← hZ] at hC1 z1 hsz1 s0 s1 ⊢
    have hC2 := setRow_chg Z w.heap.size #[.int .i8 (Msg.kind m), .int .i64 (Msg.frm m), .int .i64 (Msg.to m), .int .i64 (Msg.boot m), .int .i64 (Msg.server m), .int .i64 (Msg.number m), .int .i64 (Msg.node m), .int .i64 (Msg.lease m), .int .i64 (Msg.epoch m), .int .i64 (Msg.version m), .int .i64 (Msg.e m), .slice B1 (Msg.steps m).length d1, .int .i64 (Msg.tree m).id, .int .i64 (Msg.tree m).kind, .string (Msg.tree m).text, .slice A1 (Msg.tree m).kids.length c1]
    have hCf := hC1.trans hC2
    have hXf := (HX.out.2.1.drew.trans HY.out.2.1).andThen hCf (fun j hj => .inr (by simp at hj; omega))
    have hsz2 : (Z.setRow w.heap.size #[.int .i8 (Msg.kind m), .int .i64 (Msg.frm m), .int .i64 (Msg.to m), .int .i64 (Msg.boot m), .int .i64 (Msg.server m), .int .i64 (Msg.number m), .int .i64 (Msg.node m), .int .i64 (Msg.lease m), .int .i64 (Msg.epoch m), .int .i64 (Msg.version m), .int .i64 (Msg.e m), .slice B1 (Msg.steps m).length d1, .int .i64 (Msg.tree m).id, .int .i64 (Msg.tree m).kind, .string (Msg.tree m).text, .slice A1 (Msg.tree m).kids.length c1]).heap.size = Y.heap.size := by simp [hsz1]
    have hMf := HY.out.1.kept hCf (fun x hx => by have := hx.1; have := lt_of_block HX.out.2.2.1; simp at *; omega)
    have HZ := Lib.hid (And.intro z1 (And.intro hXf (And.intro hsz2 (And.intro hMf h1c))))
    refine wpList_nil ⟨⟨s0, s1⟩, ?_⟩
    clear hC1 z1 hsz1 s0 s1 hC2 hCf hXf hsz2 hMf h1c hZ q0 q1 c0 ch hgl hbl
    ((try dsimp only); (try simp only [Act.put, List.setIfInBounds_toArray, List.set_cons_zero, List.set_cons_succ]))
    refine M_pure (i := 18) (v := ?_) rfl (by kernel_rfl) (by kernel_rfl) (by kernel_rfl) (fun _ _ _ h => h) (by rfl) ?hy ?_; (case hy => (intro w; go_simp; with_reducible rfl)); ((try dsimp only); (try simp only [Act.put, List.setIfInBounds_toArray, List.set_cons_zero, List.set_cons_succ]))
    refine M_done (by kernel_rfl) ?_ _
    go_wp2_with (first
      | (refine wpList_load_mid rfl 39 (.tmp 4) rfl w.heap.size 0 rfl (#[.int .i8 (Msg.kind m), .int .i64 (Msg.frm m), .int .i64 (Msg.to m), .int .i64 (Msg.boot m), .int .i64 (Msg.server m), .int .i64 (Msg.number m), .int .i64 (Msg.node m), .int .i64 (Msg.lease m), .int .i64 (Msg.epoch m), .int .i64 (Msg.version m), .int .i64 (Msg.e m), .slice B1 (Msg.steps m).length d1, .int .i64 (Msg.tree m).id, .int .i64 (Msg.tree m).kind, .string (Msg.tree m).text, .slice A1 (Msg.tree m).kids.length c1] : Array Value).toList _ (range_all HZ.out.1) Try.underlying39 rfl HV.out.2.2.2 ?_)
      | (refine wpList_store_row rfl 39 (.tmp 4) (.tmp 29) rfl w.heap.size rfl #[.int .i8 (Msg.kind m), .int .i64 (Msg.frm m), .int .i64 (Msg.to m), .int .i64 (Msg.boot m), .int .i64 (Msg.server m), .int .i64 (Msg.number m), .int .i64 (Msg.node m), .int .i64 (Msg.lease m), .int .i64 (Msg.epoch m), .int .i64 (Msg.version m), .int .i64 (Msg.e m), .slice B1 (Msg.steps m).length d1, .int .i64 (Msg.tree m).id, .int .i64 (Msg.tree m).kind, .string (Msg.tree m).text, .slice A1 (Msg.tree m).kids.length c1] rfl _ _ HZ.out.1 HV.out.2.2.2 rfl HZ.out.2.2.2.2 ?_)
      | fail)
    refine bodyPost_ret (v := .tuple #[.agg #[.int .i8 (Msg.kind m), .int .i64 (Msg.frm m), .int .i64 (Msg.to m), .int .i64 (Msg.boot m), .int .i64 (Msg.server m), .int .i64 (Msg.number m), .int .i64 (Msg.node m), .int .i64 (Msg.lease m), .int .i64 (Msg.epoch m), .int .i64 (Msg.version m), .int .i64 (Msg.e m), .slice B1 (Msg.steps m).length d1, .int .i64 (Msg.tree m).id, .int .i64 (Msg.tree m).kind, .string (Msg.tree m).text, .slice A1 (Msg.tree m).kids.length c1], .bool hd, .int .i64 0]) (results_row_tmp2 rfl _ _ w.heap.size _ _ _ _ _ _ rfl rfl rfl (setRow_heap _ _ _ _ _ _ HZ.out.1) Try.underlying39 rfl HV.out.2.2.2) rfl (.inr ⟨(m, hd), A1, c1, B1, d1, by omega, by simpa using HX.out.2.2.2.2, rfl, HZ.out.2.2.2.1.weak (fun x hx _ => ⟨by have := hx.1; have := HX.out.2.1.size; simp at *; omega, by rw [HZ.out.2.2.1]; exact hx.2⟩), HZ.out.2.1⟩)
  · have hv : (if 0 ≤ k ∧ k < l.length then (0 : Int) else 4) = 4 := if_neg h1
    have HK := Lib.hid h1
    clear h1
    go_enter Try.func49, Try.ntmps49
    go_wp2_with (first
      | (go_at_call 83; refine HV.out.2.2.1.mono ?_; rintro e X ⟨rfl, rfl⟩; rw [hv])
      | fail)
    refine bodyPost_ret (v := .tuple #[.agg #[.int .i8 0, .int .i64 0, .int .i64 0, .int .i64 0, .int .i64 0, .int .i64 0, .int .i64 0, .int .i64 0, .int .i64 0, .int .i64 0, .int .i64 0, .slice none 0 0, .int .i64 0, .int .i64 0, .string ⟨#[]⟩, .slice none 0 0], .bool false, .int .i64 4]) (results_row_tmp2 rfl _ _ w.heap.size _ _ _ _ _ _ rfl rfl rfl (heap_new _ _ rfl) Try.underlying39 rfl HV.out.2.2.2) rfl (.inl ⟨HK.out, rfl, HV.out.2.1⟩)
end Go.Proofs.Ytipijkpjmpejlaa
