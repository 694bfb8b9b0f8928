import Derived.Test.YtipijkpjmpejlaaRSame
import Derived.Test.YtipijkpjmpejlaaRangeD
/- The contract of the law's told. -/
set_option linter.unusedVariables false
set_option linter.unusedSimpArgs false
namespace Go.Proofs.Ytipijkpjmpejlaa
open Go.RowKit
attribute [local go_sem] Oper.semAt_some
theorem exec_store_row {P : Program} {o : Oper} {a : Act} {w : World} (T : TypeId) (x y : Operand) (ho : o.op = .store T x y) (g : Nat) (hx : a.eval x = .pointer (some ⟨g, 0, none⟩)) (cells : Array Value) (hy : a.eval y = .agg cells)
    (old : Array Value) (t : TypeId) (hg : w.heap[g]? = some (.cells old t (0, 0))) (hi : (P.info? T).map (·.size) = some cells.size) (hsz : old.size = cells.size) (h1 : cells.all (·.oneCell') = true) : (execOp a.eval o).run P w = .ok .skip (w.setRow g cells) := by
  simp [execOp, ho, hx, hy, Instr.storeAt, Instr.sureAddr, run_storeVar_row w g t T old cells hg hi hsz h1, Result.andThen]
/-- The reference's messages, for reading. -/
def MsgsL (w : World) (l : List (Msg × Bool)) (Al : Option Addr) (cl : Nat) : Prop := ∃ css, RowR w 16 39 0 (.slice Al l.length cl) css ∧ css.length = l.length ∧ ∀ (i : Nat) x cs, l[i]? = some x → css[i]? = some cs → MsgI (fun b => b < w.heap.size) w x.1 cs
theorem MsgsL.kept {w w' : World} {l : List (Msg × Bool)} {Al : Option Addr} {cl : Nat} (h : MsgsL w l Al cl) (hc : Chg [] w w') : MsgsL w' l Al cl := by
  obtain ⟨css, h1, h2, h3⟩ := h
  exact ⟨css, h1.kept hc (by simp), h2, fun i x cs a b => ((h3 i x cs a b).kept hc (by simp)).weak (fun g hg hlt => hlt)⟩
/-- Telling under way: k are told. -/
structure Tld (w W : World) (g : Nat) (l : List (Msg × Bool)) (N : Nat → Prop) (Al : Option Addr) (cl : Nat) (leave : Int) (k : Int) (r : Bool) : Prop where
  st : StM (w.heap.size + 1 + 1 + 1 + 1) g l N W
  b0 : W.heap[w.heap.size]? = some (.cells #[.slice Al l.length cl] 22 (0, 0))
  b1 : W.heap[w.heap.size + 1]? = some (.cells #[.int .i64 leave] 3 (0, 0))
  b2 : W.heap[w.heap.size + 1 + 1]? = some (.cells #[.bool r] 4 (0, 0))
  b3 : W.heap[w.heap.size + 1 + 1 + 1]? = some (.cells #[.int .i64 k] 3 (0, 0))
  chg : Chg [] w W
theorem Tld.quiet {w W W' : World} {g B : Nat} {l : List (Msg × Bool)} {N : Nat → Prop} {Al : Option Addr} {cl : Nat} {leave k : Int} {r : Bool} (h : Tld w W g l N Al cl leave k r) (hq : Quiet B W W') (hN : ∀ b, N b → b < B) (hB : w.heap.size + 1 + 1 + 1 + 1 < B) : Tld w W' g l N Al cl leave k r := by
  refine ⟨⟨?_, h.st.2.quiet hq hN⟩, hq.at h.b0 rfl, hq.at h.b1 rfl, hq.at h.b2 rfl, hq.at h.b3 rfl, hq.chg h.chg (by omega)⟩
  obtain ⟨L, h1, h2⟩ := hq
  exact h1.cell h.st.1 (fun hm => by have := (h2 _ hm).1; simp at this; omega)
theorem Tld.put {w W : World} {g : Nat} {l : List (Msg × Bool)} {N : Nat → Prop} {Al : Option Addr} {cl : Nat} {leave k : Int} {r : Bool} (h : Tld w W g l N Al cl leave k r) (hlow : ∀ b, N b → b < w.heap.size) (k' : Int) :
    Tld w (W.setCell ⟨w.heap.size + 1 + 1 + 1, 0, none⟩ (.int .i64 k')) g l N Al cl leave k' r ∧ Chg [w.heap.size + 1 + 1 + 1] W (W.setCell ⟨w.heap.size + 1 + 1 + 1, 0, none⟩ (.int .i64 k')) := by
  have hS : Chg [w.heap.size + 1 + 1 + 1] W (W.setCell ⟨w.heap.size + 1 + 1 + 1, 0, none⟩ (.int .i64 k')) := (Chg.refl _ _).setCell _ _ (by simp)
  refine ⟨⟨⟨hS.cell h.st.1 (by simp), h.st.2.kept hS (fun b hb hm => ?_)⟩, hS.at h.b0 (by simp; try omega), hS.at h.b1 (by simp; try omega), hS.at h.b2 (by simp; try omega), heap_setCell_same _ _ 0 _ _ _ h.b3, h.chg.andThen hS (fun j hj => .inr (by simp at hj; omega))⟩, hS⟩
  have := hlow b hb
  simp at hm; omega
theorem told_ret {w W : World} {g D : Nat} {l : List (Msg × Bool)} {N : Nat → Prop} {Al : Option Addr} {cl : Nat} {leave k : Int} {r : Bool} (h : Tld w W g l N Al cl leave k r) (hD : w.heap.size + 1 + 1 + 1 + 1 < D) (hK : W.heap[D]? = some (.deferred (some []))) (a : Act) (hd : a.defers = [{ target := .collected D, args := #[] }]) (h6 : a.tmps.getD 6 undef = .pointer (some ⟨w.heap.size + 1 + 1, 0, none⟩)) :
    bodyPostM W0 0 Try.prog Try.f54 (fun e w' => e = .returned (.bool true) ∧ Chg [] w w') .ret a (W.setCell ⟨w.heap.size + 1 + 1, 0, none⟩ (.bool true)) := by
  have hS : Chg [w.heap.size + 1 + 1] W (W.setCell ⟨w.heap.size + 1 + 1, 0, none⟩ (.bool true)) := (Chg.refl _ _).setCell _ _ (by simp)
  have hP : Chg [D] (W.setCell ⟨w.heap.size + 1 + 1, 0, none⟩ (.bool true)) ((W.setCell ⟨w.heap.size + 1 + 1, 0, none⟩ (.bool true)).putObj D (.deferred none)) := ⟨rfl, rfl, rfl, by simp, fun j _ hj => World.putObj_heap_other (by simpa using hj)⟩
  have k2 := cell1 (hP.at (show (W.setCell ⟨w.heap.size + 1 + 1, 0, none⟩ (.bool true)).heap[w.heap.size + 1 + 1]? = some (.cells #[.bool true] 4 (0, 0)) from heap_setCell_same _ _ 0 _ _ _ h.b2) (by simp; omega))
  have h6' : a.tmps[6]?.getD undef = .pointer (some ⟨w.heap.size + 1 + 1, 0, none⟩) := by simpa using h6
  refine bodyM_ret hd (hS.at hK (by simp; omega)) (v := .bool true) ?_ ⟨rfl, (h.chg.andThen hS (fun j hj => .inr (by simp at hj; omega))).andThen hP (fun j hj => .inr (by simp at hj; omega))⟩
  simp [results, Try.results54, go_sem, h6', k2]
set_option maxHeartbeats 4000000 in
set_option maxRecDepth 100000 in
theorem told_any (w : World) (g : Nat) (l : List (Msg × Bool)) (N : Nat → Prop) (Al : Option Addr) (cl : Nat) (leave : Int) (h : NetV w g l N) (hL : MsgsL w l Al cl) : Calls Try.prog 54 #[.pointer (some ⟨g, 0, none⟩), .slice Al l.length cl, .int .i64 leave] w fun e w' => e = .returned (.bool true) ∧ Chg [] w w' := by
  have hm : (Try.prog.info? 39).map (·.size) = some 16 := infoMsg
  have HV := Lib.hid (And.intro h (And.intro hL hm))
  have hl1024 : l.length ≤ 1024 := by obtain ⟨_, _, h⟩ := h; exact h.most
  clear h hL hm
  refine callsIn_wide.1 (callsIn_of_wp_marks (n := 0) Try.func54 rfl trivial (wpIn_wide.2 ?_))
  simp only [Try.ntmps54, List.size_toArray, List.length_cons, List.length_nil, Nat.reduceAdd, Nat.reduceSub, Array.replicate_succ, Array.replicate_zero, List.push_toArray, List.append_toArray, List.nil_append, List.cons_append]
  have hq : ∀ b w, (binOp .eql 144 (.func (.func 105) #[] #[.pointer (some ⟨b, 0, none⟩)]) (.nilFunc)).run Try.prog w = .ok (.bool false) w := fun b w => by kernel_rfl
  go_wp2_with (go_at_call 84; refine (all_any _ _).mono ?_; rintro e X ⟨rfl, hXc, hX⟩)
  clear hq
  obtain ⟨V, hV⟩ : ∃ V, V = (((w.alloc (.cells #[.slice Al l.length cl] 22)).alloc (.cells #[.int .i64 leave] 3)).alloc (.cells #[.bool false] 4)).alloc (.cells #[.int .i64 0] 3) := ⟨_, rfl⟩
  have hwV : Chg [] w V := by rw [hV]; exact (by with_reducible repeat (first | exact Chg.refl _ _ | apply Chg.alloc | apply Chg.drew | apply Chg.drewN | (refine Chg.setCell ?_ _ _ (by simp))))
  have v0 : V.heap[w.heap.size]? = some (.cells #[.slice Al l.length cl] 22 (0, 0)) := by rw [hV]; exact heap_old (heap_old (heap_old (heap_new _ _ rfl) _) _) _
  have v1 : V.heap[w.heap.size + 1]? = some (.cells #[.int .i64 leave] 3 (0, 0)) := by rw [hV]; exact heap_old (heap_old (heap_new _ _ (by simp)) _) _
  have v2 : V.heap[w.heap.size + 1 + 1]? = some (.cells #[.bool false] 4 (0, 0)) := by rw [hV]; exact heap_old (heap_new _ _ (by simp)) _
  have v3 : V.heap[w.heap.size + 1 + 1 + 1]? = some (.cells #[.int .i64 0] 3 (0, 0)) := by rw [hV]; exact heap_new _ _ (by simp)
  rw [← hV] at hXc hX
  have hVs : V.heap.size = w.heap.size + 1 + 1 + 1 + 1 := by rw [hV]; simp
  rw [hVs] at hXc
  clear hV
  have hwX : Chg [] w X := hwV.trans hX
  have hF0 : Tld w X g l N Al cl leave 0 false := ⟨⟨hXc, HV.out.1.kept hwX (by simp)⟩, hX.at v0 (by simp), hX.at v1 (by simp), hX.at v2 (by simp), hX.at v3 (by simp), hwX⟩
  have hsz : w.heap.size + 1 + 1 + 1 + 1 < X.heap.size := World.block_lt_of_cell? X _ hXc
  have hloww : ∀ b, N b → b < w.heap.size := fun b hb => by
    obtain ⟨v, css, h⟩ := HV.out.1
    exact h.low b hb
  have hlow : ∀ b, N b → b < X.heap.size := fun b hb => Nat.lt_of_lt_of_le (hloww b hb) hwX.size
  have HF := Lib.hid (And.intro hF0 (And.intro hsz (And.intro hlow hloww)))
  clear hXc hX hwV hwX v0 v1 v2 v3 hF0 hsz hlow hloww hVs
  refine wp_range (gf := 105) (lb := #[.pointer (some ⟨w.heap.size + 1 + 1 + 1 + 1, 0, none⟩)]) rfl (enters_of Try.func105 (by kernel_rfl) rfl) (all_iter (w.heap.size + 1 + 1 + 1 + 1) g l N)
    (fun l i x args W h => by obtain ⟨A, c, B, d, _, rfl, _⟩ := h; rfl)
    (fun i W => Tld w W g l N Al cl leave i false) (fun c W => c = .exit 0 ∧ Tld w W g l N Al cl leave leave false)
    (fun i W h => h.st) (fun i W W' h hq => h.quiet hq HF.out.2.2.1 HF.out.2.1) (fun c W W' h hq => ⟨h.1, h.2.quiet hq HF.out.2.2.1 HF.out.2.1⟩) HF.out.1 ?round ?done ?stop
  case round =>
    rintro l0 i x args W hF hx ⟨A, c, B, d, base, rfl, hlb, hM⟩ hl hlB
    have h1c : (#[.int .i8 (Msg.kind x.1), .int .i64 (Msg.frm x.1), .int .i64 (Msg.to x.1), .int .i64 (Msg.boot x.1), .int .i64 (Msg.server x.1), .int .i64 (Msg.number x.1), .int .i64 (Msg.node x.1), .int .i64 (Msg.lease x.1), .int .i64 (Msg.epoch x.1), .int .i64 (Msg.version x.1), .int .i64 (Msg.e x.1), .slice B (Msg.steps x.1).length d, .int .i64 (Msg.tree x.1).id, .int .i64 (Msg.tree x.1).kind, .string (Msg.tree x.1).text, .slice A (Msg.tree x.1).kids.length c] : Array Value).all (·.oneCell') = true := by simp [Value.oneCell']
    obtain ⟨W1, hW1⟩ : ∃ W1, W1 = W.alloc (.cells #[.int .i8 (Msg.kind x.1), .int .i64 (Msg.frm x.1), .int .i64 (Msg.to x.1), .int .i64 (Msg.boot x.1), .int .i64 (Msg.server x.1), .int .i64 (Msg.number x.1), .int .i64 (Msg.node x.1), .int .i64 (Msg.lease x.1), .int .i64 (Msg.epoch x.1), .int .i64 (Msg.version x.1), .int .i64 (Msg.e x.1), .slice B (Msg.steps x.1).length d, .int .i64 (Msg.tree x.1).id, .int .i64 (Msg.tree x.1).kind, .string (Msg.tree x.1).text, .slice A (Msg.tree x.1).kids.length c] 39) := ⟨_, rfl⟩
    have hW1c : Chg [] W W1 := by rw [hW1]; exact (by with_reducible repeat (first | exact Chg.refl _ _ | apply Chg.alloc | apply Chg.drew | apply Chg.drewN | (refine Chg.setCell ?_ _ _ (by simp))))
    have hW1b : W1.heap[W.heap.size]? = some (.cells #[.int .i8 (Msg.kind x.1), .int .i64 (Msg.frm x.1), .int .i64 (Msg.to x.1), .int .i64 (Msg.boot x.1), .int .i64 (Msg.server x.1), .int .i64 (Msg.number x.1), .int .i64 (Msg.node x.1), .int .i64 (Msg.lease x.1), .int .i64 (Msg.epoch x.1), .int .i64 (Msg.version x.1), .int .i64 (Msg.e x.1), .slice B (Msg.steps x.1).length d, .int .i64 (Msg.tree x.1).id, .int .i64 (Msg.tree x.1).kind, .string (Msg.tree x.1).text, .slice A (Msg.tree x.1).kids.length c] 39 (0, 0)) := by rw [hW1]; exact heap_new _ _ rfl
    have H1 := Lib.hid (And.intro hF (And.intro hx (And.intro hM (And.intro hlB (And.intro h1c (And.intro (Eq.symm hW1) (And.intro hW1c (And.intro hW1b hlb))))))))
    clear hF hx hM hl hlB h1c hW1 hW1c hW1b hlb
    gi_wp2_with (first
      | (refine inList_runs (fun _ => trivial) rfl (by simp) (exec_store_row 39 (.tmp 10) (.tmp 17) rfl W.heap.size rfl #[.int .i8 (Msg.kind x.1), .int .i64 (Msg.frm x.1), .int .i64 (Msg.to x.1), .int .i64 (Msg.boot x.1), .int .i64 (Msg.server x.1), .int .i64 (Msg.number x.1), .int .i64 (Msg.node x.1), .int .i64 (Msg.lease x.1), .int .i64 (Msg.epoch x.1), .int .i64 (Msg.version x.1), .int .i64 (Msg.e x.1), .slice B (Msg.steps x.1).length d, .int .i64 (Msg.tree x.1).id, .int .i64 (Msg.tree x.1).kind, .string (Msg.tree x.1).text, .slice A (Msg.tree x.1).kids.length c] rfl _ _ (heap_new _ _ rfl) HV.out.2.2 rfl H1.out.2.2.2.2.1) ?_; rw [setRow_new, H1.out.2.2.2.2.2.1])
      | fail)
    refine ⟨Books.of_chg0 H1.out.2.2.2.2.2.2.1, fun W2 hc2 hq2 => ?_⟩
    have hF2 := (H1.out.1.quiet (.of_chg H1.out.2.2.2.2.2.2.1) HF.out.2.2.1 HF.out.2.1).quiet hq2 HF.out.2.2.1 HF.out.2.1
    have b10 := hq2.at H1.out.2.2.2.2.2.2.2.1 rfl
    have hM2 := ((H1.out.2.2.1.kept H1.out.2.2.2.2.2.2.1 (by simp)).kept hc2 (fun b hb hm => by have := H1.out.2.2.2.2.2.2.2.2; simp at hm; omega)).weak (ok' := fun _ => True) (fun _ _ _ => trivial)
    have hil : i < l.length := (List.getElem?_eq_some_iff.1 H1.out.2.1).1
    obtain ⟨css, hrow, hcl, hit⟩ := HV.out.2.1.kept hF2.chg
    obtain ⟨b, cb, C, hv2, _, hb, hj1, hj2, hj3, hj4, hrg⟩ := hrow.block (by omega)
    clear hj1 hj2 hj3 hj4
    rw [hcl] at hv2
    injection hv2 with hv1 hv3 hv4
    clear hv3
    subst hv1 hv4
    have hic : i < css.length := by omega
    obtain ⟨A', c', B', d', hcs, hM'⟩ := hit i _ _ H1.out.2.1 (List.getElem?_eq_getElem hic)
    have hr := hrg i hic
    rw [hcs] at hr
    have hr' : W2.drew.rangeAt b (i * 16) (#[.int .i8 (Msg.kind x.1), .int .i64 (Msg.frm x.1), .int .i64 (Msg.to x.1), .int .i64 (Msg.boot x.1), .int .i64 (Msg.server x.1), .int .i64 (Msg.number x.1), .int .i64 (Msg.node x.1), .int .i64 (Msg.lease x.1), .int .i64 (Msg.epoch x.1), .int .i64 (Msg.version x.1), .int .i64 (Msg.e x.1), .slice B' (Msg.steps x.1).length d', .int .i64 (Msg.tree x.1).id, .int .i64 (Msg.tree x.1).kind, .string (Msg.tree x.1).text, .slice A' (Msg.tree x.1).kids.length c'] : Array Value).toList := hr
    have hsm := sameMsg_any x.1 A c B d A' c' B' d' W2.drew (hM2.kept ((Chg.refl [] _).drew) (by simp)) ((hM'.kept ((Chg.refl [] _).drew) (by simp)).weak (fun _ _ _ => trivial))
    have hr10 : W2.drew.rangeAt W.heap.size 0 (#[.int .i8 (Msg.kind x.1), .int .i64 (Msg.frm x.1), .int .i64 (Msg.to x.1), .int .i64 (Msg.boot x.1), .int .i64 (Msg.server x.1), .int .i64 (Msg.number x.1), .int .i64 (Msg.node x.1), .int .i64 (Msg.lease x.1), .int .i64 (Msg.epoch x.1), .int .i64 (Msg.version x.1), .int .i64 (Msg.e x.1), .slice B (Msg.steps x.1).length d, .int .i64 (Msg.tree x.1).id, .int .i64 (Msg.tree x.1).kind, .string (Msg.tree x.1).text, .slice A (Msg.tree x.1).kids.length c] : Array Value).toList := range_all b10
    have e0 := cell1 hF2.b0
    have e1 := cell1 hF2.b1
    have e3 := cell1 hF2.b3
    have H2 := Lib.hid (And.intro hF2 (And.intro hsm (And.intro hr' hr10)))
    clear hF2 hsm hr' hr10 b10 hM2 hrow hcl hit hb hrg hcs hM' hr hc2 hq2
    have hne : ((i : Int) != i) = false := by simp
    have hnl : decide ((l.length : Int) ≤ i) = false := decide_eq_false (by omega)
    have hnl2 : decide (l.length ≤ i) = false := decide_eq_false (by omega)
    gi_wp2_with fail
    refine wpIn_region_M (fun _ => True) (fun k => [15].contains k) (fun k => [15].contains k) (by kernel_rfl) (by kernel_rfl) (by rintro ⟨a, w, h⟩; exact h) ?_
    ((try dsimp only); (try simp only [Act.put, List.setIfInBounds_toArray, List.set_cons_zero, List.set_cons_succ]))
    refine M_pure (i := 0) (v := ?_) rfl (by kernel_rfl) (by kernel_rfl) (by kernel_rfl) (fun _ _ _ h => h) (by rfl) ?hy ?_; (case hy => (intro w; go_simp; with_reducible rfl)); ((try dsimp only); (try simp only [Act.put, List.setIfInBounds_toArray, List.set_cons_zero, List.set_cons_succ]))
    refine M_take (i := 1) (v := ?_) rfl (by kernel_rfl) (by kernel_rfl) (by kernel_rfl) (by kernel_rfl) (fun _ _ _ h => h) (by rfl) ?hy ?_; (case hy => (go_simp; with_reducible rfl)); ((try dsimp only); (try simp only [Act.put, List.setIfInBounds_toArray, List.set_cons_zero, List.set_cons_succ]))
    refine M_pure (i := 2) (v := ?_) rfl (by kernel_rfl) (by kernel_rfl) (by kernel_rfl) (fun _ _ _ h => h) (by rfl) ?hy ?_; (case hy => (intro w; go_simp; with_reducible rfl)); ((try dsimp only); (try simp only [Act.put, List.setIfInBounds_toArray, List.set_cons_zero, List.set_cons_succ]))
    refine M_pure (i := 3) (v := ?_) rfl (by kernel_rfl) (by kernel_rfl) (by kernel_rfl) (fun _ _ _ h => h) (by rfl) ?hy ?_; (case hy => (intro w; go_simp; with_reducible rfl)); ((try dsimp only); (try simp only [Act.put, List.setIfInBounds_toArray, List.set_cons_zero, List.set_cons_succ]))
    refine M_take (i := 4) (v := ?_) rfl (by kernel_rfl) (by kernel_rfl) (by kernel_rfl) (by kernel_rfl) (fun _ _ _ h => h) (by rfl) ?hy ?_; (case hy => (go_simp; with_reducible rfl)); ((try dsimp only); (try simp only [Act.put, List.setIfInBounds_toArray, List.set_cons_zero, List.set_cons_succ]))
    refine M_take (i := 5) (v := ?_) rfl (by kernel_rfl) (by kernel_rfl) (by kernel_rfl) (by kernel_rfl) (fun _ _ _ h => h) (by rfl) ?hy ?_; (case hy => (go_simp; with_reducible rfl)); ((try dsimp only); (try simp only [Act.put, List.setIfInBounds_toArray, List.set_cons_zero, List.set_cons_succ]))
    refine M_pure (i := 6) (v := ?_) rfl (by kernel_rfl) (by kernel_rfl) (by kernel_rfl) (fun _ _ _ h => h) (by rfl) ?hy ?_; (case hy => (intro w; go_simp; with_reducible rfl)); ((try dsimp only); (try simp only [Act.put, List.setIfInBounds_toArray, List.set_cons_zero, List.set_cons_succ]))
    refine M_pure (i := 7) (v := ?_) rfl (by kernel_rfl) (by kernel_rfl) (by kernel_rfl) (fun _ _ _ h => h) (by rfl) ?hy ?_; (case hy => (intro w; go_simp; with_reducible rfl)); ((try dsimp only); (try simp only [Act.put, List.setIfInBounds_toArray, List.set_cons_zero, List.set_cons_succ]))
    refine M_pure (i := 8) (v := ?_) rfl (by kernel_rfl) (by kernel_rfl) (by kernel_rfl) (fun _ _ _ h => h) (by rfl) ?hy ?_; (case hy => (intro w; go_simp; with_reducible rfl)); ((try dsimp only); (try simp only [Act.put, List.setIfInBounds_toArray, List.set_cons_zero, List.set_cons_succ]))
    refine M_pure (i := 9) (v := ?_) rfl (by kernel_rfl) (by kernel_rfl) (by kernel_rfl) (fun _ _ _ h => h) (by rfl) ?hy ?_; (case hy => (intro w; go_simp; with_reducible rfl)); ((try dsimp only); (try simp only [Act.put, List.setIfInBounds_toArray, List.set_cons_zero, List.set_cons_succ]))
    refine M_take (i := 10) rfl (by kernel_rfl) (by kernel_rfl) (by kernel_rfl) (by kernel_rfl) (fun _ _ _ h => h) (by rfl) (exec_load_mid 39 (.tmp 10) rfl W.heap.size 0 rfl _ _ (w := W2.drew) H2.out.2.2.2 Try.underlying39 rfl infoMsg) ?_; ((try dsimp only); (try simp only [Act.put, List.setIfInBounds_toArray, List.set_cons_zero, List.set_cons_succ]))
    refine M_take (i := 11) (v := ?_) rfl (by kernel_rfl) (by kernel_rfl) (by kernel_rfl) (by kernel_rfl) (fun _ _ _ h => h) (by rfl) ?hy ?_; (case hy => (go_simp; with_reducible rfl)); ((try dsimp only); (try simp only [Act.put, List.setIfInBounds_toArray, List.set_cons_zero, List.set_cons_succ]))
    refine M_take (i := 12) (v := ?_) rfl (by kernel_rfl) (by kernel_rfl) (by kernel_rfl) (by kernel_rfl) (fun _ _ _ h => h) (by rfl) ?hy ?_; (case hy => (go_simp; with_reducible rfl)); ((try dsimp only); (try simp only [Act.put, List.setIfInBounds_toArray, List.set_cons_zero, List.set_cons_succ]))
    refine M_pure (i := 13) (v := ?_) rfl (by kernel_rfl) (by kernel_rfl) (by kernel_rfl) (fun _ _ _ h => h) (by rfl) ?hy ?_; (case hy => (intro w; go_simp; with_reducible rfl)); ((try dsimp only); (try simp only [Act.put, List.setIfInBounds_toArray, List.set_cons_zero, List.set_cons_succ]))
    refine M_take (i := 14) rfl (by kernel_rfl) (by kernel_rfl) (by kernel_rfl) (by kernel_rfl) (fun _ _ _ h => h) (by rfl) (exec_load_mid 39 (.tmp 31) rfl b (i * 16) rfl _ _ (w := W2.drew) H2.out.2.2.1 Try.underlying39 rfl infoMsg) ?_; ((try dsimp only); (try simp only [Act.put, List.setIfInBounds_toArray, List.set_cons_zero, List.set_cons_succ]))
    refine M_brk (i := 15) rfl (by kernel_rfl) (by rfl) (by rfl) ?_
    go_wp2_with fail
    refine H2.out.2.1.mono ?_
    rintro e Y ⟨rfl, hY⟩
    have hY2 : Chg [] W2 Y := (Chg.refl [] W2).drew.trans hY
    have hFY := H2.out.1.quiet (.of_chg hY2) HF.out.2.2.1 HF.out.2.1
    have y1 := cell1 hFY.b1
    have y3 := cell1 hFY.b3
    have fy3 := blkF hFY.b3 0
    obtain ⟨hFp, hSp⟩ := hFY.put HF.out.2.2.2 ((i : Int) + 1)
    have HY := Lib.hid (And.intro hY2 (And.intro hFp hSp))
    clear hY hY2 hFY hFp hSp e0 e1 e3
    go_wp2_with fail
    ((try dsimp only [EffQ]); (try simp only [Act.put, List.setIfInBounds_toArray, List.set_cons_zero, List.set_cons_succ]))
    refine M_pure (i := 16) (v := ?_) rfl (by kernel_rfl) (by kernel_rfl) (by kernel_rfl) (fun _ _ _ h => h) (by rfl) ?hy ?_; (case hy => (intro w; go_simp; with_reducible rfl)); ((try dsimp only); (try simp only [Act.put, List.setIfInBounds_toArray, List.set_cons_zero, List.set_cons_succ]))
    refine M_pure (i := 17) (v := ?_) rfl (by kernel_rfl) (by kernel_rfl) (by kernel_rfl) (fun _ _ _ h => h) (by rfl) ?hy ?_; (case hy => (intro w; go_simp; with_reducible rfl)); ((try dsimp only); (try simp only [Act.put, List.setIfInBounds_toArray, List.set_cons_zero, List.set_cons_succ]))
    refine M_done (by kernel_rfl) ?_ _
    by_cases hlv : (i : Int) + 1 = leave
    · have hle : ((i : Int) + 1 == leave) = true := by simpa using hlv
      have HL := Lib.hid hlv
      clear hlv
      gi_wp2_with fail
      refine ⟨(Books.of_chg0 HY.out.1).trans (Books.of_chg HY.out.2.2 (fun k hk => .inl ?_)), rfl, by have := HY.out.2.1; rw [HL.out] at this ⊢; exact this⟩
      have := HF.out.2.1
      simp at hk; omega
    · have hle : ((i : Int) + 1 == leave) = false := by simpa using hlv
      clear hlv
      gi_wp2_with fail
      refine ⟨(Books.of_chg0 HY.out.1).trans (Books.of_chg HY.out.2.2 (fun k hk => .inl ?_)), by have := HY.out.2.1; rw [show (i : Int) + 1 = ((i + 1 : Nat) : Int) from by omega] at this ⊢; exact this⟩
      have := HF.out.2.1
      simp at hk; omega
  case done =>
    rintro D W hD hF hK
    have c0 := cell1 hF.b0
    have c1 := cell1 hF.b1
    have c3 := cell1 hF.b3
    have c2 := cell1 hF.b2
    have f2 := blkF hF.b2 0
    have H1 := Lib.hid (And.intro hF hK)
    clear hF hK
    go_wp2
    exact told_ret H1.out.1 (by have := HF.out.2.1; omega) H1.out.2 _ rfl rfl
  case stop =>
    rintro D c W hD ⟨rfl, hF⟩ hK
    have c0 := cell1 hF.b0
    have c1 := cell1 hF.b1
    have c3 := cell1 hF.b3
    have c2 := cell1 hF.b2
    have f2 := blkF hF.b2 0
    have H1 := Lib.hid (And.intro hF hK)
    clear hF hK
    by_cases hlv : leave = (l.length : Int)
    · have hle : (leave == (l.length : Int)) = true := by simpa using hlv
      clear hlv
      go_wp2
      exact told_ret H1.out.1 (by have := HF.out.2.1; omega) H1.out.2 _ rfl rfl
    · have hle : (leave == (l.length : Int)) = false := by simpa using hlv
      clear hlv
      go_wp2
      exact told_ret H1.out.1 (by have := HF.out.2.1; omega) H1.out.2 _ rfl rfl
end Go.Proofs.Ytipijkpjmpejlaa
