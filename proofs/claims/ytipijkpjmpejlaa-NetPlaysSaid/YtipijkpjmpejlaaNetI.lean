import Derived.Test.YtipijkpjmpejlaaNetK
import Derived.Test.YtipijkpjmpejlaaRangeM
/- The contracts of All and of First. -/
set_option linter.unusedVariables false
set_option linter.unusedSimpArgs false
namespace Go.Proofs.Ytipijkpjmpejlaa
open Go.RowKit
attribute [local go_sem] Oper.semAt_some
theorem all_any (w : World) (g : Nat) : Calls Try.prog 84 #[.pointer (some ⟨g, 0, none⟩)] w fun e w' => e = .returned (.func (.func 105) #[] #[.pointer (some ⟨w.heap.size, 0, none⟩)]) ∧ w'.cell? ⟨w.heap.size, 0, none⟩ = some (.pointer (some ⟨g, 0, none⟩)) ∧ Chg [] w w' := by
  go_enter Try.func84, Try.ntmps84
  go_wp2
  go_ret
  exact ⟨rfl, cell1 (heap_new _ _ rfl), (by with_reducible repeat (first | exact Chg.refl _ _ | apply Chg.alloc | apply Chg.drew | apply Chg.drewN | (refine Chg.setCell ?_ _ _ (by simp))))⟩
def RepM (l0 i : Nat) (x : Msg × Bool) (args : Array Value) (W : World) : Prop := ∃ A c B d base, args = #[.int .i64 i, .agg #[.int .i8 (Msg.kind x.1), .int .i64 (Msg.frm x.1), .int .i64 (Msg.to x.1), .int .i64 (Msg.boot x.1), .int .i64 (Msg.server x.1), .int .i64 (Msg.number x.1), .int .i64 (Msg.node x.1), .int .i64 (Msg.lease x.1), .int .i64 (Msg.epoch x.1), .int .i64 (Msg.version x.1), .int .i64 (Msg.e x.1), .slice B (Msg.steps x.1).length d, .int .i64 (Msg.tree x.1).id, .int .i64 (Msg.tree x.1).kind, .string (Msg.tree x.1).text, .slice A (Msg.tree x.1).kids.length c]] ∧ l0 < base ∧ MsgC (fun b => base ≤ b ∧ b < W.heap.size) W x.1 A c B d
def StM (B g : Nat) (l : List (Msg × Bool)) (N : Nat → Prop) (W : World) : Prop := W.cell? ⟨B, 0, none⟩ = some (.pointer (some ⟨g, 0, none⟩)) ∧ NetV W g l N
set_option maxHeartbeats 4000000 in
set_option maxRecDepth 100000 in
theorem all_iter (B g : Nat) (l : List (Msg × Bool)) (N : Nat → Prop) : Iter Try.prog 105 #[.pointer (some ⟨B, 0, none⟩)] RepM l (StM B g l N) := by
  intro l0 J Jx W hSt hJ hJx hY h0 hl0
  have hs := hSt 0 W h0
  have c0 := hs.1
  have hl := len_any W g l N hs.2
  have hm16 : (Try.prog.info? 39).map (·.size) = some 16 := infoMsg
  have HV := Lib.hid (And.intro hSt (And.intro hJ (And.intro hJx (And.intro hY (And.intro h0 (And.intro hl hm16))))))
  have hl1024 : l.length ≤ 1024 := by obtain ⟨v, css, h⟩ := hs.2; exact h.most
  clear hSt hJ hJx hY h0 hs hl hm16
  refine callsIn_wide.1 (callsIn_of_wp (n := 0) Try.func105 rfl trivial ?_)
  simp only [Try.ntmps105, List.size_toArray, List.length_cons, List.length_nil, Nat.reduceAdd, Nat.reduceSub, Array.replicate_succ, Array.replicate_zero, List.push_toArray, List.append_toArray, List.nil_append, List.cons_append]
  gi_wp2_with (refine ⟨trivial, rfl, ?_⟩; gi_at_call 44; refine (callsIn_wide.2 HV.out.2.2.2.2.2.1).mono ?_; rintro e X ⟨rfl, rfl⟩)
  gi_loopw [6] (fun i wr => ∃ k : Nat, k ≤ l.length ∧ i = .int .i64 k ∧ J k wr ∧ l0 < wr.heap.size) (fun i _ => l.length - (intOf i).toNat)
  case atStart => exact ⟨0, Nat.zero_le _, rfl, HV.out.2.2.2.2.1, hl0⟩
  case round =>
    obtain ⟨k, hk, rfl, hJk, hl0r⟩ := hrel
    clear c0
    by_cases hlt : k < l.length
    · obtain ⟨c0, v, css, hN⟩ := HV.out.1 k wr hJk
      obtain ⟨b, cb, C, hv2, _, hb, hj1, hj2, hj3, hj4, hrg⟩ := hN.row.block (by rw [hN.len]; omega)
      clear hj1 hj2 hj3 hj4
      rw [hN.len] at hv2
      subst hv2
      have c1 := cell1 hN.box
      have hic : k < css.length := by rw [hN.len]; exact hlt
      obtain ⟨⟨m, hd⟩, hx⟩ : ∃ x, l[k]? = some x := ⟨_, List.getElem?_eq_getElem hlt⟩
      obtain ⟨A, c, B', d, hcs, hM⟩ := hN.has k _ _ hx (List.getElem?_eq_getElem hic)
      have hr := hrg k hic
      rw [hcs] at hr
      have hr16 : wr.rangeAt b (k * 17) (#[.int .i8 (Msg.kind m), .int .i64 (Msg.frm m), .int .i64 (Msg.to m), .int .i64 (Msg.boot m), .int .i64 (Msg.server m), .int .i64 (Msg.number m), .int .i64 (Msg.node m), .int .i64 (Msg.lease m), .int .i64 (Msg.epoch m), .int .i64 (Msg.version m), .int .i64 (Msg.e m), .slice B' (Msg.steps m).length d, .int .i64 (Msg.tree m).id, .int .i64 (Msg.tree m).kind, .string (Msg.tree m).text, .slice A (Msg.tree m).kids.length c] : Array Value).toList := fun j u hu => hr j u (by
        have hj : j < 16 := by have := (List.getElem?_eq_some_iff.1 hu).1; simpa using this
        rw [show (#[.int .i8 (Msg.kind m), .int .i64 (Msg.frm m), .int .i64 (Msg.to m), .int .i64 (Msg.boot m), .int .i64 (Msg.server m), .int .i64 (Msg.number m), .int .i64 (Msg.node m), .int .i64 (Msg.lease m), .int .i64 (Msg.epoch m), .int .i64 (Msg.version m), .int .i64 (Msg.e m), .slice B' (Msg.steps m).length d, .int .i64 (Msg.tree m).id, .int .i64 (Msg.tree m).kind, .string (Msg.tree m).text, .slice A (Msg.tree m).kids.length c, .bool hd] : Array Value).toList = (#[.int .i8 (Msg.kind m), .int .i64 (Msg.frm m), .int .i64 (Msg.to m), .int .i64 (Msg.boot m), .int .i64 (Msg.server m), .int .i64 (Msg.number m), .int .i64 (Msg.node m), .int .i64 (Msg.lease m), .int .i64 (Msg.epoch m), .int .i64 (Msg.version m), .int .i64 (Msg.e m), .slice B' (Msg.steps m).length d, .int .i64 (Msg.tree m).id, .int .i64 (Msg.tree m).kind, .string (Msg.tree m).text, .slice A (Msg.tree m).kids.length c] : Array Value).toList ++ [.bool hd] from rfl, List.getElem?_append_left (by simpa using hj)]
        exact hu)
      have hcall := copied_any m A c B' d wr (hM.weak (fun b hb _ => hN.low b hb.1)) (hN.fit (m, hd) (List.mem_of_getElem? hx))
      have HX := Lib.hid (And.intro hcall (And.intro hr16 (And.intro hx hJk)))
      clear hcall hr16 hx hJk hr hcs hM hrg hN hb
      gi_wp2_with (first
        | (refine inList_runv (fun _ => trivial) rfl (by simp) (exec_load_mid 39 (.tmp 17) rfl b (k * 17) rfl _ _ HX.out.2.1 Try.underlying39 rfl HV.out.2.2.2.2.2.2) ?_)
        | fail)
      refine ⟨trivial, rfl, ?_⟩
      refine (callsIn_wide.2 HX.out.1).mono ?_
      rintro e W1 ⟨A1, c1', B1, d1, rfl, hM1, hc1⟩
      obtain ⟨fn, tmps, assign, body, hy, hR⟩ := HV.out.2.2.2.1 k _ #[.int .i64 k, .agg #[.int .i8 (Msg.kind m), .int .i64 (Msg.frm m), .int .i64 (Msg.to m), .int .i64 (Msg.boot m), .int .i64 (Msg.server m), .int .i64 (Msg.number m), .int .i64 (Msg.node m), .int .i64 (Msg.lease m), .int .i64 (Msg.epoch m), .int .i64 (Msg.version m), .int .i64 (Msg.e m), .slice B1 (Msg.steps m).length d1, .int .i64 (Msg.tree m).id, .int .i64 (Msg.tree m).kind, .string (Msg.tree m).text, .slice A1 (Msg.tree m).kids.length c1']] W1 (HV.out.2.1 _ _ _ HX.out.2.2.2 hc1) HX.out.2.2.1 ⟨A1, c1', B1, d1, wr.heap.size, rfl, hl0r, hM1⟩
      have HR := Lib.hid (And.intro hR (Nat.lt_of_lt_of_le hl0r hc1.size))
      clear hM1 hc1 hR c1 c0
      gi_wp2
      refine ⟨rfl, ?_⟩
      refine HR.out.1.mono ?_
      rintro e W' (⟨rfl, hJ', hgr⟩ | ⟨rfl, hJx'⟩)
      · have HJ := Lib.hid (And.intro hJ' (Nat.lt_of_lt_of_le HR.out.2 hgr))
        clear hJ' hgr
        gi_wp2
        go_roundw
        case rel => exact ⟨k + 1, by omega, by go_num, HJ.out.1, HJ.out.2⟩
        case measure => simp [intOf]; omega
      · have HJ := Lib.hid hJx'
        clear hJx'
        gi_wp2
        refine bodyPost_ret (results_none rfl _ _ _) rfl ?_
        exact ⟨⟨_, rfl⟩, .inr HJ.out⟩
    · obtain rfl : k = l.length := by omega
      have HX := Lib.hid hJk
      clear hJk
      gi_wp2
      go_end0
      exact ⟨⟨_, rfl⟩, .inl HX.out⟩
theorem NetV.quiet {W W' : World} {g B : Nat} {l : List (Msg × Bool)} {N : Nat → Prop} (h : NetV W g l N) (hq : Quiet B W W') (hB : ∀ b, N b → b < B) : NetV W' g l N := by
  obtain ⟨L, h1, h2⟩ := hq
  exact h.kept h1 (fun b hb hm => by have := hB b hb; have := (h2 b hm).1; omega)
/-- The first that is free. -/
def firstAt : List (Msg × Bool) → Nat → Int × Bool
  | [], _ => (0, false)
  | x :: r, k => if x.2 then firstAt r (k + 1) else (k, true)
/-- First under way. -/
structure Fst (w W : World) (g : Nat) (l : List (Msg × Bool)) (N : Nat → Prop) (r : Int × Bool) : Prop where
  st : StM (w.heap.size + 1 + 1 + 1) g l N W
  box : W.heap[w.heap.size]? = some (.cells #[.pointer (some ⟨g, 0, none⟩)] 67 (0, 0))
  ra : W.heap[w.heap.size + 1]? = some (.cells #[.int .i64 r.1] 3 (0, 0))
  rb : W.heap[w.heap.size + 1 + 1]? = some (.cells #[.bool r.2] 4 (0, 0))
  chg : Chg [] w W
theorem Fst.quiet {w W W' : World} {g B : Nat} {l : List (Msg × Bool)} {N : Nat → Prop} {r : Int × Bool} (h : Fst w W g l N r) (hq : Quiet B W W') (hN : ∀ b, N b → b < B) (hB : w.heap.size + 1 + 1 + 1 < B) : Fst w W' g l N r := by
  refine ⟨⟨?_, h.st.2.quiet hq hN⟩, hq.at h.box rfl, hq.at h.ra rfl, hq.at h.rb rfl, hq.chg h.chg (by omega)⟩
  obtain ⟨L, h1, h2⟩ := hq
  exact h1.cell h.st.1 (fun hm => by have := (h2 _ hm).1; simp at this; omega)
theorem Fst.put {w W : World} {g : Nat} {l : List (Msg × Bool)} {N : Nat → Prop} {r : Int × Bool} (h : Fst w W g l N r) (hlow : ∀ b, N b → b < w.heap.size) (k : Int) (t : Bool) :
    Fst w ((W.setCell ⟨w.heap.size + 1, 0, none⟩ (.int .i64 k)).setCell ⟨w.heap.size + 1 + 1, 0, none⟩ (.bool t)) g l N (k, t) ∧ Chg [w.heap.size + 1, w.heap.size + 1 + 1] W ((W.setCell ⟨w.heap.size + 1, 0, none⟩ (.int .i64 k)).setCell ⟨w.heap.size + 1 + 1, 0, none⟩ (.bool t)) := by
  have hS : Chg [w.heap.size + 1, w.heap.size + 1 + 1] W ((W.setCell ⟨w.heap.size + 1, 0, none⟩ (.int .i64 k)).setCell ⟨w.heap.size + 1 + 1, 0, none⟩ (.bool t)) := ((Chg.refl _ _).setCell _ _ (by simp)).setCell _ _ (by simp)
  refine ⟨⟨⟨hS.cell h.st.1 (by simp; try omega), h.st.2.kept hS (fun b hb hm => ?_)⟩, hS.at h.box (by simp; omega), ?_, ?_, h.chg.andThen hS (fun j hj => .inr (by simp at hj; omega))⟩, hS⟩
  · have := hlow b hb
    simp at hm; omega
  · exact ((Chg.refl [w.heap.size + 1 + 1] _).setCell _ _ (by simp)).at (heap_setCell_same _ _ 0 _ _ _ h.ra) (by simp)
  · exact heap_setCell_same _ _ 0 _ _ _ (((Chg.refl [w.heap.size + 1] _).setCell _ _ (by simp)).at h.rb (by simp))
theorem first_ret {w W : World} {g D : Nat} {l : List (Msg × Bool)} {N : Nat → Prop} {r : Int × Bool} (h : Fst w W g l N r) (hD : w.heap.size + 1 + 1 + 1 < D) (hK : W.heap[D]? = some (.deferred (some []))) (a : Act) (hd : a.defers = [{ target := .collected D, args := #[] }]) (h2 : a.tmps.getD 2 undef = .pointer (some ⟨w.heap.size + 1, 0, none⟩)) (h3 : a.tmps.getD 3 undef = .pointer (some ⟨w.heap.size + 1 + 1, 0, none⟩)) :
    bodyPostM W0 0 Try.prog Try.f51 (fun e w' => e = .returned (.tuple #[.int .i64 r.1, .bool r.2]) ∧ Chg [] w w') .ret a W := by
  have hP : Chg [D] W (W.putObj D (.deferred none)) := ⟨rfl, rfl, rfl, by simp, fun j _ hj => World.putObj_heap_other (by simpa using hj)⟩
  have k2 := cell1 (hP.at h.ra (by simp; omega))
  have k3 := cell1 (hP.at h.rb (by simp; omega))
  have h2' : a.tmps[2]?.getD undef = .pointer (some ⟨w.heap.size + 1, 0, none⟩) := by simpa using h2
  have h3' : a.tmps[3]?.getD undef = .pointer (some ⟨w.heap.size + 1 + 1, 0, none⟩) := by simpa using h3
  refine bodyM_ret hd hK (v := .tuple #[.int .i64 r.1, .bool r.2]) ?_ ⟨rfl, h.chg.andThen hP (fun j hj => .inr (by simp at hj; omega))⟩
  simp [results, Try.results51, go_sem, h2', h3', k2, k3]
set_option maxHeartbeats 4000000 in
set_option maxRecDepth 100000 in
theorem first_any (w : World) (g : Nat) (l : List (Msg × Bool)) (N : Nat → Prop) (h : NetV w g l N) : Calls Try.prog 51 #[.pointer (some ⟨g, 0, none⟩)] w fun e w' => e = .returned (.tuple #[.int .i64 (firstAt l 0).1, .bool (firstAt l 0).2]) ∧ Chg [] w w' := by
  have HV := Lib.hid h
  clear h
  refine callsIn_wide.1 (callsIn_of_wp_marks (n := 0) Try.func51 rfl trivial (wpIn_wide.2 ?_))
  simp only [Try.ntmps51, List.size_toArray, List.length_cons, List.length_nil, Nat.reduceAdd, Nat.reduceSub, Array.replicate_succ, Array.replicate_zero, List.push_toArray, List.append_toArray, List.nil_append, List.cons_append]
  go_wp2_with (go_at_call 84; refine (all_any _ _).mono ?_; rintro e X ⟨rfl, hXc, hX⟩)
  have hwX : Chg [] w X := Chg.trans (by with_reducible repeat (first | exact Chg.refl _ _ | apply Chg.alloc | apply Chg.drew | apply Chg.drewN | (refine Chg.setCell ?_ _ _ (by simp)))) hX
  have b0 := hX.at (heap_old (heap_old (heap_new w (.cells #[.pointer (some ⟨g, 0, none⟩)] 67) rfl) (.cells #[.int .i64 0] 3)) (.cells #[.bool false] 4)) (by simp)
  have b1 := hX.at (heap_old (heap_new (w.alloc (.cells #[.pointer (some ⟨g, 0, none⟩)] 67)) (.cells #[.int .i64 0] 3) rfl) (.cells #[.bool false] 4)) (by simp)
  have b2 := hX.at (heap_new ((w.alloc (.cells #[.pointer (some ⟨g, 0, none⟩)] 67)).alloc (.cells #[.int .i64 0] 3)) (.cells #[.bool false] 4) rfl) (by simp)
  simp only [World.size_alloc] at b1 b2 hXc
  have hF0 : Fst w X g l N (0, false) := ⟨⟨hXc, HV.out.kept hwX (by simp)⟩, b0, b1, b2, hwX⟩
  have hsz : w.heap.size + 1 + 1 + 1 < X.heap.size := World.block_lt_of_cell? X _ hXc
  have hlow : ∀ b, N b → b < X.heap.size := fun b hb => by
    obtain ⟨v, css, h⟩ := HV.out
    exact Nat.lt_of_lt_of_le (h.low b hb) hwX.size
  have HF := Lib.hid (And.intro hF0 (And.intro hsz hlow))
  clear hXc hX hwX b0 b1 b2 hF0 hsz hlow
  refine wp_range (gf := 105) (lb := #[.pointer (some ⟨w.heap.size + 1 + 1 + 1, 0, none⟩)]) rfl (enters_of Try.func105 (by kernel_rfl) rfl) (all_iter (w.heap.size + 1 + 1 + 1) g l N)
    (fun l i x args W h => by obtain ⟨A, c, B, d, _, rfl, _⟩ := h; rfl)
    (fun i W => Fst w W g l N (0, false) ∧ firstAt (l.drop i) i = firstAt l 0) (fun c W => c = .ret ∧ Fst w W g l N (firstAt l 0))
    (fun i W h => h.1.st) (fun i W W' h hq => ⟨h.1.quiet hq HF.out.2.2 HF.out.2.1, h.2⟩) (fun c W W' h hq => ⟨h.1, h.2.quiet hq HF.out.2.2 HF.out.2.1⟩) ⟨HF.out.1, rfl⟩ ?round ?done ?stop
  case round =>
    rintro l0 i x args W ⟨hF, hfi⟩ hx ⟨A, c, B, d, base, rfl, hlb, hM⟩ hl hlB
    have H1 := Lib.hid (And.intro hF (And.intro hfi (And.intro hx hlB)))
    clear hF hfi hx hM hl hlB hlb
    gi_wp2
    refine ⟨Books.refl _ _, fun W2 hc2 hq2 => ?_⟩
    have hF2 := H1.out.1.quiet hq2 HF.out.2.2 HF.out.2.1
    obtain ⟨v, css, hN⟩ := hF2.st.2
    have hil : i < l.length := (List.getElem?_eq_some_iff.1 H1.out.2.2.1).1
    have hl1024 : l.length ≤ 1024 := hN.most
    obtain ⟨b, cb, C, hv2, _, hb, hj1, hj2, hj3, hj4, hrg⟩ := hN.row.block (by rw [hN.len]; omega)
    clear hj1 hj2 hj3 hj4
    rw [hN.len] at hv2
    subst hv2
    have c0 := cell1 hN.box
    have c1 := cell1 hF2.box
    have c2 := cell1 hF2.ra
    have c3 := cell1 hF2.rb
    have f2 := blkF hF2.ra 0
    have f3 := blkF hF2.rb 0
    have hic : i < css.length := by rw [hN.len]; exact hil
    obtain ⟨m, hd⟩ := x
    obtain ⟨A', c', B', d', hcs, hM⟩ := hN.has i _ _ H1.out.2.2.1 (List.getElem?_eq_getElem hic)
    have hr := hrg i hic
    rw [hcs] at hr
    have ch : W2.cell? ⟨b, i * 17 + 16, none⟩ = some (.bool hd) := hr 16 _ rfl
    have hfi := H1.out.2.1
    have hxe : l[i] = (m, hd) := by
      have := H1.out.2.2.1
      rw [List.getElem?_eq_getElem hil] at this
      exact Option.some.inj this
    rw [List.drop_eq_getElem_cons hil, hxe, firstAt] at hfi
    have H2 := Lib.hid (And.intro hF2 hfi)
    clear hF2 hfi hxe hr hcs hM hrg hb hc2 hq2 hN
    cases hd with
    | true =>
      gi_wp2
      exact ⟨Books.refl _ _, H2.out.1, by simpa using H2.out.2⟩
    | false =>
      gi_wp2
      have hlow : ∀ b, N b → b < w.heap.size := fun b hb => by
        obtain ⟨v, css, h⟩ := HV.out
        exact h.low b hb
      obtain ⟨hF3, hS⟩ := H2.out.1.put hlow i true
      refine ⟨Books.of_chg hS (fun k hk => .inl ?_), rfl, by rw [← H2.out.2]; exact hF3⟩
      have := HF.out.2.1
      simp at hk; omega
  case done =>
    rintro D W hD ⟨hF, hf⟩ hK
    have c2 := cell1 hF.ra
    have c3 := cell1 hF.rb
    have f2 := blkF hF.ra 0
    have f3 := blkF hF.rb 0
    have H1 := Lib.hid (And.intro hF (And.intro hf hK))
    clear hF hf hK
    go_wp2
    have hlow : ∀ b, N b → b < w.heap.size := fun b hb => by
      obtain ⟨v, css, h⟩ := HV.out
      exact h.low b hb
    obtain ⟨hF3, hS⟩ := H1.out.1.put hlow 0 false
    have e1 : firstAt l 0 = (0, false) := by
      have := H1.out.2.1
      rw [List.drop_length] at this
      rw [← this]; rfl
    have hD2 := HF.out.2.1
    rw [e1]
    exact first_ret hF3 (by omega) (hS.at H1.out.2.2 (by simp; omega)) _ rfl rfl rfl
  case stop =>
    rintro D c W hD ⟨rfl, hF⟩ hK
    have H1 := Lib.hid (And.intro hF hK)
    clear hF hK
    go_wp2
    have hD2 := HF.out.2.1
    exact first_ret H1.out.1 (by omega) H1.out.2 _ rfl rfl rfl
end Go.Proofs.Ytipijkpjmpejlaa
