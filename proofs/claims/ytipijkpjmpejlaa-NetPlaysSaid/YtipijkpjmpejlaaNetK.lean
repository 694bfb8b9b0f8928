import Derived.Test.YtipijkpjmpejlaaNetD
import Derived.Test.YtipijkpjmpejlaaNetE
import Derived.Test.YtipijkpjmpejlaaNetH
/- The contract of Take. -/
set_option linter.unusedVariables false
set_option linter.unusedSimpArgs false
namespace Go.Proofs.Ytipijkpjmpejlaa
open Go.RowKit
theorem results_row_tmp {P : Program} {fn : Func} {p u : Tmp} {ty : TypeId} (h : fn.results = #[.cell p ty, .tmp u]) (tmps : Array Value) (w : World) (g : Nat) (t : TypeId) (cs : Array Value) (fr : Nat × Nat) (d : TypeDesc) (x : Value)
    (hp : tmps.getD p undef = .pointer (some ⟨g, 0, none⟩)) (hv : tmps.getD u undef = x) (hg : w.heap[g]? = some (.cells cs t fr)) (hu : P.underlying ty = some d) (hd : (match d with | .struct _ | .array _ _ => true | _ => false) = true) (hi : (P.info? ty).map (·.size) = some cs.size) :
    (results fn tmps).run P w = .ok (.tuple #[.agg cs, x]) w := by
  have hp' : tmps[p]?.getD undef = .pointer (some ⟨g, 0, none⟩) := by simpa using hp
  have hv' : tmps[u]?.getD undef = x := by simpa using hv
  simp [results, h, hp', hv', asAddr, run_loadVar_row w g t ty cs fr d hg hu hd hi]
/-- One message is taken out. -/
theorem net_delete {w w1 : World} {g : Nat} {l : List (Msg × Bool)} {N : Nat → Prop} {b cb : Nat} {css : List (List Value)} (HN : NetW w g l N (.slice (some ⟨b, 0, none⟩) l.length cb) css) {i : Nat} (hi : i < l.length)
    (hr : RowR w1 17 139 0 (.slice (some ⟨b, 0, none⟩) (l.length - 1) cb) (css.eraseIdx i)) (hc : Chg [b] w w1) : NetPost g (l.eraseIdx i) N w (w1.setCell ⟨g, 0, none⟩ (.slice (some ⟨b, 0, none⟩) (l.length - 1) cb)) := by
  have hbg := HN.own b rfl
  have hS : Chg [g] w1 (w1.setCell ⟨g, 0, none⟩ (.slice (some ⟨b, 0, none⟩) (l.length - 1) cb)) := (Chg.refl _ _).setCell _ _ (by simp)
  have hCf : Chg [b, g] w (w1.setCell ⟨g, 0, none⟩ (.slice (some ⟨b, 0, none⟩) (l.length - 1) cb)) := (hc.mono (by simp)).trans (hS.mono (by simp))
  refine ⟨N, [b, g], ⟨_, css.eraseIdx i, heap_setCell_same _ _ 0 _ _ _ (hc.at HN.box (by simp; exact fun e => hbg.2 e.symm)), hr.kept hS (fun x hx => ?_), ?_, ?_, HN.foot, fun x hx => HN.own x (by injection hx with hx; subst hx; rfl), fun x hx => HN.fit x (List.mem_of_mem_eraseIdx hx), ?_, fun x hx => Nat.lt_of_lt_of_le (HN.low x hx) hCf.size⟩, fun x hx => .inl hx, hCf, ?_⟩
  · injection hx with hx
    subst hx
    simpa using hbg.2
  · rw [List.length_eraseIdx, List.length_eraseIdx, HN.len]
  · intro j x cs h1 h2
    rw [List.getElem?_eraseIdx] at h1 h2
    have : ∀ k, l[k]? = some x → css[k]? = some cs → ItemC (fun b_1 => N b_1 ∧ b_1 ≠ g ∧ (Value.slice (some ⟨b, 0, none⟩) (l.length - 1) cb).ownBlock ≠ some b_1) (w1.setCell ⟨g, 0, none⟩ (.slice (some ⟨b, 0, none⟩) (l.length - 1) cb)) x cs := fun k a1 a2 =>
      ((HN.has k x cs a1 a2).kept hCf (fun y hy hm => by
        simp at hm
        rcases hm with rfl | rfl
        · exact hy.2.2 rfl
        · exact hy.2.1 rfl)).weak (fun y hy _ => hy)
    split at h1
    · rename_i hj
      rw [if_pos hj] at h2
      exact this _ h1 h2
    · rename_i hj
      rw [if_neg hj] at h2
      exact this _ h1 h2
  · have := HN.most
    rw [List.length_eraseIdx]
    split <;> omega
  · intro x hx
    simp at hx
    rcases hx with rfl | rfl
    · exact hbg.1
    · exact HN.foot
theorem ItemC.one {ok : Nat → Prop} {w : World} {x : Msg × Bool} {cs : List Value} (h : ItemC ok w x cs) : ∀ u ∈ cs, u.oneCell' = true := by
  obtain ⟨A, c, B, d, rfl, _⟩ := h
  simp [Value.oneCell']
theorem NetW.one {w : World} {g : Nat} {l : List (Msg × Bool)} {N : Nat → Prop} {v : Value} {css : List (List Value)} (h : NetW w g l N v css) : ∀ u ∈ css.flatten, u.oneCell' = true := fun u hu => by
  obtain ⟨cs, h1, h2⟩ := List.mem_flatten.1 hu
  obtain ⟨i, hi, rfl⟩ := List.getElem_of_mem h1
  exact (h.has i _ _ (List.getElem?_eq_getElem (by rw [← h.len]; exact hi)) (List.getElem?_eq_getElem hi)).one u h2
/-- An act between steps that leave the net alone. -/
theorem NetPost.wrap {w Z w' w'' : World} {g k : Nat} {l : List (Msg × Bool)} {N : Nat → Prop} (h : NetPost g l N Z w') (h0 : Chg [] w Z) (hc : Chg [k] w' w'') (hk : w.heap.size ≤ k) (hk2 : k < Z.heap.size) (hN : ∀ b, N b → b < w.heap.size) : NetPost g l N w w'' := by
  obtain ⟨N', cl, h1, h2, h3, h4⟩ := h
  refine ⟨N', cl, h1.kept hc (fun b hb hm => ?_), fun b hb => (h2 b hb).imp id (fun h => Nat.le_trans h0.size h), ((h0.mono (by simp)).trans h3).andThen hc (fun j hj => .inr (by simp at hj; omega)), h4⟩
  simp at hm
  subst hm
  rcases h2 b hb with h | h
  · have := hN _ h; omega
  · omega
/-- What Take answers. -/
def TakePost (g : Nat) (l : List (Msg × Bool)) (N : Nat → Prop) (k : Int) (w : World) (e : Ending) (w' : World) : Prop :=
  (¬ (0 ≤ k ∧ k < l.length) ∧ e = .returned (.tuple #[.agg #[.int .i8 0, .int .i64 0, .int .i64 0, .int .i64 0, .int .i64 0, .int .i64 0, .int .i64 0, .int .i64 0, .int .i64 0, .int .i64 0, .int .i64 0, .slice none 0 0, .int .i64 0, .int .i64 0, .string ⟨#[]⟩, .slice none 0 0], .int .i64 4]) ∧ Chg [] w w') ∨
  ∃ x A c B d, 0 ≤ k ∧ l[k.toNat]? = some x ∧ e = .returned (.tuple #[.agg #[.int .i8 (Msg.kind x.1), .int .i64 (Msg.frm x.1), .int .i64 (Msg.to x.1), .int .i64 (Msg.boot x.1), .int .i64 (Msg.server x.1), .int .i64 (Msg.number x.1), .int .i64 (Msg.node x.1), .int .i64 (Msg.lease x.1), .int .i64 (Msg.epoch x.1), .int .i64 (Msg.version x.1), .int .i64 (Msg.e x.1), .slice B (Msg.steps x.1).length d, .int .i64 (Msg.tree x.1).id, .int .i64 (Msg.tree x.1).kind, .string (Msg.tree x.1).text, .slice A (Msg.tree x.1).kids.length c], .int .i64 0]) ∧ MsgC (fun b => w.heap.size ≤ b ∧ b < w'.heap.size) w' x.1 A c B d ∧ NetPost g (l.eraseIdx k.toNat) N w w'
set_option maxHeartbeats 4000000 in
set_option maxRecDepth 100000 in
theorem take_any (w : World) (g : Nat) (l : List (Msg × Bool)) (N : Nat → Prop) (h : NetV w g l N) (k : Int) : Calls Try.prog 43 #[.pointer (some ⟨g, 0, none⟩), .int .i64 k] w (TakePost g l N k w) := by
  have hCb : Chg [] w (w.alloc (.cells #[.int .i8 0, .int .i64 0, .int .i64 0, .int .i64 0, .int .i64 0, .int .i64 0, .int .i64 0, .int .i64 0, .int .i64 0, .int .i64 0, .int .i64 0, .slice none 0 0, .int .i64 0, .int .i64 0, .string ⟨#[]⟩, .slice none 0 0] 39)) := (by with_reducible repeat (first | exact Chg.refl _ _ | apply Chg.alloc | apply Chg.drew | apply Chg.drewN | (refine Chg.setCell ?_ _ _ (by simp))))
  have hl := look_any _ g l N (h.kept hCb (by simp)) k
  have hm : (Try.prog.info? 39).map (·.size) = some 16 := infoMsg
  have HV := Lib.hid (And.intro h (And.intro hl (And.intro hm hCb)))
  have HB := Lib.hid (heap_new w (Obj.cells #[.int .i8 0, .int .i64 0, .int .i64 0, .int .i64 0, .int .i64 0, .int .i64 0, .int .i64 0, .int .i64 0, .int .i64 0, .int .i64 0, .int .i64 0, .slice none 0 0, .int .i64 0, .int .i64 0, .string ⟨#[]⟩, .slice none 0 0] 39 (0, 0)) rfl)
  clear h hl hm hCb
  go_enter Try.func43, Try.ntmps43
  go_wp2_with fail
  refine HV.out.2.1.mono ?_
  rintro e Y (⟨h1, rfl, hC⟩ | ⟨x, A, c, B, d, h0, hx, rfl, hM, hC⟩)
  · have kb := hC.at HB.out (by simp)
    have hlt := lt_of_block kb
    have hCa : Chg [] w Y := HV.out.2.2.2.trans hC
    have HC := Lib.hid (And.intro h1 (And.intro kb (And.intro hCa hlt)))
    clear h1 kb hCa hC hlt
    have h1c : (#[.int .i8 0, .int .i64 0, .int .i64 0, .int .i64 0, .int .i64 0, .int .i64 0, .int .i64 0, .int .i64 0, .int .i64 0, .int .i64 0, .int .i64 0, .slice none 0 0, .int .i64 0, .int .i64 0, .string ⟨#[]⟩, .slice none 0 0] : Array Value).all (·.oneCell') = true := by simp [Value.oneCell']
    have H1 := Lib.hid h1c
    clear h1c
    go_wp2_with (first
      | (refine wpList_store_row rfl 39 (.tmp 6) (.tmp 13) rfl Y.heap.size rfl #[.int .i8 0, .int .i64 0, .int .i64 0, .int .i64 0, .int .i64 0, .int .i64 0, .int .i64 0, .int .i64 0, .int .i64 0, .int .i64 0, .int .i64 0, .slice none 0 0, .int .i64 0, .int .i64 0, .string ⟨#[]⟩, .slice none 0 0] rfl _ _ (heap_new _ _ rfl) HV.out.2.2.1 rfl H1.out ?_; rw [setRow_new])
      | (refine wpList_load_mid rfl 39 (.tmp 6) rfl Y.heap.size 0 rfl (#[.int .i8 0, .int .i64 0, .int .i64 0, .int .i64 0, .int .i64 0, .int .i64 0, .int .i64 0, .int .i64 0, .int .i64 0, .int .i64 0, .int .i64 0, .slice none 0 0, .int .i64 0, .int .i64 0, .string ⟨#[]⟩, .slice none 0 0] : Array Value).toList _ (range_all (heap_new _ _ rfl)) Try.underlying39 rfl HV.out.2.2.1 ?_)
      | (refine wpList_store_row rfl 39 (.tmp 4) (.tmp 29) rfl w.heap.size rfl #[.int .i8 0, .int .i64 0, .int .i64 0, .int .i64 0, .int .i64 0, .int .i64 0, .int .i64 0, .int .i64 0, .int .i64 0, .int .i64 0, .int .i64 0, .slice none 0 0, .int .i64 0, .int .i64 0, .string ⟨#[]⟩, .slice none 0 0] rfl _ _ (heap_old HC.out.2.1 _) HV.out.2.2.1 rfl H1.out ?_)
      | fail)
    refine bodyPost_ret (v := .tuple #[.agg #[.int .i8 0, .int .i64 0, .int .i64 0, .int .i64 0, .int .i64 0, .int .i64 0, .int .i64 0, .int .i64 0, .int .i64 0, .int .i64 0, .int .i64 0, .slice none 0 0, .int .i64 0, .int .i64 0, .string ⟨#[]⟩, .slice none 0 0], .int .i64 4]) (results_row_tmp rfl _ _ w.heap.size _ _ _ _ _ rfl rfl (setRow_heap _ _ _ _ _ _ (heap_old HC.out.2.1 _)) Try.underlying39 rfl HV.out.2.2.1) rfl (.inl ⟨HC.out.1, rfl, ?_⟩)
    exact (HC.out.2.2.1.alloc _).andThen (setRow_chg _ _ _) (fun j hj => .inr (by simp at hj; omega))
  · have kb := hC.at HB.out (by simp)
    have hlt := lt_of_block kb
    have hsz := hC.size
    have hC2 : Chg [] w Y := HV.out.2.2.2.trans hC
    have hCa : Chg [] Y (Y.alloc (.cells #[.int .i8 0, .int .i64 0, .int .i64 0, .int .i64 0, .int .i64 0, .int .i64 0, .int .i64 0, .int .i64 0, .int .i64 0, .int .i64 0, .int .i64 0, .slice none 0 0, .int .i64 0, .int .i64 0, .string ⟨#[]⟩, .slice none 0 0] 39)) := (by with_reducible repeat (first | exact Chg.refl _ _ | apply Chg.alloc | apply Chg.drew | apply Chg.drewN | (refine Chg.setCell ?_ _ _ (by simp))))
    obtain ⟨v, css, HN⟩ := HV.out.1
    have hi := (List.getElem?_eq_some_iff.1 hx).1
    obtain ⟨b, cb, C, hv2, _, hb, hj1, hj2, hj3, hj4, hrg⟩ := HN.row.block (by rw [HN.len]; omega)
    clear hj1 hj2 hj3 hj4 hrg hb
    rw [HN.len] at hv2
    subst hv2
    obtain ⟨i, rfl⟩ : ∃ i : Nat, k = i := ⟨k.toNat, by omega⟩
    rw [Int.toNat_natCast] at hx hi
    have hil : (i : Int) < l.length := by omega
    have hgl := HN.low g HN.foot
    have hbl := HN.low b (HN.own b rfl).1
    have HC := Lib.hid (And.intro hx (And.intro kb (And.intro hC2 (And.intro hM (And.intro HN hi)))))
    have h1c : (#[.int .i8 (Msg.kind x.1), .int .i64 (Msg.frm x.1), .int .i64 (Msg.to x.1), .int .i64 (Msg.boot x.1), .int .i64 (Msg.server x.1), .int .i64 (Msg.number x.1), .int .i64 (Msg.node x.1), .int .i64 (Msg.lease x.1), .int .i64 (Msg.epoch x.1), .int .i64 (Msg.version x.1), .int .i64 (Msg.e x.1), .slice B (Msg.steps x.1).length d, .int .i64 (Msg.tree x.1).id, .int .i64 (Msg.tree x.1).kind, .string (Msg.tree x.1).text, .slice A (Msg.tree x.1).kids.length c] : Array Value).all (·.oneCell') = true := by simp [Value.oneCell']
    have H1 := Lib.hid h1c
    have hl1024 : (l.length : Int) ≤ 1024 := by have := HN.most; omega
    have hYY : Y.heap.size < (Y.alloc (.cells #[.int .i8 (Msg.kind x.1), .int .i64 (Msg.frm x.1), .int .i64 (Msg.to x.1), .int .i64 (Msg.boot x.1), .int .i64 (Msg.server x.1), .int .i64 (Msg.number x.1), .int .i64 (Msg.node x.1), .int .i64 (Msg.lease x.1), .int .i64 (Msg.epoch x.1), .int .i64 (Msg.version x.1), .int .i64 (Msg.e x.1), .slice B (Msg.steps x.1).length d, .int .i64 (Msg.tree x.1).id, .int .i64 (Msg.tree x.1).kind, .string (Msg.tree x.1).text, .slice A (Msg.tree x.1).kids.length c] 39)).heap.size := by simp
    have hCy : Chg [] Y (Y.alloc (.cells #[.int .i8 (Msg.kind x.1), .int .i64 (Msg.frm x.1), .int .i64 (Msg.to x.1), .int .i64 (Msg.boot x.1), .int .i64 (Msg.server x.1), .int .i64 (Msg.number x.1), .int .i64 (Msg.node x.1), .int .i64 (Msg.lease x.1), .int .i64 (Msg.epoch x.1), .int .i64 (Msg.version x.1), .int .i64 (Msg.e x.1), .slice B (Msg.steps x.1).length d, .int .i64 (Msg.tree x.1).id, .int .i64 (Msg.tree x.1).kind, .string (Msg.tree x.1).text, .slice A (Msg.tree x.1).kids.length c] 39)) := (by with_reducible repeat (first | exact Chg.refl _ _ | apply Chg.alloc | apply Chg.drew | apply Chg.drewN | (refine Chg.setCell ?_ _ _ (by simp))))
    have hya := heap_new Y (.cells #[.int .i8 (Msg.kind x.1), .int .i64 (Msg.frm x.1), .int .i64 (Msg.to x.1), .int .i64 (Msg.boot x.1), .int .i64 (Msg.server x.1), .int .i64 (Msg.number x.1), .int .i64 (Msg.node x.1), .int .i64 (Msg.lease x.1), .int .i64 (Msg.epoch x.1), .int .i64 (Msg.version x.1), .int .i64 (Msg.e x.1), .slice B (Msg.steps x.1).length d, .int .i64 (Msg.tree x.1).id, .int .i64 (Msg.tree x.1).kind, .string (Msg.tree x.1).text, .slice A (Msg.tree x.1).kids.length c] 39 (0, 0)) rfl
    obtain ⟨Z, hZ⟩ : ∃ Z, Z = Y.alloc (.cells #[.int .i8 (Msg.kind x.1), .int .i64 (Msg.frm x.1), .int .i64 (Msg.to x.1), .int .i64 (Msg.boot x.1), .int .i64 (Msg.server x.1), .int .i64 (Msg.number x.1), .int .i64 (Msg.node x.1), .int .i64 (Msg.lease x.1), .int .i64 (Msg.epoch x.1), .int .i64 (Msg.version x.1), .int .i64 (Msg.e x.1), .slice B (Msg.steps x.1).length d, .int .i64 (Msg.tree x.1).id, .int .i64 (Msg.tree x.1).kind, .string (Msg.tree x.1).text, .slice A (Msg.tree x.1).kids.length c] 39) := ⟨_, rfl⟩
    rw [← hZ] at hYY hCy hya
    have hCz := hC2.trans hCy
    have hNz : NetW Z g l N (.slice (some ⟨b, 0, none⟩) l.length cb) css := by
      obtain ⟨a1, a2, a3, a4, a5, a6, a7, a8, a9⟩ := HN
      exact ⟨hCz.at a1 (by simp), a2.kept hCz (by simp), a3, fun i x cs p q => (a4 i x cs p q).kept hCz (by simp), a5, a6, a7, a8, fun b hb => Nat.lt_of_lt_of_le (a9 b hb) hCz.size⟩
    have z0 := cell1 hNz.box
    have hdel := delete_any Z b cb l.length i css hNz.row hNz.len hi hNz.most hNz.one
    have HZ := Lib.hid (And.intro hCy (And.intro hya (And.intro hNz (And.intro hdel (And.intro hYY (And.intro hCz (Eq.symm hZ)))))))
    clear hx kb hC2 hM h1c hC HN hi hCy hya hCz hNz hdel hYY hZ
    go_wp2_with (first
      | (refine wpList_store_row rfl 39 (.tmp 6) (.tmp 13) rfl Y.heap.size rfl #[.int .i8 (Msg.kind x.1), .int .i64 (Msg.frm x.1), .int .i64 (Msg.to x.1), .int .i64 (Msg.boot x.1), .int .i64 (Msg.server x.1), .int .i64 (Msg.number x.1), .int .i64 (Msg.node x.1), .int .i64 (Msg.lease x.1), .int .i64 (Msg.epoch x.1), .int .i64 (Msg.version x.1), .int .i64 (Msg.e x.1), .slice B (Msg.steps x.1).length d, .int .i64 (Msg.tree x.1).id, .int .i64 (Msg.tree x.1).kind, .string (Msg.tree x.1).text, .slice A (Msg.tree x.1).kids.length c] rfl _ _ (heap_new _ _ rfl) HV.out.2.2.1 rfl H1.out ?_; rw [setRow_new, HZ.out.2.2.2.2.2.2])
      | fail)
    refine HZ.out.2.2.2.1.mono ?_
    rintro e Z2 ⟨rfl, hr, hc⟩
    have hNz := HZ.out.2.2.1
    have hbg := hNz.own b rfl
    have hY2 : Y.heap.size ≠ b := by omega
    have hb2 := hc.at hNz.box (by simp; exact fun e => hbg.2 e.symm)
    have c2 := cell1 hb2
    have f2 := blkF hb2 0
    have k6 := hc.at HZ.out.2.1 (by simpa using hY2)
    have kw := hc.at (HZ.out.1.at HC.out.2.1 (by simp)) (by simp; omega)
    have hP := net_delete hNz HC.out.2.2.2.2.2 hr hc
    have hS : Chg [g] Z2 (Z2.setCell ⟨g, 0, none⟩ (.slice (some ⟨b, 0, none⟩) (l.length - 1) cb)) := (Chg.refl _ _).setCell _ _ (by simp)
    have k6' := hS.at k6 (by simp; omega)
    have kw' := hS.at kw (by simp; omega)
    have hMz := ((HC.out.2.2.2.1.kept HZ.out.1 (by simp)).kept ((hc.mono (l' := [b, g]) (by simp)).trans (hS.mono (by simp))) (fun y hy hm => by
      have := hy.1
      simp at this hm
      omega)).kept (setRow_chg _ w.heap.size #[.int .i8 (Msg.kind x.1), .int .i64 (Msg.frm x.1), .int .i64 (Msg.to x.1), .int .i64 (Msg.boot x.1), .int .i64 (Msg.server x.1), .int .i64 (Msg.number x.1), .int .i64 (Msg.node x.1), .int .i64 (Msg.lease x.1), .int .i64 (Msg.epoch x.1), .int .i64 (Msg.version x.1), .int .i64 (Msg.e x.1), .slice B (Msg.steps x.1).length d, .int .i64 (Msg.tree x.1).id, .int .i64 (Msg.tree x.1).kind, .string (Msg.tree x.1).text, .slice A (Msg.tree x.1).kids.length c]) (fun y hy hm => by
      have := hy.1
      simp at this hm
      omega)
    have HE := Lib.hid (And.intro k6' (And.intro kw' (And.intro hP (And.intro hMz (And.intro hS hc)))))
    clear hr hc hNz hbg hY2 hb2 k6 kw hP hS k6' kw' hMz z0
    go_wp2_with (first
      | (refine wpList_load_mid rfl 39 (.tmp 6) rfl Y.heap.size 0 rfl (#[.int .i8 (Msg.kind x.1), .int .i64 (Msg.frm x.1), .int .i64 (Msg.to x.1), .int .i64 (Msg.boot x.1), .int .i64 (Msg.server x.1), .int .i64 (Msg.number x.1), .int .i64 (Msg.node x.1), .int .i64 (Msg.lease x.1), .int .i64 (Msg.epoch x.1), .int .i64 (Msg.version x.1), .int .i64 (Msg.e x.1), .slice B (Msg.steps x.1).length d, .int .i64 (Msg.tree x.1).id, .int .i64 (Msg.tree x.1).kind, .string (Msg.tree x.1).text, .slice A (Msg.tree x.1).kids.length c] : Array Value).toList _ (range_all HE.out.1) Try.underlying39 rfl HV.out.2.2.1 ?_)
      | (refine wpList_store_row rfl 39 (.tmp 4) (.tmp 29) rfl w.heap.size rfl #[.int .i8 (Msg.kind x.1), .int .i64 (Msg.frm x.1), .int .i64 (Msg.to x.1), .int .i64 (Msg.boot x.1), .int .i64 (Msg.server x.1), .int .i64 (Msg.number x.1), .int .i64 (Msg.node x.1), .int .i64 (Msg.lease x.1), .int .i64 (Msg.epoch x.1), .int .i64 (Msg.version x.1), .int .i64 (Msg.e x.1), .slice B (Msg.steps x.1).length d, .int .i64 (Msg.tree x.1).id, .int .i64 (Msg.tree x.1).kind, .string (Msg.tree x.1).text, .slice A (Msg.tree x.1).kids.length c] rfl _ _ HE.out.2.1 HV.out.2.2.1 rfl H1.out ?_)
      | fail)
    refine bodyPost_ret (v := .tuple #[.agg #[.int .i8 (Msg.kind x.1), .int .i64 (Msg.frm x.1), .int .i64 (Msg.to x.1), .int .i64 (Msg.boot x.1), .int .i64 (Msg.server x.1), .int .i64 (Msg.number x.1), .int .i64 (Msg.node x.1), .int .i64 (Msg.lease x.1), .int .i64 (Msg.epoch x.1), .int .i64 (Msg.version x.1), .int .i64 (Msg.e x.1), .slice B (Msg.steps x.1).length d, .int .i64 (Msg.tree x.1).id, .int .i64 (Msg.tree x.1).kind, .string (Msg.tree x.1).text, .slice A (Msg.tree x.1).kids.length c], .int .i64 0]) (results_row_tmp rfl _ _ w.heap.size _ _ _ _ _ rfl rfl (setRow_heap _ _ _ _ _ _ HE.out.2.1) Try.underlying39 rfl HV.out.2.2.1) rfl (.inr ⟨x, A, c, B, d, by omega, HC.out.1, rfl, ?_, ?_⟩)
    · refine HE.out.2.2.2.1.weak (fun y hy _ => ⟨?_, ?_⟩)
      · have := hy.1; simp at this; omega
      · have := hy.2; have h1 := HZ.out.1.size; have h2 := HE.out.2.2.2.2.2.size; simp; omega
    · rw [Int.toNat_natCast]
      exact HE.out.2.2.1.wrap HZ.out.2.2.2.2.2.1 (setRow_chg _ _ _) (Nat.le_refl _) (by have := HZ.out.1.size; omega) HC.out.2.2.2.2.1.low
end Go.Proofs.Ytipijkpjmpejlaa
