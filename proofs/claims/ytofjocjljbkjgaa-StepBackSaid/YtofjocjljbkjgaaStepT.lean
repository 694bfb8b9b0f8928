import Derived.Test.YtofjocjljbkjgaaMut2
import Derived.Laws.ResultCell
/- The contract of the program's steps: a node taken out. -/
set_option linter.unusedVariables false
set_option linter.unusedSimpArgs false
namespace Go.Proofs.Ytofjocjljbkjgaa
open Go.RowKit
theorem undNDS : Try.prog.underlying 22 = some (.slice (Try.prog.elem 22)) := by kernel_rfl
theorem szElem (w : World) : (sizeOf (Try.prog.elem 22)).run Try.prog w = .ok 4 w := by kernel_rfl
theorem results_row_tmp {P : Program} {fn : Func} {p u : Tmp} {ty : TypeId} (h : fn.results = #[.cell p ty, .tmp u]) (tmps : Array Value) (w : World) (g : Nat) (t : TypeId) (cs : Array Value) (fr : Nat × Nat) (d : TypeDesc) (x : Value)
    (hp : tmps.getD p undef = .pointer (some ⟨g, 0, none⟩)) (hv : tmps.getD u undef = x) (hg : w.heap[g]? = some (.cells cs t fr)) (hu : P.underlying ty = some d) (hd : (match d with | .struct _ | .array _ _ => true | _ => false) = true) (hi : (P.info? ty).map (·.size) = some cs.size) :
    (results fn tmps).run P w = .ok (.tuple #[.agg cs, x]) w := by
  rw [results_cell_tmp h, hp, hv]
  simp [asAddr, run_loadVar_row w g t ty cs fr d hg hu hd hi]
/-! ### A node taken out -/
mutual
def Tr.out (id : Int) : Tr → Option (Tr × Tr)
  | ⟨i, k, x, ks⟩ => match outL id ks with
    | some (y, ks') => some (y, ⟨i, k, x, ks'⟩)
    | none => none
def outL (id : Int) : List Tr → Option (Tr × List Tr)
  | [] => none
  | k :: ks => if k.id = id then some (k, ks) else match k.out id with
    | some (x, k') => some (x, k' :: ks)
    | none => match outL id ks with
      | some (x, ks') => some (x, k :: ks')
      | none => none
end
theorem Tr.out_eq (id : Int) (t : Tr) : t.out id = match outL id t.kids with | some (y, ks') => some (y, { t with kids := ks' }) | none => none := by
  obtain ⟨i, k, x, ks⟩ := t
  rw [Tr.out]
theorem outL_none (id : Int) : ∀ ks : List Tr, (∀ (j : Nat) (h : j < ks.length), (ks[j]).id ≠ id ∧ (ks[j]).out id = none) → outL id ks = none
  | [], _ => rfl
  | k :: ks, h => by
    have h0 := h 0 (by simp)
    simp at h0
    rw [outL, if_neg h0.1, h0.2, outL_none id ks (fun j hj => by have := h (j + 1) (by simpa using hj); simpa using this)]
theorem outL_here (id : Int) : ∀ (ks : List Tr) (i : Nat) (h : i < ks.length), (ks[i]).id = id → (∀ (j : Nat) (hj : j < i), (ks[j]'(by omega)).id ≠ id ∧ (ks[j]'(by omega)).out id = none) → outL id ks = some (ks[i], ks.eraseIdx i)
  | [], _, h, _, _ => by simp at h
  | k :: ks, 0, h, h1, _ => by rw [outL, if_pos (by simpa using h1)]; rfl
  | k :: ks, i + 1, h, h1, h2 => by
    have h0 := h2 0 (by omega)
    simp at h0
    rw [outL, if_neg h0.1, h0.2, outL_here id ks i (by simpa using h) (by simpa using h1) (fun j hj => by have := h2 (j + 1) (by omega); simpa using this)]
    rfl
theorem outL_in (id : Int) (x k' : Tr) : ∀ (ks : List Tr) (i : Nat) (h : i < ks.length), (ks[i]).id ≠ id → (ks[i]).out id = some (x, k') → (∀ (j : Nat) (hj : j < i), (ks[j]'(by omega)).id ≠ id ∧ (ks[j]'(by omega)).out id = none) → outL id ks = some (x, ks.set i k')
  | [], _, h, _, _, _ => by simp at h
  | k :: ks, 0, h, h1, h2, _ => by rw [outL, if_neg (by simpa using h1)]; simp at h2; rw [h2]; rfl
  | k :: ks, i + 1, h, h1, h2, h3 => by
    have h0 := h3 0 (by omega)
    simp at h0
    rw [outL, if_neg h0.1, h0.2, outL_in id x k' ks i (by simpa using h) (by simpa using h1) (by simpa using h2) (fun j hj => by have := h3 (j + 1) (by omega); simpa using this)]
    rfl
/-- A node that a call made, at an address. -/
structure MutAt (w : World) (g o : Nat) (t : Tr) (F : Nat → Prop) : Prop where
  cells : ∃ cs, w.rangeAt g o cs ∧ TrV w t cs F
  nog : ¬ F g
  blk : ∃ C ty, w.heap[g]? = some (.cells C ty (0, 0))
  lt : ∀ x, F x → x < w.heap.size
theorem MutAt.kept {w w' : World} {g o : Nat} {t : Tr} {F : Nat → Prop} {l : List Nat} (h : MutAt w g o t F) (hc : Chg l w w') (hg : g ∉ l) (hF : ∀ x, F x → x ∉ l) : MutAt w' g o t F := by
  obtain ⟨⟨cs, hr, hT⟩, h1, ⟨C, ty, h2⟩, h3⟩ := h
  exact ⟨⟨cs, fun j v hv => hc.cell (hr j v hv) hg, hT.kept hc hF⟩, h1, ⟨C, ty, hc.at h2 hg⟩, fun x hx => Nat.lt_of_lt_of_le (h3 x hx) hc.size⟩
theorem MutAt.open {w : World} {g o : Nat} {t : Tr} {F : Nat → Prop} (h : MutAt w g o t F) : ∃ A c, w.rangeAt g o [.int .i64 (Tr.id t), .int .i64 (Tr.kind t), .string (Tr.text t), .slice A (Tr.kids t).length c] ∧ t.text.size ≤ 9223372036854775807 ∧ KidsV w A c t.kids F := by
  obtain ⟨⟨cs, hr, hT⟩, _⟩ := h
  obtain ⟨A, c, rfl, h1, h2⟩ := hT.kidsV
  exact ⟨A, c, hr, h1, h2⟩
theorem MutAt.glt {w : World} {g o : Nat} {t : Tr} {F : Nat → Prop} (h : MutAt w g o t F) : g < w.heap.size := by
  obtain ⟨_, _, ⟨C, ty, h⟩, _⟩ := h; exact lt_of_block h
theorem Fr.one {w Z : World} {g o : Nat} {F : Nat → Prop} {C : Array Value} {ty : TypeId} {v : Value} (hc : Chg [g] w Z) (hw : w.heap[g]? = some (.cells C ty (0, 0))) (hz : Z.heap[g]? = some (.cells (C.setIfInBounds (o + 3) v) ty (0, 0))) : Fr g o F w Z :=
  ⟨hc.os, hc.tape, hc.output, hc.size, fun b hb hne _ => hc.block b hb (by simpa using hne), fun j hj => by
    simp only [World.cell?, hw, hz, Option.isSome_none, Bool.false_eq_true, if_false]
    rw [Array.getElem?_setIfInBounds, if_neg (by omega)], fun C' ty' h => by rw [hw] at h; cases h; exact ⟨_, hz⟩⟩
theorem MutAt.turn {w Z : World} {g o : Nat} {t : Tr} {F : Nat → Prop} (hM : MutAt w g o t F) {C : Array Value} {ty : TypeId} (hw : w.heap[g]? = some (.cells C ty (0, 0))) (hc : Chg [g] w Z) {A' : Option Addr} {c' : Nat} {ks' : List Tr}
    (hz : Z.heap[g]? = some (.cells (C.setIfInBounds (o + 3) (.slice A' ks'.length c')) ty (0, 0))) {Ft : Nat → Prop} (hV : TrV Z { t with kids := ks' } [.int .i64 t.id, .int .i64 t.kind, .string t.text, .slice A' ks'.length c'] Ft) (hg : ¬ Ft g) (hlt : ∀ x, Ft x → x < Z.heap.size) : MutAt Z g o { t with kids := ks' } Ft ∧ Fr g o F w Z := by
  obtain ⟨A, c, hr, _, _⟩ := hM.open
  refine ⟨⟨⟨_, fun j v hv => ?_, hV⟩, hg, ⟨_, ty, hz⟩, hlt⟩, Fr.one hc hw hz⟩
  have cell : ∀ j v, w.cell? ⟨g, o + j, none⟩ = some v → j ≠ 3 → Z.cell? ⟨g, o + j, none⟩ = some v := fun j v h hj => by
    simp only [World.cell?, hw, hz, Option.isSome_none, Bool.false_eq_true, if_false] at h ⊢
    rw [Array.getElem?_setIfInBounds, if_neg (by omega)]; exact h
  match j, hv with
  | 0, hv => exact cell 0 v (by cases hv; exact hr 0 _ rfl) (by omega)
  | 1, hv => exact cell 1 v (by cases hv; exact hr 1 _ rfl) (by omega)
  | 2, hv => exact cell 2 v (by cases hv; exact hr 2 _ rfl) (by omega)
  | 3, hv =>
    have h3 := hr 3 _ rfl
    simp only [World.cell?, hw, hz, Option.isSome_none, Bool.false_eq_true, if_false] at h3 ⊢
    have : o + 3 < C.size := (Array.getElem?_eq_some_iff.1 h3).1
    rw [Array.getElem?_setIfInBounds_self_of_lt this]
    simpa using hv
  | j + 4, hv => simp at hv
def TakePost (t : Tr) (id : Int) (g o : Nat) (F : Nat → Prop) (w : World) (e : Ending) (w' : World) : Prop :=
  match t.out id with
  | none => e = .returned (.tuple #[.agg #[.int .i64 0, .int .i64 0, .string ⟨#[]⟩, .slice none 0 0], .bool false]) ∧ Chg [] w w'
  | some (x, t') => ∃ A c Fx Ft, e = .returned (.tuple #[.agg #[.int .i64 (Tr.id x), .int .i64 (Tr.kind x), .string (Tr.text x), .slice A (Tr.kids x).length c], .bool true]) ∧ TrV w' x [.int .i64 (Tr.id x), .int .i64 (Tr.kind x), .string (Tr.text x), .slice A (Tr.kids x).length c] Fx ∧ MutAt w' g o t' Ft ∧ (∀ y, Fx y → (F y ∨ w.heap.size ≤ y) ∧ y < w'.heap.size ∧ y ≠ g ∧ ¬ Ft y) ∧ (∀ y, Ft y → F y ∨ w.heap.size ≤ y) ∧ Fr g o F w w'
set_option maxHeartbeats 4000000 in
set_option maxRecDepth 100000 in
theorem take_any (id : Int) : ∀ (t : Tr) (g o : Nat) (F : Nat → Prop) (w : World), MutAt w g o t F → t.nodes ≤ 100000 → Calls Try.prog 103 #[.pointer (some ⟨g, o, none⟩), .int .i64 id] w (TakePost t id g o F w) := by
  intro t
  induction t using Tr.ind with
  | h t ih =>
  intro g o F w hT hN
  obtain ⟨ip, hi, hz0, hz1, hz2⟩ := info_parts infoNode
  obtain ⟨A, c, hr, htx, hK⟩ := hT.open
  have hg := hT.glt
  have hlc := hK.le
  have hcm := hK.max
  have hlen : t.kids.length ≤ 100000 := by have := nodesL_len t.kids; rw [Tr.nodes_eq] at hN; omega
  have c3 : w.cell? ⟨g, o + 3, none⟩ = some (.slice A t.kids.length c) := hr 3 _ rfl
  have HI := Lib.hid (And.intro hi (And.intro hz0 (And.intro hz1 hz2)))
  have HH := Lib.hid (And.intro ih (And.intro hN (And.intro hT (And.intro hK (And.intro htx hr)))))
  clear hi hz0 hz1 hz2 hT hK ih hN htx hr
  have hA0 : Chg [] w (w.alloc (.cells #[.int .i64 0, .int .i64 0, .string ⟨#[]⟩, .slice none 0 0] 24)) := (by with_reducible repeat (first | exact Chg.refl _ _ | apply Chg.alloc | apply Chg.drew | apply Chg.drewN | (refine Chg.setCell ?_ _ _ (by simp))))
  have d3 := hA0.cell c3 (by simp)
  have HA := Lib.hid (And.intro hA0 (heap_new w (.cells #[.int .i64 0, .int .i64 0, .string ⟨#[]⟩, .slice none 0 0] 24) rfl))
  clear hA0
  go_enter Try.func103, Try.ntmps103
  go_wp2_with fail
  clear d3
  go_loopw [12] (fun i wr => ∃ k : Nat, k ≤ t.kids.length ∧ i = .int .i64 k ∧ Hid (Chg [] w wr ∧ wr.heap[w.heap.size]? = some (.cells #[.int .i64 0, .int .i64 0, .string ⟨#[]⟩, .slice none 0 0] 24 (0, 0)) ∧ ∀ (j : Nat) (hj : j < k) (hl : j < t.kids.length), (t.kids[j]).id ≠ id ∧ (t.kids[j]).out id = none)) (fun i _ => t.kids.length - (intOf i).toNat)
  case atStart => exact ⟨0, Nat.zero_le _, rfl, HA.out.1, HA.out.2, fun j hj => by omega⟩
  case round =>
    obtain ⟨k, hk, rfl, H⟩ := hrel
    clear HA
    have e3 := H.out.1.cell c3 (by simp)
    by_cases hlt : k < t.kids.length
    · obtain ⟨b, C, ci, Fi, rfl, hb, hFb, hri, hTi, hFi, hlast, hera, hset⟩ := HH.out.2.2.2.1.at hlt
      obtain ⟨Ai, ci', rfl, _, hKi⟩ := hTi.kidsV
      have k0 : wr.cell? ⟨b, k * 4, none⟩ = some (.int .i64 (t.kids[k]).id) := H.out.1.cell (hri 0 _ rfl) (by simp)
      have HK := Lib.hid (And.intro hb (And.intro hFb (And.intro hri (And.intro hTi (And.intro hFi (And.intro hlast (And.intro hera hset)))))))
      clear hb hFb hri hTi hFi hlast hera hset hKi
      by_cases hid : (t.kids[k]).id = id
      · have hb : ((t.kids[k]).id == id) = true := by simpa using hid
        have HD := Lib.hid hid
        clear hid
        have hri := H.out.1.range HK.out.2.2.1 (by simp)
        have HR := Lib.hid hri
        clear hri
        obtain ⟨r0, r1, r2, r3⟩ := blk4 H.out.2.1
        have f0 := blkF H.out.2.1 0
        have f1 := blkF H.out.2.1 1
        have f2 := blkF H.out.2.1 2
        have f3 := blkF H.out.2.1 3
        go_wp2_with (first
          | (refine wpList_load_mid rfl 24 (.tmp 30) rfl b (k * 4) rfl _ _ HR.out Try.underlying24 rfl szNode ?_)
          | fail)
        obtain ⟨C0, ty0, hw0⟩ := HH.out.2.2.1.blk
        refine wp_world (fun X => X.heap[w.heap.size]? = some (.cells #[.int .i64 (t.kids[k]).id, .int .i64 (t.kids[k]).kind, .string (t.kids[k]).text, .slice Ai (t.kids[k]).kids.length ci'] 24 (0, 0)) ∧ Chg [] w X) ⟨set4 H.out.2.1, H.out.1.andThen (chg4 _ _ _ _ _ _) (by simp)⟩ ?_
        rintro X ⟨hXb, hXc⟩
        have x3 := hXc.cell c3 (by simp)
        have hXg := hXc.at hw0 (by simp)
        have HX := Lib.hid (And.intro hXb (And.intro hXc (And.intro hXg hw0)))
        clear hXb hXc hXg hw0 r0 r1 r2 r3 f0 f1 f2 f3 e3 k0 hb
        have hout : t.out id = some (t.kids[k], { t with kids := t.kids.eraseIdx k }) := by rw [Tr.out_eq, outL_here id t.kids k hlt HD.out (fun j hj => H.out.2.2 j hj (by omega))]
        have HO := Lib.hid hout
        clear hout
        refine wp_region_M (fun _ => True) (fun k => [15, 18].contains k) (fun k => [18].contains k) (by kernel_rfl) ?_
        ((try dsimp only); (try simp only [Act.put, List.setIfInBounds_toArray, List.set_cons_zero, List.set_cons_succ]))
        refine M_pure (i := 0) (v := ?_) rfl (by kernel_rfl) (by kernel_rfl) (by kernel_rfl) (fun _ _ _ h => h) (by rfl) ?hy ?_; (case hy => (intro w; go_simp; with_reducible rfl)); ((try dsimp only); (try simp only [Act.put, List.setIfInBounds_toArray, List.set_cons_zero, List.set_cons_succ]))
        refine M_pure (i := 1) (v := ?_) rfl (by kernel_rfl) (by kernel_rfl) (by kernel_rfl) (fun _ _ _ h => h) (by rfl) ?hy ?_; (case hy => (intro w; go_simp; with_reducible rfl)); ((try dsimp only); (try simp only [Act.put, List.setIfInBounds_toArray, List.set_cons_zero, List.set_cons_succ]))
        refine M_pure (i := 2) (v := ?_) rfl (by kernel_rfl) (by kernel_rfl) (by kernel_rfl) (fun _ _ _ h => h) (by rfl) ?hy ?_; (case hy => (intro w; go_simp; with_reducible rfl)); ((try dsimp only); (try simp only [Act.put, List.setIfInBounds_toArray, List.set_cons_zero, List.set_cons_succ]))
        refine M_pure (i := 3) (v := ?_) rfl (by kernel_rfl) (by kernel_rfl) (by kernel_rfl) (fun _ _ _ h => h) (by rfl) ?hy ?_; (case hy => (intro w; go_simp; with_reducible rfl)); ((try dsimp only); (try simp only [Act.put, List.setIfInBounds_toArray, List.set_cons_zero, List.set_cons_succ]))
        refine M_take (i := 4) (v := ?_) rfl (by kernel_rfl) (by kernel_rfl) (by kernel_rfl) (by kernel_rfl) (fun _ _ _ h => h) (by rfl) ?hy ?_; (case hy => (go_simp; with_reducible rfl)); ((try dsimp only); (try simp only [Act.put, List.setIfInBounds_toArray, List.set_cons_zero, List.set_cons_succ]))
        refine M_pure (i := 5) (v := ?_) rfl (by kernel_rfl) (by kernel_rfl) (by kernel_rfl) (fun _ _ _ h => h) (by rfl) ?hy ?_; (case hy => (intro w; go_simp; with_reducible rfl)); ((try dsimp only); (try simp only [Act.put, List.setIfInBounds_toArray, List.set_cons_zero, List.set_cons_succ]))
        refine M_pure (i := 6) (v := ?_) rfl (by kernel_rfl) (by kernel_rfl) (by kernel_rfl) (fun _ _ _ h => h) (by rfl) ?hy ?_; (case hy => (intro w; go_simp; with_reducible rfl)); ((try dsimp only); (try simp only [Act.put, List.setIfInBounds_toArray, List.set_cons_zero, List.set_cons_succ]))
        refine M_pure (i := 7) rfl (by kernel_rfl) (by kernel_rfl) (by kernel_rfl) (fun _ _ _ h => h) (by rfl) (fun w => exec_slice_pre 22 (.tmp 36) (.tmp 37) (.tmp 38) rfl undNDS szElem (some ⟨b, 0, none⟩) t.kids.length c k rfl rfl rfl (by omega)) ?_
        ((try dsimp only); (try simp only [Act.put, List.setIfInBounds_toArray, List.set_cons_zero, List.set_cons_succ]))
        refine M_pure (i := 8) (v := ?_) rfl (by kernel_rfl) (by kernel_rfl) (by kernel_rfl) (fun _ _ _ h => h) (by rfl) ?hy ?_; (case hy => (intro w; go_simp; with_reducible rfl)); ((try dsimp only); (try simp only [Act.put, List.setIfInBounds_toArray, List.set_cons_zero, List.set_cons_succ]))
        refine M_pure (i := 9) (v := ?_) rfl (by kernel_rfl) (by kernel_rfl) (by kernel_rfl) (fun _ _ _ h => h) (by rfl) ?hy ?_; (case hy => (intro w; go_simp; with_reducible rfl)); ((try dsimp only); (try simp only [Act.put, List.setIfInBounds_toArray, List.set_cons_zero, List.set_cons_succ]))
        refine M_pure (i := 10) (v := ?_) rfl (by kernel_rfl) (by kernel_rfl) (by kernel_rfl) (fun _ _ _ h => h) (by rfl) ?hy ?_; (case hy => (intro w; go_simp; with_reducible rfl)); ((try dsimp only); (try simp only [Act.put, List.setIfInBounds_toArray, List.set_cons_zero, List.set_cons_succ]))
        refine M_take (i := 11) (v := ?_) rfl (by kernel_rfl) (by kernel_rfl) (by kernel_rfl) (by kernel_rfl) (fun _ _ _ h => h) (by rfl) ?hy ?_; (case hy => (go_simp; with_reducible rfl)); ((try dsimp only); (try simp only [Act.put, List.setIfInBounds_toArray, List.set_cons_zero, List.set_cons_succ]))
        refine M_pure (i := 12) (v := ?_) rfl (by kernel_rfl) (by kernel_rfl) (by kernel_rfl) (fun _ _ _ h => h) (by rfl) ?hy ?_; (case hy => (intro w; go_simp; with_reducible rfl)); ((try dsimp only); (try simp only [Act.put, List.setIfInBounds_toArray, List.set_cons_zero, List.set_cons_succ]))
        refine M_pure (i := 13) (v := ?_) rfl (by kernel_rfl) (by kernel_rfl) (by kernel_rfl) (fun _ _ _ h => h) (by rfl) ?hy ?_; (case hy => (intro w; go_simp; with_reducible rfl)); ((try dsimp only); (try simp only [Act.put, List.setIfInBounds_toArray, List.set_cons_zero, List.set_cons_succ]))
        rw [show IntKind.i64.wrap ((k : Int) + 1) = ((k + 1 : Nat) : Int) from (IntWalk.i64_in _ (by omega)).trans (by simp)]
        refine M_pure (i := 14) rfl (by kernel_rfl) (by kernel_rfl) (by kernel_rfl) (fun _ _ _ h => h) (by rfl) (fun w => exec_slice_post 22 (.tmp 43) (.tmp 45) rfl undNDS szElem (some ⟨b, 0, none⟩) t.kids.length c (k + 1) rfl rfl (by omega)) ?_
        ((try dsimp only); (try simp only [Act.put, List.setIfInBounds_toArray, List.set_cons_zero, List.set_cons_succ]))
        refine M_eff (i := 15) rfl (by kernel_rfl) (by rfl) ?_
        have x4 := blkF HX.out.2.2.1 (o + 3)
        by_cases hlast : k + 1 = t.kids.length
        · rw [show t.kids.length - (k + 1) = 0 from by omega]
          refine wpList_append_zero rfl (.tmp 39) (.tmp 46) 22 24 rfl ip Try.underlying22 HI.out.1 (some ⟨b, 0, none⟩) k k (Nat.le_refl _) _ _ rfl rfl ?_
          refine wpList_nil ⟨trivial, ?_⟩
          ((try dsimp only); (try simp only [Act.put, List.setIfInBounds_toArray, List.set_cons_zero, List.set_cons_succ]))
          refine M_pure (i := 16) (v := ?_) rfl (by kernel_rfl) (by kernel_rfl) (by kernel_rfl) (fun _ _ _ h => h) (by rfl) ?hy ?_; (case hy => (intro w; go_simp; with_reducible rfl)); ((try dsimp only); (try simp only [Act.put, List.setIfInBounds_toArray, List.set_cons_zero, List.set_cons_succ]))
          refine M_pure (i := 17) (v := ?_) rfl (by kernel_rfl) (by kernel_rfl) (by kernel_rfl) (fun _ _ _ h => h) (by rfl) ?hy ?_; (case hy => (intro w; go_simp; with_reducible rfl)); ((try dsimp only); (try simp only [Act.put, List.setIfInBounds_toArray, List.set_cons_zero, List.set_cons_succ]))
          refine M_brk (i := 18) rfl (by kernel_rfl) (by rfl) (by rfl) ?_
          go_wp2_with fail
          refine M_world (fun Y => Y.heap[w.heap.size]? = some (.cells #[.int .i64 (t.kids[k]).id, .int .i64 (t.kids[k]).kind, .string (t.kids[k]).text, .slice Ai (t.kids[k]).kids.length ci'] 24 (0, 0)) ∧ Y.heap[g]? = some (.cells (C0.setIfInBounds (o + 3) (.slice (some ⟨b, 0, none⟩) k k)) ty0 (0, 0)) ∧ Chg [g] w Y) ⟨(Chg.setCell (l := [g]) (Chg.drew (Chg.refl [g] X)) ⟨g, o + 3, none⟩ (.slice (some ⟨b, 0, none⟩) k k) (by simp)).at HX.out.1 (by simp; omega), heap_setCell_same _ _ _ _ _ _ HX.out.2.2.1, Chg.setCell (Chg.drew (HX.out.2.1.mono (by simp))) _ _ (by simp)⟩ ?_
          rintro Y hY
          have HY := Lib.hid (And.intro hY.1 (And.intro hY.2.1 (And.intro hY.2.2 trivial)))
          clear hY x3 x4
          refine M_done (by kernel_rfl) ?_ _
          obtain ⟨z0, z1, z2, z3⟩ := blk4 HY.out.1
          have zf0 := blkF HY.out.1 0
          have zf1 := blkF HY.out.1 1
          have zf2 := blkF HY.out.1 2
          have zf3 := blkF HY.out.1 3
          go_wp2
          have hC4 := chg4 Y w.heap.size (.int .i64 (t.kids[k]).id) (.int .i64 (t.kids[k]).kind) (.string (t.kids[k]).text) (.slice Ai (t.kids[k]).kids.length ci')
          have hgne : g ≠ w.heap.size := by omega
          have hZc := HY.out.2.2.1.andThen hC4 (by simp)
          have hZg := hC4.at HY.out.2.1 (by simpa using hgne)
          refine bodyPost_ret (v := .tuple #[.agg #[.int .i64 (Tr.id (t.kids[k])), .int .i64 (Tr.kind (t.kids[k])), .string (Tr.text (t.kids[k])), .slice Ai (Tr.kids (t.kids[k])).length ci'], .bool true]) (results_row_tmp rfl _ _ w.heap.size _ _ _ _ _ rfl rfl (set4 HY.out.1) Try.underlying24 rfl szNode) rfl ?_
          unfold TakePost
          rw [HO.out]
          have hks : t.kids.eraseIdx k = t.kids.take k := by rw [List.eraseIdx_eq_take_drop_succ, hlast, List.drop_length, List.append_nil]
          have hlk : (t.kids.take k).length = k := by simp; omega
          have hng : ∀ x, F x → x ≠ g := fun x hx e => HH.out.2.2.1.nog (by rw [← e]; exact hx)
          have hV := ((HK.out.2.2.2.2.2.1 hlast).close { t with kids := t.kids.take k } HH.out.2.2.2.2.1).kept hZc (fun x hx => by simpa using hng x hx.1)
          have hT := HH.out.2.2.1.turn HX.out.2.2.2 hZc (A' := some ⟨b, 0, none⟩) (c' := k) (ks' := t.kids.take k) (by rw [hlk]; exact hZg) hV (fun h => hng g h.1 rfl) (fun x hx => Nat.lt_of_lt_of_le (HH.out.2.2.1.lt x hx.1) hZc.size)
          simp only [hks]
          exact ⟨Ai, ci', Fi, _, rfl, HK.out.2.2.2.1.kept hZc (fun x hx => by simpa using hng x (HK.out.2.2.2.2.1 x hx).1), hT.1, fun y hy => ⟨.inl (HK.out.2.2.2.2.1 y hy).1, Nat.lt_of_lt_of_le (HH.out.2.2.1.lt y (HK.out.2.2.2.2.1 y hy).1) hZc.size, hng y (HK.out.2.2.2.2.1 y hy).1, fun h => h.2 hy⟩, fun y hy => .inl hy.1, hT.2⟩
        · have hm : k + 1 < t.kids.length := by omega
          obtain ⟨olds, news, hol, hnl, hro, hrn, h1o, h1n, hrow⟩ := HK.out.2.2.2.2.2.2.1
          rw [tailA_some (show k + 1 < c from by omega)]
          refine wpList_append_grows X.drew rfl (.tmp 39) (.tmp 46) 22 rfl 24 ip _ 4 56 Try.underlying22 HI.out.1 HI.out.2.1 HI.out.2.2.1 HI.out.2.2.2 rfl (by omega) (some ⟨b, 0, none⟩) k k olds rfl (fun h => by cases h) hol (fun b' e j u hu => by cases e; rw [Addr.add_mid]; exact HX.out.2.1.cell (hro j u hu) (by simp)) ⟨b, (k + 1) * 4, none⟩ (t.kids.length - (k + 1)) (c - (k + 1)) news rfl hnl (fun j u hu => by rw [Addr.add_mid]; exact HX.out.2.1.cell (hrn j u hu) (by simp)) h1n (by omega) (by unfold maxLen; omega) (by omega) ?_
          intro v' W hown hgr
          have hCW : Chg [] X W := Chg.grown (Chg.drew (Chg.refl _ _)) hgr (by simp)
          have hsX := HX.out.2.1.size
          rw [show k + (t.kids.length - (k + 1)) = t.kids.length - 1 from by omega] at hown
          have hR := hrow W v' X.heap.size (HX.out.2.1.trans hCW) hsX hown
          have hvb : ∀ x, v'.ownBlock = some x → X.heap.size ≤ x ∧ x < W.heap.size := hR.own
          have hle : (t.kids.eraseIdx k).length = t.kids.length - 1 := List.length_eraseIdx_of_lt hlt
          obtain ⟨A', c', rfl, hV0⟩ := hR.node { t with kids := t.kids.eraseIdx k } HH.out.2.2.2.2.1
          have hXlt := lt_of_block HX.out.1
          have HV := Lib.hid (And.intro hV0 (And.intro hvb (And.intro hle hCW)))
          have y3 := hCW.cell x3 (by simp)
          have y4 := blkF (hCW.at HX.out.2.2.1 (by simp)) (o + 3)
          clear hro hrn hrow h1o h1n hown hgr hR hV0 hvb x3 x4 hCW hle
          refine wpList_nil ⟨trivial, ?_⟩
          ((try dsimp only); (try simp only [Act.put, List.setIfInBounds_toArray, List.set_cons_zero, List.set_cons_succ]))
          refine M_pure (i := 16) (v := ?_) rfl (by kernel_rfl) (by kernel_rfl) (by kernel_rfl) (fun _ _ _ h => h) (by rfl) ?hy ?_; (case hy => (intro w; go_simp; with_reducible rfl)); ((try dsimp only); (try simp only [Act.put, List.setIfInBounds_toArray, List.set_cons_zero, List.set_cons_succ]))
          refine M_pure (i := 17) (v := ?_) rfl (by kernel_rfl) (by kernel_rfl) (by kernel_rfl) (fun _ _ _ h => h) (by rfl) ?hy ?_; (case hy => (intro w; go_simp; with_reducible rfl)); ((try dsimp only); (try simp only [Act.put, List.setIfInBounds_toArray, List.set_cons_zero, List.set_cons_succ]))
          refine M_brk (i := 18) rfl (by kernel_rfl) (by rfl) (by rfl) ?_
          go_wp2_with fail
          refine M_world (fun Y => Y.heap[w.heap.size]? = some (.cells #[.int .i64 (t.kids[k]).id, .int .i64 (t.kids[k]).kind, .string (t.kids[k]).text, .slice Ai (t.kids[k]).kids.length ci'] 24 (0, 0)) ∧ Y.heap[g]? = some (.cells (C0.setIfInBounds (o + 3) (.slice A' (t.kids.eraseIdx k).length c')) ty0 (0, 0)) ∧ Chg [g] w Y ∧ Chg [g] W Y) ⟨(Chg.setCell (l := [g]) (HV.out.2.2.2.mono (by simp)) ⟨g, o + 3, none⟩ (.slice A' (t.kids.eraseIdx k).length c') (by simp)).at HX.out.1 (by simp; omega), heap_setCell_same _ _ _ _ _ _ (HV.out.2.2.2.at HX.out.2.2.1 (by simp)), Chg.setCell ((HX.out.2.1.trans HV.out.2.2.2).mono (by simp)) _ _ (by simp), (Chg.refl _ _).setCell _ _ (by simp)⟩ ?_
          rintro Y hY
          have HY := Lib.hid hY
          clear hY y3 y4
          refine M_done (by kernel_rfl) ?_ _
          obtain ⟨z0, z1, z2, z3⟩ := blk4 HY.out.1
          have zf0 := blkF HY.out.1 0
          have zf1 := blkF HY.out.1 1
          have zf2 := blkF HY.out.1 2
          have zf3 := blkF HY.out.1 3
          go_wp2
          have hC4 := chg4 Y w.heap.size (.int .i64 (t.kids[k]).id) (.int .i64 (t.kids[k]).kind) (.string (t.kids[k]).text) (.slice Ai (t.kids[k]).kids.length ci')
          have hgne : g ≠ w.heap.size := by omega
          have hZc := HY.out.2.2.1.andThen hC4 (by simp)
          have hZg := hC4.at HY.out.2.1 (by simpa using hgne)
          refine bodyPost_ret (v := .tuple #[.agg #[.int .i64 (Tr.id (t.kids[k])), .int .i64 (Tr.kind (t.kids[k])), .string (Tr.text (t.kids[k])), .slice Ai (Tr.kids (t.kids[k])).length ci'], .bool true]) (results_row_tmp rfl _ _ w.heap.size _ _ _ _ _ rfl rfl (set4 HY.out.1) Try.underlying24 rfl szNode) rfl ?_
          unfold TakePost
          rw [HO.out]
          have hng : ∀ x, F x → x ≠ g := fun x hx e => HH.out.2.2.1.nog (by rw [← e]; exact hx)
          have hWZ : Chg [g, w.heap.size] W _ := (HY.out.2.2.2.mono (by simp)).trans (hC4.mono (by simp))
          have hFt : ∀ x, (F x ∧ ¬ Fi x ∧ x < w.heap.size) ∨ (Value.slice A' (t.kids.eraseIdx k).length c').ownBlock = some x → (F x ∧ ¬ Fi x) ∨ X.heap.size ≤ x := fun x hx => by
            rcases hx with hx | hx
            · exact .inl ⟨hx.1, hx.2.1⟩
            · exact .inr (HV.out.2.1 x hx).1
          have hlo : ∀ x, (F x ∧ ¬ Fi x) ∨ X.heap.size ≤ x → x ≠ g ∧ x ≠ w.heap.size ∧ ¬ Fi x := fun x hx => by
            rcases hx with hx | hx
            · have := HH.out.2.2.1.lt x hx.1
              exact ⟨hng x hx.1, by omega, hx.2⟩
            · exact ⟨by omega, by omega, fun h => by have := HH.out.2.2.1.lt x (HK.out.2.2.2.2.1 x h).1; omega⟩
          have hV := (HV.out.1.bound.weak (F' := fun x => ((F x ∧ ¬ Fi x) ∨ X.heap.size ≤ x) ∧ x < W.heap.size) (fun x hx => ⟨hFt x hx.1, hx.2⟩)).kept hWZ (fun x hx => by have := hlo x hx.1; simp; omega)
          have hT := HH.out.2.2.1.turn HX.out.2.2.2 hZc (A' := A') (c' := c') (ks' := t.kids.eraseIdx k) hZg hV (fun h => (hlo g h.1).1 rfl) (fun x hx => Nat.lt_of_lt_of_le hx.2 hWZ.size)
          exact ⟨Ai, ci', Fi, _, rfl, HK.out.2.2.2.1.kept hZc (fun x hx => by simpa using hng x (HK.out.2.2.2.2.1 x hx).1), hT.1, fun y hy => ⟨.inl (HK.out.2.2.2.2.1 y hy).1, Nat.lt_of_lt_of_le (HH.out.2.2.1.lt y (HK.out.2.2.2.2.1 y hy).1) hZc.size, hng y (HK.out.2.2.2.2.1 y hy).1, fun h => (hlo y h.1).2.2 hy⟩, fun y hy => by
            rcases hy.1 with h | h
            · exact .inl h.1
            · exact .inr (by omega), hT.2⟩
      · have hb : ((t.kids[k]).id == id) = false := by simpa using hid
        have HD := Lib.hid hid
        clear hid
        have hkn : (t.kids[k]).nodes ≤ 100000 := by have := nodesL_mem (List.getElem_mem hlt); have h2 := HH.out.2.1; rw [Tr.nodes_eq] at h2; omega
        have hFlt : ∀ x, Fi x → x < w.heap.size := fun x hx => HH.out.2.2.1.lt x (HK.out.2.2.2.2.1 x hx).1
        have hMi : MutAt w b (k * 4) (t.kids[k]) Fi := ⟨⟨_, HK.out.2.2.1, HK.out.2.2.2.1⟩, fun h => (HK.out.2.2.2.2.1 b h).2 rfl, ⟨C, _, HK.out.1⟩, hFlt⟩
        have hcall := HH.out.1 (t.kids[k]) (List.getElem_mem hlt) b (k * 4) Fi wr (hMi.kept H.out.1 (by simp) (by simp)) hkn
        have hbw := lt_of_block HK.out.1
        unfold TakePost at hcall
        obtain ⟨r0, r1, r2, r3⟩ := blk4 H.out.2.1
        have f0 := blkF H.out.2.1 0
        have f1 := blkF H.out.2.1 1
        have f2 := blkF H.out.2.1 2
        have f3 := blkF H.out.2.1 3
        cases hko : (t.kids[k]).out id with
        | none =>
          rw [hko] at hcall
          have HC := Lib.hid (And.intro hcall (And.intro hko hFlt))
          clear hcall hko hFlt hMi hkn r0 r1 r2 r3 f0 f1 f2 f3
          go_wp2_with (go_at_call 103; refine HC.out.1.mono ?_; rintro e X ⟨rfl, hX⟩
                       have hbx := hX.at H.out.2.1 (by simp)
                       obtain ⟨r0, r1, r2, r3⟩ := blk4 hbx
                       have f0 := blkF hbx 0
                       have f1 := blkF hbx 1
                       have f2 := blkF hbx 2
                       have f3 := blkF hbx 3
                       have HX := Lib.hid (And.intro hX hbx)
                       clear hX hbx)
          go_roundw
          case rel =>
            refine ⟨k + 1, by omega, by go_num, (H.out.1.trans HX.out.1).andThen (chg4 _ _ _ _ _ _) (by simp), set4 HX.out.2, fun j hj hl => ?_⟩
            rcases Nat.lt_or_ge j k with h | h
            · exact H.out.2.2 j h hl
            · obtain rfl : j = k := by omega
              exact ⟨HD.out, HC.out.2.1⟩
          case measure => simp [intOf]; omega
        | some res =>
          obtain ⟨x, k'⟩ := res
          rw [hko] at hcall
          have hout : t.out id = some (x, { t with kids := t.kids.set k k' }) := by rw [Tr.out_eq, outL_in id x k' t.kids k hlt HD.out hko (fun j hj => H.out.2.2 j hj (by omega))]
          have HC := Lib.hid (And.intro hcall (And.intro hout hFlt))
          clear hcall hko hFlt hMi hkn hout r0 r1 r2 r3 f0 f1 f2 f3
          go_wp2_with (go_at_call 103; refine HC.out.1.mono ?_; rintro e X ⟨A1, c1, Fx, Ft, rfl, hTx, hMx, hFx, hFt, hfr⟩
                       have hbx : X.heap[w.heap.size]? = _ := (hfr.block w.heap.size (lt_of_block H.out.2.1) (by omega) (fun h => by have := HC.out.2.2 _ h; omega)).trans H.out.2.1
                       obtain ⟨r0, r1, r2, r3⟩ := blk4 hbx
                       have f0 := blkF hbx 0
                       have f1 := blkF hbx 1
                       have f2 := blkF hbx 2
                       have f3 := blkF hbx 3
                       have HX := Lib.hid (And.intro hbx (And.intro hTx (And.intro hMx (And.intro hFx (And.intro hFt hfr)))))
                       clear hbx hTx hMx hFx hFt hfr)
          have hC4 := (chg4 X w.heap.size (.int .i64 x.id) (.int .i64 x.kind) (.string x.text) (.slice A1 x.kids.length c1)).trans (chg4 _ w.heap.size (.int .i64 x.id) (.int .i64 x.kind) (.string x.text) (.slice A1 x.kids.length c1))
          refine bodyPost_ret (v := .tuple #[.agg #[.int .i64 (Tr.id x), .int .i64 (Tr.kind x), .string (Tr.text x), .slice A1 (Tr.kids x).length c1], .bool true]) (results_row_tmp rfl _ _ w.heap.size _ _ _ _ _ rfl rfl (set4 (set4 HX.out.1)) Try.underlying24 rfl szNode) rfl ?_
          unfold TakePost
          rw [HC.out.2.1]
          have hwrw := lt_of_block H.out.2.1
          have hws := H.out.1.size
          obtain ⟨_, hTx, hMx, hFx, hFt, hfr⟩ := HX.out
          have hFi := HK.out.2.2.2.2.1
          have hM := HH.out.2.2.1
          have hgF : ∀ y, F y → y ≠ g := fun y hy e => hM.nog (by rw [← e]; exact hy)
          have hbg : b ≠ g := hgF b HK.out.2.1
          have hFtb : ¬ Ft b := hMx.nog
          have hfrw : Fr b (k * 4) Fi w X := (Fr.of_chg H.out.1 hbw).trans hfr
          obtain ⟨cs', hrx, hTx'⟩ := hMx.cells
          have hKX := HK.out.2.2.2.2.2.2.2 X k' cs' Ft hfrw hrx hTx' (fun y hy => ⟨by rcases hFt y hy with h | h; exact .inl h; exact .inr (fun h' => by have := hM.lt y h'; omega), fun e => hFtb (by rw [← e]; exact hy)⟩)
          have hV := hKX.close { t with kids := t.kids.set k k' } HH.out.2.2.2.2.1
          have hXw : ∀ y, y < w.heap.size → y ≠ b → ¬ Fi y → X.heap[y]? = w.heap[y]? := fun y h1 h2 h3 => hfrw.block y h1 h2 h3
          have hgX := hXw g hg (fun e => hbg e.symm) (fun h => hgF g (hFi g h).1 rfl)
          have hG : ∀ y, (F y ∧ ¬ Fi y) ∨ Ft y → y ≠ g ∧ y ≠ w.heap.size ∧ y < X.heap.size := fun y hy => by
            rcases hy with hy | hy
            · have := hM.lt y hy.1; have := hfrw.size; exact ⟨hgF y hy.1, by omega, by omega⟩
            · refine ⟨?_, ?_, hMx.lt y hy⟩
              · rcases hFt y hy with h | h
                · exact hgF y (hFi y h).1
                · omega
              · rcases hFt y hy with h | h
                · have := hM.lt y (hFi y h).1; omega
                · omega
          have hVZ := hV.kept hC4 (fun y hy => by simpa using (hG y hy).2.1)
          have hZg : ∀ C ty, w.heap[g]? = some (.cells C ty (0, 0)) → _ := fun C ty h => hC4.at (hgX.trans h) (by simp; omega)
          obtain ⟨Cg, tyg, hwg⟩ := hM.blk
          have hzg := hZg Cg tyg hwg
          obtain ⟨Aw, cw, hrw, _, _⟩ := hM.open
          have hlen' : (t.kids.set k k').length = t.kids.length := by simp
          refine ⟨A1, c1, Fx, fun y => (F y ∧ ¬ Fi y) ∨ Ft y, rfl, hTx.kept hC4 (fun y hy => ?_), ⟨⟨_, fun j v hv => ?_, hVZ⟩, fun h => (hG g h).1 rfl, ⟨Cg, tyg, hzg⟩, fun y hy => Nat.lt_of_lt_of_le (hG y hy).2.2 hC4.size⟩, fun y hy => ?_, fun y hy => ?_, ?_⟩
          · obtain ⟨h1, h2, h3, h4⟩ := hFx y hy
            rcases h1 with h | h
            · have := hM.lt y (hFi y h).1; simp; omega
            · simp; omega
          · have h0 : w.cell? ⟨g, o + j, none⟩ = some v := by
              rw [show ({ t with kids := t.kids.set k k' } : Tr).kids.length = t.kids.length from hlen'] at hv
              exact HH.out.2.2.2.2.2 j v hv
            simp only [World.cell?, hwg] at h0
            simp only [World.cell?, hzg]
            exact h0
          · obtain ⟨h1, h2, h3, h4⟩ := hFx y hy
            refine ⟨?_, Nat.lt_of_lt_of_le h2 hC4.size, ?_, ?_⟩
            · rcases h1 with h | h
              · exact .inl (hFi y h).1
              · exact .inr (by omega)
            · rcases h1 with h | h
              · exact hgF y (hFi y h).1
              · omega
            · rintro (h | h)
              · rcases h1 with h' | h'
                · exact h.2 h'
                · have := hM.lt y h.1; omega
              · exact h4 h
          · rcases hy with h | h
            · exact .inl h.1
            · rcases hFt y h with h' | h'
              · exact .inl (hFi y h').1
              · exact .inr (by omega)
          · refine ⟨hC4.os.trans hfrw.os, hC4.tape.trans hfrw.tape, hC4.output.trans hfrw.output, Nat.le_trans hfrw.size hC4.size, fun y h1 h2 h3 => ?_, fun j _ => ?_, fun C ty h => ⟨C, hZg C ty h⟩⟩
            · exact (hC4.block y (Nat.lt_of_lt_of_le h1 hfrw.size) (by simp; omega)).trans (hXw y h1 (fun e => h3 (by rw [e]; exact HK.out.2.1)) (fun h => h3 (hFi y h).1))
            · simp only [World.cell?, hwg, hzg]
    · obtain rfl : k = t.kids.length := by omega
      obtain ⟨r0, r1, r2, r3⟩ := blk4 H.out.2.1
      have f0 := blkF H.out.2.1 0
      have f1 := blkF H.out.2.1 1
      have f2 := blkF H.out.2.1 2
      have f3 := blkF H.out.2.1 3
      go_wp2
      have hC4 := chg4 wr w.heap.size (.int .i64 0) (.int .i64 0) (.string ⟨#[]⟩) (.slice none 0 0)
      refine bodyPost_ret (v := .tuple #[.agg #[.int .i64 0, .int .i64 0, .string ⟨#[]⟩, .slice none 0 0], .bool false]) (results_row_tmp rfl _ _ w.heap.size _ _ _ _ _ rfl rfl (set4 H.out.2.1) Try.underlying24 rfl szNode) rfl ?_
      unfold TakePost
      rw [Tr.out_eq, outL_none id t.kids (fun j hj => H.out.2.2 j hj hj)]
      exact ⟨rfl, H.out.1.andThen hC4 (by simp)⟩
end Go.Proofs.Ytofjocjljbkjgaa
