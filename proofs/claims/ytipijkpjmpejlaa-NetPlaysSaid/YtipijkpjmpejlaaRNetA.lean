import Derived.Test.YtipijkpjmpejlaaRNet
/- The contract of the reference's Send. -/
set_option linter.unusedVariables false
set_option linter.unusedSimpArgs false
namespace Go.Proofs.Ytipijkpjmpejlaa
open Go.RowKit
theorem rnet_push {w Y Ya Z Z2 : World} {r : Nat} {l : List (Msg × Bool)} {M : Nat → Prop} {vL vH vL' vH' : Value} {css : List (List Value)} {m : Msg} {hd : Bool} {A1 : Option Addr} {c1 : Nat} {B1 : Option Addr} {d1 b0 : Nat} {o : Obj} (HN : RNetW w r l M vL vH css) (hF : m.Fit) (hl : ¬ 1024 ≤ l.length)
    (hM : MsgC (fun b => b0 ≤ b ∧ b < Y.heap.size) Y m A1 c1 B1 d1) (hb0 : w.heap.size ≤ b0) (hYa : Chg [] Y Ya) (hsz : Ya.heap.size = Y.heap.size + 1) (hwYa : Chg [] w Ya) (hown : Z.ownsRow 0 39 16 vL' (l.length + 1) (css.flatten ++ (#[.int .i8 (Msg.kind m), .int .i64 (Msg.frm m), .int .i64 (Msg.to m), .int .i64 (Msg.boot m), .int .i64 (Msg.server m), .int .i64 (Msg.number m), .int .i64 (Msg.node m), .int .i64 (Msg.lease m), .int .i64 (Msg.epoch m), .int .i64 (Msg.version m), .int .i64 (Msg.e m), .slice B1 (Msg.steps m).length d1, .int .i64 (Msg.tree m).id, .int .i64 (Msg.tree m).kind, .string (Msg.tree m).text, .slice A1 (Msg.tree m).kids.length c1] : Array Value).toList))
    (hgr : Ya.grownBy Z vL.ownBlock) (hat : vL'.ownBlock = vL.ownBlock ∨ vL'.ownBlock = some Ya.heap.size) (hownH : Z2.ownsRow 0 4 1 vH' (l.length + 1) (bools l ++ [.bool hd]))
    (hgrH : ((Z.setCell ⟨r, 0, none⟩ vL').alloc o).grownBy Z2 vH.ownBlock) (hatH : vH'.ownBlock = vH.ownBlock ∨ vH'.ownBlock = some ((Z.setCell ⟨r, 0, none⟩ vL').alloc o).heap.size) : RNetPost r (l ++ [(m, hd)]) M w (Z2.setCell ⟨r, 1, none⟩ vH') := by
  have hws := hwYa.size
  have hlowL : ∀ b, vL.ownBlock = some b → b < w.heap.size := fun b hb => HN.low b (HN.ownL b hb).1
  have hlowH : ∀ b, vH.ownBlock = some b → b < w.heap.size := fun b hb => HN.low b (HN.ownH b hb).1
  have hrw := HN.low r HN.foot
  have hZs : Ya.heap.size ≤ Z.heap.size := hgr.size
  have hZ2s := hgrH.size
  simp at hZ2s hatH
  -- what has changed since Y, and since w
  have cYZ : Chg vL.ownBlock.toList Y Z := Chg.grown (hYa.mono (by simp)) hgr (by intro k hk; rw [hk]; simp)
  have cZ1 : Chg [r] Z (Z.setCell ⟨r, 0, none⟩ vL') := (Chg.refl _ _).setCell _ _ (by simp)
  have cZ2 : Chg vH.ownBlock.toList (Z.setCell ⟨r, 0, none⟩ vL') Z2 := Chg.grown ((Chg.refl _ _).alloc o) hgrH (by intro k hk; rw [hk]; simp)
  have cZ3 : Chg [r] Z2 (Z2.setCell ⟨r, 1, none⟩ vH') := (Chg.refl _ _).setCell _ _ (by simp)
  have cZe : Chg (r :: vH.ownBlock.toList) Z (Z2.setCell ⟨r, 1, none⟩ vH') := ((cZ1.mono (by simp)).trans (cZ2.mono (fun x hx => by simp [hx]))).trans (cZ3.mono (by simp))
  have cYe : Chg (r :: (vL.ownBlock.toList ++ vH.ownBlock.toList)) Y (Z2.setCell ⟨r, 1, none⟩ vH') := (cYZ.mono (fun x hx => by simp at hx; simp [hx])).trans (cZe.mono (fun x hx => by simp at hx; rcases hx with h | h <;> simp [h]))
  have cwZ : Chg vL.ownBlock.toList w Z := Chg.grown (hwYa.mono (by simp)) hgr (by intro k hk; rw [hk]; simp)
  have cwe : Chg (r :: (vL.ownBlock.toList ++ vH.ownBlock.toList)) w (Z2.setCell ⟨r, 1, none⟩ vH') := (cwZ.mono (fun x hx => by simp at hx; simp [hx])).trans (cZe.mono (fun x hx => by simp at hx; rcases hx with h | h <;> simp [h]))
  have hvL : ∀ b, vL'.ownBlock = some b → vL.ownBlock = some b ∨ (b = Y.heap.size + 1) := fun b hb => by
    rcases hat with h | h
    · exact .inl (h ▸ hb)
    · rw [h] at hb; injection hb with hb; exact .inr (by omega)
  have hvH : ∀ b, vH'.ownBlock = some b → vH.ownBlock = some b ∨ (Z.heap.size + 1 = b) := fun b hb => by
    rcases hatH with h | h
    · exact .inl (h ▸ hb)
    · rw [h] at hb; injection hb with hb; exact .inr hb
  have hltL : ∀ b, vL'.ownBlock = some b → b < Z.heap.size := fun b hb => (World.ownsRow.lt hown b hb).2
  have hrL : ∀ b, vL.ownBlock = some b → b ≠ r := fun b hb => (HN.ownL b hb).2
  have hrH : ∀ b, vH.ownBlock = some b → b ≠ r := fun b hb => (HN.ownH b hb).2.1
  have hLH : ∀ b, vH.ownBlock = some b → vL.ownBlock ≠ some b := fun b hb => (HN.ownH b hb).2.2
  have hrL' : ∀ b, vL'.ownBlock = some b → b ≠ r := fun b hb => by
    rcases hvL b hb with h | h
    · exact hrL b h
    · omega
  have hrow : RowR Z 16 39 0 vL' (css ++ [(#[.int .i8 (Msg.kind m), .int .i64 (Msg.frm m), .int .i64 (Msg.to m), .int .i64 (Msg.boot m), .int .i64 (Msg.server m), .int .i64 (Msg.number m), .int .i64 (Msg.node m), .int .i64 (Msg.lease m), .int .i64 (Msg.epoch m), .int .i64 (Msg.version m), .int .i64 (Msg.e m), .slice B1 (Msg.steps m).length d1, .int .i64 (Msg.tree m).id, .int .i64 (Msg.tree m).kind, .string (Msg.tree m).text, .slice A1 (Msg.tree m).kids.length c1] : Array Value).toList]) := HN.row.push (by rw [HN.len]; exact hown) rfl
  refine HN.post (vL' := vL') (vH' := vH') cwe ?_ (hrow.kept cZe (fun b hb hm => ?_)) (by simp [HN.len]) ?_ ?_ (fun b hb => ⟨?_, hrL' b hb⟩) (fun b hb => ⟨?_, ?_, fun e => ?_⟩) ?_ (by simp; omega)
  · have hbz : Z.heap[r]? = some (.cells #[vL, vH] 84 (0, 0)) := cwZ.at HN.box (fun hm => hrL r (by simpa using hm) rfl)
    have hbz1 : (Z.setCell ⟨r, 0, none⟩ vL').heap[r]? = some (.cells #[vL', vH] 84 (0, 0)) := heap_setCell_same _ _ 0 _ _ _ hbz
    exact heap_setCell_same _ _ 1 _ _ _ (cZ2.at hbz1 (fun hm => hrH r (by simpa using hm) rfl))
  · simp at hm
    rcases hm with rfl | hm
    · exact hrL' b hb rfl
    · rcases hvL b hb with h | h
      · exact hLH b hm h
      · have := hlowH b hm; omega
  · intro i x cs h1 h2
    rcases Nat.lt_or_ge i l.length with hi | hi
    · rw [List.getElem?_append_left hi] at h1
      rw [List.getElem?_append_left (by rw [HN.len]; exact hi)] at h2
      refine ⟨_, HN.item cwe h1 h2, fun b hb => ⟨.inl hb.1, hb.2.1, fun e => ?_, fun e => ?_⟩⟩
      · rcases hvL b e with h | h
        · exact hb.2.2.1 h
        · omega
      · rcases hvH b e with h | h
        · exact hb.2.2.2.1 h
        · omega
    · rw [List.getElem?_append_right hi] at h1
      rw [List.getElem?_append_right (by rw [HN.len]; exact hi), HN.len] at h2
      have h0 : i - l.length = 0 := by
        have := (List.getElem?_eq_some_iff.1 h1).1
        simp at this; omega
      rw [h0] at h1 h2
      simp only [List.getElem?_cons_zero, Option.some.injEq] at h1 h2
      subst h1 h2
      refine ⟨fun b => b0 ≤ b ∧ b < Y.heap.size, ⟨A1, c1, B1, d1, rfl, hM.kept cYe (fun b hb hm => ?_)⟩, fun b hb => ⟨.inr (by omega), by omega, fun e => ?_, fun e => ?_⟩⟩
      · simp at hm
        rcases hm with rfl | hm | hm
        · omega
        · have := hlowL b hm; omega
        · have := hlowH b hm; omega
      · rcases hvL b e with h | h
        · have := hlowL b h; omega
        · omega
      · rcases hvH b e with h | h
        · have := hlowH b h; omega
        · omega
  · have hb : bools (l ++ [(m, hd)]) = bools l ++ [.bool hd] := by simp [bools]
    rw [hb]
    refine own_kept (by simpa using hownH) cZ3 (fun b hb hm => ?_)
    simp at hm
    subst hm
    rcases hvH b hb with h | h
    · exact hrH b h rfl
    · omega
  · rcases hvL b hb with h | h
    · exact .inl (HN.ownL b h).1
    · exact .inr (by omega)
  · rcases hvH b hb with h | h
    · exact .inl (HN.ownH b h).1
    · exact .inr (by omega)
  · rcases hvH b hb with h | h
    · exact hrH b h
    · omega
  · rcases hvH b hb with h | h
    · rcases hvL b e with h2 | h2
      · exact hLH b h h2
      · have := hlowH b h; omega
    · have := hltL b e; omega
  · intro x hx
    rcases List.mem_append.1 hx with hx | hx
    · exact HN.fit x hx
    · simp at hx; subst hx; exact hF
theorem cells2 {w : World} {r : Nat} {a b : Value} {t : TypeId} {fr : Nat × Nat} (h : w.heap[r]? = some (.cells #[a, b] t fr)) : w.cell? ⟨r, 0, none⟩ = some a ∧ w.cell? ⟨r, 1, none⟩ = some b := by simp [World.cell?, h]
def RSendPost (r : Nat) (l : List (Msg × Bool)) (M : Nat → Prop) (m : Msg) (w : World) (e : Ending) (w' : World) : Prop :=
  e = .returned (.int .i64 (sendCode m l.length)) ∧ RNetPost r (if sendCode m l.length = 0 then l ++ [(m, false)] else l) M w w'
set_option maxHeartbeats 4000000 in
set_option maxRecDepth 100000 in
theorem rsend_any (w : World) (r : Nat) (l : List (Msg × Bool)) (M : Nat → Prop) (h : RNetV w r l M) (m : Msg) (A : Option Addr) (c : Nat) (B : Option Addr) (d : Nat) (hM : MsgC (fun b => b < w.heap.size) w m A c B d) (hF : m.Fit) :
    Calls Try.prog 86 #[.pointer (some ⟨r, 0, none⟩), .agg #[.int .i8 (Msg.kind m), .int .i64 (Msg.frm m), .int .i64 (Msg.to m), .int .i64 (Msg.boot m), .int .i64 (Msg.server m), .int .i64 (Msg.number m), .int .i64 (Msg.node m), .int .i64 (Msg.lease m), .int .i64 (Msg.epoch m), .int .i64 (Msg.version m), .int .i64 (Msg.e m), .slice B (Msg.steps m).length d, .int .i64 (Msg.tree m).id, .int .i64 (Msg.tree m).kind, .string (Msg.tree m).text, .slice A (Msg.tree m).kids.length c]] w (RSendPost r l M m w) := by
  have hCb : Chg [] w (w.alloc (.cells #[.int .i8 (Msg.kind m), .int .i64 (Msg.frm m), .int .i64 (Msg.to m), .int .i64 (Msg.boot m), .int .i64 (Msg.server m), .int .i64 (Msg.number m), .int .i64 (Msg.node m), .int .i64 (Msg.lease m), .int .i64 (Msg.epoch m), .int .i64 (Msg.version m), .int .i64 (Msg.e m), .slice B (Msg.steps m).length d, .int .i64 (Msg.tree m).id, .int .i64 (Msg.tree m).kind, .string (Msg.tree m).text, .slice A (Msg.tree m).kids.length c] 39)) := (by with_reducible repeat (first | exact Chg.refl _ _ | apply Chg.alloc | apply Chg.drew | apply Chg.drewN | (refine Chg.setCell ?_ _ _ (by simp))))
  have HV := Lib.hid (And.intro h (And.intro hM (And.intro hF hCb)))
  obtain ⟨vL, vH, css, h⟩ := h
  obtain ⟨Al, cl, rfl⟩ := h.sliceL
  obtain ⟨Ah, ch, rfl⟩ := h.sliceH
  have c0 := hCb.cell (cells2 h.box).1 (by simp)
  have HN := Lib.hid h
  clear h hM hF hCb
  by_cases h1 : inside m.frm = true
  · by_cases h2 : inside m.to = true
    · by_cases h3 : 1024 ≤ l.length
      · have hs : sendCode m l.length = 20 := by simp [sendCode, h1, h2, h3]
        have h3' : (1024 : Int) ≤ l.length := by omega
        unfold RSendPost
        rw [hs]
        clear hs
        go_enter Try.func86, Try.ntmps86
        go_wp2_with (first
          | (go_at_call 107; refine (raddress_any _ _).mono ?_; rintro e X ⟨rfl, rfl⟩)
          | fail)
        go_ret
        exact ⟨rfl, RNetPost.same HV.out.1 HV.out.2.2.2⟩
      · have hs : sendCode m l.length = 0 := by simp [sendCode, h1, h2, h3]
        have h3' : ¬ (1024 : Int) ≤ l.length := by omega
        unfold RSendPost
        rw [hs]
        clear hs
        go_enter Try.func86, Try.ntmps86
        go_wp2_with (first
          | (go_at_call 107; refine (raddress_any _ _).mono ?_; rintro e X ⟨rfl, rfl⟩)
          | fail)
        obtain ⟨X, hXe⟩ : ∃ X, X = w.alloc (.cells #[.int .i8 (Msg.kind m), .int .i64 (Msg.frm m), .int .i64 (Msg.to m), .int .i64 (Msg.boot m), .int .i64 (Msg.server m), .int .i64 (Msg.number m), .int .i64 (Msg.node m), .int .i64 (Msg.lease m), .int .i64 (Msg.epoch m), .int .i64 (Msg.version m), .int .i64 (Msg.e m), .slice B (Msg.steps m).length d, .int .i64 (Msg.tree m).id, .int .i64 (Msg.tree m).kind, .string (Msg.tree m).text, .slice A (Msg.tree m).kids.length c] 39) := ⟨_, rfl⟩
        rw [← hXe] at c0 ⊢
        have hwX : Chg [] w X := by rw [hXe]; exact (by with_reducible repeat (first | exact Chg.refl _ _ | apply Chg.alloc | apply Chg.drew | apply Chg.drewN | (refine Chg.setCell ?_ _ _ (by simp))))
        have kb : X.heap[w.heap.size]? = some (.cells #[.int .i8 (Msg.kind m), .int .i64 (Msg.frm m), .int .i64 (Msg.to m), .int .i64 (Msg.boot m), .int .i64 (Msg.server m), .int .i64 (Msg.number m), .int .i64 (Msg.node m), .int .i64 (Msg.lease m), .int .i64 (Msg.epoch m), .int .i64 (Msg.version m), .int .i64 (Msg.e m), .slice B (Msg.steps m).length d, .int .i64 (Msg.tree m).id, .int .i64 (Msg.tree m).kind, .string (Msg.tree m).text, .slice A (Msg.tree m).kids.length c] 39 (0, 0)) := by rw [hXe]; exact heap_new _ _ rfl
        have hcall := rcopy_any m A c B d X.drew ((HV.out.2.1.kept hwX.drew (by simp)).weak (fun b hb _ => by have := hwX.size; simp; omega)) HV.out.2.2.1
        have hrb : X.drew.rangeAt w.heap.size 0 (#[.int .i8 (Msg.kind m), .int .i64 (Msg.frm m), .int .i64 (Msg.to m), .int .i64 (Msg.boot m), .int .i64 (Msg.server m), .int .i64 (Msg.number m), .int .i64 (Msg.node m), .int .i64 (Msg.lease m), .int .i64 (Msg.epoch m), .int .i64 (Msg.version m), .int .i64 (Msg.e m), .slice B (Msg.steps m).length d, .int .i64 (Msg.tree m).id, .int .i64 (Msg.tree m).kind, .string (Msg.tree m).text, .slice A (Msg.tree m).kids.length c] : Array Value).toList := range_all kb
        have HX := Lib.hid (And.intro hcall (And.intro hwX (And.intro kb hrb)))
        clear hcall hwX kb hXe hrb
        obtain ⟨ip, hi, hz0, hz1, hz2⟩ := info_parts infoMsgF
        obtain ⟨iq, hj, hy0, hy1, hy2⟩ := info_parts infoBool
        have HI := Lib.hid (And.intro hi (And.intro hz0 (And.intro hz1 hz2)))
        have HJ := Lib.hid (And.intro hj (And.intro hy0 (And.intro hy1 hy2)))
        clear hi hz0 hz1 hz2 hj hy0 hy1 hy2
        refine wp_region_M (fun W => W.cell? ⟨r, 0, none⟩ = some (.slice Al l.length cl)) (fun k => [6, 7, 8, 11].contains k) (fun k => [11].contains k) (by kernel_rfl) ?_
        ((try dsimp only); (try simp only [Act.put, List.setIfInBounds_toArray, List.set_cons_zero, List.set_cons_succ]))
        refine M_pure (i := 0) (v := ?_) rfl (by kernel_rfl) (by kernel_rfl) (by kernel_rfl) (fun _ _ _ h => h) (by rfl) ?hy ?_; (case hy => (intro w; go_simp; with_reducible rfl)); ((try dsimp only); (try simp only [Act.put, List.setIfInBounds_toArray, List.set_cons_zero, List.set_cons_succ]))
        refine M_pure (i := 1) (v := ?_) rfl (by kernel_rfl) (by kernel_rfl) (by kernel_rfl) (fun _ _ _ h => h) (by rfl) ?hy ?_; (case hy => (intro w; go_simp; with_reducible rfl)); ((try dsimp only); (try simp only [Act.put, List.setIfInBounds_toArray, List.set_cons_zero, List.set_cons_succ]))
        refine M_pure (i := 2) (v := ?_) rfl (by kernel_rfl) (by kernel_rfl) (by kernel_rfl) (fun _ _ _ h => h) (by rfl) ?hy ?_; (case hy => (intro w; go_simp; with_reducible rfl)); ((try dsimp only); (try simp only [Act.put, List.setIfInBounds_toArray, List.set_cons_zero, List.set_cons_succ]))
        refine M_pure (i := 3) (v := ?_) rfl (by kernel_rfl) (by kernel_rfl) (by kernel_rfl) (fun _ _ _ h => h) (by rfl) ?hy ?_; (case hy => (intro w; go_simp; with_reducible rfl)); ((try dsimp only); (try simp only [Act.put, List.setIfInBounds_toArray, List.set_cons_zero, List.set_cons_succ]))
        refine M_semi (i := 4) (v := ?_) rfl (by kernel_rfl) (by kernel_rfl) (by kernel_rfl) (by kernel_rfl) (fun _ _ _ h => h) (by rfl) c0 ?hy ?_; (case hy => (intro w hS; go_simp; with_reducible rfl)); ((try dsimp only); (try simp only [Act.put, List.setIfInBounds_toArray, List.set_cons_zero, List.set_cons_succ]))
        refine M_take (i := 5) rfl (by kernel_rfl) (by kernel_rfl) (by kernel_rfl) (by kernel_rfl) (fun _ _ _ h => h) (by rfl) (exec_load_mid 39 (.tmp 3) rfl w.heap.size 0 rfl _ _ (w := X.drew) HX.out.2.2.2 Try.underlying39 rfl infoMsg) ?_; ((try dsimp only); (try simp only [Act.put, List.setIfInBounds_toArray, List.set_cons_zero, List.set_cons_succ]))
        refine M_eff (i := 6) rfl (by kernel_rfl) (by rfl) ?_
        go_wp2_with (go_at_call 108; refine HX.out.1.mono ?_; rintro e Y ⟨A1, c1, B1, d1, rfl, hM1, hXY⟩; have q0 := hXY.cell (show X.drew.cell? ⟨r, 0, none⟩ = _ from c0) (by simp); have HY := Lib.hid (And.intro hM1 hXY); clear hM1 hXY)
        refine ⟨q0, ?_⟩
        ((try dsimp only); (try simp only [Act.put, List.setIfInBounds_toArray, List.set_cons_zero, List.set_cons_succ]))
        refine M_eff (i := 7) rfl (by kernel_rfl) (by rfl) ?_
        refine wpList_slice_one rfl 22 39 (.tmp 27) rfl Try.underlying22 ip _ HI.out.1 HI.out.2.1 (by rw [HI.out.2.2.1]; rfl) (by rw [HI.out.2.2.1]; omega) (by rw [HI.out.2.2.1]; omega) _ rfl (by rw [HI.out.2.2.1]; rfl) ?_
        have hXa : Chg [] Y (Y.alloc (.cells (Value.agg #[.int .i8 (Msg.kind m), .int .i64 (Msg.frm m), .int .i64 (Msg.to m), .int .i64 (Msg.boot m), .int .i64 (Msg.server m), .int .i64 (Msg.number m), .int .i64 (Msg.node m), .int .i64 (Msg.lease m), .int .i64 (Msg.epoch m), .int .i64 (Msg.version m), .int .i64 (Msg.e m), .slice B1 (Msg.steps m).length d1, .int .i64 (Msg.tree m).id, .int .i64 (Msg.tree m).kind, .string (Msg.tree m).text, .slice A1 (Msg.tree m).kids.length c1]).cells 39)) := (by with_reducible repeat (first | exact Chg.refl _ _ | apply Chg.alloc | apply Chg.drew | apply Chg.drewN | (refine Chg.setCell ?_ _ _ (by simp))))
        have hwY : Chg [] w (Y.alloc (.cells (Value.agg #[.int .i8 (Msg.kind m), .int .i64 (Msg.frm m), .int .i64 (Msg.to m), .int .i64 (Msg.boot m), .int .i64 (Msg.server m), .int .i64 (Msg.number m), .int .i64 (Msg.node m), .int .i64 (Msg.lease m), .int .i64 (Msg.epoch m), .int .i64 (Msg.version m), .int .i64 (Msg.e m), .slice B1 (Msg.steps m).length d1, .int .i64 (Msg.tree m).id, .int .i64 (Msg.tree m).kind, .string (Msg.tree m).text, .slice A1 (Msg.tree m).kids.length c1]).cells 39)) := (HX.out.2.1.drew.trans HY.out.2).trans hXa
        have hrow' := (HN.out.row.kept hwY (by simp)).row
        rw [HN.out.len] at hrow'
        have h16 : ∀ u ∈ (#[.int .i8 (Msg.kind m), .int .i64 (Msg.frm m), .int .i64 (Msg.to m), .int .i64 (Msg.boot m), .int .i64 (Msg.server m), .int .i64 (Msg.number m), .int .i64 (Msg.node m), .int .i64 (Msg.lease m), .int .i64 (Msg.epoch m), .int .i64 (Msg.version m), .int .i64 (Msg.e m), .slice B1 (Msg.steps m).length d1, .int .i64 (Msg.tree m).id, .int .i64 (Msg.tree m).kind, .string (Msg.tree m).text, .slice A1 (Msg.tree m).kids.length c1] : Array Value).toList, u.oneCell' = true := by simp [Value.oneCell']
        have HR := Lib.hid (And.intro hXa hwY)
        refine wpList_nil ⟨hXa.cell q0 (by simp), ?_⟩
        clear hXa hwY
        ((try dsimp only); (try simp only [Act.put, List.setIfInBounds_toArray, List.set_cons_zero, List.set_cons_succ]))
        refine M_eff (i := 8) rfl (by kernel_rfl) (by rfl) ?_
        refine wpList_append_own_at _ rfl (.tmp 25) (.tmp 28) 22 rfl 0 39 ip _ 16 168 Try.underlying22 HI.out.1 HI.out.2.1 HI.out.2.2.1 HI.out.2.2.2 rfl (by omega) (.slice Al l.length cl) _ _ rfl hrow' ⟨Y.heap.size, 0, none⟩ 1 1 (#[.int .i8 (Msg.kind m), .int .i64 (Msg.frm m), .int .i64 (Msg.to m), .int .i64 (Msg.boot m), .int .i64 (Msg.server m), .int .i64 (Msg.number m), .int .i64 (Msg.node m), .int .i64 (Msg.lease m), .int .i64 (Msg.epoch m), .int .i64 (Msg.version m), .int .i64 (Msg.e m), .slice B1 (Msg.steps m).length d1, .int .i64 (Msg.tree m).id, .int .i64 (Msg.tree m).kind, .string (Msg.tree m).text, .slice A1 (Msg.tree m).kids.length c1] : Array Value).toList rfl rfl (fun j u hu => by rw [Addr.add_mid]; exact range_all (heap_new Y _ rfl) j u hu) h16 (by unfold maxLen; omega) (by omega) (by simp) ?_
        intro vL' Z hown' hgr _ hat
        have hC3 : Chg (Value.slice Al l.length cl).ownBlock.toList w Z := (HR.out.2.mono (by simp)).grown hgr (by intro k hk; rw [hk]; simp)
        have hbox := hC3.at HN.out.box (fun hm => (HN.out.ownL r (by simpa using hm)).2 rfl)
        have z0 := (cells2 hbox).1
        have zf := blkF hbox 0
        obtain ⟨A', c', rfl⟩ := own_slice hown'
        have HZ := Lib.hid (And.intro hown' (And.intro hgr (And.intro hat (And.intro hC3 hbox))))
        clear hown' hgr hat hC3 hbox hrow' h16 q0 c0
        refine wpList_nil ⟨z0, ?_⟩
        ((try dsimp only); (try simp only [Act.put, List.setIfInBounds_toArray, List.set_cons_zero, List.set_cons_succ]))
        refine M_pure (i := 9) (v := ?_) rfl (by kernel_rfl) (by kernel_rfl) (by kernel_rfl) (fun _ _ _ h => h) (by rfl) ?hy ?_; (case hy => (intro w; go_simp; with_reducible rfl)); ((try dsimp only); (try simp only [Act.put, List.setIfInBounds_toArray, List.set_cons_zero, List.set_cons_succ]))
        refine M_pure (i := 10) (v := ?_) rfl (by kernel_rfl) (by kernel_rfl) (by kernel_rfl) (fun _ _ _ h => h) (by rfl) ?hy ?_; (case hy => (intro w; go_simp; with_reducible rfl)); ((try dsimp only); (try simp only [Act.put, List.setIfInBounds_toArray, List.set_cons_zero, List.set_cons_succ]))
        refine M_brk (i := 11) rfl (by kernel_rfl) (by rfl) (by rfl) ?_
        go_wp2_with fail
        refine M_done (by kernel_rfl) ?_ _
        have hb1 : (Z.setCell ⟨r, 0, none⟩ (.slice A' (l.length + 1) c')).heap[r]? = some (.cells #[.slice A' (l.length + 1) c', .slice Ah l.length ch] 84 (0, 0)) := heap_setCell_same _ _ 0 _ _ _ HZ.out.2.2.2.2
        have e1 := (cells2 hb1).2
        obtain ⟨Z1, hZ1⟩ : ∃ Z1, Z1 = Z.setCell ⟨r, 0, none⟩ (.slice A' (l.length + 1) c') := ⟨_, rfl⟩
        rw [← hZ1] at hb1 e1 ⊢
        have hcH : Chg (r :: (Value.slice Al l.length cl).ownBlock.toList) w Z1 := by rw [hZ1]; exact (HZ.out.2.2.2.1.mono (fun x hx => by simp [hx])).setCell _ _ (by simp)
        have hhl : ∀ b, (Value.slice Ah l.length ch).ownBlock = some b → b ∉ r :: (Value.slice Al l.length cl).ownBlock.toList := fun b hb hm => by
          have := HN.out.ownH b hb
          simp only [List.mem_cons, Option.mem_toList] at hm
          rcases hm with rfl | hm
          · exact this.2.1 rfl
          · exact this.2.2 hm
        have hheld := own_kept (own_kept HN.out.held hcH hhl) ((Chg.refl [] Z1).alloc (.cells #[.bool false] 4)) (by simp)
        have H1 := Lib.hid (And.intro hb1 (And.intro (Eq.symm hZ1) hheld))
        clear hb1 hZ1 hcH hhl hheld z0 zf
        go_wp2_with (first
          | (refine wpList_append_own_at _ rfl (.tmp 36) (.tmp 37) 82 rfl 0 4 iq _ 1 1 Try.underlying82 HJ.out.1 HJ.out.2.1 HJ.out.2.2.1 HJ.out.2.2.2 rfl (by omega) (.slice Ah l.length ch) l.length _ rfl H1.out.2.2 ⟨Z1.heap.size, 0, none⟩ 1 1 [.bool false] rfl rfl (cell_one_new _ _ _) (by simp [Value.oneCell']) (by unfold maxLen; omega) (by omega) (by simp) ?_
             intro vH' Z2 hown2 hgr2 _ hat2
             have hC4 : Chg (Value.slice Ah l.length ch).ownBlock.toList Z1 Z2 := ((Chg.refl _ _).alloc _).grown hgr2 (by intro k hk; rw [hk]; simp)
             have hb2 := hC4.at H1.out.1 (fun hm => (HN.out.ownH r (by simpa using hm)).2.1 rfl)
             have z1 := (cells2 hb2).2
             have zf1 := blkF hb2 1
             obtain ⟨A2, c2, rfl⟩ := own_slice hown2
             have H2 := Lib.hid (And.intro hown2 (And.intro hgr2 hat2))
             clear hown2 hgr2 hat2 hC4 hb2)
          | fail)
        go_ret
        refine ⟨rfl, ?_⟩
        have hg := H2.out.2.1
        have ha := H2.out.2.2
        rw [← H1.out.2.1] at hg ha
        exact rnet_push HN.out HV.out.2.2.1 h3 HY.out.1 (by have := HX.out.2.1.size; simpa using this) HR.out.1 (by simp) HR.out.2 HZ.out.1 HZ.out.2.1 HZ.out.2.2.1 H2.out.1 hg ha
    · have h2' : inside m.to = false := by simpa using h2
      have hs : sendCode m l.length = 2 := by simp [sendCode, h2']
      unfold RSendPost
      rw [hs]
      clear hs h2
      go_enter Try.func86, Try.ntmps86
      go_wp2_with (first
        | (go_at_call 107; refine (raddress_any _ _).mono ?_; rintro e X ⟨rfl, rfl⟩)
        | fail)
      go_ret
      exact ⟨rfl, RNetPost.same HV.out.1 HV.out.2.2.2⟩
  · have h1' : inside m.frm = false := by simpa using h1
    have hs : sendCode m l.length = 2 := by simp [sendCode, h1']
    unfold RSendPost
    rw [hs]
    clear hs h1
    go_enter Try.func86, Try.ntmps86
    go_wp2_with (first
      | (go_at_call 107; refine (raddress_any _ _).mono ?_; rintro e X ⟨rfl, rfl⟩)
      | fail)
    go_ret
    exact ⟨rfl, RNetPost.same HV.out.1 HV.out.2.2.2⟩
end Go.Proofs.Ytipijkpjmpejlaa
