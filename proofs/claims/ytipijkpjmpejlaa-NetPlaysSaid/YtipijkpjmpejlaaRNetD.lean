import Derived.Test.YtipijkpjmpejlaaRNetC
/- The walk of the reference's Take. -/
set_option linter.unusedVariables false
set_option linter.unusedSimpArgs false
namespace Go.Proofs.Ytipijkpjmpejlaa
open Go.RowKit
def RTakePost (r : Nat) (l : List (Msg × Bool)) (M : Nat → Prop) (k : Int) (w : World) (e : Ending) (w' : World) : Prop :=
  (¬ (0 ≤ k ∧ k < l.length) ∧ e = .returned (.tuple #[.agg #[.int .i8 0, .int .i64 0, .int .i64 0, .int .i64 0, .int .i64 0, .int .i64 0, .int .i64 0, .int .i64 0, .int .i64 0, .int .i64 0, .int .i64 0, .slice none 0 0, .int .i64 0, .int .i64 0, .string ⟨#[]⟩, .slice none 0 0], .int .i64 4]) ∧ Chg [] w w') ∨
  ∃ x A c B d, 0 ≤ k ∧ l[k.toNat]? = some x ∧ e = .returned (.tuple #[.agg #[.int .i8 (Msg.kind x.1), .int .i64 (Msg.frm x.1), .int .i64 (Msg.to x.1), .int .i64 (Msg.boot x.1), .int .i64 (Msg.server x.1), .int .i64 (Msg.number x.1), .int .i64 (Msg.node x.1), .int .i64 (Msg.lease x.1), .int .i64 (Msg.epoch x.1), .int .i64 (Msg.version x.1), .int .i64 (Msg.e x.1), .slice B (Msg.steps x.1).length d, .int .i64 (Msg.tree x.1).id, .int .i64 (Msg.tree x.1).kind, .string (Msg.tree x.1).text, .slice A (Msg.tree x.1).kids.length c], .int .i64 0]) ∧ MsgC (fun b => w.heap.size ≤ b ∧ b < w'.heap.size) w' x.1 A c B d ∧ RNetPost r (l.eraseIdx k.toNat) M w w'
theorem RNetPost.wrap {w Z w' w'' : World} {r k : Nat} {l : List (Msg × Bool)} {M : Nat → Prop} (h : RNetPost r l M Z w') (h0 : Chg [] w Z) (hc : Chg [k] w' w'') (hk : w.heap.size ≤ k) (hk2 : k < Z.heap.size) (hM : ∀ b, M b → b < w.heap.size) : RNetPost r l M w w'' := by
  obtain ⟨M', cl, h1, h2, h3, h4⟩ := h
  refine ⟨M', cl, h1.kept hc (fun b hb hm => ?_), fun b hb => (h2 b hb).imp id (fun h => Nat.le_trans h0.size h), ((h0.mono (by simp)).trans h3).andThen hc (fun j hj => .inr (by simp at hj; omega)), h4⟩
  simp at hm
  subst hm
  rcases h2 b hb with h | h
  · have := hM _ h; omega
  · omega
set_option maxHeartbeats 8000000 in
set_option maxRecDepth 100000 in
theorem rtake_any (w : World) (r : Nat) (l : List (Msg × Bool)) (M : Nat → Prop) (h : RNetV w r l M) (k : Int) : Calls Try.prog 87 #[.pointer (some ⟨r, 0, none⟩), .int .i64 k] w (RTakePost r l M k w) := by
  have hCb : Chg [] w (w.alloc (.cells #[.int .i8 0, .int .i64 0, .int .i64 0, .int .i64 0, .int .i64 0, .int .i64 0, .int .i64 0, .int .i64 0, .int .i64 0, .int .i64 0, .int .i64 0, .slice none 0 0, .int .i64 0, .int .i64 0, .string ⟨#[]⟩, .slice none 0 0] 39)) := (by with_reducible repeat (first | exact Chg.refl _ _ | apply Chg.alloc | apply Chg.drew | apply Chg.drewN | (refine Chg.setCell ?_ _ _ (by simp))))
  have hl := rlook_any _ r l M (h.kept hCb (by simp)) k
  have hm : (Try.prog.info? 39).map (·.size) = some 16 := infoMsg
  have HV := Lib.hid (And.intro h (And.intro hl (And.intro hm hCb)))
  have HB := Lib.hid (heap_new w (Obj.cells #[.int .i8 0, .int .i64 0, .int .i64 0, .int .i64 0, .int .i64 0, .int .i64 0, .int .i64 0, .int .i64 0, .int .i64 0, .int .i64 0, .int .i64 0, .slice none 0 0, .int .i64 0, .int .i64 0, .string ⟨#[]⟩, .slice none 0 0] 39 (0, 0)) rfl)
  clear h hl hm hCb
  go_enter Try.func87, Try.ntmps87
  go_wp2_with fail
  refine HV.out.2.1.mono ?_
  rintro e Y (⟨h1, rfl, hC⟩ | ⟨x, A, c, B, d, h0, hx, rfl, hM, hC⟩)
  · have kb := hC.at HB.out (by simp)
    have hlt := lt_of_block kb
    have HC := Lib.hid (And.intro h1 (And.intro kb (And.intro (HV.out.2.2.2.trans hC) hlt)))
    clear h1 kb hC hlt
    have h1c : (#[.int .i8 0, .int .i64 0, .int .i64 0, .int .i64 0, .int .i64 0, .int .i64 0, .int .i64 0, .int .i64 0, .int .i64 0, .int .i64 0, .int .i64 0, .slice none 0 0, .int .i64 0, .int .i64 0, .string ⟨#[]⟩, .slice none 0 0] : Array Value).all (·.oneCell') = true := by simp [Value.oneCell']
    have H1 := Lib.hid h1c
    clear h1c
    go_wp2_with (first
      | (refine wpList_store_row rfl 39 (.tmp 6) (.tmp 16) rfl Y.heap.size rfl #[.int .i8 0, .int .i64 0, .int .i64 0, .int .i64 0, .int .i64 0, .int .i64 0, .int .i64 0, .int .i64 0, .int .i64 0, .int .i64 0, .int .i64 0, .slice none 0 0, .int .i64 0, .int .i64 0, .string ⟨#[]⟩, .slice none 0 0] rfl _ _ (heap_new _ _ rfl) HV.out.2.2.1 rfl H1.out ?_; rw [setRow_new])
      | (refine wpList_load_mid rfl 39 (.tmp 6) rfl Y.heap.size 0 rfl (#[.int .i8 0, .int .i64 0, .int .i64 0, .int .i64 0, .int .i64 0, .int .i64 0, .int .i64 0, .int .i64 0, .int .i64 0, .int .i64 0, .int .i64 0, .slice none 0 0, .int .i64 0, .int .i64 0, .string ⟨#[]⟩, .slice none 0 0] : Array Value).toList _ (range_all (heap_new _ _ rfl)) Try.underlying39 rfl HV.out.2.2.1 ?_)
      | (refine wpList_store_row rfl 39 (.tmp 4) (.tmp 21) rfl w.heap.size rfl #[.int .i8 0, .int .i64 0, .int .i64 0, .int .i64 0, .int .i64 0, .int .i64 0, .int .i64 0, .int .i64 0, .int .i64 0, .int .i64 0, .int .i64 0, .slice none 0 0, .int .i64 0, .int .i64 0, .string ⟨#[]⟩, .slice none 0 0] rfl _ _ (heap_old HC.out.2.1 _) HV.out.2.2.1 rfl H1.out ?_)
      | fail)
    refine bodyPost_ret (v := .tuple #[.agg #[.int .i8 0, .int .i64 0, .int .i64 0, .int .i64 0, .int .i64 0, .int .i64 0, .int .i64 0, .int .i64 0, .int .i64 0, .int .i64 0, .int .i64 0, .slice none 0 0, .int .i64 0, .int .i64 0, .string ⟨#[]⟩, .slice none 0 0], .int .i64 4]) (results_row_tmp rfl _ _ w.heap.size _ _ _ _ _ rfl rfl (setRow_heap _ _ _ _ _ _ (heap_old HC.out.2.1 _)) Try.underlying39 rfl HV.out.2.2.1) rfl (.inl ⟨HC.out.1, rfl, ?_⟩)
    exact (HC.out.2.2.1.alloc _).andThen (setRow_chg _ _ _) (fun j hj => .inr (by simp at hj; omega))
  · obtain ⟨i, rfl⟩ : ∃ i : Nat, k = i := ⟨k.toNat, by omega⟩
    rw [Int.toNat_natCast] at hx
    have hi := (List.getElem?_eq_some_iff.1 hx).1
    have kb := hC.at HB.out (by simp)
    have hlt := lt_of_block kb
    have hsz := hC.size
    have hC2 : Chg [] w Y := HV.out.2.2.2.trans hC
    obtain ⟨vL, vH, css, HN⟩ := HV.out.1
    obtain ⟨Al, cl, rfl⟩ := HN.sliceL
    obtain ⟨Ah, ch, rfl⟩ := HN.sliceH
    have hrw := HN.low r HN.foot
    have hl1024 : l.length ≤ 1024 := HN.most
    obtain ⟨Z0, hZ0⟩ : ∃ Z0, Z0 = Y.alloc (.cells #[.int .i8 (Msg.kind x.1), .int .i64 (Msg.frm x.1), .int .i64 (Msg.to x.1), .int .i64 (Msg.boot x.1), .int .i64 (Msg.server x.1), .int .i64 (Msg.number x.1), .int .i64 (Msg.node x.1), .int .i64 (Msg.lease x.1), .int .i64 (Msg.epoch x.1), .int .i64 (Msg.version x.1), .int .i64 (Msg.e x.1), .slice B (Msg.steps x.1).length d, .int .i64 (Msg.tree x.1).id, .int .i64 (Msg.tree x.1).kind, .string (Msg.tree x.1).text, .slice A (Msg.tree x.1).kids.length c] 39) := ⟨_, rfl⟩
    have hYZ : Chg [] Y Z0 := by rw [hZ0]; exact (by with_reducible repeat (first | exact Chg.refl _ _ | apply Chg.alloc | apply Chg.drew | apply Chg.drewN | (refine Chg.setCell ?_ _ _ (by simp))))
    have hz6 : Z0.heap[Y.heap.size]? = some (.cells #[.int .i8 (Msg.kind x.1), .int .i64 (Msg.frm x.1), .int .i64 (Msg.to x.1), .int .i64 (Msg.boot x.1), .int .i64 (Msg.server x.1), .int .i64 (Msg.number x.1), .int .i64 (Msg.node x.1), .int .i64 (Msg.lease x.1), .int .i64 (Msg.epoch x.1), .int .i64 (Msg.version x.1), .int .i64 (Msg.e x.1), .slice B (Msg.steps x.1).length d, .int .i64 (Msg.tree x.1).id, .int .i64 (Msg.tree x.1).kind, .string (Msg.tree x.1).text, .slice A (Msg.tree x.1).kids.length c] 39 (0, 0)) := by rw [hZ0]; exact heap_new _ _ rfl
    have h1c : (#[.int .i8 (Msg.kind x.1), .int .i64 (Msg.frm x.1), .int .i64 (Msg.to x.1), .int .i64 (Msg.boot x.1), .int .i64 (Msg.server x.1), .int .i64 (Msg.number x.1), .int .i64 (Msg.node x.1), .int .i64 (Msg.lease x.1), .int .i64 (Msg.epoch x.1), .int .i64 (Msg.version x.1), .int .i64 (Msg.e x.1), .slice B (Msg.steps x.1).length d, .int .i64 (Msg.tree x.1).id, .int .i64 (Msg.tree x.1).kind, .string (Msg.tree x.1).text, .slice A (Msg.tree x.1).kids.length c] : Array Value).all (·.oneCell') = true := by simp [Value.oneCell']
    have hwZ := hC2.trans hYZ
    have hNz := HN.kept hwZ (by simp)
    have c0 := (cells2 hNz.box).1
    obtain ⟨ip, hi1, hz0, hz1, hz2⟩ := info_parts infoMsgF
    obtain ⟨iq, hj, hy0, hy1, hy2⟩ := info_parts infoBool
    have HI := Lib.hid (And.intro hi1 (And.intro hz0 (And.intro hz1 hz2)))
    have HJ := Lib.hid (And.intro hj (And.intro hy0 (And.intro hy1 hy2)))
    clear hi1 hz0 hz1 hz2 hj hy0 hy1 hy2
    have hTk0 : Tk Z0 Z0 l css i 0 (.slice none 0 0) (.slice none 0 0) := ⟨Chg.refl _ _, by simpa using RowR.nil Z0 16 39 Z0.heap.size, by simpa using World.ownsRow_nil Z0 Z0.heap.size 4 1, fun b hb => by cases hb⟩
    have HX := Lib.hid (And.intro hx (And.intro kb (And.intro hM (And.intro HN (And.intro hYZ (And.intro hz6 (And.intro h1c (And.intro hwZ (And.intro hNz (And.intro hTk0 (Eq.symm hZ0)))))))))))
    clear hx kb hM HN hYZ hz6 h1c hwZ hNz hTk0 hZ0 hC hC2
    go_wp2_with (first
      | (refine wpList_store_row rfl 39 (.tmp 6) (.tmp 16) rfl Y.heap.size rfl #[.int .i8 (Msg.kind x.1), .int .i64 (Msg.frm x.1), .int .i64 (Msg.to x.1), .int .i64 (Msg.boot x.1), .int .i64 (Msg.server x.1), .int .i64 (Msg.number x.1), .int .i64 (Msg.node x.1), .int .i64 (Msg.lease x.1), .int .i64 (Msg.epoch x.1), .int .i64 (Msg.version x.1), .int .i64 (Msg.e x.1), .slice B (Msg.steps x.1).length d, .int .i64 (Msg.tree x.1).id, .int .i64 (Msg.tree x.1).kind, .string (Msg.tree x.1).text, .slice A (Msg.tree x.1).kids.length c] rfl _ _ (heap_new _ _ rfl) HV.out.2.2.1 rfl HX.out.2.2.2.2.2.2.1 ?_; rw [setRow_new, HX.out.2.2.2.2.2.2.2.2.2.2])
      | fail)
    clear c0
    go_loopw [9, 10, 11] (fun v9 v10 iv wr => ∃ k : Nat, k ≤ l.length ∧ iv = .int .i64 k ∧ Hid (Tk Z0 wr l css i k v9 v10)) (fun _ _ iv _ => l.length - (intOf iv).toNat)
    case atStart => exact ⟨0, Nat.zero_le _, rfl, Lib.hid HX.out.2.2.2.2.2.2.2.2.2.1⟩
    case round =>
      obtain ⟨k, hk, rfl, HT⟩ := hrel
      have hNr := HX.out.2.2.2.2.2.2.2.2.1.kept HT.out.chg (by simp)
      have c0 := (cells2 hNr.box).1
      have c1 := (cells2 hNr.box).2
      by_cases hkl : k < l.length
      · by_cases hki : k = i
        · have hne : ((k : Int) != i) = false := by simp [hki]
          have HT2 := Lib.hid ((show Tk Z0 wr l css i (k + 1) _ _ from by have := HT.out; subst hki; exact this.skip HX.out.2.2.2.1.len hi))
          clear hNr hki HT
          go_wp2_with fail
          go_roundw
          case rel => exact ⟨k + 1, by omega, by go_num, HT2⟩
          case measure => simp [intOf]; omega
        · have hne : ((k : Int) != i) = true := by simp; omega
          obtain ⟨b, cb, C, hv, _, hb, hj1, hj2, hj3, hj4, hrg⟩ := hNr.row.block (by rw [hNr.len]; omega)
          clear hj1 hj2 hj3 hj4
          rw [hNr.len] at hv
          injection hv with hv1 hv2 hv3
          clear hv2
          subst hv1 hv3
          obtain ⟨bh, cbh, hv, ⟨Ch, hbh⟩, hhe⟩ := held_at hNr.held (by omega)
          injection hv with hv1 hv2 hv3
          clear hv2
          subst hv1 hv3
          have hic : k < css.length := by rw [hNr.len]; exact hkl
          obtain ⟨⟨m2, hd2⟩, hx2⟩ : ∃ x, l[k]? = some x := ⟨_, List.getElem?_eq_getElem hkl⟩
          obtain ⟨A2, c2, B2, d2, hcs, hM2⟩ := hNr.has k _ _ hx2 (List.getElem?_eq_getElem hic)
          have hr := hrg k hic
          rw [hcs] at hr
          have h16 : ∀ u ∈ (#[.int .i8 (Msg.kind m2), .int .i64 (Msg.frm m2), .int .i64 (Msg.to m2), .int .i64 (Msg.boot m2), .int .i64 (Msg.server m2), .int .i64 (Msg.number m2), .int .i64 (Msg.node m2), .int .i64 (Msg.lease m2), .int .i64 (Msg.epoch m2), .int .i64 (Msg.version m2), .int .i64 (Msg.e m2), .slice B2 (Msg.steps m2).length d2, .int .i64 (Msg.tree m2).id, .int .i64 (Msg.tree m2).kind, .string (Msg.tree m2).text, .slice A2 (Msg.tree m2).kids.length c2] : Array Value).toList, u.oneCell' = true := by simp [Value.oneCell']
          have ch1 := hhe k _ hx2
          have hZs := HT.out.chg.size
          have hrow := (HT.out.rowL.kept ((Chg.refl [] wr).alloc (.cells (Value.agg #[.int .i8 (Msg.kind m2), .int .i64 (Msg.frm m2), .int .i64 (Msg.to m2), .int .i64 (Msg.boot m2), .int .i64 (Msg.server m2), .int .i64 (Msg.number m2), .int .i64 (Msg.node m2), .int .i64 (Msg.lease m2), .int .i64 (Msg.epoch m2), .int .i64 (Msg.version m2), .int .i64 (Msg.e m2), .slice B2 (Msg.steps m2).length d2, .int .i64 (Msg.tree m2).id, .int .i64 (Msg.tree m2).kind, .string (Msg.tree m2).text, .slice A2 (Msg.tree m2).kids.length c2]).cells 39)) (by simp)).row
          have hle : ((css.take k).eraseIdx i).length ≤ 1024 := by
            have := List.length_eraseIdx_le (css.take k) i
            rw [List.length_take] at this
            omega
          have hleH : ((bools l).take k |>.eraseIdx i).length ≤ 1024 := by
            have := List.length_eraseIdx_le ((bools l).take k) i
            rw [List.length_take] at this
            omega
          have HR := Lib.hid (And.intro hr (And.intro h16 (And.intro hrow (And.intro hcs (And.intro hx2 (And.intro hbh hNr))))))
          clear hr h16 hrow hcs hx2 hbh hNr hrg hb hhe hM2
          go_wp2_with (first
            | (refine wpList_load_mid rfl 39 (.tmp 41) rfl b (k * 16) rfl (#[.int .i8 (Msg.kind m2), .int .i64 (Msg.frm m2), .int .i64 (Msg.to m2), .int .i64 (Msg.boot m2), .int .i64 (Msg.server m2), .int .i64 (Msg.number m2), .int .i64 (Msg.node m2), .int .i64 (Msg.lease m2), .int .i64 (Msg.epoch m2), .int .i64 (Msg.version m2), .int .i64 (Msg.e m2), .slice B2 (Msg.steps m2).length d2, .int .i64 (Msg.tree m2).id, .int .i64 (Msg.tree m2).kind, .string (Msg.tree m2).text, .slice A2 (Msg.tree m2).kids.length c2] : Array Value).toList _ HR.out.1 Try.underlying39 rfl HV.out.2.2.1 ?_)
            | (refine wpList_slice_one rfl 22 39 (.tmp 42) rfl Try.underlying22 ip _ HI.out.1 HI.out.2.1 (by rw [HI.out.2.2.1]; rfl) (by rw [HI.out.2.2.1]; omega) (by rw [HI.out.2.2.1]; omega) _ rfl (by rw [HI.out.2.2.1]; rfl) ?_)
            | (refine wpList_append_own_at _ rfl (.tmp 35) (.tmp 43) 22 rfl Z0.heap.size 39 ip _ 16 168 Try.underlying22 HI.out.1 HI.out.2.1 HI.out.2.2.1 HI.out.2.2.2 rfl (by omega) u9 ((css.take k).eraseIdx i).length _ rfl HR.out.2.2.1 ⟨wr.heap.size, 0, none⟩ 1 1 (#[.int .i8 (Msg.kind m2), .int .i64 (Msg.frm m2), .int .i64 (Msg.to m2), .int .i64 (Msg.boot m2), .int .i64 (Msg.server m2), .int .i64 (Msg.number m2), .int .i64 (Msg.node m2), .int .i64 (Msg.lease m2), .int .i64 (Msg.epoch m2), .int .i64 (Msg.version m2), .int .i64 (Msg.e m2), .slice B2 (Msg.steps m2).length d2, .int .i64 (Msg.tree m2).id, .int .i64 (Msg.tree m2).kind, .string (Msg.tree m2).text, .slice A2 (Msg.tree m2).kids.length c2] : Array Value).toList rfl rfl (fun j u hu => by rw [Addr.add_mid]; exact range_all (heap_new wr _ rfl) j u hu) HR.out.2.1 (by unfold maxLen; omega) (by omega) (by simp; omega) ?_
               intro v9' Z hown' hgr _ hat
               have cZ : Chg u9.ownBlock.toList wr Z := Chg.grown ((Chg.refl _ _).alloc (.cells (Value.agg #[.int .i8 (Msg.kind m2), .int .i64 (Msg.frm m2), .int .i64 (Msg.to m2), .int .i64 (Msg.boot m2), .int .i64 (Msg.server m2), .int .i64 (Msg.number m2), .int .i64 (Msg.node m2), .int .i64 (Msg.lease m2), .int .i64 (Msg.epoch m2), .int .i64 (Msg.version m2), .int .i64 (Msg.e m2), .slice B2 (Msg.steps m2).length d2, .int .i64 (Msg.tree m2).id, .int .i64 (Msg.tree m2).kind, .string (Msg.tree m2).text, .slice A2 (Msg.tree m2).kids.length c2]).cells 39)) hgr (by intro q hq; rw [hq]; simp)
               have hn9 : ∀ q, q ∈ u9.ownBlock.toList → Z0.heap.size ≤ q := fun q hq => (HT.out.rowL.own q (by simpa using hq)).1
               have hNZ := HR.out.2.2.2.2.2.2.kept cZ (fun q hq hm => by have := hn9 q hm; have := HX.out.2.2.2.2.2.2.2.2.1.low q hq; omega)
               have n1 := (cells2 hNZ.box).2
               have n2 : Z.cell? ⟨bh, k, none⟩ = some (.bool hd2) := cZ.cell ch1 (fun hm => by have := hn9 bh hm; have := HX.out.2.2.2.2.2.2.2.2.1.low bh (HX.out.2.2.2.2.2.2.2.2.1.ownH bh rfl).1; omega)
               have hrowH := own_kept (own_kept HT.out.rowH cZ (fun q hq hm => HT.out.apart q (by simpa using hm) hq)) ((Chg.refl [] Z).alloc (.cells #[.bool hd2] 4)) (by simp)
               have hbz : Z0.heap.size ≤ (Z.alloc (.cells #[.bool hd2] 4)).heap.size := by have := cZ.size; simp; omega
               have HZ := Lib.hid (And.intro hown' (And.intro hgr (And.intro hat (And.intro hrowH hbz))))
               clear hown' hgr hat cZ hn9 hNZ hrowH hbz c0 c1 ch1)
            | (refine wpList_append_own_at _ rfl (.tmp 45) (.tmp 53) 82 rfl Z0.heap.size 4 iq _ 1 1 Try.underlying82 HJ.out.1 HJ.out.2.1 HJ.out.2.2.1 HJ.out.2.2.2 rfl (by omega) u10 ((bools l).take k |>.eraseIdx i).length _ rfl HZ.out.2.2.2.1 ⟨Z.heap.size, 0, none⟩ 1 1 [.bool hd2] rfl rfl (cell_one_new _ _ _) (by simp [Value.oneCell']) (by unfold maxLen; omega) (by omega) HZ.out.2.2.2.2 ?_
               intro v10' Z2 hown2 hgr2 _ hat2
               have H2 := Lib.hid (And.intro hown2 (And.intro hgr2 hat2))
               clear hown2 hgr2 hat2)
            | fail)
          go_roundw
          case rel =>
            exact ⟨k + 1, by omega, by go_num, Lib.hid (HT.out.push HX.out.2.2.2.1.len hic HR.out.2.2.2.2.1 hki (by rw [HR.out.2.2.2.1]; rfl) (by rw [HR.out.2.2.2.1]; exact HZ.out.1) HZ.out.2.1 HZ.out.2.2.1 H2.out.1 H2.out.2.1 H2.out.2.2)⟩
          case measure => simp [intOf]; omega
      · obtain rfl : k = l.length := by omega
        obtain ⟨A9, c9, rfl⟩ := HT.out.rowL.slice
        obtain ⟨A10, c10, rfl⟩ := own_slice HT.out.rowH
        generalize hq9 : ((css.take l.length).eraseIdx i).length = q9 at *
        generalize hq10 : ((bools l).take l.length |>.eraseIdx i).length = q10 at *
        have f0 := blkF hNr.box 0
        have f1 := blkF hNr.box 1
        have hrY : r < Y.heap.size := by omega
        have hsz1 : (w.alloc (.cells #[.int .i8 0, .int .i64 0, .int .i64 0, .int .i64 0, .int .i64 0, .int .i64 0, .int .i64 0, .int .i64 0, .int .i64 0, .int .i64 0, .int .i64 0, .slice none 0 0, .int .i64 0, .int .i64 0, .string ⟨#[]⟩, .slice none 0 0] 39)).heap.size = w.heap.size + 1 := by simp
        have hP := rnet_erase HX.out.2.2.2.2.2.2.2.2.1 (Chg.refl _ _) HT.out hi
        obtain ⟨W', hW'⟩ : ∃ W', W' = (wr.setCell ⟨r, 0, none⟩ (.slice A9 q9 c9)).setCell ⟨r, 1, none⟩ (.slice A10 q10 c10) := ⟨_, rfl⟩
        have hcW : Chg [r] wr W' := by rw [hW']; exact ((Chg.refl _ _).setCell _ _ (by simp)).setCell _ _ (by simp)
        have k6 : W'.heap[Y.heap.size]? = some (.cells #[.int .i8 (Msg.kind x.1), .int .i64 (Msg.frm x.1), .int .i64 (Msg.to x.1), .int .i64 (Msg.boot x.1), .int .i64 (Msg.server x.1), .int .i64 (Msg.number x.1), .int .i64 (Msg.node x.1), .int .i64 (Msg.lease x.1), .int .i64 (Msg.epoch x.1), .int .i64 (Msg.version x.1), .int .i64 (Msg.e x.1), .slice B (Msg.steps x.1).length d, .int .i64 (Msg.tree x.1).id, .int .i64 (Msg.tree x.1).kind, .string (Msg.tree x.1).text, .slice A (Msg.tree x.1).kids.length c] 39 (0, 0)) := hcW.at (HT.out.chg.at HX.out.2.2.2.2.2.1 (by simp)) (by simp; omega)
        have k4 := hcW.at (HT.out.chg.at (HX.out.2.2.2.2.1.at HX.out.2.1 (by simp)) (by simp)) (by simp; omega)
        rw [← hW'] at hP
        have hZ0s : w.heap.size < Z0.heap.size := by have := HX.out.2.2.2.2.1.size; omega
        have hE := setRow_chg W' w.heap.size #[.int .i8 (Msg.kind x.1), .int .i64 (Msg.frm x.1), .int .i64 (Msg.to x.1), .int .i64 (Msg.boot x.1), .int .i64 (Msg.server x.1), .int .i64 (Msg.number x.1), .int .i64 (Msg.node x.1), .int .i64 (Msg.lease x.1), .int .i64 (Msg.epoch x.1), .int .i64 (Msg.version x.1), .int .i64 (Msg.e x.1), .slice B (Msg.steps x.1).length d, .int .i64 (Msg.tree x.1).id, .int .i64 (Msg.tree x.1).kind, .string (Msg.tree x.1).text, .slice A (Msg.tree x.1).kids.length c]
        have hMf := (((HX.out.2.2.1.kept (HX.out.2.2.2.2.1.trans HT.out.chg) (by simp)).kept hcW (fun b hb hm => by have := hb.1; simp at hm; omega)).kept hE (fun b hb hm => by have := hb.1; simp at hm; omega)).weak (ok' := fun b => w.heap.size ≤ b ∧ b < (W'.setRow w.heap.size #[.int .i8 (Msg.kind x.1), .int .i64 (Msg.frm x.1), .int .i64 (Msg.to x.1), .int .i64 (Msg.boot x.1), .int .i64 (Msg.server x.1), .int .i64 (Msg.number x.1), .int .i64 (Msg.node x.1), .int .i64 (Msg.lease x.1), .int .i64 (Msg.epoch x.1), .int .i64 (Msg.version x.1), .int .i64 (Msg.e x.1), .slice B (Msg.steps x.1).length d, .int .i64 (Msg.tree x.1).id, .int .i64 (Msg.tree x.1).kind, .string (Msg.tree x.1).text, .slice A (Msg.tree x.1).kids.length c]).heap.size) (fun b hb hlt => ⟨by have := hb.1; omega, hlt⟩)
        have HE := Lib.hid (And.intro hP (And.intro k6 (And.intro k4 (And.intro hE (And.intro hMf (And.intro (Eq.symm hW') hZ0s))))))
        clear hP hcW k6 k4 hE hMf hW' hNr hZ0s hq9 hq10 hsz1
        go_wp2_with (first
          | (rw [HE.out.2.2.2.2.2.1]; refine wpList_load_mid rfl 39 (.tmp 6) rfl Y.heap.size 0 rfl (#[.int .i8 (Msg.kind x.1), .int .i64 (Msg.frm x.1), .int .i64 (Msg.to x.1), .int .i64 (Msg.boot x.1), .int .i64 (Msg.server x.1), .int .i64 (Msg.number x.1), .int .i64 (Msg.node x.1), .int .i64 (Msg.lease x.1), .int .i64 (Msg.epoch x.1), .int .i64 (Msg.version x.1), .int .i64 (Msg.e x.1), .slice B (Msg.steps x.1).length d, .int .i64 (Msg.tree x.1).id, .int .i64 (Msg.tree x.1).kind, .string (Msg.tree x.1).text, .slice A (Msg.tree x.1).kids.length c] : Array Value).toList _ (range_all HE.out.2.1) Try.underlying39 rfl HV.out.2.2.1 ?_)
          | (refine wpList_load_mid rfl 39 (.tmp 6) rfl Y.heap.size 0 rfl (#[.int .i8 (Msg.kind x.1), .int .i64 (Msg.frm x.1), .int .i64 (Msg.to x.1), .int .i64 (Msg.boot x.1), .int .i64 (Msg.server x.1), .int .i64 (Msg.number x.1), .int .i64 (Msg.node x.1), .int .i64 (Msg.lease x.1), .int .i64 (Msg.epoch x.1), .int .i64 (Msg.version x.1), .int .i64 (Msg.e x.1), .slice B (Msg.steps x.1).length d, .int .i64 (Msg.tree x.1).id, .int .i64 (Msg.tree x.1).kind, .string (Msg.tree x.1).text, .slice A (Msg.tree x.1).kids.length c] : Array Value).toList _ (range_all HE.out.2.1) Try.underlying39 rfl HV.out.2.2.1 ?_)
          | (refine wpList_store_row rfl 39 (.tmp 4) (.tmp 63) rfl w.heap.size rfl #[.int .i8 (Msg.kind x.1), .int .i64 (Msg.frm x.1), .int .i64 (Msg.to x.1), .int .i64 (Msg.boot x.1), .int .i64 (Msg.server x.1), .int .i64 (Msg.number x.1), .int .i64 (Msg.node x.1), .int .i64 (Msg.lease x.1), .int .i64 (Msg.epoch x.1), .int .i64 (Msg.version x.1), .int .i64 (Msg.e x.1), .slice B (Msg.steps x.1).length d, .int .i64 (Msg.tree x.1).id, .int .i64 (Msg.tree x.1).kind, .string (Msg.tree x.1).text, .slice A (Msg.tree x.1).kids.length c] rfl _ _ HE.out.2.2.1 HV.out.2.2.1 rfl HX.out.2.2.2.2.2.2.1 ?_)
          | fail)
        exact bodyPost_ret (v := .tuple #[.agg #[.int .i8 (Msg.kind x.1), .int .i64 (Msg.frm x.1), .int .i64 (Msg.to x.1), .int .i64 (Msg.boot x.1), .int .i64 (Msg.server x.1), .int .i64 (Msg.number x.1), .int .i64 (Msg.node x.1), .int .i64 (Msg.lease x.1), .int .i64 (Msg.epoch x.1), .int .i64 (Msg.version x.1), .int .i64 (Msg.e x.1), .slice B (Msg.steps x.1).length d, .int .i64 (Msg.tree x.1).id, .int .i64 (Msg.tree x.1).kind, .string (Msg.tree x.1).text, .slice A (Msg.tree x.1).kids.length c], .int .i64 0]) (results_row_tmp rfl _ _ w.heap.size _ _ _ _ _ rfl rfl (setRow_heap _ _ _ _ _ _ HE.out.2.2.1) Try.underlying39 rfl HV.out.2.2.1) rfl (.inr ⟨x, A, c, B, d, by omega, by rw [Int.toNat_natCast]; exact HX.out.1, rfl, HE.out.2.2.2.2.1, by rw [Int.toNat_natCast]; exact HE.out.1.wrap HX.out.2.2.2.2.2.2.2.1 HE.out.2.2.2.1 (Nat.le_refl _) HE.out.2.2.2.2.2.2 HX.out.2.2.2.1.low⟩)
end Go.Proofs.Ytipijkpjmpejlaa
