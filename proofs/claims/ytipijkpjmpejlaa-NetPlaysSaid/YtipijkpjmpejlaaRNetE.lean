import Derived.Test.YtipijkpjmpejlaaRNetD
/- The contracts of the reference's Double, Hold, Free, First, Clear. -/
set_option linter.unusedVariables false
set_option linter.unusedSimpArgs false
namespace Go.Proofs.Ytipijkpjmpejlaa
open Go.RowKit
set_option maxHeartbeats 4000000 in
set_option maxRecDepth 100000 in
theorem rdouble_any (w : World) (r : Nat) (l : List (Msg × Bool)) (M : Nat → Prop) (h : RNetV w r l M) (k : Int) : Calls Try.prog 89 #[.pointer (some ⟨r, 0, none⟩), .int .i64 k] w fun e w' => e = .returned (.int .i64 (dblCode l k)) ∧ RNetPost r (dblL l k) M w w' := by
  have hl := rlook_any w r l M h k
  have hm : (Try.prog.info? 39).map (·.size) = some 16 := infoMsg
  have HV := Lib.hid (And.intro h (And.intro hl hm))
  clear h hl hm
  go_enter Try.func89, Try.ntmps89
  go_wp2_with fail
  refine HV.out.2.1.mono ?_
  rintro e Y (⟨h1, rfl, hC⟩ | ⟨x, A, c, B, d, h0, hx, rfl, hM, hC⟩)
  · have hk : kth l k = none := if_neg h1
    have hd : dblCode l k = 4 := by simp [dblCode, hk]
    have hL : dblL l k = l := by simp [dblL, hk]
    have hCa : Chg [] Y (Y.alloc (.cells #[.int .i8 0, .int .i64 0, .int .i64 0, .int .i64 0, .int .i64 0, .int .i64 0, .int .i64 0, .int .i64 0, .int .i64 0, .int .i64 0, .int .i64 0, .slice none 0 0, .int .i64 0, .int .i64 0, .string ⟨#[]⟩, .slice none 0 0] 39)) := (by with_reducible repeat (first | exact Chg.refl _ _ | apply Chg.alloc | apply Chg.drew | apply Chg.drewN | (refine Chg.setCell ?_ _ _ (by simp))))
    have h1c : (#[.int .i8 0, .int .i64 0, .int .i64 0, .int .i64 0, .int .i64 0, .int .i64 0, .int .i64 0, .int .i64 0, .int .i64 0, .int .i64 0, .int .i64 0, .slice none 0 0, .int .i64 0, .int .i64 0, .string ⟨#[]⟩, .slice none 0 0] : Array Value).all (·.oneCell') = true := by simp [Value.oneCell']
    have HC := Lib.hid (And.intro (hC.trans hCa) h1c)
    have HD := Lib.hid (And.intro hd hL)
    clear h1 hk hd hL hC hCa h1c
    go_wp2_with (first
      | (refine wpList_store_row rfl 39 (.tmp 5) (.tmp 12) rfl Y.heap.size rfl #[.int .i8 0, .int .i64 0, .int .i64 0, .int .i64 0, .int .i64 0, .int .i64 0, .int .i64 0, .int .i64 0, .int .i64 0, .int .i64 0, .int .i64 0, .slice none 0 0, .int .i64 0, .int .i64 0, .string ⟨#[]⟩, .slice none 0 0] rfl _ _ (heap_new _ _ rfl) HV.out.2.2 rfl HC.out.2 ?_; rw [setRow_new])
      | fail)
    go_ret
    refine ⟨by rw [HD.out.1]; rfl, ?_⟩
    rw [HD.out.2]
    exact RNetPost.same HV.out.1 HC.out.1
  · have hlt := (List.getElem?_eq_some_iff.1 hx).1
    have hk : kth l k = some x := by rw [kth, if_pos (by omega)]; exact hx
    have hd : dblCode l k = sendCode x.1 l.length := by simp [dblCode, hk]
    have hL : dblL l k = if sendCode x.1 l.length = 0 then l ++ [(x.1, false)] else l := by simp [dblL, hk]
    have HD := Lib.hid (And.intro hd hL)
    have hCa : Chg [] Y (Y.alloc (.cells #[.int .i8 (Msg.kind x.1), .int .i64 (Msg.frm x.1), .int .i64 (Msg.to x.1), .int .i64 (Msg.boot x.1), .int .i64 (Msg.server x.1), .int .i64 (Msg.number x.1), .int .i64 (Msg.node x.1), .int .i64 (Msg.lease x.1), .int .i64 (Msg.epoch x.1), .int .i64 (Msg.version x.1), .int .i64 (Msg.e x.1), .slice B (Msg.steps x.1).length d, .int .i64 (Msg.tree x.1).id, .int .i64 (Msg.tree x.1).kind, .string (Msg.tree x.1).text, .slice A (Msg.tree x.1).kids.length c] 39)) := (by with_reducible repeat (first | exact Chg.refl _ _ | apply Chg.alloc | apply Chg.drew | apply Chg.drewN | (refine Chg.setCell ?_ _ _ (by simp))))
    have hfit : x.1.Fit := by
      obtain ⟨vL, vH, css, h⟩ := HV.out.1
      exact h.fit x (List.mem_of_getElem? hx)
    have hs := rsend_any (Y.alloc (.cells #[.int .i8 (Msg.kind x.1), .int .i64 (Msg.frm x.1), .int .i64 (Msg.to x.1), .int .i64 (Msg.boot x.1), .int .i64 (Msg.server x.1), .int .i64 (Msg.number x.1), .int .i64 (Msg.node x.1), .int .i64 (Msg.lease x.1), .int .i64 (Msg.epoch x.1), .int .i64 (Msg.version x.1), .int .i64 (Msg.e x.1), .slice B (Msg.steps x.1).length d, .int .i64 (Msg.tree x.1).id, .int .i64 (Msg.tree x.1).kind, .string (Msg.tree x.1).text, .slice A (Msg.tree x.1).kids.length c] 39)) r l M (HV.out.1.kept (hC.trans hCa) (by simp)) x.1 A c B d ((hM.kept hCa (by simp)).weak (fun b hb _ => by have := hb.2; simp; omega)) hfit
    have h1c : (#[.int .i8 (Msg.kind x.1), .int .i64 (Msg.frm x.1), .int .i64 (Msg.to x.1), .int .i64 (Msg.boot x.1), .int .i64 (Msg.server x.1), .int .i64 (Msg.number x.1), .int .i64 (Msg.node x.1), .int .i64 (Msg.lease x.1), .int .i64 (Msg.epoch x.1), .int .i64 (Msg.version x.1), .int .i64 (Msg.e x.1), .slice B (Msg.steps x.1).length d, .int .i64 (Msg.tree x.1).id, .int .i64 (Msg.tree x.1).kind, .string (Msg.tree x.1).text, .slice A (Msg.tree x.1).kids.length c] : Array Value).all (·.oneCell') = true := by simp [Value.oneCell']
    have HC := Lib.hid (And.intro hs (And.intro (hC.trans hCa) h1c))
    clear hd hL hk hx hM hC hCa hfit hs h1c hlt h0
    go_wp2_with (first
      | (refine wpList_store_row rfl 39 (.tmp 5) (.tmp 12) rfl Y.heap.size rfl #[.int .i8 (Msg.kind x.1), .int .i64 (Msg.frm x.1), .int .i64 (Msg.to x.1), .int .i64 (Msg.boot x.1), .int .i64 (Msg.server x.1), .int .i64 (Msg.number x.1), .int .i64 (Msg.node x.1), .int .i64 (Msg.lease x.1), .int .i64 (Msg.epoch x.1), .int .i64 (Msg.version x.1), .int .i64 (Msg.e x.1), .slice B (Msg.steps x.1).length d, .int .i64 (Msg.tree x.1).id, .int .i64 (Msg.tree x.1).kind, .string (Msg.tree x.1).text, .slice A (Msg.tree x.1).kids.length c] rfl _ _ (heap_new _ _ rfl) HV.out.2.2 rfl HC.out.2.2 ?_; rw [setRow_new])
      | (refine wpList_load_mid rfl 39 (.tmp 5) rfl Y.heap.size 0 rfl (#[.int .i8 (Msg.kind x.1), .int .i64 (Msg.frm x.1), .int .i64 (Msg.to x.1), .int .i64 (Msg.boot x.1), .int .i64 (Msg.server x.1), .int .i64 (Msg.number x.1), .int .i64 (Msg.node x.1), .int .i64 (Msg.lease x.1), .int .i64 (Msg.epoch x.1), .int .i64 (Msg.version x.1), .int .i64 (Msg.e x.1), .slice B (Msg.steps x.1).length d, .int .i64 (Msg.tree x.1).id, .int .i64 (Msg.tree x.1).kind, .string (Msg.tree x.1).text, .slice A (Msg.tree x.1).kids.length c] : Array Value).toList _ (range_all (heap_new _ _ rfl)) Try.underlying39 rfl HV.out.2.2 ?_)
      | (go_at_call 86; refine HC.out.1.mono ?_; rintro e Z ⟨rfl, hP⟩; have HP := Lib.hid hP; clear hP)
      | fail)
    go_ret
    refine ⟨by rw [HD.out.1]; rfl, ?_⟩
    rw [HD.out.2]
    exact HP.out.before HC.out.2.1
theorem own_set1 {w : World} {base g n c i : Nat} {e : TypeId} {xs : List Value} {u : Value} (h : w.ownsRow base e 1 (.slice (some ⟨g, 0, none⟩) n c) n xs) (hi : i < n) : (w.setCell ⟨g, i, none⟩ u).ownsRow base e 1 (.slice (some ⟨g, 0, none⟩) n c) n (xs.set i u) := by
  rcases h.2 with ⟨h0, _⟩ | ⟨g', c', C, hv, h2, h3, h4, h5, h6, h7⟩
  · cases h0
  · injection hv with hv1 _ hv3
    injection hv1 with hv1
    injection hv1 with hv1 _ _
    subst hv1 hv3
    refine ⟨by rw [List.length_set]; exact h.1, .inr ⟨g, c, C.setIfInBounds i u, rfl, h2, heap_setCell_same _ _ _ _ _ _ h3, h4, h5, by simpa using h6, ?_⟩⟩
    rw [Array.toList_setIfInBounds, List.take_set, h7]
theorem rnet_mark {w : World} {r : Nat} {l : List (Msg × Bool)} {M : Nat → Prop} {vL : Value} {g c i : Nat} {css : List (List Value)} {m : Msg} {hd : Bool} (HN : RNetW w r l M vL (.slice (some ⟨g, 0, none⟩) l.length c) css) (hx : l[i]? = some (m, hd)) (h' : Bool) :
    RNetW (w.setCell ⟨g, i, none⟩ (.bool h')) r (l.set i (m, h')) M vL (.slice (some ⟨g, 0, none⟩) l.length c) css := by
  have hlt := (List.getElem?_eq_some_iff.1 hx).1
  have hbg := HN.ownH g rfl
  have hS : Chg [g] w (w.setCell ⟨g, i, none⟩ (.bool h')) := (Chg.refl _ _).setCell _ _ (by simp)
  refine ⟨hS.at HN.box (by simp; exact fun e => hbg.2.1 e.symm), HN.row.kept hS (fun b hb hm => ?_), by simp [HN.len], ?_, ?_, HN.foot, HN.ownL, HN.ownH, ?_, by simpa using HN.most, fun x hx => by simpa using HN.low x hx⟩
  · simp at hm; subst hm; exact hbg.2.2 hb
  · intro j x cs h1 h2
    have key : ∀ y, l[j]? = some y → y.1 = x.1 → MsgI (fun b => M b ∧ b ≠ r ∧ vL.ownBlock ≠ some b ∧ (Value.slice (some ⟨g, 0, none⟩) l.length c).ownBlock ≠ some b) (w.setCell ⟨g, i, none⟩ (.bool h')) x.1 cs := fun y hy e => by
      have := HN.has j y cs hy h2
      rw [e] at this
      exact this.kept hS (fun b hb hm => by simp at hm; subst hm; exact hb.2.2.2 rfl)
    by_cases e : j = i
    · subst e
      rw [List.getElem?_set_self hlt] at h1
      injection h1 with h1
      subst h1
      exact key (m, hd) hx rfl
    · rw [List.getElem?_set_ne (fun h => e h.symm)] at h1
      exact key x h1 rfl
  · have := own_set1 (u := .bool h') HN.held hlt
    rw [List.length_set, show bools (l.set i (m, h')) = (bools l).set i (.bool h') from by simp [bools, List.map_set]]
    exact this
  · intro x hx2
    rcases List.mem_or_eq_of_mem_set hx2 with h | rfl
    · exact HN.fit x h
    · exact HN.fit (m, hd) (List.mem_of_getElem? hx)
set_option maxHeartbeats 4000000 in
set_option maxRecDepth 100000 in
theorem rhold_any (w : World) (r : Nat) (l : List (Msg × Bool)) (M : Nat → Prop) (h : RNetV w r l M) (k : Int) : Calls Try.prog 90 #[.pointer (some ⟨r, 0, none⟩), .int .i64 k] w fun e w' => e = .returned (.int .i64 (if 0 ≤ k ∧ k < l.length then 0 else 4)) ∧ RNetPost r (holdL l k) M w w' := by
  have HV := Lib.hid h
  obtain ⟨vL, vH, css, h⟩ := h
  obtain ⟨Al, cl, rfl⟩ := h.sliceL
  obtain ⟨Ah, ch, rfl⟩ := h.sliceH
  have c0 := (cells2 h.box).1
  have c1 := (cells2 h.box).2
  have HN := Lib.hid h
  clear h
  by_cases h1 : 0 ≤ k ∧ k < l.length
  · have hv : (if 0 ≤ k ∧ k < l.length then (0 : Int) else 4) = 0 := if_pos h1
    have hL : holdL l k = l.modify k.toNat (fun x => (x.1, true)) := if_pos h1
    rw [hL, hv]
    clear hL hv
    obtain ⟨i, rfl⟩ : ∃ i : Nat, k = i := ⟨k.toNat, by omega⟩
    have hlt : i < l.length := by omega
    obtain ⟨h1a, h1b⟩ := h1
    obtain ⟨bh, cbh, hv, ⟨Ch, hbh⟩, hhe⟩ := held_at HN.out.held (by omega)
    injection hv with hv1 hv2 hv3
    clear hv2
    subst hv1 hv3
    obtain ⟨⟨m, hd⟩, hx⟩ : ∃ x, l[i]? = some x := ⟨_, List.getElem?_eq_getElem hlt⟩
    have ch1 := hhe i _ hx
    have fh := blkF hbh i
    have HX := Lib.hid hx
    clear hx hhe hbh
    go_enter Try.func90, Try.ntmps90
    go_wp2
    go_ret
    have hw := rnet_mark HN.out HX.out true
    rw [show l.set i (m, true) = l.modify ((i : Int).toNat) (fun x => (x.1, true)) from by
      rw [Int.toNat_natCast]; exact set_modify HX.out (fun x => (x.1, true))] at hw
    exact ⟨rfl, M, [bh], ⟨_, _, _, hw⟩, fun b hb => .inl hb, (Chg.refl _ _).setCell _ _ (by simp), by simp; exact (HN.out.ownH bh rfl).1⟩
  · have hv : (if 0 ≤ k ∧ k < l.length then (0 : Int) else 4) = 4 := if_neg h1
    have hL : holdL l k = l := if_neg h1
    rw [hL, hv]
    clear hL hv
    by_cases hk0 : k < 0
    · clear h1
      go_enter Try.func90, Try.ntmps90
      go_wp2
      go_ret
      exact ⟨rfl, RNetPost.same HV.out (Chg.refl _ _)⟩
    · have hk1 : (l.length : Int) ≤ k := by omega
      clear h1
      go_enter Try.func90, Try.ntmps90
      go_wp2
      go_ret
      exact ⟨rfl, RNetPost.same HV.out (Chg.refl _ _)⟩
set_option maxHeartbeats 4000000 in
theorem rfree_any (w : World) (r : Nat) (l : List (Msg × Bool)) (M : Nat → Prop) (h : RNetV w r l M) : Calls Try.prog 92 #[.pointer (some ⟨r, 0, none⟩)] w fun e w' => e = .returned (.int .i64 (heldN l)) ∧ RNetPost r (l.map clr) M w w' := by
  have HV := Lib.hid h
  obtain ⟨vL, vH, css, h⟩ := h
  obtain ⟨Ah, ch, rfl⟩ := h.sliceH
  have HN := Lib.hid h
  clear h
  by_cases h0 : 0 < l.length
  · obtain ⟨bh, cbh, hv, ⟨Ch, hbh⟩, hhe⟩ := held_at HN.out.held h0
    injection hv with hv1 hv2 hv3
    clear hv2
    subst hv1 hv3
    clear hhe hbh
    have hl1024 : l.length ≤ 1024 := HN.out.most
    go_enter Try.func92, Try.ntmps92
    go_wp2
    go_loopw [3, 4] (fun n i wr => ∃ k : Nat, k ≤ l.length ∧ i = .int .i64 k ∧ n = .int .i64 (heldN (l.take k)) ∧ RNetW wr r (freed l k) M vL (.slice (some ⟨bh, 0, none⟩) l.length ch) css ∧ Chg [bh] w wr) (fun _ i _ => l.length - (intOf i).toNat)
    case atStart => exact ⟨0, Nat.zero_le _, rfl, rfl, by simpa [freed] using HN.out, Chg.refl _ _⟩
    case round =>
      obtain ⟨k, hk, rfl, rfl, hN, hc⟩ := hrel
      have c1 := (cells2 hN.box).2
      have hle := heldN_le (l.take k)
      have hlt2 : (l.take k).length ≤ k := List.length_take_le _ _
      by_cases hlt : k < l.length
      · obtain ⟨⟨m, hd⟩, hx⟩ : ∃ x, l[k]? = some x := ⟨_, List.getElem?_eq_getElem hlt⟩
        have hheld := hN.held
        obtain ⟨b', cb', hv2, ⟨C, hb⟩, hhe⟩ := held_at (v := .slice (some ⟨bh, 0, none⟩) l.length ch) hheld (by rw [freed_len]; omega)
        injection hv2 with hv1 hv4 hv3
        injection hv1 with hv1
        injection hv1 with hv1
        subst hv1
        have ch1 := hhe k _ (freed_at l k _ hx)
        have fh := blkF hb k
        have hnx := heldN_next l k _ hx
        obtain ⟨hw⟩ : Nonempty (RNetW (wr.setCell ⟨bh, k, none⟩ (.bool false)) r (freed l (k + 1)) M vL (.slice (some ⟨bh, 0, none⟩) l.length ch) css) := by
          have hw := rnet_mark (c := ch) (g := bh) (l := freed l k) (show RNetW wr r (freed l k) M vL (.slice (some ⟨bh, 0, none⟩) (freed l k).length ch) css by rw [freed_len]; exact hN) (freed_at l k _ hx) false
          rw [freed_next l k _ hx, show (freed l k).length = l.length from freed_len l k] at hw
          exact ⟨hw⟩
        have HX := Lib.hid (And.intro hw (And.intro hc hnx))
        clear hx hhe hb hN hc hnx hv3 hv4 hheld hw
        cases hd
        all_goals
          go_wp2
          go_roundw
          case rel => exact ⟨k + 1, by omega, by go_num, by rw [HX.out.2.2]; simp, HX.out.1, HX.out.2.1.setCell _ _ (by simp)⟩
          case measure => simp [intOf]; omega
      · have hke : k = l.length := by omega
        subst hke
        have HX := Lib.hid (And.intro hN hc)
        clear hN hc hlt hk
        go_wp2
        go_ret
        have hw := HX.out.1
        rw [show freed l l.length = l.map clr from by simp [freed]] at hw
        exact ⟨by first | rfl | (rw [List.take_length]; rfl), M, [bh], ⟨_, _, _, hw⟩, fun b hb => .inl hb, HX.out.2, by simp; exact (HN.out.ownH bh rfl).1⟩
  · have hl0 : l = [] := by
      cases l with
      | nil => rfl
      | cons _ _ => simp at h0
    subst hl0
    clear h0
    have c1 := (cells2 HN.out.box).2
    go_enter Try.func92, Try.ntmps92
    go_wp2
    go_loopw [3, 4] (fun n i wr => i = .int .i64 0 ∧ n = .int .i64 0 ∧ wr = w) (fun _ i _ => 0)
    case atStart => exact ⟨rfl, rfl, rfl⟩
    case round =>
      obtain ⟨rfl, rfl, rfl⟩ := hrel
      go_wp2
      go_ret
      exact ⟨rfl, RNetPost.same HV.out (Chg.refl _ _)⟩
set_option maxHeartbeats 4000000 in
theorem rfirst_any (w : World) (r : Nat) (l : List (Msg × Bool)) (M : Nat → Prop) (h : RNetV w r l M) : Calls Try.prog 93 #[.pointer (some ⟨r, 0, none⟩)] w fun e w' => e = .returned (.tuple #[.int .i64 (firstAt l 0).1, .bool (firstAt l 0).2]) ∧ w = w' := by
  obtain ⟨vL, vH, css, h⟩ := h
  obtain ⟨Ah, ch, rfl⟩ := h.sliceH
  have c1 := (cells2 h.box).2
  have hl1024 : l.length ≤ 1024 := h.most
  have hhe : 0 < l.length → ∃ g, Ah = some ⟨g, 0, none⟩ ∧ ∀ (i : Nat) x, l[i]? = some x → w.cell? ⟨g, i, none⟩ = some (.bool x.2) := fun h0 => by
    obtain ⟨g, c, hv, _, hh⟩ := held_at h.held h0
    injection hv with hv1 hv2 hv3
    exact ⟨g, hv1, hh⟩
  have HH := Lib.hid hhe
  clear h hhe
  go_enter Try.func93, Try.ntmps93
  go_wp2
  go_loop [4] (fun i => ∃ k : Nat, k ≤ l.length ∧ i = .int .i64 k ∧ firstAt (l.drop k) k = firstAt l 0) (fun i => l.length - (intOf i).toNat)
  case atStart => exact ⟨0, Nat.zero_le _, rfl, rfl⟩
  case round =>
    obtain ⟨k, hk, rfl, hf⟩ := hrel
    by_cases hlt : k < l.length
    · obtain ⟨g, rfl, hh⟩ := HH.out (by omega)
      obtain ⟨⟨m, hd⟩, hx⟩ : ∃ x, l[k]? = some x := ⟨_, List.getElem?_eq_getElem hlt⟩
      have ch1 := hh k _ hx
      have hxe : l[k] = (m, hd) := by rw [List.getElem?_eq_getElem hlt] at hx; exact Option.some.inj hx
      rw [List.drop_eq_getElem_cons hlt, hxe, firstAt] at hf
      have HF := Lib.hid hf
      clear hf hh hx hxe
      cases hd with
      | true =>
        go_wp2
        go_round
        case rel => exact ⟨k + 1, by omega, by go_num, by simpa using HF.out⟩
        case measure => simp [intOf]; omega
      | false =>
        go_wp2
        go_ret2
        exact ⟨by rw [← HF.out]; rfl, rfl⟩
    · obtain rfl : k = l.length := by omega
      rw [List.drop_length] at hf
      have HF := Lib.hid hf
      clear hf
      go_wp2
      go_ret2
      exact ⟨by rw [← HF.out]; rfl, rfl⟩
end Go.Proofs.Ytipijkpjmpejlaa
