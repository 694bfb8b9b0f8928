import Derived.Test.YtipijkpjmpejlaaNetW
/- The walk of NetFull. -/
set_option linter.unusedVariables false
set_option linter.unusedSimpArgs false
namespace Go.Proofs.Ytipijkpjmpejlaa
open Go.RowKit
set_option maxHeartbeats 8000000 in
set_option maxRecDepth 100000 in
theorem netFull_any (w : World) (number k : Int) : Calls Try.prog 8 #[.int .i64 number, .int .i64 k] w fun e w' => e = .returned (.bool true) ∧ Chg [] w w' := by
  have hm : (Try.prog.info? 39).map (·.size) = some 16 := infoMsg
  have HM := Lib.hid hm
  clear hm
  obtain ⟨p, hp1, hp2⟩ : ∃ p : Nat, p ≤ 1023 ∧ 1023 ≤ p := ⟨1023, by omega, by omega⟩
  go_enter Try.func8, Try.ntmps8
  go_wp2_with fail
  refine (new_at w w [] (Chg.refl _ _) (by simp)).mono ?_
  rintro e W1 ⟨rfl, h1, -⟩
  obtain ⟨W2, hW2⟩ : ∃ W2, W2 = W1.alloc (.cells #[.int .i8 (Msg.kind (bareM 1 0 number)), .int .i64 (Msg.frm (bareM 1 0 number)), .int .i64 (Msg.to (bareM 1 0 number)), .int .i64 (Msg.boot (bareM 1 0 number)), .int .i64 (Msg.server (bareM 1 0 number)), .int .i64 (Msg.number (bareM 1 0 number)), .int .i64 (Msg.node (bareM 1 0 number)), .int .i64 (Msg.lease (bareM 1 0 number)), .int .i64 (Msg.epoch (bareM 1 0 number)), .int .i64 (Msg.version (bareM 1 0 number)), .int .i64 (Msg.e (bareM 1 0 number)), .slice none (Msg.steps (bareM 1 0 number)).length 0, .int .i64 (Msg.tree (bareM 1 0 number)).id, .int .i64 (Msg.tree (bareM 1 0 number)).kind, .string (Msg.tree (bareM 1 0 number)).text, .slice none (Msg.tree (bareM 1 0 number)).kids.length 0] 39) := ⟨_, rfl⟩
  have h2 : NetAt w W2 w.heap.size [] [W1.heap.size] := by rw [hW2]; exact h1.more _
  have hb2 : W2.heap[W1.heap.size]? = some (.cells #[.int .i8 (Msg.kind (bareM 1 0 number)), .int .i64 (Msg.frm (bareM 1 0 number)), .int .i64 (Msg.to (bareM 1 0 number)), .int .i64 (Msg.boot (bareM 1 0 number)), .int .i64 (Msg.server (bareM 1 0 number)), .int .i64 (Msg.number (bareM 1 0 number)), .int .i64 (Msg.node (bareM 1 0 number)), .int .i64 (Msg.lease (bareM 1 0 number)), .int .i64 (Msg.epoch (bareM 1 0 number)), .int .i64 (Msg.version (bareM 1 0 number)), .int .i64 (Msg.e (bareM 1 0 number)), .slice none (Msg.steps (bareM 1 0 number)).length 0, .int .i64 (Msg.tree (bareM 1 0 number)).id, .int .i64 (Msg.tree (bareM 1 0 number)).kind, .string (Msg.tree (bareM 1 0 number)).text, .slice none (Msg.tree (bareM 1 0 number)).kids.length 0] 39 (0, 0)) := by rw [hW2]; exact heap_new _ _ rfl
  have h1c : (#[.int .i8 (Msg.kind (bareM 1 0 number)), .int .i64 (Msg.frm (bareM 1 0 number)), .int .i64 (Msg.to (bareM 1 0 number)), .int .i64 (Msg.boot (bareM 1 0 number)), .int .i64 (Msg.server (bareM 1 0 number)), .int .i64 (Msg.number (bareM 1 0 number)), .int .i64 (Msg.node (bareM 1 0 number)), .int .i64 (Msg.lease (bareM 1 0 number)), .int .i64 (Msg.epoch (bareM 1 0 number)), .int .i64 (Msg.version (bareM 1 0 number)), .int .i64 (Msg.e (bareM 1 0 number)), .slice none (Msg.steps (bareM 1 0 number)).length 0, .int .i64 (Msg.tree (bareM 1 0 number)).id, .int .i64 (Msg.tree (bareM 1 0 number)).kind, .string (Msg.tree (bareM 1 0 number)).text, .slice none (Msg.tree (bareM 1 0 number)).kids.length 0] : Array Value).all (·.oneCell') = true := by simp [Value.oneCell']
  have H1 := Lib.hid (And.intro h2 (And.intro hb2 (And.intro (Eq.symm hW2) h1c)))
  clear h1 h2 hb2 hW2 h1c
  go_wp2_with (first
    | (refine wpList_store_row rfl 39 (.tmp 6) (.tmp 12) rfl W1.heap.size rfl #[.int .i8 (Msg.kind (bareM 1 0 number)), .int .i64 (Msg.frm (bareM 1 0 number)), .int .i64 (Msg.to (bareM 1 0 number)), .int .i64 (Msg.boot (bareM 1 0 number)), .int .i64 (Msg.server (bareM 1 0 number)), .int .i64 (Msg.number (bareM 1 0 number)), .int .i64 (Msg.node (bareM 1 0 number)), .int .i64 (Msg.lease (bareM 1 0 number)), .int .i64 (Msg.epoch (bareM 1 0 number)), .int .i64 (Msg.version (bareM 1 0 number)), .int .i64 (Msg.e (bareM 1 0 number)), .slice none (Msg.steps (bareM 1 0 number)).length 0, .int .i64 (Msg.tree (bareM 1 0 number)).id, .int .i64 (Msg.tree (bareM 1 0 number)).kind, .string (Msg.tree (bareM 1 0 number)).text, .slice none (Msg.tree (bareM 1 0 number)).kids.length 0] rfl _ _ (heap_new _ _ rfl) HM.out rfl H1.out.2.2.2 ?_; rw [setRow_new, H1.out.2.2.1])
    | fail)
  go_loopw [7] (fun i wr => ∃ j : Nat, j ≤ p + 1 ∧ i = .int .i64 j ∧ NetAt w wr w.heap.size (List.replicate j (bareM 1 0 number, false)) [W1.heap.size] ∧ wr.heap[W1.heap.size]? = some (.cells #[.int .i8 (Msg.kind (bareM 1 0 number)), .int .i64 (Msg.frm (bareM 1 0 number)), .int .i64 (Msg.to (bareM 1 0 number)), .int .i64 (Msg.boot (bareM 1 0 number)), .int .i64 (Msg.server (bareM 1 0 number)), .int .i64 (Msg.number (bareM 1 0 number)), .int .i64 (Msg.node (bareM 1 0 number)), .int .i64 (Msg.lease (bareM 1 0 number)), .int .i64 (Msg.epoch (bareM 1 0 number)), .int .i64 (Msg.version (bareM 1 0 number)), .int .i64 (Msg.e (bareM 1 0 number)), .slice none (Msg.steps (bareM 1 0 number)).length 0, .int .i64 (Msg.tree (bareM 1 0 number)).id, .int .i64 (Msg.tree (bareM 1 0 number)).kind, .string (Msg.tree (bareM 1 0 number)).text, .slice none (Msg.tree (bareM 1 0 number)).kids.length 0] 39 (0, 0))) (fun i _ => 1024 - (intOf i).toNat)
  case atStart => exact ⟨0, by omega, rfl, H1.out.1, H1.out.2.1⟩
  case round =>
    obtain ⟨j, hj, rfl, hN, hB⟩ := hrel
    have hr := range_all hB
    have H2 := Lib.hid (And.intro hN (And.intro hB hr))
    clear hN hB hr
    by_cases hlt : j < p + 1
    · have hs := send_at H2.out.1 (bareM 1 0 number) none 0 none 0 (bareM_c _ _ _ _ _) (bareM_fit _ _ _)
      rw [List.length_replicate, show sendCode (bareM 1 0 number) j = 0 from by simp [sendCode, inside, bareM]; omega] at hs
      have HS := Lib.hid hs
      clear hs
      go_wp2_with (first
        | (refine wpList_load_mid rfl 39 (.tmp 6) rfl W1.heap.size 0 rfl (#[.int .i8 (Msg.kind (bareM 1 0 number)), .int .i64 (Msg.frm (bareM 1 0 number)), .int .i64 (Msg.to (bareM 1 0 number)), .int .i64 (Msg.boot (bareM 1 0 number)), .int .i64 (Msg.server (bareM 1 0 number)), .int .i64 (Msg.number (bareM 1 0 number)), .int .i64 (Msg.node (bareM 1 0 number)), .int .i64 (Msg.lease (bareM 1 0 number)), .int .i64 (Msg.epoch (bareM 1 0 number)), .int .i64 (Msg.version (bareM 1 0 number)), .int .i64 (Msg.e (bareM 1 0 number)), .slice none (Msg.steps (bareM 1 0 number)).length 0, .int .i64 (Msg.tree (bareM 1 0 number)).id, .int .i64 (Msg.tree (bareM 1 0 number)).kind, .string (Msg.tree (bareM 1 0 number)).text, .slice none (Msg.tree (bareM 1 0 number)).kids.length 0] : Array Value).toList _ H2.out.2.2 Try.underlying39 rfl HM.out ?_)
        | (go_at_call 42; refine HS.out.mono ?_; rintro e W3 ⟨rfl, h3⟩; have H3 := Lib.hid h3; clear h3)
        | fail)
      go_roundw
      case rel => exact ⟨j + 1, by omega, by go_num, by rw [List.replicate_succ']; exact H3.out.1, H3.out.at H2.out.2.1 (by simp)⟩
      case measure => simp [intOf]; omega
    · obtain rfl : j = p + 1 := by omega
      have hb := Int.tmod_lt_of_pos k (show (0 : Int) < 1024 by omega)
      have hb2 := Int.lt_tmod_of_pos k (show (0 : Int) < 1024 by omega)
      go_wp2_with fail
      obtain ⟨kk, hkk⟩ : ∃ kk : Nat, (kk : Int) = k.tmod 1024 % 1024 := ⟨(k.tmod 1024 % 1024).toNat, by omega⟩
      have hk2 : (k.tmod 1024 + 1024) % 1024 = kk := by omega
      have hklt : kk < p + 1 := by omega
      rw [← hkk, hk2]
      have HK := Lib.hid (And.intro hkk hk2)
      clear hkk hk2 hb hb2
      refine (take_at H2.out.1 kk).mono ?_
      rintro e W3 (⟨h3, _⟩ | ⟨x, A, c, B, d, -, hx, rfl, -, h3⟩)
      · exact absurd ⟨by omega, by simp; omega⟩ h3
      · have hx' : x = (bareM 1 0 number, false) := by
          rw [Int.toNat_natCast, List.getElem?_replicate, if_pos hklt] at hx
          exact (Option.some.inj hx).symm
        subst hx'
        rw [Int.toNat_natCast, show (List.replicate (p + 1) (bareM 1 0 number, false)).eraseIdx kk = List.replicate p (bareM 1 0 number, false) from by rw [List.eraseIdx_replicate, if_pos hklt]; rfl] at h3
        have hB3 := h3.at H2.out.2.1 (by simp)
        have h1c : (#[.int .i8 (Msg.kind (bareM 1 0 number)), .int .i64 (Msg.frm (bareM 1 0 number)), .int .i64 (Msg.to (bareM 1 0 number)), .int .i64 (Msg.boot (bareM 1 0 number)), .int .i64 (Msg.server (bareM 1 0 number)), .int .i64 (Msg.number (bareM 1 0 number)), .int .i64 (Msg.node (bareM 1 0 number)), .int .i64 (Msg.lease (bareM 1 0 number)), .int .i64 (Msg.epoch (bareM 1 0 number)), .int .i64 (Msg.version (bareM 1 0 number)), .int .i64 (Msg.e (bareM 1 0 number)), .slice B (Msg.steps (bareM 1 0 number)).length d, .int .i64 (Msg.tree (bareM 1 0 number)).id, .int .i64 (Msg.tree (bareM 1 0 number)).kind, .string (Msg.tree (bareM 1 0 number)).text, .slice A (Msg.tree (bareM 1 0 number)).kids.length c] : Array Value).all (·.oneCell') = true := by simp [Value.oneCell']
        have hn : (bareM 1 0 number).number = number := rfl
        have hpe : ((p : Int) == 1023) = true := by simp; omega
        obtain ⟨W4, hW4⟩ : ∃ W4, W4 = W3.alloc (.cells #[.int .i8 (Msg.kind (bareM 1 0 number)), .int .i64 (Msg.frm (bareM 1 0 number)), .int .i64 (Msg.to (bareM 1 0 number)), .int .i64 (Msg.boot (bareM 1 0 number)), .int .i64 (Msg.server (bareM 1 0 number)), .int .i64 (Msg.number (bareM 1 0 number)), .int .i64 (Msg.node (bareM 1 0 number)), .int .i64 (Msg.lease (bareM 1 0 number)), .int .i64 (Msg.epoch (bareM 1 0 number)), .int .i64 (Msg.version (bareM 1 0 number)), .int .i64 (Msg.e (bareM 1 0 number)), .slice B (Msg.steps (bareM 1 0 number)).length d, .int .i64 (Msg.tree (bareM 1 0 number)).id, .int .i64 (Msg.tree (bareM 1 0 number)).kind, .string (Msg.tree (bareM 1 0 number)).text, .slice A (Msg.tree (bareM 1 0 number)).kids.length c] 39) := ⟨_, rfl⟩
        have h4 : NetAt w W4 w.heap.size (List.replicate p (bareM 1 0 number, false)) [W1.heap.size] := by rw [hW4]; exact h3.1.step0 (by with_reducible repeat (first | exact Chg.refl _ _ | apply Chg.alloc | apply Chg.drew | apply Chg.drewN | (refine Chg.setCell ?_ _ _ (by simp))))
        have hB4 : W4.heap[W1.heap.size]? = some (.cells #[.int .i8 (Msg.kind (bareM 1 0 number)), .int .i64 (Msg.frm (bareM 1 0 number)), .int .i64 (Msg.to (bareM 1 0 number)), .int .i64 (Msg.boot (bareM 1 0 number)), .int .i64 (Msg.server (bareM 1 0 number)), .int .i64 (Msg.number (bareM 1 0 number)), .int .i64 (Msg.node (bareM 1 0 number)), .int .i64 (Msg.lease (bareM 1 0 number)), .int .i64 (Msg.epoch (bareM 1 0 number)), .int .i64 (Msg.version (bareM 1 0 number)), .int .i64 (Msg.e (bareM 1 0 number)), .slice none (Msg.steps (bareM 1 0 number)).length 0, .int .i64 (Msg.tree (bareM 1 0 number)).id, .int .i64 (Msg.tree (bareM 1 0 number)).kind, .string (Msg.tree (bareM 1 0 number)).text, .slice none (Msg.tree (bareM 1 0 number)).kids.length 0] 39 (0, 0)) := by rw [hW4]; exact heap_old hB3 _
        have hx4 : W4.cell? ⟨W3.heap.size, 5, none⟩ = some (.int .i64 number) := by
          rw [hW4]; exact range_all (heap_new W3 (.cells #[.int .i8 (Msg.kind (bareM 1 0 number)), .int .i64 (Msg.frm (bareM 1 0 number)), .int .i64 (Msg.to (bareM 1 0 number)), .int .i64 (Msg.boot (bareM 1 0 number)), .int .i64 (Msg.server (bareM 1 0 number)), .int .i64 (Msg.number (bareM 1 0 number)), .int .i64 (Msg.node (bareM 1 0 number)), .int .i64 (Msg.lease (bareM 1 0 number)), .int .i64 (Msg.epoch (bareM 1 0 number)), .int .i64 (Msg.version (bareM 1 0 number)), .int .i64 (Msg.e (bareM 1 0 number)), .slice B (Msg.steps (bareM 1 0 number)).length d, .int .i64 (Msg.tree (bareM 1 0 number)).id, .int .i64 (Msg.tree (bareM 1 0 number)).kind, .string (Msg.tree (bareM 1 0 number)).text, .slice A (Msg.tree (bareM 1 0 number)).kids.length c] 39 (0, 0)) rfl) 5 _ rfl
        have hl4 := len_at h4
        rw [List.length_replicate] at hl4
        have hd4 := double_at h4 0
        have hq4 : kth (List.replicate p (bareM 1 0 number, false)) 0 = some (bareM 1 0 number, false) := by
          have h1 : 0 < p := by omega
          rw [kth, if_pos ⟨Int.le_refl _, by rw [List.length_replicate]; omega⟩, show ((0 : Int).toNat) = 0 from rfl, List.getElem?_replicate, if_pos h1]
        have hc4 : dblCode (List.replicate p (bareM 1 0 number, false)) 0 = 0 := by rw [dblCode, hq4]; simp [sendCode, inside, bareM]; omega
        have hL4 : dblL (List.replicate p (bareM 1 0 number, false)) 0 = List.replicate (p + 1) (bareM 1 0 number, false) := by
          have e : sendCode (bareM 1 0 number) p = 0 := by simp [sendCode, inside, bareM]; omega
          rw [dblL, hq4]
          simp only [List.length_replicate, e, if_true]
          exact List.replicate_succ'.symm
        rw [hc4, hL4] at hd4
        have H4 := Lib.hid (And.intro h4 (And.intro hB4 (And.intro (Eq.symm hW4) (And.intro h1c (And.intro hl4 hd4)))))
        clear h3 hB3 hx h1c hW4 h4 hB4 hl4 hd4 hq4 hc4 hL4
        go_wp2_with (first
          | (refine wpList_store_row rfl 39 (.tmp 8) (.tmp 29) rfl W3.heap.size rfl #[.int .i8 (Msg.kind (bareM 1 0 number)), .int .i64 (Msg.frm (bareM 1 0 number)), .int .i64 (Msg.to (bareM 1 0 number)), .int .i64 (Msg.boot (bareM 1 0 number)), .int .i64 (Msg.server (bareM 1 0 number)), .int .i64 (Msg.number (bareM 1 0 number)), .int .i64 (Msg.node (bareM 1 0 number)), .int .i64 (Msg.lease (bareM 1 0 number)), .int .i64 (Msg.epoch (bareM 1 0 number)), .int .i64 (Msg.version (bareM 1 0 number)), .int .i64 (Msg.e (bareM 1 0 number)), .slice B (Msg.steps (bareM 1 0 number)).length d, .int .i64 (Msg.tree (bareM 1 0 number)).id, .int .i64 (Msg.tree (bareM 1 0 number)).kind, .string (Msg.tree (bareM 1 0 number)).text, .slice A (Msg.tree (bareM 1 0 number)).kids.length c] rfl _ _ (heap_new _ _ rfl) HM.out rfl H4.out.2.2.2.1 ?_; rw [setRow_new, H4.out.2.2.1])
          | (go_at_call 44; refine H4.out.2.2.2.2.1.mono ?_; rintro e X ⟨rfl, rfl⟩)
          | fail)
        refine H4.out.2.2.2.2.2.mono ?_
        rintro e W5 ⟨rfl, h5⟩
        have hB5 := h5.at H4.out.2.1 (by simp)
        have h50 := h5.1
        have hq5 : dblCode (List.replicate (p + 1) (bareM 1 0 number, false)) kk = 20 := by
          rw [dblCode, kth, if_pos ⟨by omega, by rw [List.length_replicate]; omega⟩, Int.toNat_natCast, List.getElem?_replicate, if_pos hklt]
          simp [sendCode, inside, bareM]; omega
        have hL5 : dblL (List.replicate (p + 1) (bareM 1 0 number, false)) kk = List.replicate (p + 1) (bareM 1 0 number, false) := by
          have e : sendCode (bareM 1 0 number) (p + 1) = 20 := by simp [sendCode, inside, bareM]; omega
          rw [dblL, kth, if_pos ⟨by omega, by rw [List.length_replicate]; omega⟩, Int.toNat_natCast, List.getElem?_replicate, if_pos hklt]
          simp only [List.length_replicate, e]
          rfl
        have hd5 := double_at h50 kk
        rw [hq5, hL5] at hd5
        have H5 := Lib.hid (And.intro h50 (And.intro hB5 hd5))
        clear h5 hB5 h50 hd5 hq5 hL5 hx4 hpe
        go_wp2_with fail
        refine H5.out.2.2.mono ?_
        rintro e W6 ⟨rfl, h6⟩
        have hB6 := h6.at H5.out.2.1 (by simp)
        have h60 := h6.1
        have hs6 := send_at h60 (bareM 1 0 number) none 0 none 0 (bareM_c _ _ _ _ _) (bareM_fit _ _ _)
        rw [List.length_replicate, show sendCode (bareM 1 0 number) (p + 1) = 20 from by simp [sendCode, inside, bareM]; omega] at hs6
        have H6 := Lib.hid (And.intro hs6 (range_all hB6))
        clear h6 hB6 h60 hs6
        go_wp2_with (first
          | (refine wpList_guard rfl (exec_load_mid 39 (.tmp 6) rfl W1.heap.size 0 rfl (#[.int .i8 (Msg.kind (bareM 1 0 number)), .int .i64 (Msg.frm (bareM 1 0 number)), .int .i64 (Msg.to (bareM 1 0 number)), .int .i64 (Msg.boot (bareM 1 0 number)), .int .i64 (Msg.server (bareM 1 0 number)), .int .i64 (Msg.number (bareM 1 0 number)), .int .i64 (Msg.node (bareM 1 0 number)), .int .i64 (Msg.lease (bareM 1 0 number)), .int .i64 (Msg.epoch (bareM 1 0 number)), .int .i64 (Msg.version (bareM 1 0 number)), .int .i64 (Msg.e (bareM 1 0 number)), .slice none (Msg.steps (bareM 1 0 number)).length 0, .int .i64 (Msg.tree (bareM 1 0 number)).id, .int .i64 (Msg.tree (bareM 1 0 number)).kind, .string (Msg.tree (bareM 1 0 number)).text, .slice none (Msg.tree (bareM 1 0 number)).kids.length 0] : Array Value).toList _ H6.out.2 Try.underlying39 rfl HM.out) ?_)
          | fail)
        refine H6.out.1.mono ?_
        rintro e W7 ⟨rfl, h7⟩
        rw [if_neg (by omega)] at h7
        have hk7 : keepM 0 (List.replicate (p + 1) (bareM 1 0 number, false)) = [] := by
          rw [keepM, List.filter_replicate, if_neg (by simp [bareM])]
        have hc7 := clear_at h7.1 0
        rw [hk7, List.length_replicate, show p + 1 - ([] : List (Msg × Bool)).length = p + 1 from rfl] at hc7
        have hp3 : (((p + 1 : Nat) : Int) == 1024) = true := by simp; omega
        have hp4 : ((p : Int) + 1 == 1024) = true := by simp; omega
        have H7 := Lib.hid hc7
        clear h7 hk7 hc7
        go_wp2_with fail
        refine H7.out.mono ?_
        rintro e W8 ⟨rfl, h8⟩
        have hl8 := len_at h8.1
        have H8 := Lib.hid (And.intro h8.1 hl8)
        clear h8 hl8
        go_wp2_with fail
        refine H8.out.2.mono ?_
        rintro e X ⟨rfl, rfl⟩
        go_wp2_with fail
        refine (nwakes_any _).mono ?_
        rintro e W9 ⟨rfl, h9⟩
        have H9 := Lib.hid (H8.out.1.chg.trans h9)
        clear h9
        go_wp2
        go_ret
        exact ⟨rfl, H9.out⟩
end Go.Proofs.Ytipijkpjmpejlaa
