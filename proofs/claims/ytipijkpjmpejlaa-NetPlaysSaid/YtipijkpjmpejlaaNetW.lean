import Derived.Test.YtipijkpjmpejlaaNetX
/- The contract of the law's wakes. -/
set_option linter.unusedVariables false
set_option linter.unusedSimpArgs false
namespace Go.Proofs.Ytipijkpjmpejlaa
open Go.RowKit
set_option maxHeartbeats 4000000 in
set_option maxRecDepth 100000 in
theorem nwakes_any (w : World) : Calls Try.prog 47 #[] w fun e w' => e = .returned (.bool true) ∧ Chg [] w w' := by
  have hm : (Try.prog.info? 39).map (·.size) = some 16 := infoMsg
  have HM := Lib.hid hm
  clear hm
  go_enter Try.func47, Try.ntmps47
  go_wp2_with fail
  refine (new_at w w [] (Chg.refl _ _) (by simp)).mono ?_
  rintro e W1 ⟨rfl, h1, -⟩
  have H1 := Lib.hid h1
  clear h1
  go_wp2_with fail
  refine (send_at H1.out (bareM 1 0 7) none 0 none 0 (bareM_c _ _ _ _ _) (bareM_fit _ _ _)).mono ?_
  rintro e W2 ⟨rfl, h2⟩
  rw [show sendCode (bareM 1 0 7) ([] : List (Msg × Bool)).length = 0 from rfl] at h2 ⊢
  have H2 := Lib.hid (show NetAt w W2 w.heap.size [(bareM 1 0 7, false)] [] from h2.1)
  clear h2
  go_wp2_with fail
  refine (send_at H2.out (bareM 0 2 8) none 0 none 0 (bareM_c _ _ _ _ _) (bareM_fit _ _ _)).mono ?_
  rintro e W3 ⟨rfl, h3⟩
  rw [show sendCode (bareM 0 2 8) [(bareM 1 0 7, false)].length = 0 from rfl] at h3 ⊢
  have H3 := Lib.hid (show NetAt w W3 w.heap.size [(bareM 1 0 7, false), (bareM 0 2 8, false)] [] from h3.1)
  clear h3
  go_wp2_with fail
  refine (hold_at H3.out 0).mono ?_
  rintro e W4 ⟨rfl, h4⟩
  have H4 := Lib.hid (show NetAt w W4 w.heap.size [(bareM 1 0 7, true), (bareM 0 2 8, false)] [] from h4.1)
  clear h4
  go_wp2_with fail
  refine (first_at H4.out).mono ?_
  rintro e W5 ⟨rfl, h5⟩
  rw [show firstAt [(bareM 1 0 7, true), (bareM 0 2 8, false)] 0 = (1, true) from rfl]
  have H5 := Lib.hid h5.1
  clear h5
  go_wp2_with fail
  refine (take_at H5.out 0).mono ?_
  rintro e W6 (⟨h6, _⟩ | ⟨x, A, c, B, d, -, hx, rfl, -, h6⟩)
  · exact absurd ⟨by omega, by simp⟩ h6
  · have hx' : x = (bareM 1 0 7, true) := by simpa using hx.symm
    subst hx'
    have H6 := Lib.hid (show NetAt w W6 w.heap.size [(bareM 0 2 8, false)] [] from h6.1)
    clear h6 hx
    have h1c : (#[.int .i8 (Msg.kind (bareM 1 0 7)), .int .i64 (Msg.frm (bareM 1 0 7)), .int .i64 (Msg.to (bareM 1 0 7)), .int .i64 (Msg.boot (bareM 1 0 7)), .int .i64 (Msg.server (bareM 1 0 7)), .int .i64 (Msg.number (bareM 1 0 7)), .int .i64 (Msg.node (bareM 1 0 7)), .int .i64 (Msg.lease (bareM 1 0 7)), .int .i64 (Msg.epoch (bareM 1 0 7)), .int .i64 (Msg.version (bareM 1 0 7)), .int .i64 (Msg.e (bareM 1 0 7)), .slice B (Msg.steps (bareM 1 0 7)).length d, .int .i64 (Msg.tree (bareM 1 0 7)).id, .int .i64 (Msg.tree (bareM 1 0 7)).kind, .string (Msg.tree (bareM 1 0 7)).text, .slice A (Msg.tree (bareM 1 0 7)).kids.length c] : Array Value).all (·.oneCell') = true := by simp [Value.oneCell']
    have HC := Lib.hid h1c
    clear h1c
    have hn : (bareM 1 0 7).number = 7 := rfl
    have hc6 : Chg [] W6 (W6.alloc (.cells #[.int .i8 (Msg.kind (bareM 1 0 7)), .int .i64 (Msg.frm (bareM 1 0 7)), .int .i64 (Msg.to (bareM 1 0 7)), .int .i64 (Msg.boot (bareM 1 0 7)), .int .i64 (Msg.server (bareM 1 0 7)), .int .i64 (Msg.number (bareM 1 0 7)), .int .i64 (Msg.node (bareM 1 0 7)), .int .i64 (Msg.lease (bareM 1 0 7)), .int .i64 (Msg.epoch (bareM 1 0 7)), .int .i64 (Msg.version (bareM 1 0 7)), .int .i64 (Msg.e (bareM 1 0 7)), .slice B (Msg.steps (bareM 1 0 7)).length d, .int .i64 (Msg.tree (bareM 1 0 7)).id, .int .i64 (Msg.tree (bareM 1 0 7)).kind, .string (Msg.tree (bareM 1 0 7)).text, .slice A (Msg.tree (bareM 1 0 7)).kids.length c] 39)) := (by with_reducible repeat (first | exact Chg.refl _ _ | apply Chg.alloc | apply Chg.drew | apply Chg.drewN | (refine Chg.setCell ?_ _ _ (by simp))))
    obtain ⟨W7, hW7⟩ : ∃ W7, W7 = W6.alloc (.cells #[.int .i8 (Msg.kind (bareM 1 0 7)), .int .i64 (Msg.frm (bareM 1 0 7)), .int .i64 (Msg.to (bareM 1 0 7)), .int .i64 (Msg.boot (bareM 1 0 7)), .int .i64 (Msg.server (bareM 1 0 7)), .int .i64 (Msg.number (bareM 1 0 7)), .int .i64 (Msg.node (bareM 1 0 7)), .int .i64 (Msg.lease (bareM 1 0 7)), .int .i64 (Msg.epoch (bareM 1 0 7)), .int .i64 (Msg.version (bareM 1 0 7)), .int .i64 (Msg.e (bareM 1 0 7)), .slice B (Msg.steps (bareM 1 0 7)).length d, .int .i64 (Msg.tree (bareM 1 0 7)).id, .int .i64 (Msg.tree (bareM 1 0 7)).kind, .string (Msg.tree (bareM 1 0 7)).text, .slice A (Msg.tree (bareM 1 0 7)).kids.length c] 39) := ⟨_, rfl⟩
    rw [← hW7] at hc6
    have h7 := H6.out.step0 hc6
    have hb7 : W7.cell? ⟨W6.heap.size, 5, none⟩ = some (.int .i64 7) := by
      rw [hW7]; exact range_all (heap_new W6 (.cells #[.int .i8 (Msg.kind (bareM 1 0 7)), .int .i64 (Msg.frm (bareM 1 0 7)), .int .i64 (Msg.to (bareM 1 0 7)), .int .i64 (Msg.boot (bareM 1 0 7)), .int .i64 (Msg.server (bareM 1 0 7)), .int .i64 (Msg.number (bareM 1 0 7)), .int .i64 (Msg.node (bareM 1 0 7)), .int .i64 (Msg.lease (bareM 1 0 7)), .int .i64 (Msg.epoch (bareM 1 0 7)), .int .i64 (Msg.version (bareM 1 0 7)), .int .i64 (Msg.e (bareM 1 0 7)), .slice B (Msg.steps (bareM 1 0 7)).length d, .int .i64 (Msg.tree (bareM 1 0 7)).id, .int .i64 (Msg.tree (bareM 1 0 7)).kind, .string (Msg.tree (bareM 1 0 7)).text, .slice A (Msg.tree (bareM 1 0 7)).kids.length c] 39 (0, 0)) rfl) 5 _ rfl
    have H7 := Lib.hid (And.intro (Eq.symm hW7) (And.intro h7 (len_at h7)))
    clear hc6 hW7 h7
    go_wp2_with (first
      | (refine wpList_store_row rfl 39 (.tmp 7) (.tmp 28) rfl W6.heap.size rfl #[.int .i8 (Msg.kind (bareM 1 0 7)), .int .i64 (Msg.frm (bareM 1 0 7)), .int .i64 (Msg.to (bareM 1 0 7)), .int .i64 (Msg.boot (bareM 1 0 7)), .int .i64 (Msg.server (bareM 1 0 7)), .int .i64 (Msg.number (bareM 1 0 7)), .int .i64 (Msg.node (bareM 1 0 7)), .int .i64 (Msg.lease (bareM 1 0 7)), .int .i64 (Msg.epoch (bareM 1 0 7)), .int .i64 (Msg.version (bareM 1 0 7)), .int .i64 (Msg.e (bareM 1 0 7)), .slice B (Msg.steps (bareM 1 0 7)).length d, .int .i64 (Msg.tree (bareM 1 0 7)).id, .int .i64 (Msg.tree (bareM 1 0 7)).kind, .string (Msg.tree (bareM 1 0 7)).text, .slice A (Msg.tree (bareM 1 0 7)).kids.length c] rfl _ _ (heap_new _ _ rfl) HM.out rfl HC.out ?_; rw [setRow_new, H7.out.1])
      | (go_at_call 44; refine H7.out.2.2.mono ?_; rintro e X ⟨rfl, rfl⟩; rw [show ((([(bareM 0 2 8, false)] : List (Msg × Bool)).length : Nat) : Int) = 1 from rfl])
      | fail)
    refine (clear_at H7.out.2.1 2).mono ?_
    rintro e W8 ⟨rfl, h8⟩
    rw [show ((([(bareM 0 2 8, false)] : List (Msg × Bool)).length - (keepM 2 [(bareM 0 2 8, false)]).length : Nat) : Int) = 1 from by simp [keepM, bareM]]
    have H8 := Lib.hid h8.1.chg
    clear h8
    go_wp2
    go_ret
    exact ⟨rfl, H8.out⟩
end Go.Proofs.Ytipijkpjmpejlaa
