import Derived.Test.YtipijkpjmpejlaaPgT
/- The walk of the law PagesNil. -/
set_option linter.unusedVariables false
set_option linter.unusedSimpArgs false
namespace Go.Proofs.Ytipijkpjmpejlaa
open Go.RowKit
set_option maxHeartbeats 4000000 in
theorem rparts_any (n : Int) (w : World) : Calls Try.prog 67 #[.int .i64 n] w fun e w' => e = .returned (.int .i64 (partsN n)) ∧ w = w' := by
  by_cases h1 : n < 0
  · have d1 : decide (n < 0) = true := by simpa using h1
    rw [partsN_out (.inl h1)]
    go_enter Try.func67, Try.ntmps67
    go_wp2
    go_ret
    exact ⟨rfl, rfl⟩
  · have d1 : decide (n < 0) = false := by simpa using h1
    by_cases h2 : 32768 < n
    · have d2 : decide (32768 < n) = true := by simpa using h2
      rw [partsN_out (.inr h2)]
      go_enter Try.func67, Try.ntmps67
      go_wp2
      go_ret
      exact ⟨rfl, rfl⟩
    · have d2 : decide (32768 < n) = false := by simpa using h2
      rw [partsN_in (by omega) (by omega)]
      have e : (4 + n + 44 - 1) / 44 = (n + 47) / 44 := by congr 1; omega
      have E := Lib.hid e
      clear e
      go_enter Try.func67, Try.ntmps67
      go_wp2
      go_ret
      exact ⟨by rw [← E.out]; rfl, rfl⟩
theorem append_blank (w0 w : World) (p q : Nat) (P : PS) (A : Option Addr) (n c : Nat) (hP : PagesI w0 w q p P) (hd : P.dead = false) (hg : P.img.gen = 0) : Calls Try.prog 60 #[.pointer (some ⟨q, 0, none⟩), .slice A n c] w fun e w' => e = .returned (.int .i64 170) ∧ w = w' := by
  have hbk := blank_any w0 w q p P hP
  obtain ⟨pv, hpb, _⟩ := hP
  obtain ⟨_, _, _, _, _, _, c6, _⟩ := cell7 hpb
  rw [hd] at c6
  have HBK := Lib.hid hbk
  have e1 : (P.img.gen == 0) = true := by simpa using hg
  clear hbk hpb hd hg
  go_enter Try.func60, Try.ntmps60
  go_wp2_with (go_at_call 58; refine HBK.out.mono ?_; rintro e w' ⟨rfl, rfl⟩)
  go_ret
  exact ⟨rfl, rfl⟩
theorem field3 (a b c : Int) (A : Option Addr) (n d : Nat) (w : World) : (Instr.field 98 (.agg #[.int .i64 a, .int .i64 b, .int .i64 c, .slice A n d]) 3).run Try.prog w = .ok (.slice A n d) w := by kernel_rfl
set_option maxHeartbeats 8000000 in
set_option maxRecDepth 100000 in
theorem pagesNil_walk (A : Option Addr) (m c : Nat) (n : Int) (w : World) : Calls Try.prog 13 #[.slice A m c, .int .i64 n] w fun e w' => e = .returned (.bool true) ∧ Chg [] w w' := by
  have HP := Lib.hid wk_parts.1
  go_enter Try.func13, Try.ntmps13
  go_wp2_with fail
  refine (open_nil w).mono ?_
  rintro e W1 ⟨rfl, hc1⟩
  have H1 := Lib.hid hc1
  clear hc1
  go_wp2_with fail
  refine (look_nil W1).mono ?_
  rintro e W2 ⟨v2, rfl, hr2, hc2⟩
  obtain ⟨A2, c2, rfl⟩ := hr2.slice
  have H2 := Lib.hid (H1.out.trans hc2)
  clear hr2 hc2
  go_wp2_with (first
    | (refine wpList_alloc rfl 98 rfl _ zeroImg ?_
       refine wpList_world (fun Z => Z.heap[W2.heap.size]? = some (.cells #[.int .i64 0, .int .i64 0, .int .i64 0, .slice none 0 0] 98 (0, 0)) ∧ Chg [] W2 Z) ⟨heap_new _ _ rfl, (by with_reducible repeat (first | exact Chg.refl _ _ | apply Chg.alloc | apply Chg.drew | apply Chg.drewN | (refine Chg.setCell ?_ _ _ (by simp))))⟩ ?_
       rintro Z ⟨hb, hZ⟩
       refine wpList_store_row rfl 98 (.tmp 8) (.tmp 18) rfl W2.heap.size (by kernel_rfl) #[.int .i64 0, .int .i64 0, .int .i64 0, .slice A2 Img.zero.recs.length c2] (by kernel_rfl) _ _ hb infoImg rfl (img_one _ _ _ _ rfl) ?_
       refine wpList_world (fun U => Chg [] w U) (H2.out.trans (hZ.andThen (setRow_chg _ _ _) (by simp))) ?_
       rintro U hU
       have HU := Lib.hid hU
       clear hb hZ hU
       ((try dsimp only); (try simp only [Act.put, List.setIfInBounds_toArray, List.set_cons_zero, List.set_cons_succ])))
    | (skip; fail))
  refine (dnew_i U).mono ?_
  rintro e W3 ⟨rfl, hd3, hc3⟩
  have H3 := Lib.hid (And.intro (hd3.base HU.out.size) (HU.out.trans hc3))
  clear hd3 hc3
  go_wp2_with fail
  have ho := open_any w W3 _ DS.new H3.out.1 (new_room.less (by omega))
  rw [HP.out] at ho
  have HO := Lib.hid ho
  clear ho
  refine HO.out.mono ?_
  rintro e W4 ⟨hd4, hc4, q, rfl, hq4, _⟩
  have H4 := Lib.hid (And.intro hq4 (hc4.old H3.out.2))
  clear hd4 hc4 hq4
  obtain ⟨pn, hpn⟩ : ∃ pn, pn = partsN n := ⟨_, rfl⟩
  have hp1 : ∀ W, Calls Try.prog 66 #[.int .i64 n] W fun e w' => e = .returned (.int .i64 pn) ∧ W = w' := fun W => by rw [hpn]; exact parts_any _ _
  have hp2 : ∀ W, Calls Try.prog 67 #[.int .i64 n] W fun e w' => e = .returned (.int .i64 pn) ∧ W = w' := fun W => by rw [hpn]; exact rparts_any _ _
  have hfr : ∀ W, Chg [] W4 W → Calls Try.prog 65 #[.pointer (some ⟨q, 0, none⟩)] W fun e w' => e = .returned (.int .i64 0) ∧ W = w' := fun W hW => free_any w W q _ _ (H4.out.1.kept0 hW) (by show 0 ≤ 1024; omega)
  have HPP := Lib.hid (And.intro hp1 (And.intro hp2 hfr))
  clear hpn hp1 hp2 hfr
  go_wp2_with (first
    | (go_at_call 58; refine (blank_nil _).mono ?_; rintro e w' ⟨rfl, rfl⟩)
    | (go_at_call 65; (with_reducible refine (free_nil _).mono ?_); rintro e w' ⟨rfl, rfl⟩)
    | (go_at_call 60; (with_reducible refine (append_nil A m c _).mono ?_); rintro e w' ⟨rfl, rfl⟩)
    | (go_at_call 59; refine (snap_nil A m c W4).mono ?_; rintro e W5 ⟨rfl, hc5⟩; have H5 := Lib.hid hc5; clear hc5)
    | (go_at_call 64; refine (imagem_nil W5).mono ?_; rintro e W6 ⟨v6, rfl, hr6, hc6⟩; obtain ⟨A6, c6, hv6⟩ := hr6.slice; change v6 = .slice A6 0 c6 at hv6; subst hv6; have hfd := fun w => field3 Img.zero.gen Img.zero.half Img.zero.boot A6 0 c6 w; have H6 := Lib.hid (H5.out.trans hc6); clear hr6 hc6)
    | (go_at_call 60; refine (append_blank w W6 _ q _ A m c (H4.out.1.kept0 H6.out) rfl rfl).mono ?_; rintro e w' ⟨rfl, rfl⟩)
    | (go_at_call 65; refine (HPP.out.2.2 W6 H6.out).mono ?_; rintro e w' ⟨rfl, rfl⟩)
    | (go_at_call 66; refine (HPP.out.1 _).mono ?_; rintro e w' ⟨rfl, rfl⟩)
    | (go_at_call 67; refine (HPP.out.2.1 _).mono ?_; rintro e w' ⟨rfl, rfl⟩)
    | (go_at_call 56; refine (wakes_any W6).mono ?_; rintro e W7 ⟨rfl, hc7⟩; have H7 := Lib.hid hc7; clear hc7)
    | (skip; fail))
  go_ret
  exact ⟨rfl, (H4.out.2.trans H6.out).trans H7.out⟩
end Go.Proofs.Ytipijkpjmpejlaa
