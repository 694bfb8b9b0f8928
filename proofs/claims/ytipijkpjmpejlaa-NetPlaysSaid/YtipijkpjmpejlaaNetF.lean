import Derived.Test.YtipijkpjmpejlaaNetH
/- The contract of Free. -/
set_option linter.unusedVariables false
set_option linter.unusedSimpArgs false
namespace Go.Proofs.Ytipijkpjmpejlaa
open Go.RowKit
def clr (x : Msg × Bool) : Msg × Bool := (x.1, false)
def heldN (l : List (Msg × Bool)) : Nat := (l.filter (·.2)).length
/-- k of them are free. -/
def freed (l : List (Msg × Bool)) (k : Nat) : List (Msg × Bool) := (l.take k).map clr ++ l.drop k
theorem freed_len (l : List (Msg × Bool)) (k : Nat) : (freed l k).length = l.length := by simp [freed]; omega
theorem freed_at (l : List (Msg × Bool)) (k : Nat) (x : Msg × Bool) (h : l[k]? = some x) : (freed l k)[k]? = some x := by
  have hk := (List.getElem?_eq_some_iff.1 h).1
  unfold freed
  rw [List.getElem?_append_right (by simp; omega)]
  simp only [List.length_map, List.length_take, Nat.min_eq_left (Nat.le_of_lt hk), Nat.sub_self, List.getElem?_drop, Nat.add_zero]
  exact h
theorem freed_next (l : List (Msg × Bool)) (k : Nat) (x : Msg × Bool) (h : l[k]? = some x) : (freed l k).set k (x.1, false) = freed l (k + 1) := by
  obtain ⟨hk, rfl⟩ := List.getElem?_eq_some_iff.1 h
  unfold freed
  have hl : ((l.take k).map clr).length = k := by simp; omega
  rw [List.set_append_right _ _ (by omega), hl, Nat.sub_self, List.drop_eq_getElem_cons hk, List.set_cons_zero, List.take_succ_eq_append_getElem hk, List.map_append, List.append_assoc]
  rfl
theorem heldN_next (l : List (Msg × Bool)) (k : Nat) (x : Msg × Bool) (h : l[k]? = some x) : heldN (l.take (k + 1)) = heldN (l.take k) + if x.2 then 1 else 0 := by
  obtain ⟨hk, rfl⟩ := List.getElem?_eq_some_iff.1 h
  unfold heldN
  rw [List.take_succ_eq_append_getElem hk, List.filter_append, List.length_append]
  cases hx : (l[k]).2 <;> simp [List.filter_cons, hx]
theorem heldN_le (l : List (Msg × Bool)) : heldN l ≤ l.length := List.length_filter_le _ _
set_option maxHeartbeats 4000000 in
theorem free_any (w : World) (g : Nat) (l : List (Msg × Bool)) (N : Nat → Prop) (h : NetV w g l N) : Calls Try.prog 50 #[.pointer (some ⟨g, 0, none⟩)] w fun e w' => e = .returned (.int .i64 (heldN l)) ∧ NetPost g (l.map clr) N w w' := by
  have hl := len_any w g l N h
  have HV := Lib.hid (And.intro h hl)
  obtain ⟨v, css, h⟩ := h
  have HN := Lib.hid h
  clear hl h
  by_cases h0 : 0 < l.length
  · obtain ⟨b, cb, C, hv2, _, hb, hj1, hj2, hj3, hj4, hrg⟩ := HN.out.row.block (by rw [HN.out.len]; omega)
    clear hj1 hj2 hj3 hj4 hrg hb
    rw [HN.out.len] at hv2
    subst hv2
    have hl1024 : l.length ≤ 1024 := HN.out.most
    go_enter Try.func50, Try.ntmps50
    go_wp2_with (go_at_call 44; refine HV.out.2.mono ?_; rintro e X ⟨rfl, rfl⟩)
    go_loopw [2, 6] (fun n i wr => ∃ k : Nat, k ≤ l.length ∧ i = .int .i64 k ∧ n = .int .i64 (heldN (l.take k)) ∧ ∃ css', NetW wr g (freed l k) N (.slice (some ⟨b, 0, none⟩) l.length cb) css' ∧ Chg [b] w wr) (fun _ i _ => l.length - (intOf i).toNat)
    case atStart => exact ⟨0, Nat.zero_le _, rfl, rfl, css, by simpa [freed] using HN.out, Chg.refl _ _⟩
    case round =>
      obtain ⟨k, hk, rfl, rfl, css', hN, hc⟩ := hrel
      have c0 := cell1 hN.box
      have hle := heldN_le (l.take k)
      have hlt2 : (l.take k).length ≤ k := List.length_take_le _ _
      by_cases hlt : k < l.length
      · obtain ⟨⟨m, hd⟩, hx⟩ : ∃ x, l[k]? = some x := ⟨_, List.getElem?_eq_getElem hlt⟩
        have hic : k < css'.length := by rw [hN.len, freed_len]; exact hlt
        obtain ⟨b', cb', C, hv2, _, hb, hj1, hj2, hj3, hj4, hrg⟩ := hN.row.block (by omega)
        injection hv2 with hv1 hv4 hv3
        injection hv1 with hv1
        injection hv1 with hv1
        subst hv1
        obtain ⟨A, c, B, d, hcs, hM⟩ := hN.has k _ _ (freed_at l k _ hx) (List.getElem?_eq_getElem hic)
        have hr := hrg k hic
        rw [hcs] at hr
        have ch : wr.cell? ⟨b, k * 17 + 16, none⟩ = some (.bool hd) := hr 16 _ rfl
        have fh := blkF hb (k * 17 + 16)
        have hnx := heldN_next l k _ hx
        have HX := Lib.hid (And.intro hx (And.intro hN (And.intro hc hnx)))
        clear hx hcs hM hr hrg hb hN hc hnx hj1 hj2 hj3 hj4 hv3 hv4 hic
        cases hd
        all_goals
          go_wp2
          go_roundw
          case rel =>
            obtain ⟨cs2, hw⟩ : ∃ cs2, NetW (wr.setCell ⟨b, k * 17 + 16, none⟩ (.bool false)) g ((freed l k).set k (m, false)) N (.slice (some ⟨b, 0, none⟩) (freed l k).length cb) cs2 := ⟨_, net_markW (show NetW wr g (freed l k) N (.slice (some ⟨b, 0, none⟩) (freed l k).length cb) css' by rw [freed_len]; exact HX.out.2.1) (freed_at l k _ HX.out.1) false⟩
            rw [freed_len, freed_next l k _ HX.out.1] at hw
            exact ⟨k + 1, by omega, by go_num, by rw [HX.out.2.2.2]; simp, _, hw, HX.out.2.2.1.setCell _ _ (by simp)⟩
          case measure => simp [intOf]; omega
      · have hke : k = l.length := by omega
        subst hke
        have HX := Lib.hid (And.intro hN hc)
        clear hN hc hlt hk
        go_wp2
        go_ret
        have hw := HX.out.1
        rw [show freed l l.length = l.map clr from by simp [freed]] at hw
        exact ⟨by first | rfl | (rw [List.take_length]; rfl), N, [b], ⟨_, _, hw⟩, fun b hb => .inl hb, HX.out.2, by simp; exact (HN.out.own b rfl).1⟩
  · have hl0 : l = [] := by
      cases l with
      | nil => rfl
      | cons _ _ => simp at h0
    subst hl0
    clear h0
    go_enter Try.func50, Try.ntmps50
    go_wp2_with (go_at_call 44; refine HV.out.2.mono ?_; rintro e X ⟨rfl, rfl⟩)
    go_loopw [2, 6] (fun n i wr => i = .int .i64 0 ∧ n = .int .i64 0 ∧ wr = w) (fun _ i _ => 0)
    case atStart => exact ⟨rfl, rfl, rfl⟩
    case round =>
      obtain ⟨rfl, rfl, rfl⟩ := hrel
      go_wp2
      go_ret
      exact ⟨rfl, NetPost.same HV.out.1 (Chg.refl _ _)⟩
end Go.Proofs.Ytipijkpjmpejlaa
