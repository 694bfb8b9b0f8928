import Derived.Test.YtipijkpjmpejlaaNetR
import Derived.Test.YtipijkpjmpejlaaNetK
/- The contract of Clear. -/
set_option linter.unusedVariables false
set_option linter.unusedSimpArgs false
namespace Go.Proofs.Ytipijkpjmpejlaa
open Go.RowKit
theorem filter2 {α β : Type} {R : α → β → Prop} {p : α → Bool} {q : β → Bool} : ∀ (l : List α) (m : List β), l.length = m.length → (∀ (i : Nat) x c, l[i]? = some x → m[i]? = some c → R x c ∧ p x = q c) →
    (l.filter p).length = (m.filter q).length ∧ ∀ (j : Nat) x c, (l.filter p)[j]? = some x → (m.filter q)[j]? = some c → R x c
  | [], [], _, _ => ⟨rfl, by simp⟩
  | [], _ :: _, h, _ => by simp at h
  | _ :: _, [], h, _ => by simp at h
  | x :: l, c :: m, h, hr => by
    obtain ⟨h1, h2⟩ := filter2 l m (by simpa using h) (fun i a b ha hb => hr (i + 1) a b (by simpa using ha) (by simpa using hb))
    obtain ⟨h3, h4⟩ := hr 0 x c (by simp) (by simp)
    rw [List.filter_cons, List.filter_cons, ← h4]
    cases hp : p x with
    | false => simpa using ⟨h1, h2⟩
    | true =>
      refine ⟨by simpa using h1, fun j a b ha hb => ?_⟩
      cases j with
      | zero => simp at ha hb; subst ha hb; exact h3
      | succ j => exact h2 j a b (by simpa using ha) (by simpa using hb)
def keepM (ad : Int) (l : List (Msg × Bool)) : List (Msg × Bool) := l.filter fun x => !(x.1.to == ad)
theorem net_keep {w w1 : World} {g : Nat} {l : List (Msg × Bool)} {N : Nat → Prop} {b cb : Nat} {css : List (List Value)} (HN : NetW w g l N (.slice (some ⟨b, 0, none⟩) l.length cb) css) (ad : Int)
    (hr : RowR w1 17 139 0 (.slice (some ⟨b, 0, none⟩) (keep ad css).length cb) (keep ad css)) (hc : Chg [b] w w1) : NetPost g (keepM ad l) N w (w1.setCell ⟨g, 0, none⟩ (.slice (some ⟨b, 0, none⟩) (keep ad css).length cb)) := by
  have hbg := HN.own b rfl
  have hS : Chg [g] w1 (w1.setCell ⟨g, 0, none⟩ (.slice (some ⟨b, 0, none⟩) (keep ad css).length cb)) := (Chg.refl _ _).setCell _ _ (by simp)
  have hCf : Chg [b, g] w (w1.setCell ⟨g, 0, none⟩ (.slice (some ⟨b, 0, none⟩) (keep ad css).length cb)) := (hc.mono (by simp)).trans (hS.mono (by simp))
  obtain ⟨h1, h2⟩ := filter2 (R := fun x c => ItemC (fun b_1 => N b_1 ∧ b_1 ≠ g ∧ (Value.slice (some ⟨b, 0, none⟩) l.length cb).ownBlock ≠ some b_1) w x c) (p := fun x : Msg × Bool => !(x.1.to == ad)) (q := keepB ad) l css HN.len.symm (fun i x c ha hb => by
    have h := HN.has i x c ha hb
    exact ⟨h, by simp only [keepB, h.mi.2]⟩)
  refine ⟨N, [b, g], ⟨_, keep ad css, heap_setCell_same _ _ 0 _ _ _ (hc.at HN.box (by simp; exact fun e => hbg.2 e.symm)), hr.kept hS (fun x hx => ?_), h1.symm, ?_, HN.foot, fun x hx => HN.own x (by injection hx with hx; subst hx; rfl), fun x hx => HN.fit x ((List.mem_filter.1 hx).1), ?_, fun x hx => Nat.lt_of_lt_of_le (HN.low x hx) hCf.size⟩, fun x hx => .inl hx, hCf, ?_⟩
  · injection hx with hx
    subst hx
    simpa using hbg.2
  · intro j x cs ha hb
    exact ((h2 j x cs ha hb).kept hCf (fun y hy hm => by
        simp at hm
        rcases hm with rfl | rfl
        · exact hy.2.2 rfl
        · exact hy.2.1 rfl)).weak (fun y hy _ => hy)
  · have := HN.most
    have := List.length_filter_le (fun x : Msg × Bool => !(x.1.to == ad)) l
    unfold keepM
    omega
  · intro x hx
    simp at hx
    rcases hx with rfl | rfl
    · exact hbg.1
    · exact HN.foot
set_option maxHeartbeats 4000000 in
theorem clear_any (w : World) (g : Nat) (l : List (Msg × Bool)) (N : Nat → Prop) (h : NetV w g l N) (ad : Int) : Calls Try.prog 46 #[.pointer (some ⟨g, 0, none⟩), .int .i64 ad] w fun e w' => e = .returned (.int .i64 (l.length - (keepM ad l).length : Nat)) ∧ NetPost g (keepM ad l) N w w' := by
  have hlen := List.length_filter_le (fun x : Msg × Bool => !(x.1.to == ad)) l
  have hkl : (keepM ad l).length ≤ l.length := hlen
  clear hlen
  obtain ⟨Y, hY⟩ : ∃ Y, Y = w.alloc (.cells #[.int .i64 ad] 3) := ⟨_, rfl⟩
  have hwY : Chg [] w Y := by rw [hY]; exact (by with_reducible repeat (first | exact Chg.refl _ _ | apply Chg.alloc | apply Chg.drew | apply Chg.drewN | (refine Chg.setCell ?_ _ _ (by simp))))
  have hYa : Y.cell? ⟨w.heap.size, 0, none⟩ = some (.int .i64 ad) := by rw [hY]; exact cell1 (heap_new _ _ rfl)
  have hNY := h.kept hwY (by simp)
  have hlY := len_any Y g l N hNY
  have hsY : Y.heap.size = w.heap.size + 1 := by rw [hY]; simp
  have HV := Lib.hid (And.intro h (And.intro hwY (And.intro hNY (And.intro hlY (And.intro hYa (And.intro (Eq.symm hY) hsY))))))
  clear h hwY hYa hlY hY hsY
  obtain ⟨v, css, hN⟩ := hNY
  have hl1024 : l.length ≤ 1024 := hN.most
  by_cases h0 : 0 < l.length
  · obtain ⟨b, cb, C, hv2, _, hb, hj1, hj2, hj3, hj4, hrg⟩ := hN.row.block (by rw [hN.len]; omega)
    clear hj1 hj2 hj3 hj4 hrg hb
    rw [hN.len] at hv2
    subst hv2
    have c0 := cell1 hN.box
    have hab : w.heap.size ≠ b := by
      intro e
      obtain ⟨v', css', h'⟩ := HV.out.1
      have hbb := HV.out.2.1.at h'.box (by simp)
      rw [hN.box] at hbb
      injection hbb with hbb
      injection hbb with hbb
      have hbb := congrArg (fun a => a[0]?) hbb
      simp at hbb
      subst hbb
      have := h'.low b (h'.own b rfl).1
      omega
    have hdf := delf_any Y b cb l.length css hN.row hN.len hl1024 (fun cs hcs => by
      obtain ⟨i, hi, rfl⟩ := List.getElem_of_mem hcs
      exact (hN.has i _ _ (List.getElem?_eq_getElem (by rw [← hN.len]; exact hi)) (List.getElem?_eq_getElem hi)).mi.1) w.heap.size ad hab HV.out.2.2.2.2.1
    have HN := Lib.hid (And.intro hN hdf)
    clear hN hdf
    go_enter Try.func46, Try.ntmps46
    go_wp2_with (first
      | (rw [HV.out.2.2.2.2.2.1]; go_at_call 44; refine HV.out.2.2.2.1.mono ?_; rintro e X ⟨rfl, rfl⟩)
      | fail)
    refine HN.out.2.mono ?_
    rintro e Z ⟨rfl, hr, hc⟩
    have hP := net_keep HN.out.1 ad hr hc
    have hbg := HN.out.1.own b rfl
    have hz := hc.at HN.out.1.box (by simp; exact fun e => hbg.2 e.symm)
    have z0 := cell1 hz
    have zf := blkF hz 0
    obtain ⟨W, hW⟩ : ∃ W, W = Z.setCell ⟨g, 0, none⟩ (.slice (some ⟨b, 0, none⟩) (keep ad css).length cb) := ⟨_, rfl⟩
    rw [← hW] at hP
    obtain ⟨N', cl, h1, h2, h3, h4⟩ := hP
    have hl2 := len_any W g _ N' h1
    have HW := Lib.hid (And.intro hl2 (And.intro h1 (And.intro h2 (And.intro h3 (And.intro h4 (Eq.symm hW))))))
    clear hl2 h1 h2 h3 h4 hW hr hc hz hbg c0
    go_wp2_with (first
      | (rw [HW.out.2.2.2.2.2]; go_at_call 44; refine HW.out.1.mono ?_; rintro e X ⟨rfl, rfl⟩)
      | fail)
    go_ret
    refine ⟨?_, N', cl, HW.out.2.1, fun b hb => (HW.out.2.2.1 b hb).imp id (fun h => Nat.le_trans HV.out.2.1.size h), (HV.out.2.1.mono (by simp)).trans HW.out.2.2.2.1, HW.out.2.2.2.2.1⟩
    show Ending.returned (.int .i64 ((l.length : Int) - (keepM ad l).length)) = _
    rw [Int.ofNat_sub hkl]
  · have hl0 : l = [] := by
      cases l with
      | nil => rfl
      | cons _ _ => simp at h0
    subst hl0
    clear h0 hN hkl hl1024
    go_enter Try.func46, Try.ntmps46
    go_wp2_with (first
      | (rw [HV.out.2.2.2.2.2.1]; go_at_call 44; refine HV.out.2.2.2.1.mono ?_; rintro e X ⟨rfl, rfl⟩)
      | (go_at_call 44; refine HV.out.2.2.2.1.mono ?_; rintro e X ⟨rfl, rfl⟩)
      | fail)
    go_ret
    exact ⟨rfl, (NetPost.same HV.out.1 HV.out.2.1)⟩
end Go.Proofs.Ytipijkpjmpejlaa
