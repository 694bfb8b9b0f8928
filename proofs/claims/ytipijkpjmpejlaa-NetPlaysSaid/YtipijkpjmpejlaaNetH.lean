import Derived.Test.YtipijkpjmpejlaaNetU
/- The contract of Hold. -/
set_option linter.unusedVariables false
set_option linter.unusedSimpArgs false
namespace Go.Proofs.Ytipijkpjmpejlaa
open Go.RowKit
/-- One message's mark is set: what is left is a net. -/
theorem net_markW {w : World} {g : Nat} {l : List (Msg × Bool)} {N : Nat → Prop} {b cb : Nat} {css : List (List Value)} (HN : NetW w g l N (.slice (some ⟨b, 0, none⟩) l.length cb) css) {i : Nat} {m : Msg} {hd : Bool} (hx : l[i]? = some (m, hd)) (h' : Bool) :
    NetW (w.setCell ⟨b, i * 17 + 16, none⟩ (.bool h')) g (l.set i (m, h')) N (.slice (some ⟨b, 0, none⟩) l.length cb) (css.set i ((css[i]'(by rw [HN.len]; exact (List.getElem?_eq_some_iff.1 hx).1)).set 16 (.bool h'))) := by
  have hlt := (List.getElem?_eq_some_iff.1 hx).1
  have hic : i < css.length := by rw [HN.len]; exact hlt
  have hbg := HN.own b rfl
  have hS : Chg [b] w (w.setCell ⟨b, i * 17 + 16, none⟩ (.bool h')) := (Chg.refl _ _).setCell _ _ (by simp)
  refine ⟨hS.at HN.box (by simp; exact fun e => hbg.2 e.symm), ?_, by simp [HN.len], ?_, HN.foot, HN.own, ?_, by simpa using HN.most, fun x hx => by simpa using HN.low x hx⟩
  · exact HN.row.setCell' (j := 16) HN.len hic (by omega)
  · intro j x cs h1 h2
    by_cases e : j = i
    · subst e
      rw [List.getElem?_set_self hlt] at h1
      rw [List.getElem?_set_self hic] at h2
      injection h1 with h1
      injection h2 with h2
      subst h1 h2
      obtain ⟨A, c, B, d, hcs, hM⟩ := HN.has j _ _ hx (List.getElem?_eq_getElem hic)
      refine ⟨A, c, B, d, by rw [hcs]; rfl, hM.kept hS (fun x hx hm => ?_)⟩
      simp at hm; subst hm; exact hx.2.2 rfl
    · rw [List.getElem?_set_ne (fun h => e h.symm)] at h1 h2
      exact (HN.has j x cs h1 h2).kept hS (fun x hx hm => by simp at hm; subst hm; exact hx.2.2 rfl)
  · intro x hx2
    rcases List.mem_or_eq_of_mem_set hx2 with h | rfl
    · exact HN.fit x h
    · exact HN.fit (m, hd) (List.mem_of_getElem? hx)
theorem net_mark {w : World} {g : Nat} {l : List (Msg × Bool)} {N : Nat → Prop} {b cb : Nat} {css : List (List Value)} (HN : NetW w g l N (.slice (some ⟨b, 0, none⟩) l.length cb) css) {i : Nat} {m : Msg} {hd : Bool} (hx : l[i]? = some (m, hd)) (h' : Bool) :
    NetPost g (l.set i (m, h')) N w (w.setCell ⟨b, i * 17 + 16, none⟩ (.bool h')) :=
  ⟨N, [b], ⟨_, _, net_markW HN hx h'⟩, fun b hb => .inl hb, (Chg.refl _ _).setCell _ _ (by simp), by simp; exact (HN.own b rfl).1⟩
theorem set_modify {l : List (Msg × Bool)} {i : Nat} {x : Msg × Bool} (h : l[i]? = some x) (f : Msg × Bool → Msg × Bool) : l.set i (f x) = l.modify i f := by
  apply List.ext_getElem?
  intro j
  rw [List.getElem?_set, List.getElem?_modify]
  have hlt := (List.getElem?_eq_some_iff.1 h).1
  by_cases e : i = j
  · subst e; simp only [if_true, hlt, h]; rfl
  · simp [e]
/-- What Hold leaves. -/
def holdL (l : List (Msg × Bool)) (k : Int) : List (Msg × Bool) := if 0 ≤ k ∧ k < l.length then l.modify k.toNat (fun x => (x.1, true)) else l
set_option maxHeartbeats 4000000 in
set_option maxRecDepth 100000 in
theorem hold_any (w : World) (g : Nat) (l : List (Msg × Bool)) (N : Nat → Prop) (h : NetV w g l N) (k : Int) : Calls Try.prog 48 #[.pointer (some ⟨g, 0, none⟩), .int .i64 k] w fun e w' => e = .returned (.int .i64 (if 0 ≤ k ∧ k < l.length then 0 else 4)) ∧ NetPost g (holdL l k) N w w' := by
  have ht := there_any _ g l N h k
  have HV := Lib.hid (And.intro h ht)
  obtain ⟨v, css, h⟩ := h
  obtain ⟨Av, cv, rfl⟩ := h.slice
  have c0 := cell1 h.box
  have HN := Lib.hid h
  clear h ht
  by_cases h1 : 0 ≤ k ∧ k < l.length
  · have hv : (if 0 ≤ k ∧ k < l.length then (0 : Int) else 4) = 0 := if_pos h1
    have hL : holdL l k = l.modify k.toNat (fun x => (x.1, true)) := if_pos h1
    rw [hL]
    clear hL
    obtain ⟨i, rfl⟩ : ∃ i : Nat, k = i := ⟨k.toNat, by omega⟩
    have hlt : i < l.length := by omega
    obtain ⟨b, cb, C, hv2, _, hb, hj1, hj2, hj3, hj4, hrg⟩ := HN.out.row.block (by rw [HN.out.len]; omega)
    clear hj1 hj2 hj3 hj4
    injection hv2 with hv1 hv4 hv3
    clear hv4
    subst hv1 hv3
    have hic : i < css.length := by rw [HN.out.len]; exact hlt
    obtain ⟨⟨m, hd⟩, hx⟩ : ∃ x, l[i]? = some x := ⟨_, List.getElem?_eq_getElem hlt⟩
    obtain ⟨A, c, B, d, hcs, hM⟩ := HN.out.has i _ _ hx (List.getElem?_eq_getElem hic)
    have hr := hrg i hic
    rw [hcs] at hr
    have ch : w.cell? ⟨b, i * 17 + 16, none⟩ = some (.bool hd) := hr 16 _ rfl
    have fh := blkF hb (i * 17 + 16)
    have HX := Lib.hid hx
    clear hx hcs hM hr hrg hb
    go_enter Try.func48, Try.ntmps48
    go_wp2_with (first
      | (go_at_call 83; refine HV.out.2.mono ?_; rintro e X ⟨rfl, rfl⟩; rw [hv])
      | fail)
    go_ret
    refine ⟨rfl, ?_⟩
    have := net_mark HN.out HX.out true
    rwa [show l.set i (m, true) = l.modify ((i : Int).toNat) (fun x => (x.1, true)) from by
      rw [Int.toNat_natCast]; exact set_modify HX.out (fun x => (x.1, true))] at this
  · have hv : (if 0 ≤ k ∧ k < l.length then (0 : Int) else 4) = 4 := if_neg h1
    have hL : holdL l k = l := if_neg h1
    rw [hL]
    clear hL h1
    go_enter Try.func48, Try.ntmps48
    go_wp2_with (first
      | (go_at_call 83; refine HV.out.2.mono ?_; rintro e X ⟨rfl, rfl⟩; rw [hv])
      | fail)
    go_ret
    exact ⟨rfl, NetPost.same HV.out.1 (Chg.refl _ _)⟩
end Go.Proofs.Ytipijkpjmpejlaa
