import Derived.Test.YtipijkpjmpejlaaPgC
/- The contract of code.New; a number is read as it was put. -/
set_option linter.unusedVariables false
set_option linter.unusedSimpArgs false
namespace Go.Proofs.Ytipijkpjmpejlaa
open Go.RowKit
theorem be8_bytes (n : Int) : Bytes (be8 n) := fun x hx => by
  simp only [be8, wraps_u64, IntKind.wrap_u64, List.mem_cons, List.not_mem_nil, or_false] at hx
  omega
theorem num8_be8 (n : Int) (h1 : -9223372036854775808 ≤ n) (h2 : n ≤ 9223372036854775807) (pre post : List Int) : num8 (pre ++ be8 n ++ post) pre.length = n := by
  have hg : ∀ j, j < 8 → (pre ++ be8 n ++ post).getD (pre.length + j) 0 = (be8 n).getD j 0 := fun j hj => by
    rw [List.append_assoc, List.getD_eq_getElem?_getD, List.getElem?_append_right (by omega), Nat.add_sub_cancel_left, List.getElem?_append_left (by simpa [be8] using hj), List.getD_eq_getElem?_getD]
  have e : numTo (pre ++ be8 n ++ post) pre.length 8 = n % 18446744073709551616 := by
    simp only [numTo]
    rw [hg 0 (by omega), hg 1 (by omega), hg 2 (by omega), hg 3 (by omega), hg 4 (by omega), hg 5 (by omega), hg 6 (by omega), hg 7 (by omega)]
    simp only [be8, IntKind.wrap_u64, List.getD_cons_zero, List.getD_cons_succ]
    omega
  unfold num8
  rw [e]
  unfold wrap64
  omega
set_option maxHeartbeats 4000000 in
theorem rdr_new (A : Option Addr) (bs : List Int) (c : Nat) (w : World) (hB : BytesAt w A bs) (hc : A = none → bs = [] ∧ c = 0) (hl : bs.length ≤ 100000) :
    Calls Try.prog 111 #[.slice A bs.length c] w fun e w' => ∃ r A' c', e = .returned (.pointer (some ⟨r, 0, none⟩)) ∧ w.heap.size ≤ r ∧ RdrA w' r A' c' bs 0 ∧ Chg [] w w' ∧ ∀ ad, A' = some ad → w.heap.size ≤ ad.block := by
  have H := Lib.hid (own_any A bs c w hB hc (by omega))
  clear hB hc
  go_enter Try.func111, Try.ntmps111
  go_wp2_with (go_at_call 126; refine H.out.mono ?_; rintro e X ⟨v, rfl, hR, hc⟩; obtain ⟨A', c', rfl⟩ := hR.slice; have HX := Lib.hid (And.intro hR hc); clear hR hc)
  go_ret
  have hcap : bs.length ≤ c' := by
    rcases HX.out.1.2 with ⟨he, hz⟩ | ⟨g, c2, cur, he, hb, hg, h1, h2, h3, h4⟩
    · rw [hz]; exact Nat.zero_le _
    · injection he with _ _ e3; rw [e3]; exact h1
  have hob : ∀ ad, A' = some ad → w.heap.size ≤ ad.block ∧ ad.block < X.heap.size := by
    rintro ad rfl
    refine HX.out.1.own ad.block ?_
    rcases HX.out.1.2 with ⟨he, hz⟩ | ⟨g, c2, cur, he, hb, hg, h1, h2, h3, h4⟩
    · injection he with e1; cases e1
    · injection he with e1; injection e1 with e1; subst e1; rfl
  exact ⟨_, A', c', rfl, HX.out.2.size, ⟨heap_new _ _ rfl, HX.out.1.bytes.kept (l := []) (by with_reducible repeat (first | exact Chg.refl _ _ | apply Chg.alloc | apply Chg.drew | apply Chg.drewN | (refine Chg.setCell ?_ _ _ (by simp)))) (by simp), hcap, by omega, fun ad e => by have := (hob ad e).2; omega⟩, HX.out.2.alloc _, fun ad e => (hob ad e).1⟩
end Go.Proofs.Ytipijkpjmpejlaa
