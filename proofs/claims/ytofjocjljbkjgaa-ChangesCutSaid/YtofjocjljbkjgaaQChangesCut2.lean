/- Parts of the proof of the law ChangesCut, number 2 of 5: laws over memory, contracts of functions, walks. No condition. -/
import Derived.Deep.CutBlock
import Derived.Deep.DeepCutAuto
import Derived.Test.YtofjocjljbkjgaaProg
import Derived.Deep.QuietTactic
import Derived.BigQuiet
import Derived.Deep.OwnRows
import Derived.Maps.OwnSet
import Derived.StringKeys
import Derived.Carry
import Derived.Test.YtofjocjljbkjgaaQChangesCut1
set_option linter.unusedVariables false
set_option linter.unusedSimpArgs false
namespace Go.Proofs.Ytofjocjljbkjgaa
open Go.RowKit
def InRange (i : Int) : Prop := 1 ≤ i ∧ i ≤ 1125899906842624
instance (i : Int) : Decidable (InRange i) := by unfold InRange; exact inferInstance
def FreshIds (T l : List Int) : Prop := l.Nodup ∧ ∀ i ∈ l, i ∉ T
instance (T l : List Int) : Decidable (FreshIds T l) := by unfold FreshIds; exact inferInstance
def seenM (l : List Int) : Int → Option Value := fun n => if n ∈ l then some (.bool true) else none
theorem seenM_snoc (l : List Int) (n : Int) : updI (seenM l) n (some (.bool true)) = seenM (l ++ [n]) := by
  funext x
  unfold updI seenM
  by_cases h : x = n <;> simp [h]
theorem FreshIds.snoc {T l : List Int} {n : Int} : FreshIds T (l ++ [n]) ↔ FreshIds T l ∧ n ∉ l ∧ n ∉ T := by
  unfold FreshIds
  rw [List.nodup_append]
  constructor
  · rintro ⟨⟨h1, _, h2⟩, h3⟩
    exact ⟨⟨h1, fun i hi => h3 i (by simp [hi])⟩, fun hn => h2 n hn n (by simp) rfl, h3 n (by simp)⟩
  · rintro ⟨⟨h1, h2⟩, h3, h4⟩
    refine ⟨⟨h1, by simp, fun a ha b hb e => ?_⟩, fun i hi => ?_⟩
    · simp at hb; subst hb; subst e; exact h3 ha
    · rcases List.mem_append.1 hi with h | h
      · exact h2 i h
      · simp at h; subst h; exact h4
structure InsSt (w : World) (bt bs bm bx bi g o : Nat) (T l : List Int) : Prop where
  tw : w.heap[bt]? = some (.cells #[.bool (!decide (FreshIds T l))] 4 (0, 0))
  sb : w.heap[bs]? = some (.cells #[.map (some bm)] 114 (0, 0))
  mp : MapI w bm (seenM l)
  tb : w.heap[bx]? = some (.cells #[.pointer (some ⟨g, o, none⟩)] 103 (0, 0))
  fb : w.heap[bi]? = some (.cells #[.func (.func 131) #[] #[.pointer (some ⟨bt, 0, none⟩), .pointer (some ⟨bs, 0, none⟩), .pointer (some ⟨bx, 0, none⟩), .pointer (some ⟨bi, 0, none⟩)]] 102 (0, 0))
structure InsAp (bt bs bm bx bi : Nat) : Prop where
  a : bt ≠ bs
  b : bt ≠ bm
  c : bt ≠ bx
  d : bt ≠ bi
  e : bm ≠ bs
  f : bm ≠ bx
  h : bm ≠ bi
def InsPost (x : Tr) (bt bs bm bx bi g o : Nat) (T l : List Int) (w : World) (e : Ending) (w' : World) : Prop :=
  Chg [bt, bm] w w' ∧ ((e = .returned (.bool true) ∧ (∀ i ∈ x.ids, InRange i) ∧ InsSt w' bt bs bm bx bi g o T (l ++ x.ids)) ∨ (e = .returned (.bool false) ∧ ¬ ∀ i ∈ x.ids, InRange i))
theorem idsL_take (ks : List Tr) (k : Nat) (h : k < ks.length) : idsL (ks.take (k + 1)) = idsL (ks.take k) ++ (ks[k]).ids := by
  rw [take_snoc' ks k h, idsL_append]; simp [idsL]
theorem zeroB (w : World) : (zeroValue 4).run Try.prog w = .ok (.bool false) w := by kernel_rfl
set_option maxHeartbeats 4000000 in
set_option maxRecDepth 100000 in
theorem ins_any (bt bs bm bx bi g o : Nat) (t : Tr) (hap : InsAp bt bs bm bx bi) (hgt : g ≠ bt) (hgm : g ≠ bm) : ∀ (x : Tr) (gx ox : Nat) (l : List Int) (w : World), TrAt (fun b => b ≠ bt ∧ b ≠ bm) w gx ox x → gx ≠ bt → gx ≠ bm → InsSt w bt bs bm bx bi g o t.ids l → TrAt (fun b => b ≠ bt ∧ b ≠ bm) w g o t →
    Calls Try.prog 131 #[.pointer (some ⟨gx, ox, none⟩), .pointer (some ⟨bt, 0, none⟩), .pointer (some ⟨bs, 0, none⟩), .pointer (some ⟨bx, 0, none⟩), .pointer (some ⟨bi, 0, none⟩)] w (InsPost x bt bs bm bx bi g o t.ids l w) := by
  intro x
  induction x using Tr.ind with
  | h x ih =>
  intro gx ox l w hX hxt hxm hSt hT
  obtain ⟨A, c, c0, c1, c2, c3, hlc, hcm, htx, hK⟩ := hX.cells
  have hxi := Tr.ids_eq x
  have HH := Lib.hid (And.intro ih (And.intro hK (And.intro hxi (And.intro hSt (And.intro hT (And.intro hap (And.intro hcm (And.intro hlc c3))))))))
  have b0 : w.cell? ⟨bt, 0, none⟩ = some (.bool (!decide (FreshIds t.ids l))) := by simp [World.cell?, hSt.tw]
  have fb := blkF hSt.tw 0
  have b1 : w.cell? ⟨bs, 0, none⟩ = some (.map (some bm)) := by simp [World.cell?, hSt.sb]
  have b2 : w.cell? ⟨bx, 0, none⟩ = some (.pointer (some ⟨g, o, none⟩)) := by simp [World.cell?, hSt.tb]
  clear ih hK hxi hSt hT hX htx c1 c2 hap hcm hlc
  go_enter Try.func131, Try.ntmps131
  by_cases h1 : x.id < 1
  · have d1 : decide (x.id < 1) = true := decide_eq_true h1
    have HN := Lib.hid (show ¬ ∀ i ∈ x.ids, InRange i from fun h => by have := (h x.id (id_mem x)).1; omega)
    clear h1 c3 b0 b1 b2 fb
    go_wp2_with (skip; fail)
    go_ret
    exact ⟨Chg.refl _ _, .inr ⟨rfl, HN.out⟩⟩
  have d1 : decide (x.id < 1) = false := decide_eq_false h1
  by_cases h2 : 1125899906842624 < x.id
  · have d2 : decide (1125899906842624 < x.id) = true := decide_eq_true h2
    have HN := Lib.hid (show ¬ ∀ i ∈ x.ids, InRange i from fun h => by have := (h x.id (id_mem x)).2; omega)
    clear h1 h2 c3 b0 b1 b2 fb
    go_wp2_with (skip; fail)
    go_ret
    exact ⟨Chg.refl _ _, .inr ⟨rfl, HN.out⟩⟩
  have d2 : decide (1125899906842624 < x.id) = false := decide_eq_false h2
  have HR := Lib.hid (show InRange x.id from ⟨by omega, by omega⟩)
  clear h1 h2
  go_wp2_with (skip; fail)
  clear d1 d2
  go_cut [] (fun wx => Hid (wx.heap[bt]? = some (.cells #[.bool (!decide (FreshIds t.ids (l ++ [x.id])))] 4 (0, 0)) ∧ Chg [bt] w wx))
  case first =>
    by_cases hfr : FreshIds t.ids l
    · have e1 : decide (FreshIds t.ids l) = true := decide_eq_true hfr
      rw [e1] at b0
      simp only [Bool.not_true] at b0
      by_cases hin : x.id ∈ l
      · have hlk := lookup_run (P := Try.prog) (T := 114) Try.underlying114 Try.underlying3 (zeroB w.drew) (HH.out.2.2.2.1.mp.kept ((Chg.refl [] w).drew) (by simp)) x.id false
        rw [show seenM l x.id = some (.bool true) from by simp [seenM, hin]] at hlk
        simp only [Option.getD_some, Bool.false_eq_true, if_false] at hlk
        have HN := Lib.hid (show ¬ FreshIds t.ids (l ++ [x.id]) from fun h => (FreshIds.snoc.1 h).2.1 hin)
        clear e1 hfr hin
        refine wp_region_M (fun _ => True) (fun k => [18].contains k) (fun k => [18].contains k) (by kernel_rfl) ?_
        ((try dsimp only); (try simp only [Act.put, List.setIfInBounds_toArray, List.set_cons_zero, List.set_cons_succ]))
        refine M_take (i := 0) (v := ?_) rfl (by kernel_rfl) (by kernel_rfl) (by kernel_rfl) (by kernel_rfl) (fun _ _ _ h => h) (by rfl) ?hy ?_; (case hy => (go_simp; with_reducible rfl)); ((try dsimp only); (try simp only [Act.put, List.setIfInBounds_toArray, List.set_cons_zero, List.set_cons_succ]))
        refine M_pure (i := 1) (v := ?_) rfl (by kernel_rfl) (by kernel_rfl) (by kernel_rfl) (fun _ _ _ h => h) (by rfl) ?hy ?_; (case hy => (intro w; go_simp; with_reducible rfl)); ((try dsimp only); (try simp only [Act.put, List.setIfInBounds_toArray, List.set_cons_zero, List.set_cons_succ]))
        refine M_take (i := 2) (v := ?_) rfl (by kernel_rfl) (by kernel_rfl) (by kernel_rfl) (by kernel_rfl) (fun _ _ _ h => h) (by rfl) ?hy ?_; (case hy => (go_simp; with_reducible rfl)); ((try dsimp only); (try simp only [Act.put, List.setIfInBounds_toArray, List.set_cons_zero, List.set_cons_succ]))
        refine M_pure (i := 3) (v := ?_) rfl (by kernel_rfl) (by kernel_rfl) (by kernel_rfl) (fun _ _ _ h => h) (by rfl) ?hy ?_; (case hy => (intro w; go_simp; with_reducible rfl)); ((try dsimp only); (try simp only [Act.put, List.setIfInBounds_toArray, List.set_cons_zero, List.set_cons_succ]))
        refine M_pure (i := 4) (v := ?_) rfl (by kernel_rfl) (by kernel_rfl) (by kernel_rfl) (fun _ _ _ h => h) (by rfl) ?hy ?_; (case hy => (intro w; go_simp; with_reducible rfl)); ((try dsimp only); (try simp only [Act.put, List.setIfInBounds_toArray, List.set_cons_zero, List.set_cons_succ]))
        refine M_pure (i := 5) (v := ?_) rfl (by kernel_rfl) (by kernel_rfl) (by kernel_rfl) (fun _ _ _ h => h) (by rfl) ?hy ?_; (case hy => (intro w; go_simp; with_reducible rfl)); ((try dsimp only); (try simp only [Act.put, List.setIfInBounds_toArray, List.set_cons_zero, List.set_cons_succ]))
        refine M_take (i := 6) (v := ?_) rfl (by kernel_rfl) (by kernel_rfl) (by kernel_rfl) (by kernel_rfl) (fun _ _ _ h => h) (by rfl) ?hy ?_; (case hy => (go_simp; with_reducible rfl)); ((try dsimp only); (try simp only [Act.put, List.setIfInBounds_toArray, List.set_cons_zero, List.set_cons_succ]))
        refine M_take (i := 7) (v := ?_) rfl (by kernel_rfl) (by kernel_rfl) (by kernel_rfl) (by kernel_rfl) (fun _ _ _ h => h) (by rfl) ?hy ?_; (case hy => (go_simp; with_reducible rfl)); ((try dsimp only); (try simp only [Act.put, List.setIfInBounds_toArray, List.set_cons_zero, List.set_cons_succ]))
        refine M_pure (i := 8) (v := ?_) rfl (by kernel_rfl) (by kernel_rfl) (by kernel_rfl) (fun _ _ _ h => h) (by rfl) ?hy ?_; (case hy => (intro w; go_simp; with_reducible rfl)); ((try dsimp only); (try simp only [Act.put, List.setIfInBounds_toArray, List.set_cons_zero, List.set_cons_succ]))
        refine M_pure (i := 9) (v := ?_) rfl (by kernel_rfl) (by kernel_rfl) (by kernel_rfl) (fun _ _ _ h => h) (by rfl) ?hy ?_; (case hy => (intro w; go_simp; with_reducible rfl)); ((try dsimp only); (try simp only [Act.put, List.setIfInBounds_toArray, List.set_cons_zero, List.set_cons_succ]))
        refine M_skip (i := 10) rfl (by kernel_rfl) (by kernel_rfl) (by kernel_rfl) (fun _ _ _ h => h) (by rfl) ?_; ((try dsimp only); (try simp only [Act.put, List.setIfInBounds_toArray, List.set_cons_zero, List.set_cons_succ]))
        refine M_skip (i := 11) rfl (by kernel_rfl) (by kernel_rfl) (by kernel_rfl) (fun _ _ _ h => h) (by rfl) ?_; ((try dsimp only); (try simp only [Act.put, List.setIfInBounds_toArray, List.set_cons_zero, List.set_cons_succ]))
        refine M_skip (i := 12) rfl (by kernel_rfl) (by kernel_rfl) (by kernel_rfl) (fun _ _ _ h => h) (by rfl) ?_; ((try dsimp only); (try simp only [Act.put, List.setIfInBounds_toArray, List.set_cons_zero, List.set_cons_succ]))
        refine M_skip (i := 13) rfl (by kernel_rfl) (by kernel_rfl) (by kernel_rfl) (fun _ _ _ h => h) (by rfl) ?_; ((try dsimp only); (try simp only [Act.put, List.setIfInBounds_toArray, List.set_cons_zero, List.set_cons_succ]))
        refine M_skip (i := 14) rfl (by kernel_rfl) (by kernel_rfl) (by kernel_rfl) (fun _ _ _ h => h) (by rfl) ?_; ((try dsimp only); (try simp only [Act.put, List.setIfInBounds_toArray, List.set_cons_zero, List.set_cons_succ]))
        refine M_skip (i := 15) rfl (by kernel_rfl) (by kernel_rfl) (by kernel_rfl) (fun _ _ _ h => h) (by rfl) ?_; ((try dsimp only); (try simp only [Act.put, List.setIfInBounds_toArray, List.set_cons_zero, List.set_cons_succ]))
        refine M_skip (i := 16) rfl (by kernel_rfl) (by kernel_rfl) (by kernel_rfl) (fun _ _ _ h => h) (by rfl) ?_; ((try dsimp only); (try simp only [Act.put, List.setIfInBounds_toArray, List.set_cons_zero, List.set_cons_succ]))
        refine M_pure (i := 17) (v := ?_) rfl (by kernel_rfl) (by kernel_rfl) (by kernel_rfl) (fun _ _ _ h => h) (by rfl) ?hy ?_; (case hy => (intro w; go_simp; with_reducible rfl)); ((try dsimp only); (try simp only [Act.put, List.setIfInBounds_toArray, List.set_cons_zero, List.set_cons_succ]))
        refine M_brk (i := 18) rfl (by kernel_rfl) (by rfl) (by rfl) ?_
        go_wp2_with fail
        refine M_done (by kernel_rfl) ?_ _
        go_wp2_with (skip; fail)
        go_meet
        refine Lib.hid ⟨?_, ((Chg.refl _ _).drew).setCell _ _ (by simp)⟩
        rw [decide_eq_false HN.out]
        exact heap_setCell_same _ _ 0 _ _ _ HH.out.2.2.2.1.tw
      · have hlk := lookup_run (P := Try.prog) (T := 114) Try.underlying114 Try.underlying3 (zeroB w.drew) (HH.out.2.2.2.1.mp.kept ((Chg.refl [] w).drew) (by simp)) x.id false
        rw [show seenM l x.id = none from by simp [seenM, hin]] at hlk
        simp only [Option.getD_none, Bool.false_eq_true, if_false] at hlk
        have hfi : Calls Try.prog 102 #[.pointer (some ⟨g, o, none⟩), .int .i64 x.id] w.drew (fun e w' => w.drew = w' ∧ ∃ P, e = .returned (.pointer P) ∧ (P = none ↔ x.id ∉ t.ids)) := by
          refine (find_any x.id t g o w.drew ((HH.out.2.2.2.2.1.kept ((Chg.refl [] w).drew) (by simp) (by simp)).weak (fun _ _ => trivial))).mono ?_
          rintro e w' ⟨rfl, h | ⟨p, g', o', h1, h2, rfl⟩⟩
          · refine ⟨rfl, none, h.2, ?_⟩
            simp only [true_iff]
            intro hm
            obtain ⟨p, hp⟩ := path_some hm
            rw [hp] at h; cases h.1
          · refine ⟨rfl, _, rfl, ?_⟩
            simp only [reduceCtorEq, false_iff, Classical.not_not]
            exact (Tr.path_iff x.id t).1 (by rw [h1]; rfl)
        have HF := Lib.hid (And.intro hfi (And.intro hfr hin))
        clear e1 hfr hin hfi
        refine wp_region_M (fun _ => True) (fun k => [15, 18].contains k) (fun k => [18].contains k) (by kernel_rfl) ?_
        ((try dsimp only); (try simp only [Act.put, List.setIfInBounds_toArray, List.set_cons_zero, List.set_cons_succ]))
        refine M_take (i := 0) (v := ?_) rfl (by kernel_rfl) (by kernel_rfl) (by kernel_rfl) (by kernel_rfl) (fun _ _ _ h => h) (by rfl) ?hy ?_; (case hy => (go_simp; with_reducible rfl)); ((try dsimp only); (try simp only [Act.put, List.setIfInBounds_toArray, List.set_cons_zero, List.set_cons_succ]))
        refine M_pure (i := 1) (v := ?_) rfl (by kernel_rfl) (by kernel_rfl) (by kernel_rfl) (fun _ _ _ h => h) (by rfl) ?hy ?_; (case hy => (intro w; go_simp; with_reducible rfl)); ((try dsimp only); (try simp only [Act.put, List.setIfInBounds_toArray, List.set_cons_zero, List.set_cons_succ]))
        refine M_take (i := 2) (v := ?_) rfl (by kernel_rfl) (by kernel_rfl) (by kernel_rfl) (by kernel_rfl) (fun _ _ _ h => h) (by rfl) ?hy ?_; (case hy => (go_simp; with_reducible rfl)); ((try dsimp only); (try simp only [Act.put, List.setIfInBounds_toArray, List.set_cons_zero, List.set_cons_succ]))
        refine M_pure (i := 3) (v := ?_) rfl (by kernel_rfl) (by kernel_rfl) (by kernel_rfl) (fun _ _ _ h => h) (by rfl) ?hy ?_; (case hy => (intro w; go_simp; with_reducible rfl)); ((try dsimp only); (try simp only [Act.put, List.setIfInBounds_toArray, List.set_cons_zero, List.set_cons_succ]))
        refine M_pure (i := 4) (v := ?_) rfl (by kernel_rfl) (by kernel_rfl) (by kernel_rfl) (fun _ _ _ h => h) (by rfl) ?hy ?_; (case hy => (intro w; go_simp; with_reducible rfl)); ((try dsimp only); (try simp only [Act.put, List.setIfInBounds_toArray, List.set_cons_zero, List.set_cons_succ]))
        refine M_pure (i := 5) (v := ?_) rfl (by kernel_rfl) (by kernel_rfl) (by kernel_rfl) (fun _ _ _ h => h) (by rfl) ?hy ?_; (case hy => (intro w; go_simp; with_reducible rfl)); ((try dsimp only); (try simp only [Act.put, List.setIfInBounds_toArray, List.set_cons_zero, List.set_cons_succ]))
        refine M_take (i := 6) (v := ?_) rfl (by kernel_rfl) (by kernel_rfl) (by kernel_rfl) (by kernel_rfl) (fun _ _ _ h => h) (by rfl) ?hy ?_; (case hy => (go_simp; with_reducible rfl)); ((try dsimp only); (try simp only [Act.put, List.setIfInBounds_toArray, List.set_cons_zero, List.set_cons_succ]))
        refine M_take (i := 7) (v := ?_) rfl (by kernel_rfl) (by kernel_rfl) (by kernel_rfl) (by kernel_rfl) (fun _ _ _ h => h) (by rfl) ?hy ?_; (case hy => (go_simp; with_reducible rfl)); ((try dsimp only); (try simp only [Act.put, List.setIfInBounds_toArray, List.set_cons_zero, List.set_cons_succ]))
        refine M_pure (i := 8) (v := ?_) rfl (by kernel_rfl) (by kernel_rfl) (by kernel_rfl) (fun _ _ _ h => h) (by rfl) ?hy ?_; (case hy => (intro w; go_simp; with_reducible rfl)); ((try dsimp only); (try simp only [Act.put, List.setIfInBounds_toArray, List.set_cons_zero, List.set_cons_succ]))
        refine M_pure (i := 9) (v := ?_) rfl (by kernel_rfl) (by kernel_rfl) (by kernel_rfl) (fun _ _ _ h => h) (by rfl) ?hy ?_; (case hy => (intro w; go_simp; with_reducible rfl)); ((try dsimp only); (try simp only [Act.put, List.setIfInBounds_toArray, List.set_cons_zero, List.set_cons_succ]))
        refine M_take (i := 10) (v := ?_) rfl (by kernel_rfl) (by kernel_rfl) (by kernel_rfl) (by kernel_rfl) (fun _ _ _ h => h) (by rfl) ?hy ?_; (case hy => (go_simp; with_reducible rfl)); ((try dsimp only); (try simp only [Act.put, List.setIfInBounds_toArray, List.set_cons_zero, List.set_cons_succ]))
        refine M_pure (i := 11) (v := ?_) rfl (by kernel_rfl) (by kernel_rfl) (by kernel_rfl) (fun _ _ _ h => h) (by rfl) ?hy ?_; (case hy => (intro w; go_simp; with_reducible rfl)); ((try dsimp only); (try simp only [Act.put, List.setIfInBounds_toArray, List.set_cons_zero, List.set_cons_succ]))
        refine M_pure (i := 12) (v := ?_) rfl (by kernel_rfl) (by kernel_rfl) (by kernel_rfl) (fun _ _ _ h => h) (by rfl) ?hy ?_; (case hy => (intro w; go_simp; with_reducible rfl)); ((try dsimp only); (try simp only [Act.put, List.setIfInBounds_toArray, List.set_cons_zero, List.set_cons_succ]))
        refine M_pure (i := 13) (v := ?_) rfl (by kernel_rfl) (by kernel_rfl) (by kernel_rfl) (fun _ _ _ h => h) (by rfl) ?hy ?_; (case hy => (intro w; go_simp; with_reducible rfl)); ((try dsimp only); (try simp only [Act.put, List.setIfInBounds_toArray, List.set_cons_zero, List.set_cons_succ]))
        refine M_take (i := 14) (v := ?_) rfl (by kernel_rfl) (by kernel_rfl) (by kernel_rfl) (by kernel_rfl) (fun _ _ _ h => h) (by rfl) ?hy ?_; (case hy => (go_simp; with_reducible rfl)); ((try dsimp only); (try simp only [Act.put, List.setIfInBounds_toArray, List.set_cons_zero, List.set_cons_succ]))
        refine M_eff (i := 15) rfl (by kernel_rfl) (by rfl) ?_
        go_wp2_with (go_at_call 102; refine HF.out.1.mono ?_; rintro e X ⟨rfl, P, rfl, hP⟩)
        refine ⟨trivial, ?_⟩
        ((try dsimp only); (try simp only [Act.put, List.setIfInBounds_toArray, List.set_cons_zero, List.set_cons_succ]))
        by_cases hPn : P = none
        · subst hPn
          have HN := Lib.hid (show FreshIds t.ids (l ++ [x.id]) from FreshIds.snoc.2 ⟨HF.out.2.1, HF.out.2.2, hP.1 rfl⟩)
          clear hP
          refine M_pure (i := 16) (v := ?_) rfl (by kernel_rfl) (by kernel_rfl) (by kernel_rfl) (fun _ _ _ h => h) (by rfl) ?hy ?_; (case hy => (intro w; go_simp; with_reducible rfl)); ((try dsimp only); (try simp only [Act.put, List.setIfInBounds_toArray, List.set_cons_zero, List.set_cons_succ]))
          refine M_pure (i := 17) (v := ?_) rfl (by kernel_rfl) (by kernel_rfl) (by kernel_rfl) (fun _ _ _ h => h) (by rfl) ?hy ?_; (case hy => (intro w; go_simp; with_reducible rfl)); ((try dsimp only); (try simp only [Act.put, List.setIfInBounds_toArray, List.set_cons_zero, List.set_cons_succ]))
          refine M_brk (i := 18) rfl (by kernel_rfl) (by rfl) (by rfl) ?_
          go_wp2_with fail
          refine M_done (by kernel_rfl) ?_ _
          go_wp2_with (skip; fail)
          go_meet
          refine Lib.hid ⟨?_, ((Chg.refl _ _).drew).setCell _ _ (by simp)⟩
          rw [decide_eq_true HN.out]
          exact heap_setCell_same _ _ 0 _ _ _ HH.out.2.2.2.1.tw
        · obtain ⟨Pa, rfl⟩ : ∃ Pa, P = some Pa := by cases P with | none => exact absurd rfl hPn | some a => exact ⟨a, rfl⟩
          have HN := Lib.hid (show ¬ FreshIds t.ids (l ++ [x.id]) from fun h => hPn (hP.2 (FreshIds.snoc.1 h).2.2))
          clear hP hPn
          refine M_pure (i := 16) (v := ?_) rfl (by kernel_rfl) (by kernel_rfl) (by kernel_rfl) (fun _ _ _ h => h) (by rfl) ?hy ?_; (case hy => (intro w; go_simp; with_reducible rfl)); ((try dsimp only); (try simp only [Act.put, List.setIfInBounds_toArray, List.set_cons_zero, List.set_cons_succ]))
          refine M_pure (i := 17) (v := ?_) rfl (by kernel_rfl) (by kernel_rfl) (by kernel_rfl) (fun _ _ _ h => h) (by rfl) ?hy ?_; (case hy => (intro w; go_simp; with_reducible rfl)); ((try dsimp only); (try simp only [Act.put, List.setIfInBounds_toArray, List.set_cons_zero, List.set_cons_succ]))
          refine M_brk (i := 18) rfl (by kernel_rfl) (by rfl) (by rfl) ?_
          go_wp2_with fail
          refine M_done (by kernel_rfl) ?_ _
          go_wp2_with (skip; fail)
          go_meet
          refine Lib.hid ⟨?_, ((Chg.refl _ _).drew).setCell _ _ (by simp)⟩
          rw [decide_eq_false HN.out]
          exact heap_setCell_same _ _ 0 _ _ _ HH.out.2.2.2.1.tw
    · have e1 : decide (FreshIds t.ids l) = false := decide_eq_false hfr
      rw [e1] at b0
      simp only [Bool.not_false] at b0
      have HN := Lib.hid (show ¬ FreshIds t.ids (l ++ [x.id]) from fun h => hfr (FreshIds.snoc.1 h).1)
      clear e1 hfr
      refine wp_region_M (fun _ => True) (fun k => [18].contains k) (fun k => [18].contains k) (by kernel_rfl) ?_
      ((try dsimp only); (try simp only [Act.put, List.setIfInBounds_toArray, List.set_cons_zero, List.set_cons_succ]))
      refine M_take (i := 0) (v := ?_) rfl (by kernel_rfl) (by kernel_rfl) (by kernel_rfl) (by kernel_rfl) (fun _ _ _ h => h) (by rfl) ?hy ?_; (case hy => (go_simp; with_reducible rfl)); ((try dsimp only); (try simp only [Act.put, List.setIfInBounds_toArray, List.set_cons_zero, List.set_cons_succ]))
      refine M_pure (i := 1) (v := ?_) rfl (by kernel_rfl) (by kernel_rfl) (by kernel_rfl) (fun _ _ _ h => h) (by rfl) ?hy ?_; (case hy => (intro w; go_simp; with_reducible rfl)); ((try dsimp only); (try simp only [Act.put, List.setIfInBounds_toArray, List.set_cons_zero, List.set_cons_succ]))
      refine M_skip (i := 2) rfl (by kernel_rfl) (by kernel_rfl) (by kernel_rfl) (fun _ _ _ h => h) (by rfl) ?_; ((try dsimp only); (try simp only [Act.put, List.setIfInBounds_toArray, List.set_cons_zero, List.set_cons_succ]))
      refine M_skip (i := 3) rfl (by kernel_rfl) (by kernel_rfl) (by kernel_rfl) (fun _ _ _ h => h) (by rfl) ?_; ((try dsimp only); (try simp only [Act.put, List.setIfInBounds_toArray, List.set_cons_zero, List.set_cons_succ]))
      refine M_skip (i := 4) rfl (by kernel_rfl) (by kernel_rfl) (by kernel_rfl) (fun _ _ _ h => h) (by rfl) ?_; ((try dsimp only); (try simp only [Act.put, List.setIfInBounds_toArray, List.set_cons_zero, List.set_cons_succ]))
      refine M_skip (i := 5) rfl (by kernel_rfl) (by kernel_rfl) (by kernel_rfl) (fun _ _ _ h => h) (by rfl) ?_; ((try dsimp only); (try simp only [Act.put, List.setIfInBounds_toArray, List.set_cons_zero, List.set_cons_succ]))
      refine M_skip (i := 6) rfl (by kernel_rfl) (by kernel_rfl) (by kernel_rfl) (fun _ _ _ h => h) (by rfl) ?_; ((try dsimp only); (try simp only [Act.put, List.setIfInBounds_toArray, List.set_cons_zero, List.set_cons_succ]))
      refine M_skip (i := 7) rfl (by kernel_rfl) (by kernel_rfl) (by kernel_rfl) (fun _ _ _ h => h) (by rfl) ?_; ((try dsimp only); (try simp only [Act.put, List.setIfInBounds_toArray, List.set_cons_zero, List.set_cons_succ]))
      refine M_pure (i := 8) (v := ?_) rfl (by kernel_rfl) (by kernel_rfl) (by kernel_rfl) (fun _ _ _ h => h) (by rfl) ?hy ?_; (case hy => (intro w; go_simp; with_reducible rfl)); ((try dsimp only); (try simp only [Act.put, List.setIfInBounds_toArray, List.set_cons_zero, List.set_cons_succ]))
      refine M_pure (i := 9) (v := ?_) rfl (by kernel_rfl) (by kernel_rfl) (by kernel_rfl) (fun _ _ _ h => h) (by rfl) ?hy ?_; (case hy => (intro w; go_simp; with_reducible rfl)); ((try dsimp only); (try simp only [Act.put, List.setIfInBounds_toArray, List.set_cons_zero, List.set_cons_succ]))
      refine M_skip (i := 10) rfl (by kernel_rfl) (by kernel_rfl) (by kernel_rfl) (fun _ _ _ h => h) (by rfl) ?_; ((try dsimp only); (try simp only [Act.put, List.setIfInBounds_toArray, List.set_cons_zero, List.set_cons_succ]))
      refine M_skip (i := 11) rfl (by kernel_rfl) (by kernel_rfl) (by kernel_rfl) (fun _ _ _ h => h) (by rfl) ?_; ((try dsimp only); (try simp only [Act.put, List.setIfInBounds_toArray, List.set_cons_zero, List.set_cons_succ]))
      refine M_skip (i := 12) rfl (by kernel_rfl) (by kernel_rfl) (by kernel_rfl) (fun _ _ _ h => h) (by rfl) ?_; ((try dsimp only); (try simp only [Act.put, List.setIfInBounds_toArray, List.set_cons_zero, List.set_cons_succ]))
      refine M_skip (i := 13) rfl (by kernel_rfl) (by kernel_rfl) (by kernel_rfl) (fun _ _ _ h => h) (by rfl) ?_; ((try dsimp only); (try simp only [Act.put, List.setIfInBounds_toArray, List.set_cons_zero, List.set_cons_succ]))
      refine M_skip (i := 14) rfl (by kernel_rfl) (by kernel_rfl) (by kernel_rfl) (fun _ _ _ h => h) (by rfl) ?_; ((try dsimp only); (try simp only [Act.put, List.setIfInBounds_toArray, List.set_cons_zero, List.set_cons_succ]))
      refine M_skip (i := 15) rfl (by kernel_rfl) (by kernel_rfl) (by kernel_rfl) (fun _ _ _ h => h) (by rfl) ?_; ((try dsimp only); (try simp only [Act.put, List.setIfInBounds_toArray, List.set_cons_zero, List.set_cons_succ]))
      refine M_skip (i := 16) rfl (by kernel_rfl) (by kernel_rfl) (by kernel_rfl) (fun _ _ _ h => h) (by rfl) ?_; ((try dsimp only); (try simp only [Act.put, List.setIfInBounds_toArray, List.set_cons_zero, List.set_cons_succ]))
      refine M_pure (i := 17) (v := ?_) rfl (by kernel_rfl) (by kernel_rfl) (by kernel_rfl) (fun _ _ _ h => h) (by rfl) ?hy ?_; (case hy => (intro w; go_simp; with_reducible rfl)); ((try dsimp only); (try simp only [Act.put, List.setIfInBounds_toArray, List.set_cons_zero, List.set_cons_succ]))
      refine M_brk (i := 18) rfl (by kernel_rfl) (by rfl) (by rfl) ?_
      go_wp2_with fail
      refine M_done (by kernel_rfl) ?_ _
      go_wp2_with (skip; fail)
      go_meet
      refine Lib.hid ⟨?_, ((Chg.refl _ _).drew).setCell _ _ (by simp)⟩
      rw [decide_eq_false HN.out]
      exact heap_setCell_same _ _ 0 _ _ _ HH.out.2.2.2.1.tw
  case rest =>
  obtain ⟨X, hX⟩ : ∃ X, X = wc := ⟨_, rfl⟩
  subst hX
  have HC := Lib.hid hcut.out
  clear hcut b0 fb b1 b2
  have c0 := HC.out.2.cell c0 (by simpa using hxt)
  have c3 := HC.out.2.cell c3 (by simpa using hxt)
  have hap := HH.out.2.2.2.2.2.1
  have x1 : X.cell? ⟨bs, 0, none⟩ = some (.map (some bm)) := HC.out.2.cell (by simp [World.cell?, HH.out.2.2.2.1.sb]) (by simpa using fun e => hap.a e.symm)
  have hmp := HH.out.2.2.2.1.mp.kept HC.out.2 (by simpa using fun e => hap.b e.symm)
  have HM := Lib.hid hmp
  clear hmp hap
  go_wp2_with (skip; fail)
  refine wp_region_M (fun _ => True) (fun k => [5].contains k) (fun k => [5].contains k) (by kernel_rfl) ?_
  ((try dsimp only); (try simp only [Act.put, List.setIfInBounds_toArray, List.set_cons_zero, List.set_cons_succ]))
  refine M_take (i := 0) (v := ?_) rfl (by kernel_rfl) (by kernel_rfl) (by kernel_rfl) (by kernel_rfl) (fun _ _ _ h => h) (by rfl) ?hy ?_; (case hy => (go_simp; with_reducible rfl)); ((try dsimp only); (try simp only [Act.put, List.setIfInBounds_toArray, List.set_cons_zero, List.set_cons_succ]))
  refine M_pure (i := 1) (v := ?_) rfl (by kernel_rfl) (by kernel_rfl) (by kernel_rfl) (fun _ _ _ h => h) (by rfl) ?hy ?_; (case hy => (intro w; go_simp; with_reducible rfl)); ((try dsimp only); (try simp only [Act.put, List.setIfInBounds_toArray, List.set_cons_zero, List.set_cons_succ]))
  refine M_pure (i := 2) (v := ?_) rfl (by kernel_rfl) (by kernel_rfl) (by kernel_rfl) (fun _ _ _ h => h) (by rfl) ?hy ?_; (case hy => (intro w; go_simp; with_reducible rfl)); ((try dsimp only); (try simp only [Act.put, List.setIfInBounds_toArray, List.set_cons_zero, List.set_cons_succ]))
  refine M_pure (i := 3) (v := ?_) rfl (by kernel_rfl) (by kernel_rfl) (by kernel_rfl) (fun _ _ _ h => h) (by rfl) ?hy ?_; (case hy => (intro w; go_simp; with_reducible rfl)); ((try dsimp only); (try simp only [Act.put, List.setIfInBounds_toArray, List.set_cons_zero, List.set_cons_succ]))
  refine M_take (i := 4) (v := ?_) rfl (by kernel_rfl) (by kernel_rfl) (by kernel_rfl) (by kernel_rfl) (fun _ _ _ h => h) (by rfl) ?hy ?_; (case hy => (go_simp; with_reducible rfl)); ((try dsimp only); (try simp only [Act.put, List.setIfInBounds_toArray, List.set_cons_zero, List.set_cons_succ]))
  refine M_brk (i := 5) rfl (by kernel_rfl) (by rfl) (by rfl) ?_
  refine wpList_update_I (T := 114) rfl (.tmp 38) (.tmp 42) (.const (.bool true)) rfl Try.underlying114 Try.underlying3 (HM.out.kept ((Chg.refl [] X).drew) (by simp)) x.id (.bool true) rfl rfl rfl ?_
  intro Y hmY hcY hzY
  have hcXY : Chg [bm] X Y := ((Chg.refl [bm] X).drew).trans hcY
  rw [seenM_snoc] at hmY
  have hwY : Chg [bt, bm] w Y := (HC.out.2.mono (by simp)).trans (hcXY.mono (by simp))
  have hap := HH.out.2.2.2.2.2.1
  have hSY : InsSt Y bt bs bm bx bi g o t.ids (l ++ [x.id]) := ⟨hcXY.at HC.out.1 (by simpa using hap.b), hwY.at HH.out.2.2.2.1.sb (by simp; exact ⟨fun e => hap.a e.symm, fun e => hap.e e.symm⟩), hmY, hwY.at HH.out.2.2.2.1.tb (by simp; exact ⟨fun e => hap.c e.symm, fun e => hap.f e.symm⟩), hwY.at HH.out.2.2.2.1.fb (by simp; exact ⟨fun e => hap.d e.symm, fun e => hap.h e.symm⟩)⟩
  have c0 := hcXY.cell c0 (by simpa using hxm)
  have c3 := hcXY.cell c3 (by simpa using hxm)
  have HY := Lib.hid (And.intro hSY hwY)
  have hlen := And.intro HH.out.2.2.2.2.2.2.1 HH.out.2.2.2.2.2.2.2.1
  clear hmY hcY hzY hcXY hwY hap hSY x1
  refine wpList_nil ?_
  ((try dsimp only [EffQ]); (try simp only [Act.put, List.setIfInBounds_toArray, List.set_cons_zero, List.set_cons_succ]))
  refine M_done (by kernel_rfl) ?_ _
  go_wp2_with (skip; fail)
  go_loopw [48] (fun iv wr => ∃ k : Nat, k ≤ x.kids.length ∧ iv = .int .i64 k ∧ Hid (InsSt wr bt bs bm bx bi g o t.ids (l ++ [x.id] ++ idsL (x.kids.take k)) ∧ Chg [bt, bm] w wr ∧ ∀ i ∈ x.id :: idsL (x.kids.take k), InRange i)) (fun iv _ => x.kids.length - (intOf iv).toNat)
  case atStart => exact ⟨0, Nat.zero_le _, rfl, by simpa [idsL] using HY.out.1, HY.out.2, by simpa [idsL] using HR.out⟩
  case round =>
    obtain ⟨k, hk, rfl, H⟩ := hrel
    obtain ⟨V, hV⟩ : ∃ V, V = wr := ⟨_, rfl⟩
    subst hV
    clear c0 c3
    have c3 : V.cell? ⟨gx, ox + 3, none⟩ = some (.slice A x.kids.length c) := H.out.2.1.cell HH.out.2.2.2.2.2.2.2.2 (by simp; exact ⟨hxt, hxm⟩)
    by_cases hlt : k < x.kids.length
    · obtain ⟨gk, ok, hA, hok, hat⟩ := HH.out.2.1.at hlt
      subst hA
      have v4 : V.cell? ⟨bi, 0, none⟩ = some (.func (.func 131) #[] #[.pointer (some ⟨bt, 0, none⟩), .pointer (some ⟨bs, 0, none⟩), .pointer (some ⟨bx, 0, none⟩), .pointer (some ⟨bi, 0, none⟩)]) := by simp [World.cell?, H.out.1.fb]
      have hV : Chg [bt, bm] w V.drew := H.out.2.1.drew
      have hd := H.out.1
      have hcall := HH.out.1 (x.kids[k]) (List.getElem_mem hlt) gk (ok + k * 4) (l ++ [x.id] ++ idsL (x.kids.take k)) V.drew (hat.kept hV (by simp; exact hok) (by simp)) hok.1 hok.2 ⟨hd.tw, hd.sb, hd.mp.kept ((Chg.refl [] V).drew) (by simp), hd.tb, hd.fb⟩ (HH.out.2.2.2.2.1.kept hV (by simp; exact ⟨hgt, hgm⟩) (by simp))
      have HC := Lib.hid (And.intro hcall hV)
      clear hcall hat hd hV
      go_wp2_with (skip; fail)
      refine wp_region_M (fun _ => True) (fun k => [7].contains k) (fun k => [7].contains k) (by kernel_rfl) ?_
      ((try dsimp only); (try simp only [Act.put, List.setIfInBounds_toArray, List.set_cons_zero, List.set_cons_succ]))
      refine M_take (i := 0) (v := ?_) rfl (by kernel_rfl) (by kernel_rfl) (by kernel_rfl) (by kernel_rfl) (fun _ _ _ h => h) (by rfl) ?hy ?_; (case hy => (go_simp; with_reducible rfl)); ((try dsimp only); (try simp only [Act.put, List.setIfInBounds_toArray, List.set_cons_zero, List.set_cons_succ]))
      refine M_pure (i := 1) (v := ?_) rfl (by kernel_rfl) (by kernel_rfl) (by kernel_rfl) (fun _ _ _ h => h) (by rfl) ?hy ?_; (case hy => (intro w; go_simp; with_reducible rfl)); ((try dsimp only); (try simp only [Act.put, List.setIfInBounds_toArray, List.set_cons_zero, List.set_cons_succ]))
      refine M_pure (i := 2) (v := ?_) rfl (by kernel_rfl) (by kernel_rfl) (by kernel_rfl) (fun _ _ _ h => h) (by rfl) ?hy ?_; (case hy => (intro w; go_simp; with_reducible rfl)); ((try dsimp only); (try simp only [Act.put, List.setIfInBounds_toArray, List.set_cons_zero, List.set_cons_succ]))
      refine M_pure (i := 3) (v := ?_) rfl (by kernel_rfl) (by kernel_rfl) (by kernel_rfl) (fun _ _ _ h => h) (by rfl) ?hy ?_; (case hy => (intro w; go_simp; with_reducible rfl)); ((try dsimp only); (try simp only [Act.put, List.setIfInBounds_toArray, List.set_cons_zero, List.set_cons_succ]))
      refine M_take (i := 4) (v := ?_) rfl (by kernel_rfl) (by kernel_rfl) (by kernel_rfl) (by kernel_rfl) (fun _ _ _ h => h) (by rfl) ?hy ?_; (case hy => (go_simp; with_reducible rfl)); ((try dsimp only); (try simp only [Act.put, List.setIfInBounds_toArray, List.set_cons_zero, List.set_cons_succ]))
      refine M_pure (i := 5) (v := ?_) rfl (by kernel_rfl) (by kernel_rfl) (by kernel_rfl) (fun _ _ _ h => h) (by rfl) ?hy ?_; (case hy => (intro w; go_simp; with_reducible rfl)); ((try dsimp only); (try simp only [Act.put, List.setIfInBounds_toArray, List.set_cons_zero, List.set_cons_succ]))
      refine M_pure (i := 6) (v := ?_) rfl (by kernel_rfl) (by kernel_rfl) (by kernel_rfl) (fun _ _ _ h => h) (by rfl) ?hy ?_; (case hy => (intro w; go_simp; with_reducible rfl)); ((try dsimp only); (try simp only [Act.put, List.setIfInBounds_toArray, List.set_cons_zero, List.set_cons_succ]))
      refine M_brk (i := 7) rfl (by kernel_rfl) (by rfl) (by rfl) ?_
      go_wp2_with fail
      refine HC.out.1.mono ?_
      rintro e Z ⟨hcz, h⟩
      rcases h with ⟨rfl, h1, h2⟩ | ⟨rfl, h1⟩
      · have HZ := Lib.hid (And.intro hcz (And.intro h1 h2))
        clear hcz h1 h2
        go_wp2_with fail
        ((try dsimp only [EffQ]); (try simp only [Act.put, List.setIfInBounds_toArray, List.set_cons_zero, List.set_cons_succ]))
        refine M_pure (i := 8) (v := ?_) rfl (by kernel_rfl) (by kernel_rfl) (by kernel_rfl) (fun _ _ _ h => h) (by rfl) ?hy ?_; (case hy => (intro w; go_simp; with_reducible rfl)); ((try dsimp only); (try simp only [Act.put, List.setIfInBounds_toArray, List.set_cons_zero, List.set_cons_succ]))
        refine M_done (by kernel_rfl) ?_ _
        go_wp2_with (skip; fail)
        go_roundw
        case rel =>
          refine ⟨k + 1, by omega, by go_num, Lib.hid ⟨?_, HC.out.2.trans HZ.out.1, ?_⟩⟩
          · rw [idsL_take x.kids k hlt, ← List.append_assoc]
            exact HZ.out.2.2
          · rw [idsL_take x.kids k hlt]
            intro i hi
            rw [← List.cons_append] at hi
            rcases List.mem_append.1 hi with hi | hi
            · exact H.out.2.2 i hi
            · exact HZ.out.2.1 i hi
        case measure => simp [intOf]; omega
      · have HZ := Lib.hid (And.intro hcz h1)
        clear hcz h1
        go_wp2_with fail
        ((try dsimp only [EffQ]); (try simp only [Act.put, List.setIfInBounds_toArray, List.set_cons_zero, List.set_cons_succ]))
        refine M_pure (i := 8) (v := ?_) rfl (by kernel_rfl) (by kernel_rfl) (by kernel_rfl) (fun _ _ _ h => h) (by rfl) ?hy ?_; (case hy => (intro w; go_simp; with_reducible rfl)); ((try dsimp only); (try simp only [Act.put, List.setIfInBounds_toArray, List.set_cons_zero, List.set_cons_succ]))
        refine M_done (by kernel_rfl) ?_ _
        go_wp2_with (skip; fail)
        go_ret
        refine ⟨HC.out.2.trans HZ.out.1, .inr ⟨rfl, fun h => HZ.out.2 (fun i hi => h i ?_)⟩⟩
        rw [HH.out.2.2.1]
        exact List.mem_cons_of_mem _ (mem_idsL (List.getElem_mem hlt) hi)
    · obtain rfl : k = x.kids.length := by omega
      go_wp2_with (skip; fail)
      go_ret
      refine ⟨H.out.2.1, .inl ⟨rfl, ?_, ?_⟩⟩
      · have h := H.out.2.2
        rw [List.take_of_length_le (Nat.le_refl _), ← HH.out.2.2.1] at h
        exact h
      · have h := H.out.1
        rw [List.take_of_length_le (Nat.le_refl _), List.append_assoc] at h
        rw [HH.out.2.2.1]
        exact h
end Go.Proofs.Ytofjocjljbkjgaa
namespace Go.Proofs.Ytofjocjljbkjgaa
open Go.RowKit
def insertT (t : Tr) (par pl : Int) (sub : Tr) : Except Int Tr :=
  match t.path par with
  | none => .error 4
  | some p => match Tr.at? p t with
    | none => .error 1
    | some n => if 0 ≤ pl ∧ pl ≤ n.kids.length then
        if (∀ i ∈ sub.ids, InRange i) then
          if FreshIds t.ids sub.ids then .ok (Tr.upd p t { n with kids := insAt n.kids pl.toNat sub }) else .error 60
        else .error 2
      else .error 2
set_option maxHeartbeats 4000000 in
set_option maxRecDepth 100000 in
theorem insert_any9 (t : Tr) (s : Stp) (g o gs : Nat) (F : Nat → Prop) (As : Option Addr) (cs : Nat) (w : World) (hM : MutAt w g o t F) (hs : w.heap[gs]? = some (.cells #[.int .i8 (Stp.op s), .int .i64 (Stp.id s), .int .i64 (Stp.par s), .int .i64 (Stp.place s), .string (Stp.text s), .int .i64 (Stp.sub s).id, .int .i64 (Stp.sub s).kind, .string (Stp.sub s).text, .slice As (Stp.sub s).kids.length cs] 27 (0, 0))) (hS : TrC (fun b => b < w.heap.size) w s.sub [.int .i64 (Tr.id (Stp.sub s)), .int .i64 (Tr.kind (Stp.sub s)), .string (Tr.text (Stp.sub s)), .slice As (Tr.kids (Stp.sub s)).length cs]) (hN : t.nodes ≤ 100000) (hNs : s.sub.nodes ≤ 100000) :
    Calls Try.prog 100 #[.pointer (some ⟨g, o, none⟩), .pointer (some ⟨gs, 0, none⟩)] w (DoPost (insertT t s.par s.place s.sub) g o F w) := by
  have hmm := @run_makeMap Try.prog
  have hg := hM.glt
  obtain ⟨W, hW⟩ : ∃ W, W = (w.alloc (.cells #[.pointer (some ⟨g, o, none⟩)] 103)).drew := ⟨_, rfl⟩
  have hcW : Chg [] w W := by rw [hW]; exact (by with_reducible repeat (first | exact Chg.refl _ _ | apply Chg.alloc | apply Chg.drew | apply Chg.drewN | (refine Chg.setCell ?_ _ _ (by simp))))
  have hbW : W.heap[w.heap.size]? = some (.cells #[.pointer (some ⟨g, o, none⟩)] 103 (0, 0)) := by rw [hW]; exact heap_new _ _ rfl
  have hzW : W.heap.size = w.heap.size + 1 := by rw [hW]; simp
  have hsW := hcW.at hs (by simp)
  have hMW := hM.kept hcW (by simp) (by simp)
  have s2 : W.cell? ⟨gs, 2, none⟩ = some (.int .i64 s.par) := by simp [World.cell?, hsW]
  have s3 : W.cell? ⟨gs, 3, none⟩ = some (.int .i64 s.place) := by simp [World.cell?, hsW]
  have t3 := s3
  rw [hW] at s2 s3
  have HW := Lib.hid (And.intro hW (And.intro hcW (And.intro hbW (And.intro hzW (And.intro hsW hMW)))))
  have H0 := Lib.hid (And.intro hM (And.intro hs (And.intro hS (And.intro hN hNs))))
  clear hs hS hN hNs hW hcW hbW hzW hsW hMW
  cases hp : t.path s.par with
  | none =>
    have hc := find_none (HW.out.2.2.2.2.2.toAt) hp
    have HP := Lib.hid (And.intro hc hp)
    clear hc hp hM
    go_enter Try.func100, Try.ntmps100
    go_wp2_with fail
    refine wp_region_M (fun _ => True) (fun k => [5].contains k) (fun k => [5].contains k) (by kernel_rfl) ?_
    ((try dsimp only); (try simp only [Act.put, List.setIfInBounds_toArray, List.set_cons_zero, List.set_cons_succ]))
    refine M_take (i := 0) (v := ?_) rfl (by kernel_rfl) (by kernel_rfl) (by kernel_rfl) (by kernel_rfl) (fun _ _ _ h => h) (by rfl) ?hy ?_; (case hy => (go_simp; with_reducible rfl)); ((try dsimp only); (try simp only [Act.put, List.setIfInBounds_toArray, List.set_cons_zero, List.set_cons_succ]))
    refine M_pure (i := 1) (v := ?_) rfl (by kernel_rfl) (by kernel_rfl) (by kernel_rfl) (fun _ _ _ h => h) (by rfl) ?hy ?_; (case hy => (intro w; go_simp; with_reducible rfl)); ((try dsimp only); (try simp only [Act.put, List.setIfInBounds_toArray, List.set_cons_zero, List.set_cons_succ]))
    refine M_pure (i := 2) (v := ?_) rfl (by kernel_rfl) (by kernel_rfl) (by kernel_rfl) (fun _ _ _ h => h) (by rfl) ?hy ?_; (case hy => (intro w; go_simp; with_reducible rfl)); ((try dsimp only); (try simp only [Act.put, List.setIfInBounds_toArray, List.set_cons_zero, List.set_cons_succ]))
    refine M_pure (i := 3) (v := ?_) rfl (by kernel_rfl) (by kernel_rfl) (by kernel_rfl) (fun _ _ _ h => h) (by rfl) ?hy ?_; (case hy => (intro w; go_simp; with_reducible rfl)); ((try dsimp only); (try simp only [Act.put, List.setIfInBounds_toArray, List.set_cons_zero, List.set_cons_succ]))
    refine M_take (i := 4) (v := ?_) rfl (by kernel_rfl) (by kernel_rfl) (by kernel_rfl) (by kernel_rfl) (fun _ _ _ h => h) (by rfl) ?hy ?_; (case hy => (go_simp; with_reducible rfl)); ((try dsimp only); (try simp only [Act.put, List.setIfInBounds_toArray, List.set_cons_zero, List.set_cons_succ]))
    refine M_brk (i := 5) rfl (by kernel_rfl) (by rfl) (by rfl) ?_
    rw [← HW.out.1]
    go_wp2_with fail
    refine HP.out.1.mono ?_
    rintro e X ⟨rfl, rfl⟩
    go_wp2_with fail
    ((try dsimp only [EffQ]); (try simp only [Act.put, List.setIfInBounds_toArray, List.set_cons_zero, List.set_cons_succ]))
    refine M_pure (i := 6) (v := ?_) rfl (by kernel_rfl) (by kernel_rfl) (by kernel_rfl) (fun _ _ _ h => h) (by rfl) ?hy ?_; (case hy => (intro w; go_simp; with_reducible rfl)); ((try dsimp only); (try simp only [Act.put, List.setIfInBounds_toArray, List.set_cons_zero, List.set_cons_succ]))
    refine M_done (by kernel_rfl) ?_ _
    go_wp2_with (skip; fail)
    go_ret
    unfold DoPost insertT
    rw [HP.out.2]
    exact ⟨rfl, Fr.of_chg HW.out.2.1 hg⟩
  | some p =>
    obtain ⟨n, hn, _⟩ := Tr.path_at s.par t p hp
    have hnn := Tr.at_nodes p t n hn
    have hc := find_some (HW.out.2.2.2.2.2.toAt) hp
    have hins : insertT t s.par s.place s.sub = if 0 ≤ s.place ∧ s.place ≤ n.kids.length then (if (∀ i ∈ s.sub.ids, InRange i) then (if FreshIds t.ids s.sub.ids then .ok (Tr.upd p t { n with kids := insAt n.kids s.place.toNat s.sub }) else .error 60) else .error 2) else .error 2 := by unfold insertT; rw [hp]; simp only [hn]
    have HP := Lib.hid (And.intro hc (And.intro hins (And.intro hn hnn)))
    clear hc hp hn hM hnn hins
    go_enter Try.func100, Try.ntmps100
    go_wp2_with fail
    refine wp_region_M (fun _ => True) (fun k => [5].contains k) (fun k => [5].contains k) (by kernel_rfl) ?_
    ((try dsimp only); (try simp only [Act.put, List.setIfInBounds_toArray, List.set_cons_zero, List.set_cons_succ]))
    refine M_take (i := 0) (v := ?_) rfl (by kernel_rfl) (by kernel_rfl) (by kernel_rfl) (by kernel_rfl) (fun _ _ _ h => h) (by rfl) ?hy ?_; (case hy => (go_simp; with_reducible rfl)); ((try dsimp only); (try simp only [Act.put, List.setIfInBounds_toArray, List.set_cons_zero, List.set_cons_succ]))
    refine M_pure (i := 1) (v := ?_) rfl (by kernel_rfl) (by kernel_rfl) (by kernel_rfl) (fun _ _ _ h => h) (by rfl) ?hy ?_; (case hy => (intro w; go_simp; with_reducible rfl)); ((try dsimp only); (try simp only [Act.put, List.setIfInBounds_toArray, List.set_cons_zero, List.set_cons_succ]))
    refine M_pure (i := 2) (v := ?_) rfl (by kernel_rfl) (by kernel_rfl) (by kernel_rfl) (fun _ _ _ h => h) (by rfl) ?hy ?_; (case hy => (intro w; go_simp; with_reducible rfl)); ((try dsimp only); (try simp only [Act.put, List.setIfInBounds_toArray, List.set_cons_zero, List.set_cons_succ]))
    refine M_pure (i := 3) (v := ?_) rfl (by kernel_rfl) (by kernel_rfl) (by kernel_rfl) (fun _ _ _ h => h) (by rfl) ?hy ?_; (case hy => (intro w; go_simp; with_reducible rfl)); ((try dsimp only); (try simp only [Act.put, List.setIfInBounds_toArray, List.set_cons_zero, List.set_cons_succ]))
    refine M_take (i := 4) (v := ?_) rfl (by kernel_rfl) (by kernel_rfl) (by kernel_rfl) (by kernel_rfl) (fun _ _ _ h => h) (by rfl) ?hy ?_; (case hy => (go_simp; with_reducible rfl)); ((try dsimp only); (try simp only [Act.put, List.setIfInBounds_toArray, List.set_cons_zero, List.set_cons_succ]))
    refine M_brk (i := 5) rfl (by kernel_rfl) (by rfl) (by rfl) ?_
    rw [← HW.out.1]
    go_wp2_with fail
    refine HP.out.1.mono ?_
    rintro e X ⟨g', o', rfl, hnode, rfl⟩
    obtain ⟨F', hMf, hF', hgF, hset⟩ := HW.out.2.2.2.2.2.focus hnode HP.out.2.2.1
    obtain ⟨An, cn, n0, n1, n2, n3, hln, hmn, _⟩ := hMf.toAt.cells
    have HF := Lib.hid (And.intro hMf (And.intro hF' (And.intro hgF hset)))
    clear hMf hF' hgF hset hnode n0 n1 n2 s2 s3
    go_wp2_with fail
    ((try dsimp only [EffQ]); (try simp only [Act.put, List.setIfInBounds_toArray, List.set_cons_zero, List.set_cons_succ]))
    refine M_pure (i := 6) (v := ?_) rfl (by kernel_rfl) (by kernel_rfl) (by kernel_rfl) (fun _ _ _ h => h) (by rfl) ?hy ?_; (case hy => (intro w; go_simp; with_reducible rfl)); ((try dsimp only); (try simp only [Act.put, List.setIfInBounds_toArray, List.set_cons_zero, List.set_cons_succ]))
    refine M_done (by kernel_rfl) ?_ _
    by_cases hneg : s.place < 0
    · have b1 : decide (s.place < 0) = true := by simpa using hneg
      have HNg := Lib.hid hneg
      clear hneg
      go_wp2_with (skip; fail)
      go_ret
      unfold DoPost
      rw [HP.out.2.1, if_neg (fun h => by have := HNg.out; omega)]
      exact ⟨rfl, Fr.of_chg HW.out.2.1 hg⟩
    have b1 : decide (s.place < 0) = false := by simpa using hneg
    by_cases hbig : (n.kids.length : Int) < s.place
    · have b2 : decide ((n.kids.length : Int) < s.place) = true := by simpa using hbig
      have HNg := Lib.hid hbig
      clear hneg hbig
      go_wp2_with (skip; fail)
      go_quiet (fail)
      go_wp2_with (skip; fail)
      go_ret
      unfold DoPost
      rw [HP.out.2.1, if_neg (fun h => by have := HNg.out; omega)]
      exact ⟨rfl, Fr.of_chg (HW.out.2.1.drewN _) hg⟩
    have b2 : decide ((n.kids.length : Int) < s.place) = false := by simpa using hbig
    have hif : 0 ≤ s.place ∧ s.place ≤ n.kids.length := ⟨by omega, by omega⟩
    have HI := Lib.hid hif
    clear hneg hbig hif
    go_wp2_with (skip; fail)
    go_quiet (fail)
    obtain ⟨X, hX⟩ : ∃ X, X = W.drewN nq := ⟨_, rfl⟩
    have hcX : Chg [] W X := by rw [hX]; exact (Chg.refl _ _).drewN _
    rw [← hX]
    have HX := Lib.hid hcX
    clear hX hcX b1 b2 n3
    go_wp2_with (skip; fail)
    obtain ⟨Y, hY⟩ : ∃ Y, Y = (((X.alloc (.map #[] 0)).alloc (.cells #[.map (some X.heap.size)] 114)).alloc (.cells #[.bool false] 4)).alloc (.cells #[.func (.func 131) #[] #[.pointer (some ⟨X.heap.size + 1 + 1, 0, none⟩), .pointer (some ⟨X.heap.size + 1, 0, none⟩), .pointer (some ⟨w.heap.size, 0, none⟩), .pointer (some ⟨X.heap.size + 1 + 1 + 1, 0, none⟩)]] 102) := ⟨_, rfl⟩
    have hcY : Chg [] X Y := by rw [hY]; exact (by with_reducible repeat (first | exact Chg.refl _ _ | apply Chg.alloc | apply Chg.drew | apply Chg.drewN | (refine Chg.setCell ?_ _ _ (by simp))))
    have hcWY := HX.out.trans hcY
    have hSt : InsSt Y (X.heap.size + 1 + 1) (X.heap.size + 1) X.heap.size w.heap.size (X.heap.size + 1 + 1 + 1) g o t.ids [] := by
      refine ⟨?_, ?_, ?_, hcWY.at HW.out.2.2.1 (by simp), ?_⟩
      · rw [decide_eq_true (show FreshIds t.ids [] from ⟨List.nodup_nil, by simp⟩), hY]; exact heap_old (heap_new _ _ (by simp)) _
      · rw [hY]; exact heap_old (heap_old (heap_new _ _ (by simp)) _) _
      · have h1 := MapI.made X
        rw [show (fun _ => none : Int → Option Value) = seenM [] from by funext n; simp [seenM]] at h1
        rw [hY]; exact h1.kept (l := []) (by with_reducible repeat (first | exact Chg.refl _ _ | apply Chg.alloc | apply Chg.drew | apply Chg.drewN | (refine Chg.setCell ?_ _ _ (by simp)))) (by simp)
      · rw [hY]; exact heap_new _ _ (by simp)
    rw [← hY]
    have hWX := HX.out.size
    have hWw := HW.out.2.2.2.1
    have hgsl := lt_of_block H0.out.2.1
    have hYs : Y.heap.size = X.heap.size + 1 + 1 + 1 + 1 := by rw [hY]; simp
    have hcwY : Chg [] w Y.drew := (HW.out.2.1.trans hcWY).drew
    have hMY := HW.out.2.2.2.2.2.kept hcWY.drew (by simp) (by simp)
    have hgl : ∀ y, F y → y < w.heap.size := H0.out.1.lt
    have hcall := ins_any (X.heap.size + 1 + 1) (X.heap.size + 1) X.heap.size w.heap.size (X.heap.size + 1 + 1 + 1) g o t ⟨by omega, by omega, by omega, by omega, by omega, by omega, by omega⟩ (by omega) (by omega) s.sub gs 5 [] Y.drew
      ⟨_, range_of_block (cs := (#[.int .i8 (Stp.op s), .int .i64 (Stp.id s), .int .i64 (Stp.par s), .int .i64 (Stp.place s), .string (Stp.text s), .int .i64 (Stp.sub s).id, .int .i64 (Stp.sub s).kind, .string (Stp.sub s).text, .slice As (Stp.sub s).kids.length cs]).toList) (hcwY.at H0.out.2.1 (by simp)) 5 4, (H0.out.2.2.1.kept hcwY (by simp)).weak (fun b hb _ => ⟨by omega, by omega⟩)⟩ (by omega) (by omega)
      ⟨hSt.tw, hSt.sb, hSt.mp.kept ((Chg.refl [] Y).drew) (by simp), hSt.tb, hSt.fb⟩
      (by obtain ⟨⟨cs', hr, hT⟩, _⟩ := hMY; exact ⟨cs', hr, hT.toC.weak (fun b hb _ => ⟨by have := hgl b hb; omega, by have := hgl b hb; omega⟩)⟩)
    have y3 : Y.drew.cell? ⟨X.heap.size + 1 + 1 + 1, 0, none⟩ = some (.func (.func 131) #[] #[.pointer (some ⟨X.heap.size + 1 + 1, 0, none⟩), .pointer (some ⟨X.heap.size + 1, 0, none⟩), .pointer (some ⟨w.heap.size, 0, none⟩), .pointer (some ⟨X.heap.size + 1 + 1 + 1, 0, none⟩)]) := by
      have h0 : Y.cell? ⟨X.heap.size + 1 + 1 + 1, 0, none⟩ = some (.func (.func 131) #[] #[.pointer (some ⟨X.heap.size + 1 + 1, 0, none⟩), .pointer (some ⟨X.heap.size + 1, 0, none⟩), .pointer (some ⟨w.heap.size, 0, none⟩), .pointer (some ⟨X.heap.size + 1 + 1 + 1, 0, none⟩)]) := by simp [World.cell?, hSt.fb]
      exact h0
    have HY := Lib.hid (And.intro hcall (And.intro hcWY (And.intro hYs hWw)))
    clear hcall hcWY hYs hSt hMY hY hcY hcwY hgsl
    refine wp_region_M (fun _ => True) (fun k => [4].contains k) (fun k => [4].contains k) (by kernel_rfl) ?_
    ((try dsimp only); (try simp only [Act.put, List.setIfInBounds_toArray, List.set_cons_zero, List.set_cons_succ]))
    refine M_take (i := 0) (v := ?_) rfl (by kernel_rfl) (by kernel_rfl) (by kernel_rfl) (by kernel_rfl) (fun _ _ _ h => h) (by rfl) ?hy ?_; (case hy => (go_simp; with_reducible rfl)); ((try dsimp only); (try simp only [Act.put, List.setIfInBounds_toArray, List.set_cons_zero, List.set_cons_succ]))
    refine M_pure (i := 1) (v := ?_) rfl (by kernel_rfl) (by kernel_rfl) (by kernel_rfl) (fun _ _ _ h => h) (by rfl) ?hy ?_; (case hy => (intro w; go_simp; with_reducible rfl)); ((try dsimp only); (try simp only [Act.put, List.setIfInBounds_toArray, List.set_cons_zero, List.set_cons_succ]))
    refine M_pure (i := 2) (v := ?_) rfl (by kernel_rfl) (by kernel_rfl) (by kernel_rfl) (fun _ _ _ h => h) (by rfl) ?hy ?_; (case hy => (intro w; go_simp; with_reducible rfl)); ((try dsimp only); (try simp only [Act.put, List.setIfInBounds_toArray, List.set_cons_zero, List.set_cons_succ]))
    refine M_pure (i := 3) (v := ?_) rfl (by kernel_rfl) (by kernel_rfl) (by kernel_rfl) (fun _ _ _ h => h) (by rfl) ?hy ?_; (case hy => (intro w; go_simp; with_reducible rfl)); ((try dsimp only); (try simp only [Act.put, List.setIfInBounds_toArray, List.set_cons_zero, List.set_cons_succ]))
    refine M_brk (i := 4) rfl (by kernel_rfl) (by rfl) (by rfl) ?_
    clear y3
    go_wp2_with fail
    refine HY.out.1.mono ?_
    rintro e Z ⟨hcz, h⟩
    have hWZ : Chg [] W Z := (HY.out.2.1.drew).andThen hcz (by simp; omega)
    rcases h with ⟨rfl, h1, h2⟩ | ⟨rfl, h1⟩
    · have HZ := Lib.hid (And.intro hWZ (And.intro h1 h2))
      by_cases hf : FreshIds t.ids s.sub.ids
      · have z0 : Z.cell? ⟨X.heap.size + 1 + 1, 0, none⟩ = some (.bool false) := by
          have := h2.tw
          rw [List.nil_append, decide_eq_true hf] at this
          simp [World.cell?, this]
        obtain ⟨pl, hpl⟩ : ∃ pl : Nat, s.place = pl := ⟨s.place.toNat, by have := HI.out.1; omega⟩
        have hpn : pl ≤ n.kids.length := by have := HI.out.2; omega
        have z3 : Z.cell? ⟨gs, 3, none⟩ = some (.int .i64 (pl : Int)) := by rw [← hpl]; exact hWZ.cell t3 (by simp)
        have hwZ : Chg [] w Z.drew := (HW.out.2.1.trans hWZ).drew
        have hrs : Z.drew.rangeAt gs 5 [.int .i64 (Tr.id (Stp.sub s)), .int .i64 (Tr.kind (Stp.sub s)), .string (Tr.text (Stp.sub s)), .slice As (Tr.kids (Stp.sub s)).length cs] := range_of_block (cs := (#[.int .i8 (Stp.op s), .int .i64 (Stp.id s), .int .i64 (Stp.par s), .int .i64 (Stp.place s), .string (Stp.text s), .int .i64 (Stp.sub s).id, .int .i64 (Stp.sub s).kind, .string (Stp.sub s).text, .slice As (Stp.sub s).kids.length cs]).toList) (hwZ.at H0.out.2.1 (by simp)) 5 4
        have how := own_any s.sub gs 5 Z.drew ⟨_, hrs, (H0.out.2.2.1.kept hwZ (by simp)).weak (fun b hb _ => trivial)⟩ H0.out.2.2.2.2
        have HO := Lib.hid (And.intro how (And.intro hf (And.intro hpl hpn)))
        clear how hrs hwZ hpl hpn hWZ h1 h2 hcz hf t3
        go_wp2_with fail
        ((try dsimp only [EffQ]); (try simp only [Act.put, List.setIfInBounds_toArray, List.set_cons_zero, List.set_cons_succ]))
        refine M_pure (i := 5) (v := ?_) rfl (by kernel_rfl) (by kernel_rfl) (by kernel_rfl) (fun _ _ _ h => h) (by rfl) ?hy ?_; (case hy => (intro w; go_simp; with_reducible rfl)); ((try dsimp only); (try simp only [Act.put, List.setIfInBounds_toArray, List.set_cons_zero, List.set_cons_succ]))
        refine M_done (by kernel_rfl) ?_ _
        go_wp2_with (skip; fail)
        clear z0
        refine wp_region_M (fun V => V.cell? ⟨gs, 3, none⟩ = some (.int .i64 (pl : Int))) (fun k => [8, 9].contains k) (fun k => [9].contains k) (by kernel_rfl) ?_
        ((try dsimp only); (try simp only [Act.put, List.setIfInBounds_toArray, List.set_cons_zero, List.set_cons_succ]))
        refine M_pure (i := 0) (v := ?_) rfl (by kernel_rfl) (by kernel_rfl) (by kernel_rfl) (fun _ _ _ h => h) (by rfl) ?hy ?_; (case hy => (intro w; go_simp; with_reducible rfl)); ((try dsimp only); (try simp only [Act.put, List.setIfInBounds_toArray, List.set_cons_zero, List.set_cons_succ]))
        refine M_pure (i := 1) (v := ?_) rfl (by kernel_rfl) (by kernel_rfl) (by kernel_rfl) (fun _ _ _ h => h) (by rfl) ?hy ?_; (case hy => (intro w; go_simp; with_reducible rfl)); ((try dsimp only); (try simp only [Act.put, List.setIfInBounds_toArray, List.set_cons_zero, List.set_cons_succ]))
        refine M_pure (i := 2) (v := ?_) rfl (by kernel_rfl) (by kernel_rfl) (by kernel_rfl) (fun _ _ _ h => h) (by rfl) ?hy ?_; (case hy => (intro w; go_simp; with_reducible rfl)); ((try dsimp only); (try simp only [Act.put, List.setIfInBounds_toArray, List.set_cons_zero, List.set_cons_succ]))
        refine M_pure (i := 3) (v := ?_) rfl (by kernel_rfl) (by kernel_rfl) (by kernel_rfl) (fun _ _ _ h => h) (by rfl) ?hy ?_; (case hy => (intro w; go_simp; with_reducible rfl)); ((try dsimp only); (try simp only [Act.put, List.setIfInBounds_toArray, List.set_cons_zero, List.set_cons_succ]))
        refine M_semi (i := 4) (v := ?_) rfl (by kernel_rfl) (by kernel_rfl) (by kernel_rfl) (by kernel_rfl) (fun _ _ _ h => h) (by rfl) z3 ?hy ?_; (case hy => (intro w hS; go_simp; with_reducible rfl)); ((try dsimp only); (try simp only [Act.put, List.setIfInBounds_toArray, List.set_cons_zero, List.set_cons_succ]))
        refine M_pure (i := 5) (v := ?_) rfl (by kernel_rfl) (by kernel_rfl) (by kernel_rfl) (fun _ _ _ h => h) (by rfl) ?hy ?_; (case hy => (intro w; go_simp; with_reducible rfl)); ((try dsimp only); (try simp only [Act.put, List.setIfInBounds_toArray, List.set_cons_zero, List.set_cons_succ]))
        refine M_pure (i := 6) (v := ?_) rfl (by kernel_rfl) (by kernel_rfl) (by kernel_rfl) (fun _ _ _ h => h) (by rfl) ?hy ?_; (case hy => (intro w; go_simp; with_reducible rfl)); ((try dsimp only); (try simp only [Act.put, List.setIfInBounds_toArray, List.set_cons_zero, List.set_cons_succ]))
        refine M_pure (i := 7) (v := ?_) rfl (by kernel_rfl) (by kernel_rfl) (by kernel_rfl) (fun _ _ _ h => h) (by rfl) ?hy ?_; (case hy => (intro w; go_simp; with_reducible rfl)); ((try dsimp only); (try simp only [Act.put, List.setIfInBounds_toArray, List.set_cons_zero, List.set_cons_succ]))
        refine M_eff (i := 8) rfl (by kernel_rfl) (by rfl) ?_
        go_wp2_with fail
        refine HO.out.1.mono ?_
        rintro e U ⟨AU, cU, rfl, hTU, hcU⟩
        have u3 := hcU.cell z3 (by simp)
        have hWU : Chg [] W U := HZ.out.1.drew.trans hcU
        have hF' := HF.out.2.1
        have hZs := HZ.out.1.size
        have hg' : g' < w.heap.size := by
          rcases HF.out.2.2.1 with h | h
          · omega
          · exact hgl _ h
        have hput := put_any n s.sub pl g' o' F' (fun y => Z.drew.heap.size ≤ y ∧ y < U.heap.size) AU cU U (HF.out.1.kept hWU (by simp) (by simp)) hTU (fun y hy => ⟨fun h => by have h1 := hy.1; have := hgl y (hF' y h); simp at h1; omega, by have h1 := hy.1; simp at h1; omega, hy.2⟩) HO.out.2.2.2 (by have := nodesL_len n.kids; have := n.nodes_eq; have := HP.out.2.2.2; have := H0.out.2.2.2.1; omega)
        have HU := Lib.hid (And.intro hput (And.intro hWU (And.intro hF' hg')))
        clear hput hTU hcU hWU hF' hg'
        go_wp2_with fail
        refine ⟨u3, ?_⟩
        ((try dsimp only); (try simp only [Act.put, List.setIfInBounds_toArray, List.set_cons_zero, List.set_cons_succ]))
        refine M_brk (i := 9) rfl (by kernel_rfl) (by rfl) (by rfl) ?_
        go_wp2_with fail
        refine HU.out.1.mono ?_
        rintro e U2 ⟨Ft, rfl, hM2, hFt, hfr⟩
        have HV := Lib.hid (And.intro hM2 (And.intro hFt hfr))
        clear hM2 hFt hfr u3 z3
        go_wp2_with fail
        ((try dsimp only [EffQ]); (try simp only [Act.put, List.setIfInBounds_toArray, List.set_cons_zero, List.set_cons_succ]))
        refine M_done (by kernel_rfl) ?_ _
        go_wp2_with (skip; fail)
        go_ret
        have hUs := HU.out.2.1.size
        obtain ⟨Fn, k1, k2, k3⟩ := HF.out.2.2.2 U2 _ Ft ((Fr.of_chg HU.out.2.1 (by have := HU.out.2.2.2; omega)).trans HV.out.2.2) HV.out.1 (fun y hy => by
          rcases HV.out.2.1 y hy with h | h | h
          · exact .inl h
          · have h1 := h.1; simp at h1
            exact .inr ⟨fun hf => by have := hgl y hf; omega, by omega⟩
          · exact .inr ⟨fun hf => by have := hgl y hf; omega, by omega⟩)
        unfold DoPost
        rw [HP.out.2.1, if_pos HI.out, if_pos HZ.out.2.1, if_pos HO.out.2.1]
        refine ⟨rfl, (Fr.of_chg HW.out.2.1 hg).trans k2, Fn, by rw [HO.out.2.2.1]; exact k1, fun y hy => ?_⟩
        rcases k3 y hy with h | h
        · exact .inl h
        · rcases HV.out.2.1 y h with h | h | h
          · exact .inl (HU.out.2.2.1 y h)
          · have h1 := h.1; simp at h1
            exact .inr (by omega)
          · exact .inr (by omega)
      · have z0 : Z.cell? ⟨X.heap.size + 1 + 1, 0, none⟩ = some (.bool true) := by
          have := h2.tw
          rw [List.nil_append, decide_eq_false hf] at this
          simp [World.cell?, this]
        have HO := Lib.hid hf
        clear hf hWZ h1 h2 hcz t3
        go_wp2_with fail
        ((try dsimp only [EffQ]); (try simp only [Act.put, List.setIfInBounds_toArray, List.set_cons_zero, List.set_cons_succ]))
        refine M_pure (i := 5) (v := ?_) rfl (by kernel_rfl) (by kernel_rfl) (by kernel_rfl) (fun _ _ _ h => h) (by rfl) ?hy ?_; (case hy => (intro w; go_simp; with_reducible rfl)); ((try dsimp only); (try simp only [Act.put, List.setIfInBounds_toArray, List.set_cons_zero, List.set_cons_succ]))
        refine M_done (by kernel_rfl) ?_ _
        go_wp2_with (skip; fail)
        go_ret
        unfold DoPost
        rw [HP.out.2.1, if_pos HI.out, if_pos HZ.out.2.1, if_neg HO.out]
        exact ⟨rfl, Fr.of_chg (HW.out.2.1.trans HZ.out.1) hg⟩
    · have HZ := Lib.hid (And.intro hWZ h1)
      clear hWZ h1 hcz t3
      go_wp2_with fail
      ((try dsimp only [EffQ]); (try simp only [Act.put, List.setIfInBounds_toArray, List.set_cons_zero, List.set_cons_succ]))
      refine M_pure (i := 5) (v := ?_) rfl (by kernel_rfl) (by kernel_rfl) (by kernel_rfl) (fun _ _ _ h => h) (by rfl) ?hy ?_; (case hy => (intro w; go_simp; with_reducible rfl)); ((try dsimp only); (try simp only [Act.put, List.setIfInBounds_toArray, List.set_cons_zero, List.set_cons_succ]))
      refine M_done (by kernel_rfl) ?_ _
      go_wp2_with (skip; fail)
      go_ret
      unfold DoPost
      rw [HP.out.2.1, if_pos HI.out, if_neg HZ.out.2]
      exact ⟨rfl, Fr.of_chg (HW.out.2.1.trans HZ.out.1) hg⟩
end Go.Proofs.Ytofjocjljbkjgaa
namespace Go.Proofs.Ytofjocjljbkjgaa
open Go.RowKit
theorem insertT_ne {t : Tr} {par pl n : Int} {sub : Tr} (h : insertT t par pl sub = .error n) : n ≠ 0 := by
  unfold insertT at h
  repeat (first | (split at h) | (injection h with h; omega) | (cases h))
theorem deleteT_ne {t : Tr} {id n : Int} (h : deleteT t id = .error n) : n ≠ 0 := by
  unfold deleteT at h
  repeat (first | (split at h) | (injection h with h; omega) | (cases h))
theorem textT_ne {t : Tr} {id n : Int} {tx : ByteArray} (h : textT t id tx = .error n) : n ≠ 0 := by
  unfold textT at h
  repeat (first | (split at h) | (injection h with h; omega) | (cases h))
def doT (t : Tr) (s : Stp) : Except Int Tr :=
  if s.op = 1 then insertT t s.par s.place s.sub
  else if s.op = 2 then deleteT t s.id
  else if s.op = 3 then moveT t s.id s.par s.place
  else if s.op = 4 then textT t s.id s.text
  else .error 2
def applyT (t : Tr) (s : Stp) : Except Int Tr := if t.nodes ≤ 2000 ∧ s.sub.nodes ≤ 2000 then doT t s else .error 2
theorem doT_ne {t : Tr} {s : Stp} {n : Int} (h : doT t s = .error n) : n ≠ 0 := by
  unfold doT at h
  split at h
  · exact insertT_ne h
  split at h
  · exact deleteT_ne h
  split at h
  · exact moveT_ne h
  split at h
  · exact textT_ne h
  · injection h with h; omega
set_option maxHeartbeats 4000000 in
set_option maxRecDepth 100000 in
theorem apply_op1 (t : Tr) (id par pl : Int) (tx : ByteArray) (sub : Tr) (A : Option Addr) (c : Nat) (As : Option Addr) (cs : Nat) (w : World) (htx : tx.size ≤ 9223372036854775807) (hT : TrC (fun b => b < w.heap.size) w t [.int .i64 (Tr.id t), .int .i64 (Tr.kind t), .string (Tr.text t), .slice A (Tr.kids t).length c]) (hS : TrC (fun b => b < w.heap.size) w sub [.int .i64 (Tr.id sub), .int .i64 (Tr.kind sub), .string (Tr.text sub), .slice As (Tr.kids sub).length cs]) :
    Calls Try.prog 19 #[.agg #[.int .i64 (Tr.id t), .int .i64 (Tr.kind t), .string (Tr.text t), .slice A (Tr.kids t).length c], .agg #[.int .i8 1, .int .i64 id, .int .i64 par, .int .i64 pl, .string tx, .int .i64 (Tr.id sub), .int .i64 (Tr.kind sub), .string (Tr.text sub), .slice As (Tr.kids sub).length cs]] w (ApplyPost (applyT t ⟨1, id, par, pl, tx, sub⟩) w) := by
  have hfn : ∀ w, (binOp .eql 99 (.func (.func 100) #[] #[]) .nilFunc).run Try.prog w = .ok (.bool false) w := fun w => by kernel_rfl
  have HH := Lib.hid (And.intro hT hS)
  have hC3 : Chg [] w (((w.alloc (.cells #[.int .i64 (Tr.id t), .int .i64 (Tr.kind t), .string (Tr.text t), .slice A (Tr.kids t).length c] 24)).alloc (.cells #[.int .i8 1, .int .i64 id, .int .i64 par, .int .i64 pl, .string tx, .int .i64 (Tr.id sub), .int .i64 (Tr.kind sub), .string (Tr.text sub), .slice As (Tr.kids sub).length cs] 27)).alloc (.cells #[.int .i64 0, .int .i64 0, .string ⟨#[]⟩, .slice none 0 0] 24)) := (by with_reducible repeat (first | exact Chg.refl _ _ | apply Chg.alloc | apply Chg.drew | apply Chg.drewN | (refine Chg.setCell ?_ _ _ (by simp))))
  have k0 : (((w.alloc (.cells #[.int .i64 (Tr.id t), .int .i64 (Tr.kind t), .string (Tr.text t), .slice A (Tr.kids t).length c] 24)).alloc (.cells #[.int .i8 1, .int .i64 id, .int .i64 par, .int .i64 pl, .string tx, .int .i64 (Tr.id sub), .int .i64 (Tr.kind sub), .string (Tr.text sub), .slice As (Tr.kids sub).length cs] 27)).alloc (.cells #[.int .i64 0, .int .i64 0, .string ⟨#[]⟩, .slice none 0 0] 24)).heap[w.heap.size]? = some (.cells #[.int .i64 (Tr.id t), .int .i64 (Tr.kind t), .string (Tr.text t), .slice A (Tr.kids t).length c] 24 (0, 0)) := heap_old (heap_old (heap_new _ _ rfl) _) _
  have k1 : (((w.alloc (.cells #[.int .i64 (Tr.id t), .int .i64 (Tr.kind t), .string (Tr.text t), .slice A (Tr.kids t).length c] 24)).alloc (.cells #[.int .i8 1, .int .i64 id, .int .i64 par, .int .i64 pl, .string tx, .int .i64 (Tr.id sub), .int .i64 (Tr.kind sub), .string (Tr.text sub), .slice As (Tr.kids sub).length cs] 27)).alloc (.cells #[.int .i64 0, .int .i64 0, .string ⟨#[]⟩, .slice none 0 0] 24)).heap[w.heap.size + 1]? = some (.cells #[.int .i8 1, .int .i64 id, .int .i64 par, .int .i64 pl, .string tx, .int .i64 (Tr.id sub), .int .i64 (Tr.kind sub), .string (Tr.text sub), .slice As (Tr.kids sub).length cs] 27 (0, 0)) := heap_old (heap_new _ _ (by simp)) _
  have k2 : (((w.alloc (.cells #[.int .i64 (Tr.id t), .int .i64 (Tr.kind t), .string (Tr.text t), .slice A (Tr.kids t).length c] 24)).alloc (.cells #[.int .i8 1, .int .i64 id, .int .i64 par, .int .i64 pl, .string tx, .int .i64 (Tr.id sub), .int .i64 (Tr.kind sub), .string (Tr.text sub), .slice As (Tr.kids sub).length cs] 27)).alloc (.cells #[.int .i64 0, .int .i64 0, .string ⟨#[]⟩, .slice none 0 0] 24)).heap[w.heap.size + 1 + 1]? = some (.cells #[.int .i64 0, .int .i64 0, .string ⟨#[]⟩, .slice none 0 0] 24 (0, 0)) := heap_new _ _ (by simp)
  have HK := Lib.hid (And.intro hC3 (And.intro k0 (And.intro k1 k2)))
  clear hT hS hC3 k0 k1 k2
  go_enter Try.func19, Try.ntmps19
  go_wp2_with (first
    | (go_at_call 55; refine (ways_any _).mono ?_; rintro e W0 ⟨rfl, hC0⟩; unfold waysV; have HC0 := Lib.hid hC0; clear hC0)
    | fail)
  obtain ⟨X, hXe⟩ : ∃ X, X = W0.alloc (.cells #[.nilFunc, .func (.func 100) #[] #[], .func (.func 101) #[] #[], .func (.func 104) #[] #[], .func (.func 105) #[] #[]] 100) := ⟨_, rfl⟩
  have hWX : Chg [] W0 X := by rw [hXe]; exact (Chg.refl _ _).alloc _
  have hX6 : X.heap[W0.heap.size]? = some (.cells #[.nilFunc, .func (.func 100) #[] #[], .func (.func 101) #[] #[], .func (.func 104) #[] #[], .func (.func 105) #[] #[]] 100 (0, 0)) := by rw [hXe]; exact heap_new _ _ rfl
  rw [← hXe]
  have hc0 := HC0.out.trans hWX
  have x0 := hc0.at HK.out.2.1 (by simp)
  have x1 := hc0.at HK.out.2.2.1 (by simp)
  have x2 := hc0.at HK.out.2.2.2 (by simp)
  have hwX : Chg [] w X := HK.out.1.trans hc0
  have hws := hwX.size
  have hl0 := lt_of_block x0
  have hl1 := lt_of_block x1
  have hl2 := lt_of_block x2
  have HX := Lib.hid (And.intro x0 (And.intro x1 (And.intro x2 (And.intro hX6 hwX))))
  have hst := small_any t w.heap.size 0 X ⟨_, range_all x0, (HH.out.1.kept hwX (by simp)).weak (fun b hb _ => by omega)⟩ hl0
  have HS1 := Lib.hid hst
  clear hXe hWX hX6 hc0 x0 x1 x2 hwX hst HC0 HK
  by_cases h1 : t.nodes ≤ 2000
  · have b1 : decide (t.nodes ≤ 2000) = true := by simpa using h1
    refine HS1.out.mono ?_
    rintro e X1 ⟨rfl, hX1⟩
    rw [b1]
    have x1 := hX1.at HX.out.2.1 (by simp)
    have hl1' := lt_of_block x1
    have hs1 := hX1.size
    have hss := small_any sub (w.heap.size + 1) 5 X1 ⟨_, range_of_block (cs := (#[.int .i8 1, .int .i64 id, .int .i64 par, .int .i64 pl, .string tx, .int .i64 (Tr.id sub), .int .i64 (Tr.kind sub), .string (Tr.text sub), .slice As (Tr.kids sub).length cs]).toList) x1 5 4, (HH.out.2.kept (HX.out.2.2.2.2.trans hX1) (by simp)).weak (fun b hb _ => by omega)⟩ hl1'
    have HS2 := Lib.hid (And.intro hss hX1)
    clear hss hX1 x1
    by_cases h2 : sub.nodes ≤ 2000
    · have b2 : decide (sub.nodes ≤ 2000) = true := by simpa using h2
      go_wp2_with fail
      refine HS2.out.1.mono ?_
      rintro e X2 ⟨rfl, hX2⟩
      rw [b2]
      have hc2 := HS2.out.2.trans hX2
      have y1 := hc2.at HX.out.2.1 (by simp)
      have y6 := hc2.at HX.out.2.2.2.1 (by simp)
      have q0 : X2.cell? ⟨w.heap.size + 1, 0, none⟩ = some (.int .i8 1) := by simp [World.cell?, y1]
      have q3 : X2.cell? ⟨W0.heap.size, 1, none⟩ = some (.func (.func 100) #[] #[]) := by simp [World.cell?, y6]
      have HX2 := Lib.hid hc2
      clear hX2 hc2 y1 y6
      have y0 := HX2.out.at HX.out.1 (by simp)
      have how := own_any t w.heap.size 0 X2 ⟨_, range_all y0, (HH.out.1.kept (HX.out.2.2.2.2.trans HX2.out) (by simp)).weak (fun b hb _ => trivial)⟩ (by omega)
      have HO := Lib.hid how
      clear how y0
      go_wp2_with (go_at_call 57; refine HO.out.mono ?_; rintro e Y ⟨AY, cY, rfl, hTY, hCY⟩; have HY := Lib.hid (And.intro hTY hCY); clear hTY hCY
                   obtain ⟨Z, hZe⟩ : ∃ Z, Z = Y.alloc (.cells #[.int .i64 (Tr.id t), .int .i64 (Tr.kind t), .string (Tr.text t), .slice AY (Tr.kids t).length cY] 24) := ⟨_, rfl⟩
                   have hYZ : Chg [] Y Z := by rw [hZe]; exact (Chg.refl _ _).alloc _
                   have hZb : Z.heap[Y.heap.size]? = some (.cells #[.int .i64 (Tr.id t), .int .i64 (Tr.kind t), .string (Tr.text t), .slice AY (Tr.kids t).length cY] 24 (0, 0)) := by rw [hZe]; exact heap_new _ _ rfl
                   have hZs : Z.heap.size = Y.heap.size + 1 := by rw [hZe]; simp
                   have hXZ := HX2.out.trans (HY.out.2.trans hYZ)
                   have z1 := hXZ.at HX.out.2.1 (by simp)
                   have z6 := hXZ.at HX.out.2.2.2.1 (by simp)
                   have q0' : (Y.alloc (.cells #[.int .i64 (Tr.id t), .int .i64 (Tr.kind t), .string (Tr.text t), .slice AY (Tr.kids t).length cY] 24)).cell? ⟨w.heap.size + 1, 0, none⟩ = some (.int .i8 1) := by rw [← hZe]; simp [World.cell?, z1]
                   have q3' : (Y.alloc (.cells #[.int .i64 (Tr.id t), .int .i64 (Tr.kind t), .string (Tr.text t), .slice AY (Tr.kids t).length cY] 24)).cell? ⟨W0.heap.size, 1, none⟩ = some (.func (.func 100) #[] #[]) := by rw [← hZe]; simp [World.cell?, z6]
                   have HZ := Lib.hid (And.intro hYZ (And.intro hZb (And.intro hXZ (And.intro z1 (And.intro hZs hZe)))))
                   clear hYZ hZb hXZ z1 z6 hZs hZe)
      rw [← HZ.out.2.2.2.2.2]
      clear q0' q3' q0 q3
      have hX2s := HX2.out.size
      have hYs := HY.out.2.size
      have hZs := HZ.out.2.2.2.2.1
      have hM : MutAt Z Y.heap.size 0 t (fun b => X2.heap.size ≤ b ∧ b < Y.heap.size) := ⟨⟨_, range_all HZ.out.2.1, HY.out.1.kept HZ.out.1 (by simp)⟩, (by intro h; omega), ⟨_, _, HZ.out.2.1⟩, fun y hy => by omega⟩
      have hmv := insert_any9 t ⟨1, id, par, pl, tx, sub⟩ Y.heap.size 0 (w.heap.size + 1) _ As cs Z hM HZ.out.2.2.2.1 (HH.out.2.kept (HX.out.2.2.2.2.trans HZ.out.2.2.1) (by simp) |>.weak (fun b hb _ => by omega)) (by omega) (show sub.nodes ≤ 100000 by omega)
      have hres := HZ.out.2.2.1.at HX.out.2.2.1 (by simp)
      unfold DoPost at hmv
      have hap : applyT t ⟨1, id, par, pl, tx, sub⟩ = insertT t par pl sub := by unfold applyT; rw [if_pos ⟨h1, h2⟩]; rfl
      cases hr : insertT t par pl sub with
      | error n =>
        have hn0 := insertT_ne hr
        have e0 : (n == 0) = false := by simpa using hn0
        have e0' : (n != 0) = true := by simpa using hn0
        simp only [hr] at hmv
        have HV := Lib.hid (And.intro hmv (And.intro hres (hap.trans hr)))
        clear hmv hres hap hr hn0 hM
        refine HV.out.1.mono ?_
        rintro e U ⟨rfl, hfr⟩
        have hU2 := hfr.at HV.out.2.1 (by omega) (by intro h; omega)
        obtain ⟨r0, r1, r2, r3⟩ := blk4 hU2
        have f0 := blkF hU2 0
        have f1 := blkF hU2 1
        have f2 := blkF hU2 2
        have f3 := blkF hU2 3
        have HU := Lib.hid (And.intro hfr hU2)
        clear hfr hU2
        go_wp2
        refine bodyPost_ret (v := .tuple #[.agg #[.int .i64 0, .int .i64 0, .string ⟨#[]⟩, .slice none 0 0], .int .i64 n]) (results_row_tmp rfl _ _ (w.heap.size + 1 + 1) _ _ _ _ _ rfl rfl (set4 HU.out.2) Try.underlying24 rfl szNode) rfl ?_
        unfold ApplyPost
        rw [HV.out.2.2]
        refine ⟨rfl, ?_⟩
        exact (HU.out.1.chg (HX.out.2.2.2.2.trans HZ.out.2.2.1) (by omega) (fun b hb => by omega)).andThen (chg4 _ _ _ _ _ _) (by simp; omega)
      | ok t' =>
        simp only [hr] at hmv
        have HV := Lib.hid (And.intro hmv (And.intro hres (hap.trans hr)))
        clear hmv hres hap hr hM
        refine HV.out.1.mono ?_
        rintro e U ⟨rfl, hfr, Fn, hMU, hFn⟩
        have hU2 := hfr.at HV.out.2.1 (by omega) (by intro h; omega)
        obtain ⟨AU, cU, hrU, htU, hKU⟩ := hMU.open
        obtain ⟨r0, r1, r2, r3⟩ := blk4 hU2
        have f0 := blkF hU2 0
        have f1 := blkF hU2 1
        have f2 := blkF hU2 2
        have f3 := blkF hU2 3
        have HU := Lib.hid (And.intro hfr (And.intro hU2 (And.intro hrU (And.intro htU (And.intro hKU (And.intro hFn hMU.lt))))))
        clear hfr hU2 hrU htU hKU hFn hMU
        go_wp2_with (first
          | (refine wpList_load_mid rfl 24 (.tmp 7) rfl Y.heap.size 0 rfl _ _ HU.out.2.2.1 Try.underlying24 rfl szNode ?_)
          | fail)
        refine bodyPost_ret (v := .tuple #[.agg #[.int .i64 (Tr.id t'), .int .i64 (Tr.kind t'), .string (Tr.text t'), .slice AU (Tr.kids t').length cU], .int .i64 0]) (results_row_tmp rfl _ _ (w.heap.size + 1 + 1) _ _ _ _ _ rfl rfl (set4 HU.out.2.1) Try.underlying24 rfl szNode) rfl ?_
        unfold ApplyPost
        rw [HV.out.2.2]
        have hC4 := chg4 U (w.heap.size + 1 + 1) (.int .i64 t'.id) (.int .i64 t'.kind) (.string t'.text) (.slice AU t'.kids.length cU)
        refine ⟨AU, cU, rfl, ?_, (HU.out.1.chg (HX.out.2.2.2.2.trans HZ.out.2.2.1) (by omega) (fun b hb => by omega)).andThen hC4 (by simp; omega)⟩
        have hV := HU.out.2.2.2.2.1.close t' HU.out.2.2.2.1
        have hFn := HU.out.2.2.2.2.2.1
        have hlt := HU.out.2.2.2.2.2.2
        have hb : ∀ y, Fn y → w.heap.size + 1 + 1 < y := fun y hy => by
          rcases hFn y hy with h | h <;> omega
        exact (hV.kept hC4 (fun y hy => by have := hb y hy; simp; omega)).weak (fun y hy => ⟨by have := hb y hy; omega, Nat.lt_of_lt_of_le (hlt y hy) hC4.size⟩)
    · have b2 : decide (sub.nodes ≤ 2000) = false := by simpa using h2
      have hap : applyT t ⟨1, id, par, pl, tx, sub⟩ = .error 2 := by unfold applyT; rw [if_neg (fun h => h2 h.2)]
      have HA := Lib.hid hap
      clear hap
      go_wp2_with fail
      refine HS2.out.1.mono ?_
      rintro e X2 ⟨rfl, hX2⟩
      rw [b2]
      have hc2 := HS2.out.2.trans hX2
      have y2 := hc2.at HX.out.2.2.1 (by simp)
      obtain ⟨r0, r1, r2, r3⟩ := blk4 y2
      have f0 := blkF y2 0
      have f1 := blkF y2 1
      have f2 := blkF y2 2
      have f3 := blkF y2 3
      have HX2 := Lib.hid (And.intro hc2 y2)
      clear hX2 hc2 y2
      go_wp2
      refine bodyPost_ret (v := .tuple #[.agg #[.int .i64 0, .int .i64 0, .string ⟨#[]⟩, .slice none 0 0], .int .i64 2]) (results_row_tmp rfl _ _ (w.heap.size + 1 + 1) _ _ _ _ _ rfl rfl (set4 HX2.out.2) Try.underlying24 rfl szNode) rfl ?_
      unfold ApplyPost
      rw [HA.out]
      exact ⟨rfl, (HX.out.2.2.2.2.trans HX2.out.1).andThen (chg4 _ _ _ _ _ _) (by simp; omega)⟩
  · have b1 : decide (t.nodes ≤ 2000) = false := by simpa using h1
    have hap : applyT t ⟨1, id, par, pl, tx, sub⟩ = .error 2 := by unfold applyT; rw [if_neg (fun h => h1 h.1)]
    have HA := Lib.hid hap
    clear hap
    refine HS1.out.mono ?_
    rintro e X2 ⟨rfl, hX2⟩
    rw [b1]
    have y2 := hX2.at HX.out.2.2.1 (by simp)
    obtain ⟨r0, r1, r2, r3⟩ := blk4 y2
    have f0 := blkF y2 0
    have f1 := blkF y2 1
    have f2 := blkF y2 2
    have f3 := blkF y2 3
    have HX2 := Lib.hid (And.intro hX2 y2)
    clear hX2 y2
    go_wp2
    refine bodyPost_ret (v := .tuple #[.agg #[.int .i64 0, .int .i64 0, .string ⟨#[]⟩, .slice none 0 0], .int .i64 2]) (results_row_tmp rfl _ _ (w.heap.size + 1 + 1) _ _ _ _ _ rfl rfl (set4 HX2.out.2) Try.underlying24 rfl szNode) rfl ?_
    unfold ApplyPost
    rw [HA.out]
    exact ⟨rfl, (HX.out.2.2.2.2.trans HX2.out.1).andThen (chg4 _ _ _ _ _ _) (by simp; omega)⟩
set_option maxHeartbeats 4000000 in
set_option maxRecDepth 100000 in
theorem apply_op2 (t : Tr) (id par pl : Int) (tx : ByteArray) (sub : Tr) (A : Option Addr) (c : Nat) (As : Option Addr) (cs : Nat) (w : World) (htx : tx.size ≤ 9223372036854775807) (hT : TrC (fun b => b < w.heap.size) w t [.int .i64 (Tr.id t), .int .i64 (Tr.kind t), .string (Tr.text t), .slice A (Tr.kids t).length c]) (hS : TrC (fun b => b < w.heap.size) w sub [.int .i64 (Tr.id sub), .int .i64 (Tr.kind sub), .string (Tr.text sub), .slice As (Tr.kids sub).length cs]) :
    Calls Try.prog 19 #[.agg #[.int .i64 (Tr.id t), .int .i64 (Tr.kind t), .string (Tr.text t), .slice A (Tr.kids t).length c], .agg #[.int .i8 2, .int .i64 id, .int .i64 par, .int .i64 pl, .string tx, .int .i64 (Tr.id sub), .int .i64 (Tr.kind sub), .string (Tr.text sub), .slice As (Tr.kids sub).length cs]] w (ApplyPost (applyT t ⟨2, id, par, pl, tx, sub⟩) w) := by
  have hfn : ∀ w, (binOp .eql 99 (.func (.func 101) #[] #[]) .nilFunc).run Try.prog w = .ok (.bool false) w := fun w => by kernel_rfl
  have HH := Lib.hid (And.intro hT hS)
  have hC3 : Chg [] w (((w.alloc (.cells #[.int .i64 (Tr.id t), .int .i64 (Tr.kind t), .string (Tr.text t), .slice A (Tr.kids t).length c] 24)).alloc (.cells #[.int .i8 2, .int .i64 id, .int .i64 par, .int .i64 pl, .string tx, .int .i64 (Tr.id sub), .int .i64 (Tr.kind sub), .string (Tr.text sub), .slice As (Tr.kids sub).length cs] 27)).alloc (.cells #[.int .i64 0, .int .i64 0, .string ⟨#[]⟩, .slice none 0 0] 24)) := (by with_reducible repeat (first | exact Chg.refl _ _ | apply Chg.alloc | apply Chg.drew | apply Chg.drewN | (refine Chg.setCell ?_ _ _ (by simp))))
  have k0 : (((w.alloc (.cells #[.int .i64 (Tr.id t), .int .i64 (Tr.kind t), .string (Tr.text t), .slice A (Tr.kids t).length c] 24)).alloc (.cells #[.int .i8 2, .int .i64 id, .int .i64 par, .int .i64 pl, .string tx, .int .i64 (Tr.id sub), .int .i64 (Tr.kind sub), .string (Tr.text sub), .slice As (Tr.kids sub).length cs] 27)).alloc (.cells #[.int .i64 0, .int .i64 0, .string ⟨#[]⟩, .slice none 0 0] 24)).heap[w.heap.size]? = some (.cells #[.int .i64 (Tr.id t), .int .i64 (Tr.kind t), .string (Tr.text t), .slice A (Tr.kids t).length c] 24 (0, 0)) := heap_old (heap_old (heap_new _ _ rfl) _) _
  have k1 : (((w.alloc (.cells #[.int .i64 (Tr.id t), .int .i64 (Tr.kind t), .string (Tr.text t), .slice A (Tr.kids t).length c] 24)).alloc (.cells #[.int .i8 2, .int .i64 id, .int .i64 par, .int .i64 pl, .string tx, .int .i64 (Tr.id sub), .int .i64 (Tr.kind sub), .string (Tr.text sub), .slice As (Tr.kids sub).length cs] 27)).alloc (.cells #[.int .i64 0, .int .i64 0, .string ⟨#[]⟩, .slice none 0 0] 24)).heap[w.heap.size + 1]? = some (.cells #[.int .i8 2, .int .i64 id, .int .i64 par, .int .i64 pl, .string tx, .int .i64 (Tr.id sub), .int .i64 (Tr.kind sub), .string (Tr.text sub), .slice As (Tr.kids sub).length cs] 27 (0, 0)) := heap_old (heap_new _ _ (by simp)) _
  have k2 : (((w.alloc (.cells #[.int .i64 (Tr.id t), .int .i64 (Tr.kind t), .string (Tr.text t), .slice A (Tr.kids t).length c] 24)).alloc (.cells #[.int .i8 2, .int .i64 id, .int .i64 par, .int .i64 pl, .string tx, .int .i64 (Tr.id sub), .int .i64 (Tr.kind sub), .string (Tr.text sub), .slice As (Tr.kids sub).length cs] 27)).alloc (.cells #[.int .i64 0, .int .i64 0, .string ⟨#[]⟩, .slice none 0 0] 24)).heap[w.heap.size + 1 + 1]? = some (.cells #[.int .i64 0, .int .i64 0, .string ⟨#[]⟩, .slice none 0 0] 24 (0, 0)) := heap_new _ _ (by simp)
  have HK := Lib.hid (And.intro hC3 (And.intro k0 (And.intro k1 k2)))
  clear hT hS hC3 k0 k1 k2
  go_enter Try.func19, Try.ntmps19
  go_wp2_with (first
    | (go_at_call 55; refine (ways_any _).mono ?_; rintro e W0 ⟨rfl, hC0⟩; unfold waysV; have HC0 := Lib.hid hC0; clear hC0)
    | fail)
  obtain ⟨X, hXe⟩ : ∃ X, X = W0.alloc (.cells #[.nilFunc, .func (.func 100) #[] #[], .func (.func 101) #[] #[], .func (.func 104) #[] #[], .func (.func 105) #[] #[]] 100) := ⟨_, rfl⟩
  have hWX : Chg [] W0 X := by rw [hXe]; exact (Chg.refl _ _).alloc _
  have hX6 : X.heap[W0.heap.size]? = some (.cells #[.nilFunc, .func (.func 100) #[] #[], .func (.func 101) #[] #[], .func (.func 104) #[] #[], .func (.func 105) #[] #[]] 100 (0, 0)) := by rw [hXe]; exact heap_new _ _ rfl
  rw [← hXe]
  have hc0 := HC0.out.trans hWX
  have x0 := hc0.at HK.out.2.1 (by simp)
  have x1 := hc0.at HK.out.2.2.1 (by simp)
  have x2 := hc0.at HK.out.2.2.2 (by simp)
  have hwX : Chg [] w X := HK.out.1.trans hc0
  have hws := hwX.size
  have hl0 := lt_of_block x0
  have hl1 := lt_of_block x1
  have hl2 := lt_of_block x2
  have HX := Lib.hid (And.intro x0 (And.intro x1 (And.intro x2 (And.intro hX6 hwX))))
  have hst := small_any t w.heap.size 0 X ⟨_, range_all x0, (HH.out.1.kept hwX (by simp)).weak (fun b hb _ => by omega)⟩ hl0
  have HS1 := Lib.hid hst
  clear hXe hWX hX6 hc0 x0 x1 x2 hwX hst HC0 HK
  by_cases h1 : t.nodes ≤ 2000
  · have b1 : decide (t.nodes ≤ 2000) = true := by simpa using h1
    refine HS1.out.mono ?_
    rintro e X1 ⟨rfl, hX1⟩
    rw [b1]
    have x1 := hX1.at HX.out.2.1 (by simp)
    have hl1' := lt_of_block x1
    have hs1 := hX1.size
    have hss := small_any sub (w.heap.size + 1) 5 X1 ⟨_, range_of_block (cs := (#[.int .i8 2, .int .i64 id, .int .i64 par, .int .i64 pl, .string tx, .int .i64 (Tr.id sub), .int .i64 (Tr.kind sub), .string (Tr.text sub), .slice As (Tr.kids sub).length cs]).toList) x1 5 4, (HH.out.2.kept (HX.out.2.2.2.2.trans hX1) (by simp)).weak (fun b hb _ => by omega)⟩ hl1'
    have HS2 := Lib.hid (And.intro hss hX1)
    clear hss hX1 x1
    by_cases h2 : sub.nodes ≤ 2000
    · have b2 : decide (sub.nodes ≤ 2000) = true := by simpa using h2
      go_wp2_with fail
      refine HS2.out.1.mono ?_
      rintro e X2 ⟨rfl, hX2⟩
      rw [b2]
      have hc2 := HS2.out.2.trans hX2
      have y1 := hc2.at HX.out.2.1 (by simp)
      have y6 := hc2.at HX.out.2.2.2.1 (by simp)
      have q0 : X2.cell? ⟨w.heap.size + 1, 0, none⟩ = some (.int .i8 2) := by simp [World.cell?, y1]
      have q3 : X2.cell? ⟨W0.heap.size, 2, none⟩ = some (.func (.func 101) #[] #[]) := by simp [World.cell?, y6]
      have HX2 := Lib.hid hc2
      clear hX2 hc2 y1 y6
      have y0 := HX2.out.at HX.out.1 (by simp)
      have how := own_any t w.heap.size 0 X2 ⟨_, range_all y0, (HH.out.1.kept (HX.out.2.2.2.2.trans HX2.out) (by simp)).weak (fun b hb _ => trivial)⟩ (by omega)
      have HO := Lib.hid how
      clear how y0
      go_wp2_with (go_at_call 57; refine HO.out.mono ?_; rintro e Y ⟨AY, cY, rfl, hTY, hCY⟩; have HY := Lib.hid (And.intro hTY hCY); clear hTY hCY
                   obtain ⟨Z, hZe⟩ : ∃ Z, Z = Y.alloc (.cells #[.int .i64 (Tr.id t), .int .i64 (Tr.kind t), .string (Tr.text t), .slice AY (Tr.kids t).length cY] 24) := ⟨_, rfl⟩
                   have hYZ : Chg [] Y Z := by rw [hZe]; exact (Chg.refl _ _).alloc _
                   have hZb : Z.heap[Y.heap.size]? = some (.cells #[.int .i64 (Tr.id t), .int .i64 (Tr.kind t), .string (Tr.text t), .slice AY (Tr.kids t).length cY] 24 (0, 0)) := by rw [hZe]; exact heap_new _ _ rfl
                   have hZs : Z.heap.size = Y.heap.size + 1 := by rw [hZe]; simp
                   have hXZ := HX2.out.trans (HY.out.2.trans hYZ)
                   have z1 := hXZ.at HX.out.2.1 (by simp)
                   have z6 := hXZ.at HX.out.2.2.2.1 (by simp)
                   have q0' : (Y.alloc (.cells #[.int .i64 (Tr.id t), .int .i64 (Tr.kind t), .string (Tr.text t), .slice AY (Tr.kids t).length cY] 24)).cell? ⟨w.heap.size + 1, 0, none⟩ = some (.int .i8 2) := by rw [← hZe]; simp [World.cell?, z1]
                   have q3' : (Y.alloc (.cells #[.int .i64 (Tr.id t), .int .i64 (Tr.kind t), .string (Tr.text t), .slice AY (Tr.kids t).length cY] 24)).cell? ⟨W0.heap.size, 2, none⟩ = some (.func (.func 101) #[] #[]) := by rw [← hZe]; simp [World.cell?, z6]
                   have HZ := Lib.hid (And.intro hYZ (And.intro hZb (And.intro hXZ (And.intro z1 (And.intro hZs hZe)))))
                   clear hYZ hZb hXZ z1 z6 hZs hZe)
      rw [← HZ.out.2.2.2.2.2]
      clear q0' q3' q0 q3
      have hX2s := HX2.out.size
      have hYs := HY.out.2.size
      have hZs := HZ.out.2.2.2.2.1
      have hM : MutAt Z Y.heap.size 0 t (fun b => X2.heap.size ≤ b ∧ b < Y.heap.size) := ⟨⟨_, range_all HZ.out.2.1, HY.out.1.kept HZ.out.1 (by simp)⟩, (by intro h; omega), ⟨_, _, HZ.out.2.1⟩, fun y hy => by omega⟩
      have hmv := delete_any9 t ⟨2, id, par, pl, tx, sub⟩ Y.heap.size 0 (w.heap.size + 1) _ As cs Z hM HZ.out.2.2.2.1 (by omega)
      have hres := HZ.out.2.2.1.at HX.out.2.2.1 (by simp)
      unfold DoPost at hmv
      have hap : applyT t ⟨2, id, par, pl, tx, sub⟩ = deleteT t id := by unfold applyT; rw [if_pos ⟨h1, h2⟩]; rfl
      cases hr : deleteT t id with
      | error n =>
        have hn0 := deleteT_ne hr
        have e0 : (n == 0) = false := by simpa using hn0
        have e0' : (n != 0) = true := by simpa using hn0
        simp only [hr] at hmv
        have HV := Lib.hid (And.intro hmv (And.intro hres (hap.trans hr)))
        clear hmv hres hap hr hn0 hM
        refine HV.out.1.mono ?_
        rintro e U ⟨rfl, hfr⟩
        have hU2 := hfr.at HV.out.2.1 (by omega) (by intro h; omega)
        obtain ⟨r0, r1, r2, r3⟩ := blk4 hU2
        have f0 := blkF hU2 0
        have f1 := blkF hU2 1
        have f2 := blkF hU2 2
        have f3 := blkF hU2 3
        have HU := Lib.hid (And.intro hfr hU2)
        clear hfr hU2
        go_wp2
        refine bodyPost_ret (v := .tuple #[.agg #[.int .i64 0, .int .i64 0, .string ⟨#[]⟩, .slice none 0 0], .int .i64 n]) (results_row_tmp rfl _ _ (w.heap.size + 1 + 1) _ _ _ _ _ rfl rfl (set4 HU.out.2) Try.underlying24 rfl szNode) rfl ?_
        unfold ApplyPost
        rw [HV.out.2.2]
        refine ⟨rfl, ?_⟩
        exact (HU.out.1.chg (HX.out.2.2.2.2.trans HZ.out.2.2.1) (by omega) (fun b hb => by omega)).andThen (chg4 _ _ _ _ _ _) (by simp; omega)
      | ok t' =>
        simp only [hr] at hmv
        have HV := Lib.hid (And.intro hmv (And.intro hres (hap.trans hr)))
        clear hmv hres hap hr hM
        refine HV.out.1.mono ?_
        rintro e U ⟨rfl, hfr, Fn, hMU, hFn⟩
        have hU2 := hfr.at HV.out.2.1 (by omega) (by intro h; omega)
        obtain ⟨AU, cU, hrU, htU, hKU⟩ := hMU.open
        obtain ⟨r0, r1, r2, r3⟩ := blk4 hU2
        have f0 := blkF hU2 0
        have f1 := blkF hU2 1
        have f2 := blkF hU2 2
        have f3 := blkF hU2 3
        have HU := Lib.hid (And.intro hfr (And.intro hU2 (And.intro hrU (And.intro htU (And.intro hKU (And.intro hFn hMU.lt))))))
        clear hfr hU2 hrU htU hKU hFn hMU
        go_wp2_with (first
          | (refine wpList_load_mid rfl 24 (.tmp 7) rfl Y.heap.size 0 rfl _ _ HU.out.2.2.1 Try.underlying24 rfl szNode ?_)
          | fail)
        refine bodyPost_ret (v := .tuple #[.agg #[.int .i64 (Tr.id t'), .int .i64 (Tr.kind t'), .string (Tr.text t'), .slice AU (Tr.kids t').length cU], .int .i64 0]) (results_row_tmp rfl _ _ (w.heap.size + 1 + 1) _ _ _ _ _ rfl rfl (set4 HU.out.2.1) Try.underlying24 rfl szNode) rfl ?_
        unfold ApplyPost
        rw [HV.out.2.2]
        have hC4 := chg4 U (w.heap.size + 1 + 1) (.int .i64 t'.id) (.int .i64 t'.kind) (.string t'.text) (.slice AU t'.kids.length cU)
        refine ⟨AU, cU, rfl, ?_, (HU.out.1.chg (HX.out.2.2.2.2.trans HZ.out.2.2.1) (by omega) (fun b hb => by omega)).andThen hC4 (by simp; omega)⟩
        have hV := HU.out.2.2.2.2.1.close t' HU.out.2.2.2.1
        have hFn := HU.out.2.2.2.2.2.1
        have hlt := HU.out.2.2.2.2.2.2
        have hb : ∀ y, Fn y → w.heap.size + 1 + 1 < y := fun y hy => by
          rcases hFn y hy with h | h <;> omega
        exact (hV.kept hC4 (fun y hy => by have := hb y hy; simp; omega)).weak (fun y hy => ⟨by have := hb y hy; omega, Nat.lt_of_lt_of_le (hlt y hy) hC4.size⟩)
    · have b2 : decide (sub.nodes ≤ 2000) = false := by simpa using h2
      have hap : applyT t ⟨2, id, par, pl, tx, sub⟩ = .error 2 := by unfold applyT; rw [if_neg (fun h => h2 h.2)]
      have HA := Lib.hid hap
      clear hap
      go_wp2_with fail
      refine HS2.out.1.mono ?_
      rintro e X2 ⟨rfl, hX2⟩
      rw [b2]
      have hc2 := HS2.out.2.trans hX2
      have y2 := hc2.at HX.out.2.2.1 (by simp)
      obtain ⟨r0, r1, r2, r3⟩ := blk4 y2
      have f0 := blkF y2 0
      have f1 := blkF y2 1
      have f2 := blkF y2 2
      have f3 := blkF y2 3
      have HX2 := Lib.hid (And.intro hc2 y2)
      clear hX2 hc2 y2
      go_wp2
      refine bodyPost_ret (v := .tuple #[.agg #[.int .i64 0, .int .i64 0, .string ⟨#[]⟩, .slice none 0 0], .int .i64 2]) (results_row_tmp rfl _ _ (w.heap.size + 1 + 1) _ _ _ _ _ rfl rfl (set4 HX2.out.2) Try.underlying24 rfl szNode) rfl ?_
      unfold ApplyPost
      rw [HA.out]
      exact ⟨rfl, (HX.out.2.2.2.2.trans HX2.out.1).andThen (chg4 _ _ _ _ _ _) (by simp; omega)⟩
  · have b1 : decide (t.nodes ≤ 2000) = false := by simpa using h1
    have hap : applyT t ⟨2, id, par, pl, tx, sub⟩ = .error 2 := by unfold applyT; rw [if_neg (fun h => h1 h.1)]
    have HA := Lib.hid hap
    clear hap
    refine HS1.out.mono ?_
    rintro e X2 ⟨rfl, hX2⟩
    rw [b1]
    have y2 := hX2.at HX.out.2.2.1 (by simp)
    obtain ⟨r0, r1, r2, r3⟩ := blk4 y2
    have f0 := blkF y2 0
    have f1 := blkF y2 1
    have f2 := blkF y2 2
    have f3 := blkF y2 3
    have HX2 := Lib.hid (And.intro hX2 y2)
    clear hX2 y2
    go_wp2
    refine bodyPost_ret (v := .tuple #[.agg #[.int .i64 0, .int .i64 0, .string ⟨#[]⟩, .slice none 0 0], .int .i64 2]) (results_row_tmp rfl _ _ (w.heap.size + 1 + 1) _ _ _ _ _ rfl rfl (set4 HX2.out.2) Try.underlying24 rfl szNode) rfl ?_
    unfold ApplyPost
    rw [HA.out]
    exact ⟨rfl, (HX.out.2.2.2.2.trans HX2.out.1).andThen (chg4 _ _ _ _ _ _) (by simp; omega)⟩
set_option maxHeartbeats 4000000 in
set_option maxRecDepth 100000 in
theorem apply_op3 (t : Tr) (id par pl : Int) (tx : ByteArray) (sub : Tr) (A : Option Addr) (c : Nat) (As : Option Addr) (cs : Nat) (w : World) (htx : tx.size ≤ 9223372036854775807) (hT : TrC (fun b => b < w.heap.size) w t [.int .i64 (Tr.id t), .int .i64 (Tr.kind t), .string (Tr.text t), .slice A (Tr.kids t).length c]) (hS : TrC (fun b => b < w.heap.size) w sub [.int .i64 (Tr.id sub), .int .i64 (Tr.kind sub), .string (Tr.text sub), .slice As (Tr.kids sub).length cs]) :
    Calls Try.prog 19 #[.agg #[.int .i64 (Tr.id t), .int .i64 (Tr.kind t), .string (Tr.text t), .slice A (Tr.kids t).length c], .agg #[.int .i8 3, .int .i64 id, .int .i64 par, .int .i64 pl, .string tx, .int .i64 (Tr.id sub), .int .i64 (Tr.kind sub), .string (Tr.text sub), .slice As (Tr.kids sub).length cs]] w (ApplyPost (applyT t ⟨3, id, par, pl, tx, sub⟩) w) := by
  have hfn : ∀ w, (binOp .eql 99 (.func (.func 104) #[] #[]) .nilFunc).run Try.prog w = .ok (.bool false) w := fun w => by kernel_rfl
  have HH := Lib.hid (And.intro hT hS)
  have hC3 : Chg [] w (((w.alloc (.cells #[.int .i64 (Tr.id t), .int .i64 (Tr.kind t), .string (Tr.text t), .slice A (Tr.kids t).length c] 24)).alloc (.cells #[.int .i8 3, .int .i64 id, .int .i64 par, .int .i64 pl, .string tx, .int .i64 (Tr.id sub), .int .i64 (Tr.kind sub), .string (Tr.text sub), .slice As (Tr.kids sub).length cs] 27)).alloc (.cells #[.int .i64 0, .int .i64 0, .string ⟨#[]⟩, .slice none 0 0] 24)) := (by with_reducible repeat (first | exact Chg.refl _ _ | apply Chg.alloc | apply Chg.drew | apply Chg.drewN | (refine Chg.setCell ?_ _ _ (by simp))))
  have k0 : (((w.alloc (.cells #[.int .i64 (Tr.id t), .int .i64 (Tr.kind t), .string (Tr.text t), .slice A (Tr.kids t).length c] 24)).alloc (.cells #[.int .i8 3, .int .i64 id, .int .i64 par, .int .i64 pl, .string tx, .int .i64 (Tr.id sub), .int .i64 (Tr.kind sub), .string (Tr.text sub), .slice As (Tr.kids sub).length cs] 27)).alloc (.cells #[.int .i64 0, .int .i64 0, .string ⟨#[]⟩, .slice none 0 0] 24)).heap[w.heap.size]? = some (.cells #[.int .i64 (Tr.id t), .int .i64 (Tr.kind t), .string (Tr.text t), .slice A (Tr.kids t).length c] 24 (0, 0)) := heap_old (heap_old (heap_new _ _ rfl) _) _
  have k1 : (((w.alloc (.cells #[.int .i64 (Tr.id t), .int .i64 (Tr.kind t), .string (Tr.text t), .slice A (Tr.kids t).length c] 24)).alloc (.cells #[.int .i8 3, .int .i64 id, .int .i64 par, .int .i64 pl, .string tx, .int .i64 (Tr.id sub), .int .i64 (Tr.kind sub), .string (Tr.text sub), .slice As (Tr.kids sub).length cs] 27)).alloc (.cells #[.int .i64 0, .int .i64 0, .string ⟨#[]⟩, .slice none 0 0] 24)).heap[w.heap.size + 1]? = some (.cells #[.int .i8 3, .int .i64 id, .int .i64 par, .int .i64 pl, .string tx, .int .i64 (Tr.id sub), .int .i64 (Tr.kind sub), .string (Tr.text sub), .slice As (Tr.kids sub).length cs] 27 (0, 0)) := heap_old (heap_new _ _ (by simp)) _
  have k2 : (((w.alloc (.cells #[.int .i64 (Tr.id t), .int .i64 (Tr.kind t), .string (Tr.text t), .slice A (Tr.kids t).length c] 24)).alloc (.cells #[.int .i8 3, .int .i64 id, .int .i64 par, .int .i64 pl, .string tx, .int .i64 (Tr.id sub), .int .i64 (Tr.kind sub), .string (Tr.text sub), .slice As (Tr.kids sub).length cs] 27)).alloc (.cells #[.int .i64 0, .int .i64 0, .string ⟨#[]⟩, .slice none 0 0] 24)).heap[w.heap.size + 1 + 1]? = some (.cells #[.int .i64 0, .int .i64 0, .string ⟨#[]⟩, .slice none 0 0] 24 (0, 0)) := heap_new _ _ (by simp)
  have HK := Lib.hid (And.intro hC3 (And.intro k0 (And.intro k1 k2)))
  clear hT hS hC3 k0 k1 k2
  go_enter Try.func19, Try.ntmps19
  go_wp2_with (first
    | (go_at_call 55; refine (ways_any _).mono ?_; rintro e W0 ⟨rfl, hC0⟩; unfold waysV; have HC0 := Lib.hid hC0; clear hC0)
    | fail)
  obtain ⟨X, hXe⟩ : ∃ X, X = W0.alloc (.cells #[.nilFunc, .func (.func 100) #[] #[], .func (.func 101) #[] #[], .func (.func 104) #[] #[], .func (.func 105) #[] #[]] 100) := ⟨_, rfl⟩
  have hWX : Chg [] W0 X := by rw [hXe]; exact (Chg.refl _ _).alloc _
  have hX6 : X.heap[W0.heap.size]? = some (.cells #[.nilFunc, .func (.func 100) #[] #[], .func (.func 101) #[] #[], .func (.func 104) #[] #[], .func (.func 105) #[] #[]] 100 (0, 0)) := by rw [hXe]; exact heap_new _ _ rfl
  rw [← hXe]
  have hc0 := HC0.out.trans hWX
  have x0 := hc0.at HK.out.2.1 (by simp)
  have x1 := hc0.at HK.out.2.2.1 (by simp)
  have x2 := hc0.at HK.out.2.2.2 (by simp)
  have hwX : Chg [] w X := HK.out.1.trans hc0
  have hws := hwX.size
  have hl0 := lt_of_block x0
  have hl1 := lt_of_block x1
  have hl2 := lt_of_block x2
  have HX := Lib.hid (And.intro x0 (And.intro x1 (And.intro x2 (And.intro hX6 hwX))))
  have hst := small_any t w.heap.size 0 X ⟨_, range_all x0, (HH.out.1.kept hwX (by simp)).weak (fun b hb _ => by omega)⟩ hl0
  have HS1 := Lib.hid hst
  clear hXe hWX hX6 hc0 x0 x1 x2 hwX hst HC0 HK
  by_cases h1 : t.nodes ≤ 2000
  · have b1 : decide (t.nodes ≤ 2000) = true := by simpa using h1
    refine HS1.out.mono ?_
    rintro e X1 ⟨rfl, hX1⟩
    rw [b1]
    have x1 := hX1.at HX.out.2.1 (by simp)
    have hl1' := lt_of_block x1
    have hs1 := hX1.size
    have hss := small_any sub (w.heap.size + 1) 5 X1 ⟨_, range_of_block (cs := (#[.int .i8 3, .int .i64 id, .int .i64 par, .int .i64 pl, .string tx, .int .i64 (Tr.id sub), .int .i64 (Tr.kind sub), .string (Tr.text sub), .slice As (Tr.kids sub).length cs]).toList) x1 5 4, (HH.out.2.kept (HX.out.2.2.2.2.trans hX1) (by simp)).weak (fun b hb _ => by omega)⟩ hl1'
    have HS2 := Lib.hid (And.intro hss hX1)
    clear hss hX1 x1
    by_cases h2 : sub.nodes ≤ 2000
    · have b2 : decide (sub.nodes ≤ 2000) = true := by simpa using h2
      go_wp2_with fail
      refine HS2.out.1.mono ?_
      rintro e X2 ⟨rfl, hX2⟩
      rw [b2]
      have hc2 := HS2.out.2.trans hX2
      have y1 := hc2.at HX.out.2.1 (by simp)
      have y6 := hc2.at HX.out.2.2.2.1 (by simp)
      have q0 : X2.cell? ⟨w.heap.size + 1, 0, none⟩ = some (.int .i8 3) := by simp [World.cell?, y1]
      have q3 : X2.cell? ⟨W0.heap.size, 3, none⟩ = some (.func (.func 104) #[] #[]) := by simp [World.cell?, y6]
      have HX2 := Lib.hid hc2
      clear hX2 hc2 y1 y6
      have y0 := HX2.out.at HX.out.1 (by simp)
      have how := own_any t w.heap.size 0 X2 ⟨_, range_all y0, (HH.out.1.kept (HX.out.2.2.2.2.trans HX2.out) (by simp)).weak (fun b hb _ => trivial)⟩ (by omega)
      have HO := Lib.hid how
      clear how y0
      go_wp2_with (go_at_call 57; refine HO.out.mono ?_; rintro e Y ⟨AY, cY, rfl, hTY, hCY⟩; have HY := Lib.hid (And.intro hTY hCY); clear hTY hCY
                   obtain ⟨Z, hZe⟩ : ∃ Z, Z = Y.alloc (.cells #[.int .i64 (Tr.id t), .int .i64 (Tr.kind t), .string (Tr.text t), .slice AY (Tr.kids t).length cY] 24) := ⟨_, rfl⟩
                   have hYZ : Chg [] Y Z := by rw [hZe]; exact (Chg.refl _ _).alloc _
                   have hZb : Z.heap[Y.heap.size]? = some (.cells #[.int .i64 (Tr.id t), .int .i64 (Tr.kind t), .string (Tr.text t), .slice AY (Tr.kids t).length cY] 24 (0, 0)) := by rw [hZe]; exact heap_new _ _ rfl
                   have hZs : Z.heap.size = Y.heap.size + 1 := by rw [hZe]; simp
                   have hXZ := HX2.out.trans (HY.out.2.trans hYZ)
                   have z1 := hXZ.at HX.out.2.1 (by simp)
                   have z6 := hXZ.at HX.out.2.2.2.1 (by simp)
                   have q0' : (Y.alloc (.cells #[.int .i64 (Tr.id t), .int .i64 (Tr.kind t), .string (Tr.text t), .slice AY (Tr.kids t).length cY] 24)).cell? ⟨w.heap.size + 1, 0, none⟩ = some (.int .i8 3) := by rw [← hZe]; simp [World.cell?, z1]
                   have q3' : (Y.alloc (.cells #[.int .i64 (Tr.id t), .int .i64 (Tr.kind t), .string (Tr.text t), .slice AY (Tr.kids t).length cY] 24)).cell? ⟨W0.heap.size, 3, none⟩ = some (.func (.func 104) #[] #[]) := by rw [← hZe]; simp [World.cell?, z6]
                   have HZ := Lib.hid (And.intro hYZ (And.intro hZb (And.intro hXZ (And.intro z1 (And.intro hZs hZe)))))
                   clear hYZ hZb hXZ z1 z6 hZs hZe)
      rw [← HZ.out.2.2.2.2.2]
      clear q0' q3' q0 q3
      have hX2s := HX2.out.size
      have hYs := HY.out.2.size
      have hZs := HZ.out.2.2.2.2.1
      have hM : MutAt Z Y.heap.size 0 t (fun b => X2.heap.size ≤ b ∧ b < Y.heap.size) := ⟨⟨_, range_all HZ.out.2.1, HY.out.1.kept HZ.out.1 (by simp)⟩, (by intro h; omega), ⟨_, _, HZ.out.2.1⟩, fun y hy => by omega⟩
      have hmv := move_any t ⟨3, id, par, pl, tx, sub⟩ Y.heap.size 0 (w.heap.size + 1) _ As cs Z hM HZ.out.2.2.2.1 (by omega) (by intro h; omega) (by omega)
      have hres := HZ.out.2.2.1.at HX.out.2.2.1 (by simp)
      unfold DoPost at hmv
      have hap : applyT t ⟨3, id, par, pl, tx, sub⟩ = moveT t id par pl := by unfold applyT; rw [if_pos ⟨h1, h2⟩]; rfl
      cases hr : moveT t id par pl with
      | error n =>
        have hn0 := moveT_ne hr
        have e0 : (n == 0) = false := by simpa using hn0
        have e0' : (n != 0) = true := by simpa using hn0
        simp only [hr] at hmv
        have HV := Lib.hid (And.intro hmv (And.intro hres (hap.trans hr)))
        clear hmv hres hap hr hn0 hM
        refine HV.out.1.mono ?_
        rintro e U ⟨rfl, hfr⟩
        have hU2 := hfr.at HV.out.2.1 (by omega) (by intro h; omega)
        obtain ⟨r0, r1, r2, r3⟩ := blk4 hU2
        have f0 := blkF hU2 0
        have f1 := blkF hU2 1
        have f2 := blkF hU2 2
        have f3 := blkF hU2 3
        have HU := Lib.hid (And.intro hfr hU2)
        clear hfr hU2
        go_wp2
        refine bodyPost_ret (v := .tuple #[.agg #[.int .i64 0, .int .i64 0, .string ⟨#[]⟩, .slice none 0 0], .int .i64 n]) (results_row_tmp rfl _ _ (w.heap.size + 1 + 1) _ _ _ _ _ rfl rfl (set4 HU.out.2) Try.underlying24 rfl szNode) rfl ?_
        unfold ApplyPost
        rw [HV.out.2.2]
        refine ⟨rfl, ?_⟩
        exact (HU.out.1.chg (HX.out.2.2.2.2.trans HZ.out.2.2.1) (by omega) (fun b hb => by omega)).andThen (chg4 _ _ _ _ _ _) (by simp; omega)
      | ok t' =>
        simp only [hr] at hmv
        have HV := Lib.hid (And.intro hmv (And.intro hres (hap.trans hr)))
        clear hmv hres hap hr hM
        refine HV.out.1.mono ?_
        rintro e U ⟨rfl, hfr, Fn, hMU, hFn⟩
        have hU2 := hfr.at HV.out.2.1 (by omega) (by intro h; omega)
        obtain ⟨AU, cU, hrU, htU, hKU⟩ := hMU.open
        obtain ⟨r0, r1, r2, r3⟩ := blk4 hU2
        have f0 := blkF hU2 0
        have f1 := blkF hU2 1
        have f2 := blkF hU2 2
        have f3 := blkF hU2 3
        have HU := Lib.hid (And.intro hfr (And.intro hU2 (And.intro hrU (And.intro htU (And.intro hKU (And.intro hFn hMU.lt))))))
        clear hfr hU2 hrU htU hKU hFn hMU
        go_wp2_with (first
          | (refine wpList_load_mid rfl 24 (.tmp 7) rfl Y.heap.size 0 rfl _ _ HU.out.2.2.1 Try.underlying24 rfl szNode ?_)
          | fail)
        refine bodyPost_ret (v := .tuple #[.agg #[.int .i64 (Tr.id t'), .int .i64 (Tr.kind t'), .string (Tr.text t'), .slice AU (Tr.kids t').length cU], .int .i64 0]) (results_row_tmp rfl _ _ (w.heap.size + 1 + 1) _ _ _ _ _ rfl rfl (set4 HU.out.2.1) Try.underlying24 rfl szNode) rfl ?_
        unfold ApplyPost
        rw [HV.out.2.2]
        have hC4 := chg4 U (w.heap.size + 1 + 1) (.int .i64 t'.id) (.int .i64 t'.kind) (.string t'.text) (.slice AU t'.kids.length cU)
        refine ⟨AU, cU, rfl, ?_, (HU.out.1.chg (HX.out.2.2.2.2.trans HZ.out.2.2.1) (by omega) (fun b hb => by omega)).andThen hC4 (by simp; omega)⟩
        have hV := HU.out.2.2.2.2.1.close t' HU.out.2.2.2.1
        have hFn := HU.out.2.2.2.2.2.1
        have hlt := HU.out.2.2.2.2.2.2
        have hb : ∀ y, Fn y → w.heap.size + 1 + 1 < y := fun y hy => by
          rcases hFn y hy with h | h <;> omega
        exact (hV.kept hC4 (fun y hy => by have := hb y hy; simp; omega)).weak (fun y hy => ⟨by have := hb y hy; omega, Nat.lt_of_lt_of_le (hlt y hy) hC4.size⟩)
    · have b2 : decide (sub.nodes ≤ 2000) = false := by simpa using h2
      have hap : applyT t ⟨3, id, par, pl, tx, sub⟩ = .error 2 := by unfold applyT; rw [if_neg (fun h => h2 h.2)]
      have HA := Lib.hid hap
      clear hap
      go_wp2_with fail
      refine HS2.out.1.mono ?_
      rintro e X2 ⟨rfl, hX2⟩
      rw [b2]
      have hc2 := HS2.out.2.trans hX2
      have y2 := hc2.at HX.out.2.2.1 (by simp)
      obtain ⟨r0, r1, r2, r3⟩ := blk4 y2
      have f0 := blkF y2 0
      have f1 := blkF y2 1
      have f2 := blkF y2 2
      have f3 := blkF y2 3
      have HX2 := Lib.hid (And.intro hc2 y2)
      clear hX2 hc2 y2
      go_wp2
      refine bodyPost_ret (v := .tuple #[.agg #[.int .i64 0, .int .i64 0, .string ⟨#[]⟩, .slice none 0 0], .int .i64 2]) (results_row_tmp rfl _ _ (w.heap.size + 1 + 1) _ _ _ _ _ rfl rfl (set4 HX2.out.2) Try.underlying24 rfl szNode) rfl ?_
      unfold ApplyPost
      rw [HA.out]
      exact ⟨rfl, (HX.out.2.2.2.2.trans HX2.out.1).andThen (chg4 _ _ _ _ _ _) (by simp; omega)⟩
  · have b1 : decide (t.nodes ≤ 2000) = false := by simpa using h1
    have hap : applyT t ⟨3, id, par, pl, tx, sub⟩ = .error 2 := by unfold applyT; rw [if_neg (fun h => h1 h.1)]
    have HA := Lib.hid hap
    clear hap
    refine HS1.out.mono ?_
    rintro e X2 ⟨rfl, hX2⟩
    rw [b1]
    have y2 := hX2.at HX.out.2.2.1 (by simp)
    obtain ⟨r0, r1, r2, r3⟩ := blk4 y2
    have f0 := blkF y2 0
    have f1 := blkF y2 1
    have f2 := blkF y2 2
    have f3 := blkF y2 3
    have HX2 := Lib.hid (And.intro hX2 y2)
    clear hX2 y2
    go_wp2
    refine bodyPost_ret (v := .tuple #[.agg #[.int .i64 0, .int .i64 0, .string ⟨#[]⟩, .slice none 0 0], .int .i64 2]) (results_row_tmp rfl _ _ (w.heap.size + 1 + 1) _ _ _ _ _ rfl rfl (set4 HX2.out.2) Try.underlying24 rfl szNode) rfl ?_
    unfold ApplyPost
    rw [HA.out]
    exact ⟨rfl, (HX.out.2.2.2.2.trans HX2.out.1).andThen (chg4 _ _ _ _ _ _) (by simp; omega)⟩
set_option maxHeartbeats 4000000 in
set_option maxRecDepth 100000 in
theorem apply_op4 (t : Tr) (id par pl : Int) (tx : ByteArray) (sub : Tr) (A : Option Addr) (c : Nat) (As : Option Addr) (cs : Nat) (w : World) (htx : tx.size ≤ 9223372036854775807) (hT : TrC (fun b => b < w.heap.size) w t [.int .i64 (Tr.id t), .int .i64 (Tr.kind t), .string (Tr.text t), .slice A (Tr.kids t).length c]) (hS : TrC (fun b => b < w.heap.size) w sub [.int .i64 (Tr.id sub), .int .i64 (Tr.kind sub), .string (Tr.text sub), .slice As (Tr.kids sub).length cs]) :
    Calls Try.prog 19 #[.agg #[.int .i64 (Tr.id t), .int .i64 (Tr.kind t), .string (Tr.text t), .slice A (Tr.kids t).length c], .agg #[.int .i8 4, .int .i64 id, .int .i64 par, .int .i64 pl, .string tx, .int .i64 (Tr.id sub), .int .i64 (Tr.kind sub), .string (Tr.text sub), .slice As (Tr.kids sub).length cs]] w (ApplyPost (applyT t ⟨4, id, par, pl, tx, sub⟩) w) := by
  have hfn : ∀ w, (binOp .eql 99 (.func (.func 105) #[] #[]) .nilFunc).run Try.prog w = .ok (.bool false) w := fun w => by kernel_rfl
  have HH := Lib.hid (And.intro hT hS)
  have hC3 : Chg [] w (((w.alloc (.cells #[.int .i64 (Tr.id t), .int .i64 (Tr.kind t), .string (Tr.text t), .slice A (Tr.kids t).length c] 24)).alloc (.cells #[.int .i8 4, .int .i64 id, .int .i64 par, .int .i64 pl, .string tx, .int .i64 (Tr.id sub), .int .i64 (Tr.kind sub), .string (Tr.text sub), .slice As (Tr.kids sub).length cs] 27)).alloc (.cells #[.int .i64 0, .int .i64 0, .string ⟨#[]⟩, .slice none 0 0] 24)) := (by with_reducible repeat (first | exact Chg.refl _ _ | apply Chg.alloc | apply Chg.drew | apply Chg.drewN | (refine Chg.setCell ?_ _ _ (by simp))))
  have k0 : (((w.alloc (.cells #[.int .i64 (Tr.id t), .int .i64 (Tr.kind t), .string (Tr.text t), .slice A (Tr.kids t).length c] 24)).alloc (.cells #[.int .i8 4, .int .i64 id, .int .i64 par, .int .i64 pl, .string tx, .int .i64 (Tr.id sub), .int .i64 (Tr.kind sub), .string (Tr.text sub), .slice As (Tr.kids sub).length cs] 27)).alloc (.cells #[.int .i64 0, .int .i64 0, .string ⟨#[]⟩, .slice none 0 0] 24)).heap[w.heap.size]? = some (.cells #[.int .i64 (Tr.id t), .int .i64 (Tr.kind t), .string (Tr.text t), .slice A (Tr.kids t).length c] 24 (0, 0)) := heap_old (heap_old (heap_new _ _ rfl) _) _
  have k1 : (((w.alloc (.cells #[.int .i64 (Tr.id t), .int .i64 (Tr.kind t), .string (Tr.text t), .slice A (Tr.kids t).length c] 24)).alloc (.cells #[.int .i8 4, .int .i64 id, .int .i64 par, .int .i64 pl, .string tx, .int .i64 (Tr.id sub), .int .i64 (Tr.kind sub), .string (Tr.text sub), .slice As (Tr.kids sub).length cs] 27)).alloc (.cells #[.int .i64 0, .int .i64 0, .string ⟨#[]⟩, .slice none 0 0] 24)).heap[w.heap.size + 1]? = some (.cells #[.int .i8 4, .int .i64 id, .int .i64 par, .int .i64 pl, .string tx, .int .i64 (Tr.id sub), .int .i64 (Tr.kind sub), .string (Tr.text sub), .slice As (Tr.kids sub).length cs] 27 (0, 0)) := heap_old (heap_new _ _ (by simp)) _
  have k2 : (((w.alloc (.cells #[.int .i64 (Tr.id t), .int .i64 (Tr.kind t), .string (Tr.text t), .slice A (Tr.kids t).length c] 24)).alloc (.cells #[.int .i8 4, .int .i64 id, .int .i64 par, .int .i64 pl, .string tx, .int .i64 (Tr.id sub), .int .i64 (Tr.kind sub), .string (Tr.text sub), .slice As (Tr.kids sub).length cs] 27)).alloc (.cells #[.int .i64 0, .int .i64 0, .string ⟨#[]⟩, .slice none 0 0] 24)).heap[w.heap.size + 1 + 1]? = some (.cells #[.int .i64 0, .int .i64 0, .string ⟨#[]⟩, .slice none 0 0] 24 (0, 0)) := heap_new _ _ (by simp)
  have HK := Lib.hid (And.intro hC3 (And.intro k0 (And.intro k1 k2)))
  clear hT hS hC3 k0 k1 k2
  go_enter Try.func19, Try.ntmps19
  go_wp2_with (first
    | (go_at_call 55; refine (ways_any _).mono ?_; rintro e W0 ⟨rfl, hC0⟩; unfold waysV; have HC0 := Lib.hid hC0; clear hC0)
    | fail)
  obtain ⟨X, hXe⟩ : ∃ X, X = W0.alloc (.cells #[.nilFunc, .func (.func 100) #[] #[], .func (.func 101) #[] #[], .func (.func 104) #[] #[], .func (.func 105) #[] #[]] 100) := ⟨_, rfl⟩
  have hWX : Chg [] W0 X := by rw [hXe]; exact (Chg.refl _ _).alloc _
  have hX6 : X.heap[W0.heap.size]? = some (.cells #[.nilFunc, .func (.func 100) #[] #[], .func (.func 101) #[] #[], .func (.func 104) #[] #[], .func (.func 105) #[] #[]] 100 (0, 0)) := by rw [hXe]; exact heap_new _ _ rfl
  rw [← hXe]
  have hc0 := HC0.out.trans hWX
  have x0 := hc0.at HK.out.2.1 (by simp)
  have x1 := hc0.at HK.out.2.2.1 (by simp)
  have x2 := hc0.at HK.out.2.2.2 (by simp)
  have hwX : Chg [] w X := HK.out.1.trans hc0
  have hws := hwX.size
  have hl0 := lt_of_block x0
  have hl1 := lt_of_block x1
  have hl2 := lt_of_block x2
  have HX := Lib.hid (And.intro x0 (And.intro x1 (And.intro x2 (And.intro hX6 hwX))))
  have hst := small_any t w.heap.size 0 X ⟨_, range_all x0, (HH.out.1.kept hwX (by simp)).weak (fun b hb _ => by omega)⟩ hl0
  have HS1 := Lib.hid hst
  clear hXe hWX hX6 hc0 x0 x1 x2 hwX hst HC0 HK
  by_cases h1 : t.nodes ≤ 2000
  · have b1 : decide (t.nodes ≤ 2000) = true := by simpa using h1
    refine HS1.out.mono ?_
    rintro e X1 ⟨rfl, hX1⟩
    rw [b1]
    have x1 := hX1.at HX.out.2.1 (by simp)
    have hl1' := lt_of_block x1
    have hs1 := hX1.size
    have hss := small_any sub (w.heap.size + 1) 5 X1 ⟨_, range_of_block (cs := (#[.int .i8 4, .int .i64 id, .int .i64 par, .int .i64 pl, .string tx, .int .i64 (Tr.id sub), .int .i64 (Tr.kind sub), .string (Tr.text sub), .slice As (Tr.kids sub).length cs]).toList) x1 5 4, (HH.out.2.kept (HX.out.2.2.2.2.trans hX1) (by simp)).weak (fun b hb _ => by omega)⟩ hl1'
    have HS2 := Lib.hid (And.intro hss hX1)
    clear hss hX1 x1
    by_cases h2 : sub.nodes ≤ 2000
    · have b2 : decide (sub.nodes ≤ 2000) = true := by simpa using h2
      go_wp2_with fail
      refine HS2.out.1.mono ?_
      rintro e X2 ⟨rfl, hX2⟩
      rw [b2]
      have hc2 := HS2.out.2.trans hX2
      have y1 := hc2.at HX.out.2.1 (by simp)
      have y6 := hc2.at HX.out.2.2.2.1 (by simp)
      have q0 : X2.cell? ⟨w.heap.size + 1, 0, none⟩ = some (.int .i8 4) := by simp [World.cell?, y1]
      have q3 : X2.cell? ⟨W0.heap.size, 4, none⟩ = some (.func (.func 105) #[] #[]) := by simp [World.cell?, y6]
      have HX2 := Lib.hid hc2
      clear hX2 hc2 y1 y6
      have y0 := HX2.out.at HX.out.1 (by simp)
      have how := own_any t w.heap.size 0 X2 ⟨_, range_all y0, (HH.out.1.kept (HX.out.2.2.2.2.trans HX2.out) (by simp)).weak (fun b hb _ => trivial)⟩ (by omega)
      have HO := Lib.hid how
      clear how y0
      go_wp2_with (go_at_call 57; refine HO.out.mono ?_; rintro e Y ⟨AY, cY, rfl, hTY, hCY⟩; have HY := Lib.hid (And.intro hTY hCY); clear hTY hCY
                   obtain ⟨Z, hZe⟩ : ∃ Z, Z = Y.alloc (.cells #[.int .i64 (Tr.id t), .int .i64 (Tr.kind t), .string (Tr.text t), .slice AY (Tr.kids t).length cY] 24) := ⟨_, rfl⟩
                   have hYZ : Chg [] Y Z := by rw [hZe]; exact (Chg.refl _ _).alloc _
                   have hZb : Z.heap[Y.heap.size]? = some (.cells #[.int .i64 (Tr.id t), .int .i64 (Tr.kind t), .string (Tr.text t), .slice AY (Tr.kids t).length cY] 24 (0, 0)) := by rw [hZe]; exact heap_new _ _ rfl
                   have hZs : Z.heap.size = Y.heap.size + 1 := by rw [hZe]; simp
                   have hXZ := HX2.out.trans (HY.out.2.trans hYZ)
                   have z1 := hXZ.at HX.out.2.1 (by simp)
                   have z6 := hXZ.at HX.out.2.2.2.1 (by simp)
                   have q0' : (Y.alloc (.cells #[.int .i64 (Tr.id t), .int .i64 (Tr.kind t), .string (Tr.text t), .slice AY (Tr.kids t).length cY] 24)).cell? ⟨w.heap.size + 1, 0, none⟩ = some (.int .i8 4) := by rw [← hZe]; simp [World.cell?, z1]
                   have q3' : (Y.alloc (.cells #[.int .i64 (Tr.id t), .int .i64 (Tr.kind t), .string (Tr.text t), .slice AY (Tr.kids t).length cY] 24)).cell? ⟨W0.heap.size, 4, none⟩ = some (.func (.func 105) #[] #[]) := by rw [← hZe]; simp [World.cell?, z6]
                   have HZ := Lib.hid (And.intro hYZ (And.intro hZb (And.intro hXZ (And.intro z1 (And.intro hZs hZe)))))
                   clear hYZ hZb hXZ z1 z6 hZs hZe)
      rw [← HZ.out.2.2.2.2.2]
      clear q0' q3' q0 q3
      have hX2s := HX2.out.size
      have hYs := HY.out.2.size
      have hZs := HZ.out.2.2.2.2.1
      have hM : MutAt Z Y.heap.size 0 t (fun b => X2.heap.size ≤ b ∧ b < Y.heap.size) := ⟨⟨_, range_all HZ.out.2.1, HY.out.1.kept HZ.out.1 (by simp)⟩, (by intro h; omega), ⟨_, _, HZ.out.2.1⟩, fun y hy => by omega⟩
      have hmv := text_any9 t ⟨4, id, par, pl, tx, sub⟩ Y.heap.size 0 (w.heap.size + 1) _ As cs Z hM HZ.out.2.2.2.1 htx
      have hres := HZ.out.2.2.1.at HX.out.2.2.1 (by simp)
      unfold DoPost at hmv
      have hap : applyT t ⟨4, id, par, pl, tx, sub⟩ = textT t id tx := by unfold applyT; rw [if_pos ⟨h1, h2⟩]; rfl
      cases hr : textT t id tx with
      | error n =>
        have hn0 := textT_ne hr
        have e0 : (n == 0) = false := by simpa using hn0
        have e0' : (n != 0) = true := by simpa using hn0
        simp only [hr] at hmv
        have HV := Lib.hid (And.intro hmv (And.intro hres (hap.trans hr)))
        clear hmv hres hap hr hn0 hM
        refine HV.out.1.mono ?_
        rintro e U ⟨rfl, hfr⟩
        have hU2 := hfr.at HV.out.2.1 (by omega) (by intro h; omega)
        obtain ⟨r0, r1, r2, r3⟩ := blk4 hU2
        have f0 := blkF hU2 0
        have f1 := blkF hU2 1
        have f2 := blkF hU2 2
        have f3 := blkF hU2 3
        have HU := Lib.hid (And.intro hfr hU2)
        clear hfr hU2
        go_wp2
        refine bodyPost_ret (v := .tuple #[.agg #[.int .i64 0, .int .i64 0, .string ⟨#[]⟩, .slice none 0 0], .int .i64 n]) (results_row_tmp rfl _ _ (w.heap.size + 1 + 1) _ _ _ _ _ rfl rfl (set4 HU.out.2) Try.underlying24 rfl szNode) rfl ?_
        unfold ApplyPost
        rw [HV.out.2.2]
        refine ⟨rfl, ?_⟩
        exact (HU.out.1.chg (HX.out.2.2.2.2.trans HZ.out.2.2.1) (by omega) (fun b hb => by omega)).andThen (chg4 _ _ _ _ _ _) (by simp; omega)
      | ok t' =>
        simp only [hr] at hmv
        have HV := Lib.hid (And.intro hmv (And.intro hres (hap.trans hr)))
        clear hmv hres hap hr hM
        refine HV.out.1.mono ?_
        rintro e U ⟨rfl, hfr, Fn, hMU, hFn⟩
        have hU2 := hfr.at HV.out.2.1 (by omega) (by intro h; omega)
        obtain ⟨AU, cU, hrU, htU, hKU⟩ := hMU.open
        obtain ⟨r0, r1, r2, r3⟩ := blk4 hU2
        have f0 := blkF hU2 0
        have f1 := blkF hU2 1
        have f2 := blkF hU2 2
        have f3 := blkF hU2 3
        have HU := Lib.hid (And.intro hfr (And.intro hU2 (And.intro hrU (And.intro htU (And.intro hKU (And.intro hFn hMU.lt))))))
        clear hfr hU2 hrU htU hKU hFn hMU
        go_wp2_with (first
          | (refine wpList_load_mid rfl 24 (.tmp 7) rfl Y.heap.size 0 rfl _ _ HU.out.2.2.1 Try.underlying24 rfl szNode ?_)
          | fail)
        refine bodyPost_ret (v := .tuple #[.agg #[.int .i64 (Tr.id t'), .int .i64 (Tr.kind t'), .string (Tr.text t'), .slice AU (Tr.kids t').length cU], .int .i64 0]) (results_row_tmp rfl _ _ (w.heap.size + 1 + 1) _ _ _ _ _ rfl rfl (set4 HU.out.2.1) Try.underlying24 rfl szNode) rfl ?_
        unfold ApplyPost
        rw [HV.out.2.2]
        have hC4 := chg4 U (w.heap.size + 1 + 1) (.int .i64 t'.id) (.int .i64 t'.kind) (.string t'.text) (.slice AU t'.kids.length cU)
        refine ⟨AU, cU, rfl, ?_, (HU.out.1.chg (HX.out.2.2.2.2.trans HZ.out.2.2.1) (by omega) (fun b hb => by omega)).andThen hC4 (by simp; omega)⟩
        have hV := HU.out.2.2.2.2.1.close t' HU.out.2.2.2.1
        have hFn := HU.out.2.2.2.2.2.1
        have hlt := HU.out.2.2.2.2.2.2
        have hb : ∀ y, Fn y → w.heap.size + 1 + 1 < y := fun y hy => by
          rcases hFn y hy with h | h <;> omega
        exact (hV.kept hC4 (fun y hy => by have := hb y hy; simp; omega)).weak (fun y hy => ⟨by have := hb y hy; omega, Nat.lt_of_lt_of_le (hlt y hy) hC4.size⟩)
    · have b2 : decide (sub.nodes ≤ 2000) = false := by simpa using h2
      have hap : applyT t ⟨4, id, par, pl, tx, sub⟩ = .error 2 := by unfold applyT; rw [if_neg (fun h => h2 h.2)]
      have HA := Lib.hid hap
      clear hap
      go_wp2_with fail
      refine HS2.out.1.mono ?_
      rintro e X2 ⟨rfl, hX2⟩
      rw [b2]
      have hc2 := HS2.out.2.trans hX2
      have y2 := hc2.at HX.out.2.2.1 (by simp)
      obtain ⟨r0, r1, r2, r3⟩ := blk4 y2
      have f0 := blkF y2 0
      have f1 := blkF y2 1
      have f2 := blkF y2 2
      have f3 := blkF y2 3
      have HX2 := Lib.hid (And.intro hc2 y2)
      clear hX2 hc2 y2
      go_wp2
      refine bodyPost_ret (v := .tuple #[.agg #[.int .i64 0, .int .i64 0, .string ⟨#[]⟩, .slice none 0 0], .int .i64 2]) (results_row_tmp rfl _ _ (w.heap.size + 1 + 1) _ _ _ _ _ rfl rfl (set4 HX2.out.2) Try.underlying24 rfl szNode) rfl ?_
      unfold ApplyPost
      rw [HA.out]
      exact ⟨rfl, (HX.out.2.2.2.2.trans HX2.out.1).andThen (chg4 _ _ _ _ _ _) (by simp; omega)⟩
  · have b1 : decide (t.nodes ≤ 2000) = false := by simpa using h1
    have hap : applyT t ⟨4, id, par, pl, tx, sub⟩ = .error 2 := by unfold applyT; rw [if_neg (fun h => h1 h.1)]
    have HA := Lib.hid hap
    clear hap
    refine HS1.out.mono ?_
    rintro e X2 ⟨rfl, hX2⟩
    rw [b1]
    have y2 := hX2.at HX.out.2.2.1 (by simp)
    obtain ⟨r0, r1, r2, r3⟩ := blk4 y2
    have f0 := blkF y2 0
    have f1 := blkF y2 1
    have f2 := blkF y2 2
    have f3 := blkF y2 3
    have HX2 := Lib.hid (And.intro hX2 y2)
    clear hX2 y2
    go_wp2
    refine bodyPost_ret (v := .tuple #[.agg #[.int .i64 0, .int .i64 0, .string ⟨#[]⟩, .slice none 0 0], .int .i64 2]) (results_row_tmp rfl _ _ (w.heap.size + 1 + 1) _ _ _ _ _ rfl rfl (set4 HX2.out.2) Try.underlying24 rfl szNode) rfl ?_
    unfold ApplyPost
    rw [HA.out]
    exact ⟨rfl, (HX.out.2.2.2.2.trans HX2.out.1).andThen (chg4 _ _ _ _ _ _) (by simp; omega)⟩
end Go.Proofs.Ytofjocjljbkjgaa
namespace Go.Proofs.Ytofjocjljbkjgaa
open Go.RowKit
set_option maxHeartbeats 4000000 in
set_option maxRecDepth 100000 in
theorem apply_bad (t : Tr) (op id par pl : Int) (tx : ByteArray) (sub : Tr) (A : Option Addr) (c : Nat) (As : Option Addr) (cs : Nat) (w : World) (hlo : -128 ≤ op) (hhi : op ≤ 127) (hop : op ≠ 1 ∧ op ≠ 2 ∧ op ≠ 3 ∧ op ≠ 4) (hT : TrC (fun b => b < w.heap.size) w t [.int .i64 (Tr.id t), .int .i64 (Tr.kind t), .string (Tr.text t), .slice A (Tr.kids t).length c]) (hS : TrC (fun b => b < w.heap.size) w sub [.int .i64 (Tr.id sub), .int .i64 (Tr.kind sub), .string (Tr.text sub), .slice As (Tr.kids sub).length cs]) :
    Calls Try.prog 19 #[.agg #[.int .i64 (Tr.id t), .int .i64 (Tr.kind t), .string (Tr.text t), .slice A (Tr.kids t).length c], .agg #[.int .i8 op, .int .i64 id, .int .i64 par, .int .i64 pl, .string tx, .int .i64 (Tr.id sub), .int .i64 (Tr.kind sub), .string (Tr.text sub), .slice As (Tr.kids sub).length cs]] w (ApplyPost (applyT t ⟨op, id, par, pl, tx, sub⟩) w) := by
  have hfn : ∀ w, (binOp .eql 99 .nilFunc .nilFunc).run Try.prog w = .ok (.bool true) w := fun w => by kernel_rfl
  have HH := Lib.hid (And.intro hT hS)
  have hC3 : Chg [] w (((w.alloc (.cells #[.int .i64 (Tr.id t), .int .i64 (Tr.kind t), .string (Tr.text t), .slice A (Tr.kids t).length c] 24)).alloc (.cells #[.int .i8 op, .int .i64 id, .int .i64 par, .int .i64 pl, .string tx, .int .i64 (Tr.id sub), .int .i64 (Tr.kind sub), .string (Tr.text sub), .slice As (Tr.kids sub).length cs] 27)).alloc (.cells #[.int .i64 0, .int .i64 0, .string ⟨#[]⟩, .slice none 0 0] 24)) := (by with_reducible repeat (first | exact Chg.refl _ _ | apply Chg.alloc | apply Chg.drew | apply Chg.drewN | (refine Chg.setCell ?_ _ _ (by simp))))
  have k0 : (((w.alloc (.cells #[.int .i64 (Tr.id t), .int .i64 (Tr.kind t), .string (Tr.text t), .slice A (Tr.kids t).length c] 24)).alloc (.cells #[.int .i8 op, .int .i64 id, .int .i64 par, .int .i64 pl, .string tx, .int .i64 (Tr.id sub), .int .i64 (Tr.kind sub), .string (Tr.text sub), .slice As (Tr.kids sub).length cs] 27)).alloc (.cells #[.int .i64 0, .int .i64 0, .string ⟨#[]⟩, .slice none 0 0] 24)).heap[w.heap.size]? = some (.cells #[.int .i64 (Tr.id t), .int .i64 (Tr.kind t), .string (Tr.text t), .slice A (Tr.kids t).length c] 24 (0, 0)) := heap_old (heap_old (heap_new _ _ rfl) _) _
  have k1 : (((w.alloc (.cells #[.int .i64 (Tr.id t), .int .i64 (Tr.kind t), .string (Tr.text t), .slice A (Tr.kids t).length c] 24)).alloc (.cells #[.int .i8 op, .int .i64 id, .int .i64 par, .int .i64 pl, .string tx, .int .i64 (Tr.id sub), .int .i64 (Tr.kind sub), .string (Tr.text sub), .slice As (Tr.kids sub).length cs] 27)).alloc (.cells #[.int .i64 0, .int .i64 0, .string ⟨#[]⟩, .slice none 0 0] 24)).heap[w.heap.size + 1]? = some (.cells #[.int .i8 op, .int .i64 id, .int .i64 par, .int .i64 pl, .string tx, .int .i64 (Tr.id sub), .int .i64 (Tr.kind sub), .string (Tr.text sub), .slice As (Tr.kids sub).length cs] 27 (0, 0)) := heap_old (heap_new _ _ (by simp)) _
  have k2 : (((w.alloc (.cells #[.int .i64 (Tr.id t), .int .i64 (Tr.kind t), .string (Tr.text t), .slice A (Tr.kids t).length c] 24)).alloc (.cells #[.int .i8 op, .int .i64 id, .int .i64 par, .int .i64 pl, .string tx, .int .i64 (Tr.id sub), .int .i64 (Tr.kind sub), .string (Tr.text sub), .slice As (Tr.kids sub).length cs] 27)).alloc (.cells #[.int .i64 0, .int .i64 0, .string ⟨#[]⟩, .slice none 0 0] 24)).heap[w.heap.size + 1 + 1]? = some (.cells #[.int .i64 0, .int .i64 0, .string ⟨#[]⟩, .slice none 0 0] 24 (0, 0)) := heap_new _ _ (by simp)
  have HK := Lib.hid (And.intro hC3 (And.intro k0 (And.intro k1 k2)))
  clear hT hS hC3 k0 k1 k2
  go_enter Try.func19, Try.ntmps19
  go_wp2_with (first
    | (go_at_call 55; refine (ways_any _).mono ?_; rintro e W0 ⟨rfl, hC0⟩; unfold waysV; have HC0 := Lib.hid hC0; clear hC0)
    | fail)
  obtain ⟨X, hXe⟩ : ∃ X, X = W0.alloc (.cells #[.nilFunc, .func (.func 100) #[] #[], .func (.func 101) #[] #[], .func (.func 104) #[] #[], .func (.func 105) #[] #[]] 100) := ⟨_, rfl⟩
  have hWX : Chg [] W0 X := by rw [hXe]; exact (Chg.refl _ _).alloc _
  have hX6 : X.heap[W0.heap.size]? = some (.cells #[.nilFunc, .func (.func 100) #[] #[], .func (.func 101) #[] #[], .func (.func 104) #[] #[], .func (.func 105) #[] #[]] 100 (0, 0)) := by rw [hXe]; exact heap_new _ _ rfl
  rw [← hXe]
  have hc0 := HC0.out.trans hWX
  have x0 := hc0.at HK.out.2.1 (by simp)
  have x1 := hc0.at HK.out.2.2.1 (by simp)
  have x2 := hc0.at HK.out.2.2.2 (by simp)
  have hwX : Chg [] w X := HK.out.1.trans hc0
  have hws := hwX.size
  have hl0 := lt_of_block x0
  have hl1 := lt_of_block x1
  have hl2 := lt_of_block x2
  have HX := Lib.hid (And.intro x0 (And.intro x1 (And.intro x2 (And.intro hX6 hwX))))
  have hst := small_any t w.heap.size 0 X ⟨_, range_all x0, (HH.out.1.kept hwX (by simp)).weak (fun b hb _ => by omega)⟩ hl0
  have HS1 := Lib.hid hst
  clear hXe hWX hX6 hc0 x0 x1 x2 hwX hst HC0 HK
  by_cases h1 : t.nodes ≤ 2000
  · have b1 : decide (t.nodes ≤ 2000) = true := by simpa using h1
    refine HS1.out.mono ?_
    rintro e X1 ⟨rfl, hX1⟩
    rw [b1]
    have x1 := hX1.at HX.out.2.1 (by simp)
    have hl1' := lt_of_block x1
    have hs1 := hX1.size
    have hss := small_any sub (w.heap.size + 1) 5 X1 ⟨_, range_of_block (cs := (#[.int .i8 op, .int .i64 id, .int .i64 par, .int .i64 pl, .string tx, .int .i64 (Tr.id sub), .int .i64 (Tr.kind sub), .string (Tr.text sub), .slice As (Tr.kids sub).length cs]).toList) x1 5 4, (HH.out.2.kept (HX.out.2.2.2.2.trans hX1) (by simp)).weak (fun b hb _ => by omega)⟩ hl1'
    have HS2 := Lib.hid (And.intro hss hX1)
    clear hss hX1 x1
    by_cases h2 : sub.nodes ≤ 2000
    · have b2 : decide (sub.nodes ≤ 2000) = true := by simpa using h2
      go_wp2_with fail
      refine HS2.out.1.mono ?_
      rintro e X2 ⟨rfl, hX2⟩
      rw [b2]
      have hc2 := HS2.out.2.trans hX2
      have y1 := hc2.at HX.out.2.1 (by simp)
      have y6 := hc2.at HX.out.2.2.2.1 (by simp)
      have y2 := hc2.at HX.out.2.2.1 (by simp)
      have q0 : X2.cell? ⟨w.heap.size + 1, 0, none⟩ = some (.int .i8 op) := by simp [World.cell?, y1]
      have q3 : X2.cell? ⟨W0.heap.size, 0, none⟩ = some .nilFunc := by simp [World.cell?, y6]
      obtain ⟨r0, r1, r2, r3⟩ := blk4 y2
      have f0 := blkF y2 0
      have f1 := blkF y2 1
      have f2 := blkF y2 2
      have f3 := blkF y2 3
      have HX2 := Lib.hid (And.intro hc2 y2)
      have hap : applyT t ⟨op, id, par, pl, tx, sub⟩ = .error 2 := by
        unfold applyT; rw [if_pos ⟨h1, h2⟩]
        unfold doT
        rw [if_neg hop.1, if_neg hop.2.1, if_neg hop.2.2.1, if_neg hop.2.2.2]
      have HA := Lib.hid hap
      clear hX2 hc2 y1 y2 y6 hap
      by_cases hlo : op < 0
      · have d1 : decide (op < 0) = true := decide_eq_true hlo
        clear hop hlo q3
        go_wp2_with (skip; fail)
        refine bodyPost_ret (v := .tuple #[.agg #[.int .i64 0, .int .i64 0, .string ⟨#[]⟩, .slice none 0 0], .int .i64 2]) (results_row_tmp rfl _ _ (w.heap.size + 1 + 1) _ _ _ _ _ rfl rfl (set4 HX2.out.2) Try.underlying24 rfl szNode) rfl ?_
        unfold ApplyPost
        rw [HA.out]
        exact ⟨rfl, (HX.out.2.2.2.2.trans HX2.out.1).andThen (chg4 _ _ _ _ _ _) (by simp; omega)⟩
      · have d1 : decide (op < 0) = false := decide_eq_false hlo
        by_cases hhi : 5 ≤ op
        · have d2 : decide (5 ≤ op) = true := decide_eq_true hhi
          clear hop hlo hhi q3
          go_wp2_with (skip; fail)
          refine bodyPost_ret (v := .tuple #[.agg #[.int .i64 0, .int .i64 0, .string ⟨#[]⟩, .slice none 0 0], .int .i64 2]) (results_row_tmp rfl _ _ (w.heap.size + 1 + 1) _ _ _ _ _ rfl rfl (set4 HX2.out.2) Try.underlying24 rfl szNode) rfl ?_
          unfold ApplyPost
          rw [HA.out]
          exact ⟨rfl, (HX.out.2.2.2.2.trans HX2.out.1).andThen (chg4 _ _ _ _ _ _) (by simp; omega)⟩
        · obtain rfl : op = 0 := by have := hop.1; have := hop.2.1; have := hop.2.2.1; have := hop.2.2.2; omega
          clear hop hlo hhi d1
          go_wp2_with (skip; fail)
          refine bodyPost_ret (v := .tuple #[.agg #[.int .i64 0, .int .i64 0, .string ⟨#[]⟩, .slice none 0 0], .int .i64 2]) (results_row_tmp rfl _ _ (w.heap.size + 1 + 1) _ _ _ _ _ rfl rfl (set4 HX2.out.2) Try.underlying24 rfl szNode) rfl ?_
          unfold ApplyPost
          rw [HA.out]
          exact ⟨rfl, (HX.out.2.2.2.2.trans HX2.out.1).andThen (chg4 _ _ _ _ _ _) (by simp; omega)⟩
    · have b2 : decide (sub.nodes ≤ 2000) = false := by simpa using h2
      have hap : applyT t ⟨op, id, par, pl, tx, sub⟩ = .error 2 := by unfold applyT; rw [if_neg (fun h => h2 h.2)]
      have HA := Lib.hid hap
      clear hap
      go_wp2_with fail
      refine HS2.out.1.mono ?_
      rintro e X2 ⟨rfl, hX2⟩
      rw [b2]
      have hc2 := HS2.out.2.trans hX2
      have y2 := hc2.at HX.out.2.2.1 (by simp)
      obtain ⟨r0, r1, r2, r3⟩ := blk4 y2
      have f0 := blkF y2 0
      have f1 := blkF y2 1
      have f2 := blkF y2 2
      have f3 := blkF y2 3
      have HX2 := Lib.hid (And.intro hc2 y2)
      clear hX2 hc2 y2
      go_wp2
      refine bodyPost_ret (v := .tuple #[.agg #[.int .i64 0, .int .i64 0, .string ⟨#[]⟩, .slice none 0 0], .int .i64 2]) (results_row_tmp rfl _ _ (w.heap.size + 1 + 1) _ _ _ _ _ rfl rfl (set4 HX2.out.2) Try.underlying24 rfl szNode) rfl ?_
      unfold ApplyPost
      rw [HA.out]
      exact ⟨rfl, (HX.out.2.2.2.2.trans HX2.out.1).andThen (chg4 _ _ _ _ _ _) (by simp; omega)⟩
  · have b1 : decide (t.nodes ≤ 2000) = false := by simpa using h1
    have hap : applyT t ⟨op, id, par, pl, tx, sub⟩ = .error 2 := by unfold applyT; rw [if_neg (fun h => h1 h.1)]
    have HA := Lib.hid hap
    clear hap
    refine HS1.out.mono ?_
    rintro e X2 ⟨rfl, hX2⟩
    rw [b1]
    have y2 := hX2.at HX.out.2.2.1 (by simp)
    obtain ⟨r0, r1, r2, r3⟩ := blk4 y2
    have f0 := blkF y2 0
    have f1 := blkF y2 1
    have f2 := blkF y2 2
    have f3 := blkF y2 3
    have HX2 := Lib.hid (And.intro hX2 y2)
    clear hX2 y2
    go_wp2
    refine bodyPost_ret (v := .tuple #[.agg #[.int .i64 0, .int .i64 0, .string ⟨#[]⟩, .slice none 0 0], .int .i64 2]) (results_row_tmp rfl _ _ (w.heap.size + 1 + 1) _ _ _ _ _ rfl rfl (set4 HX2.out.2) Try.underlying24 rfl szNode) rfl ?_
    unfold ApplyPost
    rw [HA.out]
    exact ⟨rfl, (HX.out.2.2.2.2.trans HX2.out.1).andThen (chg4 _ _ _ _ _ _) (by simp; omega)⟩
theorem apply_any (t : Tr) (s : Stp) (A : Option Addr) (c : Nat) (cs : List Value) (w : World) (hT : TrC (fun b => b < w.heap.size) w t [.int .i64 (Tr.id t), .int .i64 (Tr.kind t), .string (Tr.text t), .slice A (Tr.kids t).length c]) (hS : StpC (fun b => b < w.heap.size) w s cs) :
    Calls Try.prog 19 #[.agg #[.int .i64 (Tr.id t), .int .i64 (Tr.kind t), .string (Tr.text t), .slice A (Tr.kids t).length c], .agg cs.toArray] w (ApplyPost (applyT t s) w) := by
  obtain ⟨As, c', rfl, hsub, htx, hlo, hhi⟩ := hS
  obtain ⟨op, id, par, pl, tx, sub⟩ := s
  by_cases h1 : op = 1
  · subst h1; exact apply_op1 t id par pl tx sub A c As c' w htx hT hsub
  by_cases h2 : op = 2
  · subst h2; exact apply_op2 t id par pl tx sub A c As c' w htx hT hsub
  by_cases h3 : op = 3
  · subst h3; exact apply_op3 t id par pl tx sub A c As c' w htx hT hsub
  by_cases h4 : op = 4
  · subst h4; exact apply_op4 t id par pl tx sub A c As c' w htx hT hsub
  exact apply_bad t op id par pl tx sub A c As c' w hlo hhi ⟨h1, h2, h3, h4⟩ hT hsub
end Go.Proofs.Ytofjocjljbkjgaa
namespace Go.Proofs.Ytofjocjljbkjgaa
open Go.RowKit
structure Sl where
  kinds : List Int
  least : Int
  most : Int
structure Kd where
  name : ByteArray
  text : Bool
  slots : List Sl
structure Gr where
  kinds : List Kd
  root : Int
def RowP {α : Type} (w : World) (n : Nat) (R : World → Nat → Nat → α → Prop) (A : Option Addr) (xs : List α) : Prop :=
  ∀ i x, xs[i]? = some x → ∃ g o, A = some ⟨g, o, none⟩ ∧ g < w.heap.size ∧ R w g (o + i * n) x
def IntAt (w : World) (g o : Nat) (v : Int) : Prop := w.cell? ⟨g, o, none⟩ = some (.int .i64 v)
structure SlAt (w : World) (g o : Nat) (s : Sl) : Prop where
  ex : ∃ A c, w.rangeAt g o [.slice A s.kinds.length c, .int .i64 s.least, .int .i64 s.most] ∧ s.kinds.length ≤ c ∧ c ≤ 9223372036854775807 ∧ RowP w 1 IntAt A s.kinds
structure KdAt (w : World) (g o : Nat) (k : Kd) : Prop where
  ex : ∃ A c, w.rangeAt g o [.string k.name, .bool k.text, .slice A k.slots.length c] ∧ k.name.size ≤ 9223372036854775807 ∧ k.slots.length ≤ c ∧ c ≤ 9223372036854775807 ∧ RowP w 3 SlAt A k.slots
structure GrC (w : World) (A : Option Addr) (c : Nat) (ks : List Kd) : Prop where
  cap : ks.length ≤ c
  big : c ≤ 9223372036854775807
  row : RowP w 3 KdAt A ks
theorem range_kept {w w' : World} (h : Chg [] w w') {g o : Nat} {cs : List Value} (hr : w.rangeAt g o cs) : w'.rangeAt g o cs := fun j v hv => h.cell (hr j v hv) (by simp)
theorem RowP.imp {α : Type} {w w' : World} {n : Nat} {R : World → Nat → Nat → α → Prop} {A : Option Addr} {xs : List α} (h : RowP w n R A xs) (hs : w.heap.size ≤ w'.heap.size) (hR : ∀ g o x, R w g o x → R w' g o x) : RowP w' n R A xs := fun i x hx => by
  obtain ⟨g, o, hA, hg, hr⟩ := h i x hx
  exact ⟨g, o, hA, Nat.lt_of_lt_of_le hg hs, hR _ _ _ hr⟩
theorem RowP.at {α : Type} {w : World} {n : Nat} {R : World → Nat → Nat → α → Prop} {A : Option Addr} {xs : List α} (h : RowP w n R A xs) {i : Nat} (hi : i < xs.length) : ∃ g o, A = some ⟨g, o, none⟩ ∧ g < w.heap.size ∧ R w g (o + i * n) (xs[i]'hi) := h i _ (List.getElem?_eq_getElem hi)
theorem RowP.nil {α : Type} (w : World) (n : Nat) (R : World → Nat → Nat → α → Prop) (A : Option Addr) : RowP w n R A [] := fun i x hx => by simp at hx
theorem IntAt.kept {w w' : World} (h : Chg [] w w') {g o : Nat} {v : Int} (hv : IntAt w g o v) : IntAt w' g o v := h.cell hv (by simp)
theorem RowI.kept {w w' : World} (h : Chg [] w w') {A : Option Addr} {xs : List Int} (hr : RowP w 1 IntAt A xs) : RowP w' 1 IntAt A xs := hr.imp h.size fun _ _ _ => IntAt.kept h
theorem SlAt.kept {w w' : World} (h : Chg [] w w') {g o : Nat} {s : Sl} (hs : SlAt w g o s) : SlAt w' g o s := by
  obtain ⟨A, c, h1, h2, h3, h4⟩ := hs.ex
  exact ⟨A, c, range_kept h h1, h2, h3, RowI.kept h h4⟩
theorem KdAt.kept {w w' : World} (h : Chg [] w w') {g o : Nat} {s : Kd} (hs : KdAt w g o s) : KdAt w' g o s := by
  obtain ⟨A, c, h1, h2, h3, h4, h5⟩ := hs.ex
  exact ⟨A, c, range_kept h h1, h2, h3, h4, h5.imp h.size fun _ _ _ => SlAt.kept h⟩
theorem GrC.kept {w w' : World} {A : Option Addr} {c : Nat} {ks : List Kd} (hs : GrC w A c ks) (h : Chg [] w w') : GrC w' A c ks := ⟨hs.cap, hs.big, hs.row.imp h.size fun _ _ _ => KdAt.kept h⟩
theorem cellsI : Try.prog.cellsOf 3 = 1 := by kernel_rfl
theorem cellsB : Try.prog.cellsOf 4 = 1 := by kernel_rfl
theorem cellsS : Try.prog.cellsOf 9 = 1 := by kernel_rfl
theorem cellsIs : Try.prog.cellsOf 109 = 1 := by kernel_rfl
theorem cellsSl : Try.prog.cellsOf 111 = 3 := by kernel_rfl
theorem cellsSls : Try.prog.cellsOf 106 = 1 := by kernel_rfl
theorem cellsKd : Try.prog.cellsOf 108 = 3 := by kernel_rfl
theorem cellsKds : Try.prog.cellsOf 41 = 1 := by kernel_rfl
theorem cellsGr : Try.prog.cellsOf 43 = 2 := by kernel_rfl
theorem lst2 {α : Type} {l : List α} (h : l.length = 2) : ∃ a0 a1, l = [a0, a1] := by
  match l, h with
  | [a0, a1], _ => exact ⟨_, _, rfl⟩
theorem lst3 {α : Type} {l : List α} (h : l.length = 3) : ∃ a0 a1 a2, l = [a0, a1, a2] := by
  match l, h with
  | [a0, a1, a2], _ => exact ⟨_, _, _, rfl⟩
theorem row_list {α : Type} (d : α) {n : Nat} {Q : Nat → α → Prop} (h : ∀ i, i < n → ∃ x, Q i x) : ∃ xs : List α, xs.length = n ∧ ∀ i x, xs[i]? = some x → Q i x := by
  let f : Nat → α := fun i => if hi : i < n then (h i hi).choose else d
  refine ⟨(List.range n).map f, by simp, fun i x hx => ?_⟩
  have hi : i < n := by
    have := (List.getElem?_eq_some_iff.1 hx).1
    simpa using this
  simp [hi] at hx
  have e : f i = (h i hi).choose := by simp [f, hi]
  rw [← hx, e]
  exact (h i hi).choose_spec
section
variable {H : Type} {enc : TypeId × Value → H} {w : World} {base : Nat} {sp : Nat → Bool} {held : Bool}
theorem range_lt' {g o : Nat} {cs : List Value} (h : w.rangeAt g o cs) (hl : 0 < cs.length) : g < w.heap.size := World.block_lt_of_cell? w _ (h 0 _ (List.getElem?_eq_getElem hl))
theorem ints_of {fuel : Nat} {cs : List Value} {x : DataW H × List MemPlace} (h : DataW.trod enc Try.prog w base sp held fuel 109 cs = some x) :
    ∃ A xs c, cs = [.slice A (List.length xs) c] ∧ xs.length ≤ c ∧ c ≤ 9223372036854775807 ∧ RowP w 1 IntAt A xs := by
  obtain ⟨A, len, cap, n, rfl, hlc, hcm, hnn, hA, hel⟩ := trod_slice' Try.underlying109 (by rw [cellsI]; omega) h
  unfold maxLen at hcm
  obtain ⟨xs, hxl, hxs⟩ := row_list (0 : Int) (n := len) (Q := fun i v => ∃ g o, A = some ⟨g, o, none⟩ ∧ g < w.heap.size ∧ IntAt w g (o + i * 1) v) (fun i hi => by
    obtain ⟨B, o, es, y, hA, hl, hr, ht⟩ := hel i hi
    obtain ⟨v, rfl, hv⟩ := trod_int Try.underlying3 ht
    rw [cellsI] at hr
    exact ⟨v, B, o, hA, range_lt' hr (by simp), hr 0 _ rfl⟩)
  exact ⟨A, xs, cap, by rw [hxl], by omega, hcm, hxs⟩
theorem slot_of {fuel : Nat} {cs : List Value} {x : DataW H × List MemPlace} {g o : Nat} (hr : w.rangeAt g o cs) (h : DataW.trod enc Try.prog w base sp held fuel 111 cs = some x) : ∃ s, SlAt w g o s := by
  cases fuel with
  | zero => simp [DataW.trod] at h
  | succ fuel =>
    obtain ⟨hl, hfs⟩ := trod_struct Try.underlying111 h
    rw [cellsSl] at hl
    obtain ⟨a0, a1, a2, rfl⟩ := lst3 hl
    simp only [List.forall_mem_cons] at hfs
    obtain ⟨⟨y0, e0⟩, ⟨y1, e1⟩, ⟨y2, e2⟩, _⟩ := hfs
    obtain ⟨A, xs, c, f0, h1, h2, h3⟩ := ints_of e0
    obtain ⟨k1, f1, _⟩ := trod_int Try.underlying3 e1
    obtain ⟨k2, f2, _⟩ := trod_int Try.underlying3 e2
    simp [cellsI, cellsIs] at f0 f1 f2
    subst f0 f1 f2
    exact ⟨⟨xs, k1, k2⟩, ⟨A, c, hr, h1, h2, h3⟩⟩
theorem kind_of {fuel : Nat} {cs : List Value} {x : DataW H × List MemPlace} {g o : Nat} (hr : w.rangeAt g o cs) (h : DataW.trod enc Try.prog w base sp held fuel 108 cs = some x) : ∃ s, KdAt w g o s := by
  cases fuel with
  | zero => simp [DataW.trod] at h
  | succ fuel =>
    obtain ⟨hl, hfs⟩ := trod_struct Try.underlying108 h
    rw [cellsKd] at hl
    obtain ⟨a0, a1, a2, rfl⟩ := lst3 hl
    simp only [List.forall_mem_cons] at hfs
    obtain ⟨⟨y0, e0⟩, ⟨y1, e1⟩, ⟨y2, e2⟩, _⟩ := hfs
    obtain ⟨s, f0, hs⟩ := trod_string Try.underlying9 e0
    obtain ⟨b, f1⟩ := trod_bool Try.underlying4 e1
    obtain ⟨A, len, cap, n, f2, hlc, hcm, hnn, hA, hel⟩ := trod_slice' Try.underlying106 (by rw [cellsSl]; omega) e2
    unfold maxLen at hcm hs
    obtain ⟨xs, hxl, hxs⟩ := row_list (⟨[], 0, 0⟩ : Sl) (n := len) (Q := fun i v => ∃ g o, A = some ⟨g, o, none⟩ ∧ g < w.heap.size ∧ SlAt w g (o + i * 3) v) (fun i hi => by
      obtain ⟨B, o, es, y, hA, hl, hr, ht⟩ := hel i hi
      rw [cellsSl] at hr hl
      obtain ⟨s, hs⟩ := slot_of hr ht
      exact ⟨s, B, o, hA, range_lt' hr (by omega), hs⟩)
    simp [cellsS, cellsB, cellsSls] at f0 f1 f2
    subst f0 f1 f2
    exact ⟨⟨s, b, xs⟩, ⟨A, cap, by rw [show (Kd.slots ⟨s, b, xs⟩).length = len from hxl]; exact hr, by omega, by show xs.length ≤ cap; omega, hcm, hxs⟩⟩
theorem gram_of {fuel : Nat} {cs : List Value} {x : DataW H × List MemPlace} (h : DataW.trod enc Try.prog w base sp held fuel 43 cs = some x) :
    ∃ (g : Gr) (A : Option Addr) (c : Nat), cs = [.slice A g.kinds.length c, .int .i64 g.root] ∧ GrC w A c g.kinds := by
  cases fuel with
  | zero => simp [DataW.trod] at h
  | succ fuel =>
    obtain ⟨hl, hfs⟩ := trod_struct Try.underlying43 h
    rw [cellsGr] at hl
    obtain ⟨a0, a1, rfl⟩ := lst2 hl
    simp only [List.forall_mem_cons] at hfs
    obtain ⟨⟨y0, e0⟩, ⟨y1, e1⟩, _⟩ := hfs
    obtain ⟨A, len, cap, n, f0, hlc, hcm, hnn, hA, hel⟩ := trod_slice' Try.underlying41 (by rw [cellsKd]; omega) e0
    obtain ⟨k1, f1, _⟩ := trod_int Try.underlying3 e1
    unfold maxLen at hcm
    obtain ⟨xs, hxl, hxs⟩ := row_list (⟨⟨#[]⟩, false, []⟩ : Kd) (n := len) (Q := fun i v => ∃ g o, A = some ⟨g, o, none⟩ ∧ g < w.heap.size ∧ KdAt w g (o + i * 3) v) (fun i hi => by
      obtain ⟨B, o, es, y, hA, hl, hr, ht⟩ := hel i hi
      rw [cellsKd] at hr hl
      obtain ⟨s, hs⟩ := kind_of hr ht
      exact ⟨s, B, o, hA, range_lt' hr (by omega), hs⟩)
    simp [cellsI, cellsKds] at f0 f1
    subst f0 f1
    exact ⟨⟨xs, k1⟩, A, cap, by simp [hxl], ⟨by show xs.length ≤ cap; omega, hcm, hxs⟩⟩
end
end Go.Proofs.Ytofjocjljbkjgaa
namespace Go.Proofs.Ytofjocjljbkjgaa
open Go.RowKit
def Rising (l : List Int) (n : Int) : Prop := ∀ i, i < l.length → 0 ≤ l.getD i 0 ∧ l.getD i 0 < n ∧ (0 < i → l.getD (i - 1) 0 < l.getD i 0)
def Sl.Ok (n : Int) (s : Sl) : Prop := (Rising s.kinds n ∧ 1 ≤ s.kinds.length ∧ s.kinds.length ≤ 32) ∧ 0 ≤ s.least ∧ s.least ≤ s.most ∧ s.most ≤ 1000
def Kd.Ok (n : Int) (k : Kd) : Prop := 1 ≤ k.name.size ∧ k.name.size ≤ 40 ∧ k.slots.length ≤ 8 ∧ ∀ s ∈ k.slots, s.Ok n
def Named (l : List Kd) : Prop := ∀ (i j : Nat) (a b : Kd), i < j → l[i]? = some a → l[j]? = some b → a.name.toList ≠ b.name.toList
def Gr.Ok (g : Gr) : Prop := (1 ≤ g.kinds.length ∧ g.kinds.length ≤ 32 ∧ 0 ≤ g.root ∧ g.root < g.kinds.length) ∧ Named g.kinds ∧ ∀ k ∈ g.kinds, k.Ok g.kinds.length
def BoolIs (p : Prop) (w : World) (e : Ending) (w' : World) : Prop := ∃ b : Bool, e = .returned (.bool b) ∧ (b = true ↔ p) ∧ Chg [] w w'
theorem BoolIs.yes {p : Prop} {w w' : World} (h : p) (hc : Chg [] w w') : BoolIs p w (.returned (.bool true)) w' := ⟨true, rfl, by simp [h], hc⟩
theorem BoolIs.no {p : Prop} {w w' : World} (h : ¬ p) (hc : Chg [] w w') : BoolIs p w (.returned (.bool false)) w' := ⟨false, rfl, by simp [h], hc⟩
set_option maxHeartbeats 4000000 in
set_option maxRecDepth 100000 in
theorem rising_any (A : Option Addr) (xs : List Int) (c : Nat) (n : Int) (w : World) (hr : RowP w 1 IntAt A xs) (hl : xs.length ≤ c) (hc : c ≤ 9223372036854775807) :
    Calls Try.prog 107 #[.slice A xs.length c, .int .i64 n] w (BoolIs (Rising xs n ∧ 1 ≤ xs.length ∧ xs.length ≤ 32) w) := by
  have HR := Lib.hid hr
  clear hr
  go_enter Try.func107, Try.ntmps107
  go_wp2_with fail
  go_loopw [5] (fun iv wr => ∃ i : Nat, i ≤ xs.length ∧ iv = .int .i64 i ∧ Hid (Chg [] w wr ∧ ∀ j, j < i → 0 ≤ xs.getD j 0 ∧ xs.getD j 0 < n ∧ (0 < j → xs.getD (j - 1) 0 < xs.getD j 0))) (fun iv _ => xs.length - (intOf iv).toNat)
  case atStart => exact ⟨0, Nat.zero_le _, rfl, Lib.hid ⟨Chg.refl _ _, fun j hj => by omega⟩⟩
  case round =>
    obtain ⟨i, hi, rfl, H⟩ := hrel
    by_cases hlt : i < xs.length
    · obtain ⟨g, o, rfl, hg, hv⟩ := (RowI.kept H.out.1 HR.out).at hlt
      have hv : wr.cell? ⟨g, o + i, none⟩ = some (.int .i64 xs[i]) := by have h := hv; unfold IntAt at h; rwa [Nat.mul_one] at h
      have hgi : xs.getD i 0 = xs[i] := by rw [List.getD_eq_getElem?_getD, List.getElem?_eq_getElem hlt]; rfl
      have HG := Lib.hid hgi
      clear hgi
      obtain ⟨v, hve⟩ : ∃ v, v = xs[i] := ⟨_, rfl⟩
      rw [← hve] at hv HG
      clear hve
      have hno : ¬ (0 ≤ v ∧ v < n) → ¬ (Rising xs n ∧ 1 ≤ xs.length ∧ xs.length ≤ 32) := fun h1 h2 => by
        have := h2.1 i hlt
        rw [HG.out] at this
        exact h1 ⟨this.1, this.2.1⟩
      by_cases h1 : v < 0
      · have d1 : decide (v < 0) = true := by simpa using h1
        have HN := Lib.hid (hno (by omega))
        clear hno h1
        go_wp2_with fail
        go_quiet (fail)
        go_wp2_with fail
        go_ret
        exact BoolIs.no HN.out (H.out.1.drewN _)
      · have d1 : decide (v < 0) = false := by simpa using h1
        by_cases h2 : n ≤ v
        · have d2 : decide (n ≤ v) = true := by simpa using h2
          have HN := Lib.hid (hno (by omega))
          clear hno h1 h2
          go_wp2_with fail
          go_quiet (fail)
          go_wp2_with fail
          go_ret
          exact BoolIs.no HN.out (H.out.1.drewN _)
        · have d2 : decide (n ≤ v) = false := by simpa using h2
          by_cases h3 : 0 < i
          · obtain ⟨i, rfl⟩ : ∃ j, i = j + 1 := ⟨i - 1, by omega⟩
            have d3 : decide (0 < ((i + 1 : Nat) : Int)) = true := by simp
            obtain ⟨g', o', hA, _, hp⟩ := (RowI.kept H.out.1 HR.out).at (i := i) (by omega)
            cases hA
            have hp : wr.cell? ⟨g, o + i, none⟩ = some (.int .i64 xs[i]) := by have h := hp; unfold IntAt at h; rwa [Nat.mul_one] at h
            have hgp : xs.getD i 0 = xs[i] := by rw [List.getD_eq_getElem?_getD, List.getElem?_eq_getElem (by omega)]; rfl
            obtain ⟨p, hpe⟩ : ∃ p, p = xs[i] := ⟨_, rfl⟩
            rw [← hpe] at hp hgp
            have HP := Lib.hid hgp
            clear hpe hgp hno
            have s1 : IntKind.i64.wrap ((i : Int) + 1 - 1) = i := by rw [Int.add_sub_cancel]; exact IntWalk.i64_in _ (by omega)
            by_cases h4 : v ≤ p
            · have d4 : decide (v ≤ p) = true := by simpa using h4
              have HN := Lib.hid (show ¬ (Rising xs n ∧ 1 ≤ xs.length ∧ xs.length ≤ 32) from fun h => by
                have := (h.1 (i + 1) hlt).2.2 h3
                rw [Nat.add_sub_cancel, HG.out, HP.out] at this
                omega)
              clear h4
              go_wp2_with fail
              go_quiet (fail)
              go_wp2_with fail
              go_ret
              exact BoolIs.no HN.out (H.out.1.drewN _)
            · have d4 : decide (v ≤ p) = false := by simpa using h4
              have HV := Lib.hid (show 0 ≤ v ∧ v < n ∧ p < v by omega)
              clear h4 h1 h2
              go_wp2_with fail
              go_quiet (fail)
              go_wp2_with fail
              go_roundw
              case rel =>
                refine ⟨i + 1 + 1, by omega, by go_num, Lib.hid ⟨H.out.1.drewN _, fun j hj => ?_⟩⟩
                by_cases e : j = i + 1
                · subst e
                  simp only [Nat.add_sub_cancel]
                  rw [HG.out, HP.out]
                  exact ⟨HV.out.1, HV.out.2.1, fun _ => HV.out.2.2⟩
                · exact H.out.2 j (by omega)
              case measure => simp [intOf]; omega
          · have d3 : decide (0 < (i : Int)) = false := by simp; omega
            have d5 : decide (0 < i) = false := by simpa using h3
            have HV := Lib.hid (show 0 ≤ v ∧ v < n ∧ i = 0 by omega)
            clear h3 h1 h2 hno
            go_wp2_with fail
            go_quiet (fail)
            go_wp2_with fail
            go_roundw
            case rel =>
              refine ⟨i + 1, by omega, by go_num, Lib.hid ⟨H.out.1.drewN _, fun j hj => ?_⟩⟩
              have h0 := HV.out.2.2
              obtain rfl : j = i := by omega
              rw [HG.out]
              exact ⟨HV.out.1, HV.out.2.1, fun h => by omega⟩
            case measure => simp [intOf]; omega
    · obtain rfl : i = xs.length := by omega
      by_cases h1 : 1 ≤ xs.length
      · have d1 : decide (1 ≤ (xs.length : Int)) = true := by simp; omega
        by_cases h2 : xs.length ≤ 32
        · have d2 : decide ((xs.length : Int) ≤ 32) = true := by simp; omega
          go_wp2_with fail
          go_ret
          exact BoolIs.yes ⟨H.out.2, h1, h2⟩ H.out.1
        · have d2 : decide ((xs.length : Int) ≤ 32) = false := by simp; omega
          go_wp2_with fail
          go_ret
          exact BoolIs.no (fun h => h2 h.2.2) H.out.1
      · have d1 : decide (1 ≤ (xs.length : Int)) = false := by simp; omega
        go_wp2_with fail
        go_ret
        exact BoolIs.no (fun h => h1 h.2.1) H.out.1
end Go.Proofs.Ytofjocjljbkjgaa
namespace Go.Proofs.Ytofjocjljbkjgaa
open Go.RowKit
def ErrIs (p : Prop) (k : Int) (w : World) (e : Ending) (w' : World) : Prop := ∃ z : Int, e = .returned (.int .i64 z) ∧ (z = 0 ↔ p) ∧ (z = 0 ∨ z = k) ∧ Chg [] w w'
theorem ErrIs.yes {p : Prop} {k : Int} {w w' : World} (h : p) (hc : Chg [] w w') : ErrIs p k w (.returned (.int .i64 0)) w' := ⟨0, rfl, by simp [h], .inl rfl, hc⟩
theorem ErrIs.no {p : Prop} {k : Int} {w w' : World} (h : ¬ p) (hk : k ≠ 0) (hc : Chg [] w w') : ErrIs p k w (.returned (.int .i64 k)) w' := ⟨k, rfl, by simp [h, hk], .inr rfl, hc⟩
theorem KdAt.range {w : World} {g o : Nat} {k : Kd} (h : KdAt w g o k) : ∃ A c, w.rangeAt g o [.string k.name, .bool k.text, .slice A k.slots.length c] ∧ k.name.size ≤ 9223372036854775807 ∧ k.slots.length ≤ 9223372036854775807 ∧ RowP w 3 SlAt A k.slots := by
  obtain ⟨A, c, h1, h2, h3, h4, h5⟩ := h.ex
  exact ⟨A, c, h1, h2, by omega, h5⟩
theorem SlAt.range {w : World} {g o : Nat} {s : Sl} (h : SlAt w g o s) : ∃ A c, w.rangeAt g o [.slice A s.kinds.length c, .int .i64 s.least, .int .i64 s.most] ∧ s.kinds.length ≤ c ∧ c ≤ 9223372036854775807 ∧ RowP w 1 IntAt A s.kinds := h.ex
def OkTo (ks : List Kd) (i : Nat) : Prop := (∀ j k, j < i → ks[j]? = some k → k.Ok ks.length) ∧ ∀ (i' j : Nat) (a b : Kd), i' < j → j < i → ks[i']? = some a → ks[j]? = some b → a.name.toList ≠ b.name.toList
theorem OkTo.zero (ks : List Kd) : OkTo ks 0 := ⟨fun j k hj => by omega, fun i' j a b h1 h2 => by omega⟩
theorem OkTo.next {ks : List Kd} {i : Nat} {k : Kd} (h : OkTo ks i) (hk : ks[i]? = some k) (h1 : k.Ok ks.length) (h2 : ∀ j a, j < i → ks[j]? = some a → a.name.toList ≠ k.name.toList) : OkTo ks (i + 1) :=
  ⟨fun j x hj hx => by
    by_cases e : j = i
    · subst e; rw [hk] at hx; cases hx; exact h1
    · exact h.1 j x (by omega) hx,
   fun i' j a b hij hj ha hb => by
    by_cases e : j = i
    · subst e; rw [hk] at hb; cases hb; exact h2 i' a hij ha
    · exact h.2 i' j a b hij (by omega) ha hb⟩
theorem OkTo.all {g : Gr} (h : OkTo g.kinds g.kinds.length) (h1 : 1 ≤ g.kinds.length ∧ g.kinds.length ≤ 32 ∧ 0 ≤ g.root ∧ g.root < g.kinds.length) : g.Ok :=
  ⟨h1, fun i j a b hij ha hb => h.2 i j a b hij (List.getElem?_eq_some_iff.1 hb).1 ha hb, fun k hk => by
    obtain ⟨i, hi, rfl⟩ := List.getElem_of_mem hk
    exact h.1 i _ hi (List.getElem?_eq_getElem hi)⟩
theorem cell2 {W : World} {b : Nat} {x0 x1 : Value} {t : TypeId} (h : W.heap[b]? = some (.cells #[x0, x1] t (0, 0))) : W.cell? ⟨b, 0, none⟩ = some x0 ∧ W.cell? ⟨b, 1, none⟩ = some x1 := ⟨range_all (cs := [_, _]) h 0 _ rfl, range_all (cs := [_, _]) h 1 _ rfl⟩
theorem cell3 {W : World} {b : Nat} {x0 x1 x2 : Value} {t : TypeId} (h : W.heap[b]? = some (.cells #[x0, x1, x2] t (0, 0))) : W.cell? ⟨b, 0, none⟩ = some x0 ∧ W.cell? ⟨b, 1, none⟩ = some x1 ∧ W.cell? ⟨b, 2, none⟩ = some x2 := ⟨range_all (cs := [_, _, _]) h 0 _ rfl, range_all (cs := [_, _, _]) h 1 _ rfl, range_all (cs := [_, _, _]) h 2 _ rfl⟩
set_option maxHeartbeats 8000000 in
set_option maxRecDepth 100000 in
theorem rcheck_any (g : Gr) (A : Option Addr) (c : Nat) (w : World) (hG : GrC w A c g.kinds) :
    Calls Try.prog 58 #[.agg #[.slice A g.kinds.length c, .int .i64 g.root]] w (ErrIs g.Ok 50 w) := by
  have hcap := hG.cap
  have hbig := hG.big
  have HG := Lib.hid hG
  clear hG
  have hch : Chg [] w (w.alloc (.cells #[.slice A g.kinds.length c, .int .i64 g.root] 43)) := (by with_reducible repeat (first | exact Chg.refl _ _ | apply Chg.alloc | apply Chg.drew | apply Chg.drewN | (refine Chg.setCell ?_ _ _ (by simp))))
  have HC := Lib.hid hch
  clear hch
  by_cases hn : ¬ (1 ≤ g.kinds.length ∧ g.kinds.length ≤ 32 ∧ 0 ≤ g.root ∧ g.root < g.kinds.length)
  · have HN := Lib.hid (show ¬ g.Ok from fun h => hn h.1)
    have hex : g.kinds.length < 1 ∨ 32 < g.kinds.length ∨ g.root < 0 ∨ (g.kinds.length : Int) ≤ g.root := by omega
    clear hn
    go_enter Try.func58, Try.ntmps58
    go_wp2_with fail
    all_goals first
      | (go_ret; exact ErrIs.no HN.out (by decide) HC.out)
      | (exfalso; omega)
  · have hr := Decidable.not_not.1 hn
    clear hn
    obtain ⟨r1, r2, r3, r4⟩ := hr
    go_enter Try.func58, Try.ntmps58
    go_wp2_with fail
    obtain ⟨W1, hW1⟩ : ∃ W1, W1 = w.alloc (.cells #[.slice A g.kinds.length c, .int .i64 g.root] 43) := ⟨_, rfl⟩
    have hg1 : W1.heap[w.heap.size]? = some (.cells #[.slice A g.kinds.length c, .int .i64 g.root] 43 (0, 0)) := by rw [hW1]; exact heap_new _ _ rfl
    rw [← hW1] at HC ⊢
    clear hW1
    have HR := Lib.hid (And.intro r1 (And.intro r2 (And.intro r3 r4)))
    have HB := Lib.hid hg1
    clear hg1 r3 r4
    go_loopw [4] (fun iv wr => ∃ i : Nat, i ≤ g.kinds.length ∧ iv = .int .i64 i ∧ Hid (Chg [] W1 wr ∧ OkTo g.kinds i)) (fun iv _ => g.kinds.length - (intOf iv).toNat)
    case atStart => exact ⟨0, Nat.zero_le _, rfl, Lib.hid ⟨Chg.refl _ _, OkTo.zero _⟩⟩
    case round =>
      obtain ⟨i, hi, rfl, H⟩ := hrel
      obtain ⟨a0, a1⟩ := cell2 (H.out.1.at HB.out (by simp))
      by_cases hlt : i < g.kinds.length
      · obtain ⟨gk, ok, hA, hgk, hat⟩ := (HG.out.kept (HC.out.trans H.out.1)).row.at hlt
        obtain ⟨k, hk⟩ : ∃ k, k = g.kinds[i] := ⟨_, rfl⟩
        rw [← hk] at hat
        have hke : g.kinds[i]? = some k := by rw [hk]; exact List.getElem?_eq_getElem hlt
        have hkm : k ∈ g.kinds := List.mem_of_getElem? hke
        obtain ⟨As, cs, hrk, hns, hsl, hsr⟩ := hat.range
        subst hA
        have HK := Lib.hid (And.intro hrk (And.intro hsr (And.intro hke hkm)))
        clear hk hat hgk hrk hsr hke hkm
        obtain ⟨Y, hY⟩ : ∃ Y, Y = wr.alloc (.cells #[.string k.name, .bool k.text, .slice As k.slots.length cs] 108) := ⟨_, rfl⟩
        have hYc : Chg [] wr Y := by rw [hY]; exact (by with_reducible repeat (first | exact Chg.refl _ _ | apply Chg.alloc | apply Chg.drew | apply Chg.drewN | (refine Chg.setCell ?_ _ _ (by simp))))
        have hYb : Y.heap[wr.heap.size]? = some (.cells #[.string k.name, .bool k.text, .slice As k.slots.length cs] 108 (0, 0)) := by rw [hY]; exact heap_new _ _ rfl
        have HY := Lib.hid (And.intro hYc (And.intro hYb hY))
        clear hY hYc hYb
        go_wp2_with (first
          | (refine wpList_load_mid rfl 108 (.tmp 37) rfl gk (ok + i * 3) (by kernel_rfl) _ _ HK.out.1 Try.underlying108 rfl (by kernel_rfl) ?_
             ((try dsimp only); (try simp only [Act.put, List.setIfInBounds_toArray, List.set_cons_zero, List.set_cons_succ])))
          | (skip; fail))
        all_goals rw [← HY.out.2.2]
        all_goals first
          | (go_ret; exact ErrIs.no (fun hG => by have h := hG.2.2 k HK.out.2.2.2; unfold Kd.Ok at h; omega) (by decide) ((HC.out.trans H.out.1).trans HY.out.1))
          | skip
        have hks : 1 ≤ k.name.size ∧ k.name.size ≤ 40 ∧ k.slots.length ≤ 8 := by omega
        obtain ⟨k1, k2, k3⟩ := hks
        go_loopw [6] (fun jv wq => ∃ j : Nat, j ≤ i ∧ jv = .int .i64 j ∧ Hid (Chg [] Y wq ∧ ∀ (j' : Nat) (a : Kd), j' < j → g.kinds[j']? = some a → a.name.toList ≠ k.name.toList)) (fun jv _ => i - (intOf jv).toNat)
        case atStart => exact ⟨0, Nat.zero_le _, rfl, Lib.hid ⟨Chg.refl _ _, fun j' a h => by omega⟩⟩
        case round =>
          obtain ⟨j, hj, rfl, HJ⟩ := hrel
          obtain ⟨V, hV⟩ : ∃ V, V = wr := ⟨_, rfl⟩
          subst hV
          clear a0 a1
          obtain ⟨b0, b1, b2⟩ := cell3 (HJ.out.1.at HY.out.2.1 (by simp))
          obtain ⟨a0, a1⟩ := cell2 ((HY.out.1.trans HJ.out.1).at (H.out.1.at HB.out (by simp)) (by simp))
          by_cases hjl : j < i
          · have hjn : j < g.kinds.length := by omega
            obtain ⟨gj, oj, hA, _, hat⟩ := ((HG.out.kept (HC.out.trans H.out.1)).kept (HY.out.1.trans HJ.out.1)).row.at hjn
            obtain ⟨kj, hkj⟩ : ∃ kj, kj = g.kinds[j] := ⟨_, rfl⟩
            rw [← hkj] at hat
            have hje : g.kinds[j]? = some kj := by rw [hkj]; exact List.getElem?_eq_getElem hjn
            obtain ⟨Aj, cj, hrj, _, _, _⟩ := hat.range
            cases hA
            have e0 : V.cell? ⟨gk, ok + j * 3, none⟩ = some (.string kj.name) := hrj 0 _ rfl
            have HJE := Lib.hid hje
            clear hkj hat hje hrj
            by_cases hs : kj.name.toList = k.name.toList
            · have d1 : (kj.name.toList == k.name.toList) = true := by simpa using hs
              have HN := Lib.hid (show ¬ g.Ok from fun hG => hG.2.1 j i kj k hjl HJE.out HK.out.2.2.1 hs)
              clear hs
              go_wp2_with (skip; fail)
              go_quiet (fail)
              go_wp2_with (skip; fail)
              go_ret
              exact ErrIs.no HN.out (by decide) ((((HC.out.trans H.out.1).trans HY.out.1).trans HJ.out.1).drewN _)
            · have d1 : (kj.name.toList == k.name.toList) = false := by simpa using hs
              have HN := Lib.hid hs
              clear hs
              go_wp2_with (skip; fail)
              go_quiet (fail)
              go_wp2_with (skip; fail)
              go_roundw
              case rel =>
                refine ⟨j + 1, by omega, by go_num, Lib.hid ⟨HJ.out.1.drewN _, fun j' a hj' ha => ?_⟩⟩
                by_cases e : j' = j
                · subst e
                  rw [HJE.out] at ha
                  cases ha
                  exact HN.out
                · exact HJ.out.2 j' a (by omega) ha
              case measure => simp [intOf]; omega
          · obtain rfl : j = i := by omega
            go_wp2_with (skip; fail)
            go_loopw [7] (fun jv wq => ∃ j : Nat, j ≤ k.slots.length ∧ jv = .int .i64 j ∧ Hid (Chg [] V wq ∧ ∀ (j' : Nat) (a : Sl), j' < j → k.slots[j']? = some a → a.Ok g.kinds.length)) (fun jv _ => k.slots.length - (intOf jv).toNat)
            case atStart => exact ⟨0, Nat.zero_le _, rfl, Lib.hid ⟨Chg.refl _ _, fun j' a h => by omega⟩⟩
            case round =>
              obtain ⟨l, hl, rfl, HL⟩ := hrel
              obtain ⟨X, hX⟩ : ∃ X, X = wr := ⟨_, rfl⟩
              subst hX
              clear b0 b1 b2 a0 a1
              obtain ⟨b0, b1, b2⟩ := cell3 ((HJ.out.1.trans HL.out.1).at HY.out.2.1 (by simp))
              by_cases hll : l < k.slots.length
              · obtain ⟨gl, ol, hA, _, hat⟩ := (HK.out.2.1.imp ((HY.out.1.trans HJ.out.1).trans HL.out.1).size fun _ _ _ => SlAt.kept ((HY.out.1.trans HJ.out.1).trans HL.out.1)).at hll
                obtain ⟨s, hs⟩ : ∃ s, s = k.slots[l] := ⟨_, rfl⟩
                rw [← hs] at hat
                have hse : k.slots[l]? = some s := by rw [hs]; exact List.getElem?_eq_getElem hll
                obtain ⟨Ai, ci, hri, hci, hcm, hrw⟩ := hat.range
                subst hA
                have HS := Lib.hid (And.intro hri (And.intro hrw (And.intro hse (And.intro hci hcm))))
                clear hs hat hri hrw hse
                obtain ⟨T, hT⟩ : ∃ T, T = X.alloc (.cells #[.slice Ai s.kinds.length ci, .int .i64 s.least, .int .i64 s.most] 111) := ⟨_, rfl⟩
                have hTc : Chg [] X T := by rw [hT]; exact (by with_reducible repeat (first | exact Chg.refl _ _ | apply Chg.alloc | apply Chg.drew | apply Chg.drewN | (refine Chg.setCell ?_ _ _ (by simp))))
                have hTb : T.heap[X.heap.size]? = some (.cells #[.slice Ai s.kinds.length ci, .int .i64 s.least, .int .i64 s.most] 111 (0, 0)) := by rw [hT]; exact heap_new _ _ rfl
                have HT := Lib.hid (And.intro hTc (And.intro hTb hT))
                clear hT hTc hTb
                have hcall := rising_any Ai s.kinds ci g.kinds.length T (RowI.kept HT.out.1 HS.out.2.1) hci hcm
                have HCl := Lib.hid hcall
                clear hcall
                go_wp2_with (first
                  | (refine wpList_load_mid rfl 111 (.tmp 79) rfl gl (ol + l * 3) (by kernel_rfl) _ _ HS.out.1 Try.underlying111 rfl (by kernel_rfl) ?_
                     ((try dsimp only); (try simp only [Act.put, List.setIfInBounds_toArray, List.set_cons_zero, List.set_cons_succ])))
                  | (skip; fail))
                rw [← HT.out.2.2]
                refine HCl.out.mono ?_
                rintro e Z ⟨b, rfl, hb, hc⟩
                have HZ := Lib.hid (And.intro hb (And.intro hc ((((HC.out.trans H.out.1).trans HY.out.1).trans HJ.out.1).trans (HL.out.1.trans (HT.out.1.trans hc)))))
                clear hb hc
                clear b0 b1 b2
                obtain ⟨d0, d1, d2⟩ := cell3 (HZ.out.2.1.at HT.out.2.1 (by simp))
                have hsm : s ∈ k.slots := List.mem_of_getElem? HS.out.2.2.1
                have HM := Lib.hid hsm
                clear hsm
                cases b with
                | false =>
                  go_wp2_with (skip; fail)
                  go_ret
                  exact ErrIs.no (fun hG => by have h := (hG.2.2 k HK.out.2.2.2).2.2.2 s HM.out; have h2 := HZ.out.1.2 h.1; cases h2) (by decide) HZ.out.2.2
                | true =>
                  go_wp2_with (skip; fail)
                  all_goals first
                    | (go_ret; exact ErrIs.no (fun hG => by have h := (hG.2.2 k HK.out.2.2.2).2.2.2 s HM.out; unfold Sl.Ok at h; omega) (by decide) HZ.out.2.2)
                    | skip
                  have hok : s.Ok g.kinds.length := ⟨HZ.out.1.1 (by first | rfl | trivial), by omega, by omega, by omega⟩
                  have HOK := Lib.hid hok
                  clear hok
                  go_roundw
                  case rel =>
                    refine ⟨l + 1, by omega, by go_num, Lib.hid ⟨HL.out.1.trans (HT.out.1.trans HZ.out.2.1), fun j' a hj' ha => ?_⟩⟩
                    by_cases e : j' = l
                    · subst e
                      rw [HS.out.2.2.1] at ha
                      cases ha
                      exact HOK.out
                    · exact HL.out.2 j' a (by omega) ha
                  case measure => simp [intOf]; omega
              · obtain rfl : l = k.slots.length := by omega
                go_wp2_with (skip; fail)
                go_roundw
                case rel =>
                  refine ⟨j + 1, by omega, by go_num, Lib.hid ⟨((H.out.1.trans HY.out.1).trans HJ.out.1).trans HL.out.1, H.out.2.next HK.out.2.2.1 ⟨k1, k2, k3, fun s hs => ?_⟩ HJ.out.2⟩⟩
                  obtain ⟨l, hl, rfl⟩ := List.getElem_of_mem hs
                  exact HL.out.2 l _ hl (List.getElem?_eq_getElem hl)
                case measure => simp [intOf]; omega
      · obtain rfl : i = g.kinds.length := by omega
        go_wp2_with fail
        go_ret
        exact ErrIs.yes (H.out.2.all HR.out) (HC.out.trans H.out.1)
end Go.Proofs.Ytofjocjljbkjgaa
namespace Go.Proofs.Ytofjocjljbkjgaa
open Go.RowKit
def Gr.kindAt (g : Gr) (k : Int) : Option Kd := if 0 ≤ k then g.kinds[k.toNat]? else none
def TextOk (g : Gr) (k : Int) (s : ByteArray) : Prop := g.Ok ∧ ∃ x, g.kindAt k = some x ∧ (s.size = 0 ∨ x.text = true ∧ s.size ≤ 40)
theorem kindAt_of {g : Gr} {k : Int} {x : Kd} (h : g.kindAt k = some x) : 0 ≤ k ∧ k < g.kinds.length ∧ g.kinds[k.toNat]? = some x := by
  unfold Gr.kindAt at h
  split at h
  · have := (List.getElem?_eq_some_iff.1 h).1
    exact ⟨by omega, by omega, h⟩
  · cases h
theorem kindAt_some {g : Gr} {k : Int} (h0 : 0 ≤ k) (h1 : k < g.kinds.length) : ∃ x, g.kindAt k = some x := by
  unfold Gr.kindAt
  rw [if_pos h0]
  exact ⟨_, List.getElem?_eq_getElem (by omega)⟩
theorem str_nil {s : ByteArray} : s.toList = [] ↔ s.size = 0 := by
  rw [ByteArray.toList_eq]
  constructor
  · intro h; show s.data.size = 0; rw [← Array.length_toList, h]; rfl
  · intro h; exact List.length_eq_zero_iff.1 (by rw [Array.length_toList]; exact h)
set_option maxHeartbeats 8000000 in
set_option maxRecDepth 100000 in
theorem rtext_any (g : Gr) (A : Option Addr) (c : Nat) (k : Int) (s : ByteArray) (w : World) (hG : GrC w A c g.kinds) (hs : s.size ≤ 9223372036854775807) :
    Calls Try.prog 133 #[.agg #[.slice A g.kinds.length c, .int .i64 g.root], .int .i64 k, .string s] w (BoolIs (TextOk g k s) w) := by
  have hcap := hG.cap
  have hbig := hG.big
  have HG := Lib.hid hG
  obtain ⟨W1, hW1⟩ : ∃ W1, W1 = w.alloc (.cells #[.slice A g.kinds.length c, .int .i64 g.root] 43) := ⟨_, rfl⟩
  have hch : Chg [] w W1 := by rw [hW1]; exact (by with_reducible repeat (first | exact Chg.refl _ _ | apply Chg.alloc | apply Chg.drew | apply Chg.drewN | (refine Chg.setCell ?_ _ _ (by simp))))
  have hg1 : W1.heap[w.heap.size]? = some (.cells #[.slice A g.kinds.length c, .int .i64 g.root] 43 (0, 0)) := by rw [hW1]; exact heap_new _ _ rfl
  have hcall := rcheck_any g A c W1 (hG.kept hch)
  have HC := Lib.hid (And.intro hch (And.intro hg1 (And.intro hW1 hcall)))
  clear hG hch hg1 hW1 hcall
  obtain ⟨a0, a1⟩ := cell2 HC.out.2.1
  go_enter Try.func133, Try.ntmps133
  go_wp2_with fail
  rw [← HC.out.2.2.1]
  refine HC.out.2.2.2.mono ?_
  rintro e X ⟨z, rfl, hz, hzz, hcx⟩
  have HX := Lib.hid (And.intro hz (And.intro hcx (HC.out.1.trans hcx)))
  clear a0 a1 hcx
  obtain ⟨a0, a1⟩ := cell2 (HX.out.2.1.at HC.out.2.1 (by simp))
  by_cases hz0 : z = 0
  · subst hz0
    have HOk := Lib.hid (HX.out.1.1 rfl)
    clear hz hzz
    by_cases hk : 0 ≤ k ∧ k < g.kinds.length
    · obtain ⟨h0, h1⟩ := hk
      obtain ⟨x, hx⟩ := kindAt_some h0 h1
      obtain ⟨kn, rfl⟩ : ∃ kn : Nat, k = kn := ⟨k.toNat, by omega⟩
      have hkn : kn < g.kinds.length := by omega
      obtain ⟨gk, ok, hA, _, hat⟩ := (HG.out.kept HX.out.2.2).row.at hkn
      have hxe : g.kinds[kn] = x := by
        have := (kindAt_of hx).2.2
        rw [Int.toNat_natCast, List.getElem?_eq_getElem hkn] at this
        cases this
        rfl
      rw [hxe] at hat
      obtain ⟨As, cs, hr, _, _, _⟩ := hat.range
      subst hA
      have e1 : X.cell? ⟨gk, ok + kn * 3 + 1, none⟩ = some (.bool x.text) := hr 1 _ rfl
      have HK := Lib.hid hx
      clear hx hat hxe hr h0 h1
      by_cases hse : s.toList = []
      · have d1 : s.toList.isEmpty = true := by rw [hse]; rfl
        have HS := Lib.hid (str_nil.1 hse)
        go_wp2_with (skip; fail)
        go_ret
        exact BoolIs.yes ⟨HOk.out, x, HK.out, .inl HS.out⟩ HX.out.2.2
      · have d1 : s.toList.isEmpty = false := by simpa using hse
        have HS := Lib.hid (show ¬ s.size = 0 from fun h => hse (str_nil.2 h))
        have HT : Hid (∀ y, g.kindAt (kn : Int) = some y → y = x) := Lib.hid fun y hy => by rw [HK.out] at hy; cases hy; rfl
        cases ht : x.text with
        | false =>
          have HF := Lib.hid ht
          rw [ht] at e1
          clear ht
          go_wp2_with (skip; fail)
          go_ret
          exact BoolIs.no (fun ⟨_, y, hy, h⟩ => by
            obtain rfl := HT.out y hy
            rcases h with h | h
            · exact HS.out h
            · rw [HF.out] at h; cases h.1) HX.out.2.2
        | true =>
          have HF := Lib.hid ht
          rw [ht] at e1
          clear ht
          by_cases h40 : s.size ≤ 40
          · have d2 : decide ((s.size : Int) ≤ 40) = true := by simp; omega
            go_wp2_with (skip; fail)
            go_ret
            exact BoolIs.yes ⟨HOk.out, x, HK.out, .inr ⟨HF.out, h40⟩⟩ HX.out.2.2
          · have d2 : decide ((s.size : Int) ≤ 40) = false := by simp; omega
            go_wp2_with (skip; fail)
            go_ret
            exact BoolIs.no (fun ⟨_, y, hy, h⟩ => by
              obtain rfl := HT.out y hy
              rcases h with h | h
              · exact HS.out h
              · exact h40 h.2) HX.out.2.2
    · have HN := Lib.hid (show ¬ TextOk g k s from fun ⟨_, x, hx, _⟩ => hk ⟨(kindAt_of hx).1, (kindAt_of hx).2.1⟩)
      have hk2 : k < 0 ∨ (g.kinds.length : Int) ≤ k := by omega
      clear hk
      go_wp2_with (skip; fail)
      all_goals first
        | (go_ret; exact BoolIs.no HN.out HX.out.2.2)
        | (exfalso; omega)
  · have HN := Lib.hid (show ¬ TextOk g k s from fun h => hz0 (hz.2 h.1))
    obtain rfl : z = 50 := by omega
    clear hz hzz hz0
    go_wp2_with (skip; fail)
    go_ret
    exact BoolIs.no HN.out HX.out.2.2
set_option maxHeartbeats 4000000 in
set_option maxRecDepth 100000 in
theorem may_any (A : Option Addr) (xs : List Int) (c : Nat) (l m v : Int) (w : World) (hr : RowP w 1 IntAt A xs) (hl : xs.length ≤ c) (hc : c ≤ 9223372036854775807) :
    Calls Try.prog 156 #[.agg #[.slice A xs.length c, .int .i64 l, .int .i64 m], .int .i64 v] w (BoolIs (v ∈ xs) w) := by
  have HR := Lib.hid hr
  clear hr
  obtain ⟨W1, hW1⟩ : ∃ W1, W1 = w.alloc (.cells #[.slice A xs.length c, .int .i64 l, .int .i64 m] 111) := ⟨_, rfl⟩
  have hch : Chg [] w W1 := by rw [hW1]; exact (by with_reducible repeat (first | exact Chg.refl _ _ | apply Chg.alloc | apply Chg.drew | apply Chg.drewN | (refine Chg.setCell ?_ _ _ (by simp))))
  have hg1 : W1.heap[w.heap.size]? = some (.cells #[.slice A xs.length c, .int .i64 l, .int .i64 m] 111 (0, 0)) := by rw [hW1]; exact heap_new _ _ rfl
  have HC := Lib.hid (And.intro hch (And.intro hg1 hW1))
  clear hch hg1 hW1
  go_enter Try.func156, Try.ntmps156
  go_wp2_with fail
  rw [← HC.out.2.2]
  go_loopw [5] (fun iv wr => ∃ i : Nat, i ≤ xs.length ∧ iv = .int .i64 i ∧ Hid (Chg [] W1 wr ∧ ∀ j, j < i → xs.getD j 0 ≠ v)) (fun iv _ => xs.length - (intOf iv).toNat)
  case atStart => exact ⟨0, Nat.zero_le _, rfl, Lib.hid ⟨Chg.refl _ _, fun j hj => by omega⟩⟩
  case round =>
    obtain ⟨i, hi, rfl, H⟩ := hrel
    obtain ⟨a0, a1, a2⟩ := cell3 (H.out.1.at HC.out.2.1 (by simp))
    by_cases hlt : i < xs.length
    · obtain ⟨gg, o, rfl, hg, hv⟩ := (RowI.kept (HC.out.1.trans H.out.1) HR.out).at hlt
      have hv : wr.cell? ⟨gg, o + i, none⟩ = some (.int .i64 xs[i]) := by have h := hv; unfold IntAt at h; rwa [Nat.mul_one] at h
      have hgi : xs.getD i 0 = xs[i] := by rw [List.getD_eq_getElem?_getD, List.getElem?_eq_getElem hlt]; rfl
      have hmem : xs[i] ∈ xs := List.getElem_mem hlt
      obtain ⟨u, hu⟩ : ∃ u, u = xs[i] := ⟨_, rfl⟩
      rw [← hu] at hv hgi hmem
      have HG := Lib.hid (And.intro hgi hmem)
      clear hgi hmem hu
      by_cases he : u = v
      · have d1 : (u == v) = true := by simpa using he
        have HE := Lib.hid he
        clear he
        go_wp2_with (skip; fail)
        go_ret
        exact BoolIs.yes (by rw [← HE.out]; exact HG.out.2) (HC.out.1.trans H.out.1)
      · have d1 : (u == v) = false := by simpa using he
        have HE := Lib.hid he
        clear he
        go_wp2_with (skip; fail)
        go_roundw
        case rel =>
          refine ⟨i + 1, by omega, by go_num, Lib.hid ⟨H.out.1, fun j hj => ?_⟩⟩
          by_cases e : j = i
          · subst e; rw [HG.out.1]; exact HE.out
          · exact H.out.2 j (by omega)
        case measure => simp [intOf]; omega
    · obtain rfl : i = xs.length := by omega
      go_wp2_with (skip; fail)
      go_ret
      exact BoolIs.no (fun hm => by
        obtain ⟨j, hj, e⟩ := List.getElem_of_mem hm
        have := H.out.2 j hj
        rw [List.getD_eq_getElem?_getD, List.getElem?_eq_getElem hj] at this
        exact this e) (HC.out.1.trans H.out.1)
end Go.Proofs.Ytofjocjljbkjgaa
namespace Go.Proofs.Ytofjocjljbkjgaa
open Go.RowKit
def Hop (s : Sl) (kids : List Int) (fr m : Nat) : Prop := ∃ n : Nat, m = fr + n ∧ s.least ≤ n ∧ (n : Int) ≤ s.most ∧ ∀ j, j < n → kids.getD (fr + j) 0 ∈ s.kinds
def Reach (slots : List Sl) (kids : List Int) : Nat → Nat → Prop
  | 0, m => m = 0
  | i + 1, m => ∃ fr s, Reach slots kids i fr ∧ slots[i]? = some s ∧ Hop s kids fr m
def FitsOk (g : Gr) (k : Int) (kids : List Int) : Prop := g.Ok ∧ kids.length ≤ 200 ∧ ∃ x, g.kindAt k = some x ∧ Reach x.slots kids x.slots.length kids.length
theorem reach_succ {slots : List Sl} {kids : List Int} {i m : Nat} {s : Sl} (hs : slots[i]? = some s) : Reach slots kids (i + 1) m ↔ ∃ fr, Reach slots kids i fr ∧ Hop s kids fr m := by
  constructor
  · rintro ⟨fr, s', h1, h2, h3⟩
    rw [hs] at h2
    cases h2
    exact ⟨fr, h1, h3⟩
  · rintro ⟨fr, h1, h2⟩
    exact ⟨fr, s, h1, hs, h2⟩
def HopTo (s : Sl) (kids : List Int) (fr n m : Nat) : Prop := ∃ n' : Nat, n' < n ∧ m = fr + n' ∧ s.least ≤ n' ∧ (n' : Int) ≤ s.most ∧ ∀ j, j < n' → kids.getD (fr + j) 0 ∈ s.kinds
theorem HopTo.all {s : Sl} {kids : List Int} {fr n m : Nat} (h : ∀ n' : Nat, n ≤ n' → fr + n' ≤ kids.length → (n' : Int) ≤ s.most → (∀ j, j < n' → kids.getD (fr + j) 0 ∈ s.kinds) → False) (hm : m ≤ kids.length) : HopTo s kids fr n m ↔ Hop s kids fr m := by
  constructor
  · rintro ⟨n', h1, h2, h3, h4, h5⟩
    exact ⟨n', h2, h3, h4, h5⟩
  · rintro ⟨n', h2, h3, h4, h5⟩
    by_cases hn : n' < n
    · exact ⟨n', hn, h2, h3, h4, h5⟩
    · exact (h n' (by omega) (by omega) h4 h5).elim
def TellsT (T : TypeId) (w : World) (b N : Nat) (p : Nat → Prop) : Prop := ∃ c : Nat → Bool, w.rowIs b T N (fun m => .bool (c m)) ∧ ∀ m, m < N → (c m = true ↔ p m)
theorem TellsT.of {T : TypeId} {w w' : World} {b N : Nat} {p : Nat → Prop} {l : List Nat} (h : TellsT T w b N p) (hc : Chg l w w') (hb : b ∉ l) : TellsT T w' b N p := by
  obtain ⟨c, h1, h2⟩ := h
  exact ⟨c, h1.of_block (hc.block b h1.lt hb), h2⟩
theorem TellsT.imp {T : TypeId} {w : World} {b N : Nat} {p q : Nat → Prop} (h : TellsT T w b N p) (hq : ∀ m, m < N → (p m ↔ q m)) : TellsT T w b N q := by
  obtain ⟨c, h1, h2⟩ := h
  exact ⟨c, h1, fun m hm => (h2 m hm).trans (hq m hm)⟩
theorem TellsT.lt {T : TypeId} {w : World} {b N : Nat} {p : Nat → Prop} (h : TellsT T w b N p) : b < w.heap.size := by
  obtain ⟨c, h1, _⟩ := h
  exact h1.lt
theorem TellsT.at {T : TypeId} {w : World} {b N : Nat} {p : Nat → Prop} (h : TellsT T w b N p) {m : Nat} (hm : m < N) : ∃ v : Bool, w.cell? ⟨b, m, none⟩ = some (.bool v) ∧ (v = true ↔ p m) := by
  obtain ⟨c, h1, h2⟩ := h
  exact ⟨c m, h1.cell hm, h2 m hm⟩
theorem TellsT.frozen {T : TypeId} {w : World} {b N : Nat} {p : Nat → Prop} (h : TellsT T w b N p) (i : Nat) : w.frozen? ⟨b, i, none⟩ = false := by
  obtain ⟨c, h1, _⟩ := h
  exact h1.frozen i
theorem TellsT.set {T : TypeId} {w : World} {b N : Nat} {p q : Nat → Prop} (h : TellsT T w b N p) (i : Nat) (v : Bool) (hq : ∀ m, m < N → (q m ↔ if m = i then v = true else p m)) : TellsT T (w.setCell ⟨b, i, none⟩ (.bool v)) b N q := by
  obtain ⟨c, h1, h2⟩ := h
  refine ⟨fun m => if m = i then v else c m, (h1.set i (.bool v)).congr (fun j hj => by dsimp only; split <;> rfl), fun m hm => ?_⟩
  rw [hq m hm]
  dsimp only
  split
  · exact Iff.rfl
  · exact h2 m hm
abbrev Tells := TellsT 4
theorem Tells.made (w : World) (N : Nat) : Tells (w.alloc (.cells (madeCells #[.bool false] N) 4)) w.heap.size N (fun _ => False) := ⟨fun _ => false, World.rowIs_made w (.bool false) N 4, fun m _ => by simp⟩
theorem infoTB : (Try.prog.info? 4).map (fun i => (i.zero, i.size, i.bytes)) = some (some (.bool false), 1, 1) := by kernel_rfl
theorem szSl : (Try.prog.info? 111).map (·.size) = some 3 := by kernel_rfl
theorem make_bools (N : Nat) (h : N ≤ 1000) (w : World) : (Instr.makeSlice 196 (.int .i64 N) (.int .i64 N)).run Try.prog w = .ok (.slice (some ⟨w.heap.size, 0, none⟩) N N) (w.alloc (.cells (madeCells #[.bool false] N) 4)) := by
  obtain ⟨ip, hi, hz0, hz1, hz2⟩ := info_parts infoTB
  have := run_makeSlice (P := Try.prog) (w := w) 196 4 ip (.bool false) Try.underlying196 hi hz0 .i64 .i64 N N (by omega) (by omega) (by rw [hz1]; simp; omega) (by rw [hz2]; omega) (by omega)
  rw [hz1] at this
  simp only [Int.toNat_natCast, Nat.mul_one] at this
  exact this
theorem wpList_make_bools {ops : Array Oper} {rest : List Oper} {o : Oper} {a : Act} {w : World} {Q : Exit → Act → World → Prop} (hgd : o.guard = none) (x y : Operand) (ho : o.op = .makeSlice 196 x y) (N : Nat) (hx : a.eval x = .int .i64 N) (hy : a.eval y = .int .i64 N) (hN : N ≤ 1000)
    (h : ∀ w', Tells w' w.heap.size N (fun _ => False) → Chg [] w w' → wpList Try.prog ops Q rest (a.put o.dst (.slice (some ⟨w.heap.size, 0, none⟩) N N)) w') : wpList Try.prog ops Q (o :: rest) a w := by
  refine wpList_runv hgd (w' := w.alloc (.cells (madeCells #[.bool false] N) 4)) ?_ (h _ (Tells.made w N) ((Chg.refl _ _).alloc _))
  simp [execOp, ho, hx, hy, make_bools N hN, Result.andThen]
theorem wpList_store_bool {ops : Array Oper} {rest : List Oper} {o : Oper} {a : Act} {w : World} {Q : Exit → Act → World → Prop} (hgd : o.guard = none) (x y : Operand) (ho : o.op = .store 4 x y) (b i N : Nat) (hx : a.eval x = .pointer (some ⟨b, i, none⟩)) (v : Bool) (hy : a.eval y = .bool v) {T : TypeId} (p q : Nat → Prop) (hT : TellsT T w b N p) (hi : i < N) (hq : ∀ m, m < N → (q m ↔ if m = i then v = true else p m))
    (h : ∀ w', TellsT T w' b N q → Chg [b] w w' → wpList Try.prog ops Q rest (a.put o.dst undef) w') : wpList Try.prog ops Q (o :: rest) a w := by
  obtain ⟨u, hu, _⟩ := hT.at hi
  have hf := hT.frozen i
  refine wpList_runs hgd (w' := w.setCell ⟨b, i, none⟩ (.bool v)) ?_ (h _ (hT.set i v hq) ((Chg.refl _ _).setCell _ _ (by simp)))
  unfold execOp
  simp only [ho]
  rw [hx, hy]
  simp [go_sem, hu, hf, Result.andThen]
theorem RowI.get {w : World} {A : Option Addr} {xs : List Int} (h : RowP w 1 IntAt A xs) {i : Nat} (hi : i < xs.length) : ∃ g o, A = some ⟨g, o, none⟩ ∧ w.cell? ⟨g, o + i, none⟩ = some (.int .i64 (xs.getD i 0)) := by
  obtain ⟨g, o, hA, _, hv⟩ := h.at hi
  unfold IntAt at hv
  rw [Nat.mul_one] at hv
  refine ⟨g, o, hA, ?_⟩
  rw [List.getD_eq_getElem?_getD, List.getElem?_eq_getElem hi]
  exact hv
set_option maxHeartbeats 16000000 in
set_option maxRecDepth 100000 in
theorem rfits_any (g : Gr) (A : Option Addr) (c : Nat) (k : Int) (K : Option Addr) (kids : List Int) (ck : Nat) (w : World) (hG : GrC w A c g.kinds) (hK : RowP w 1 IntAt K kids) (hlk : kids.length ≤ 9223372036854775807) :
    Calls Try.prog 134 #[.agg #[.slice A g.kinds.length c, .int .i64 g.root], .int .i64 k, .slice K kids.length ck] w (BoolIs (FitsOk g k kids) w) := by
  have hcap := hG.cap
  have hbig := hG.big
  have HG := Lib.hid (And.intro hG hK)
  obtain ⟨W1, hW1⟩ : ∃ W1, W1 = w.alloc (.cells #[.slice A g.kinds.length c, .int .i64 g.root] 43) := ⟨_, rfl⟩
  have hch : Chg [] w W1 := by rw [hW1]; exact (by with_reducible repeat (first | exact Chg.refl _ _ | apply Chg.alloc | apply Chg.drew | apply Chg.drewN | (refine Chg.setCell ?_ _ _ (by simp))))
  have hg1 : W1.heap[w.heap.size]? = some (.cells #[.slice A g.kinds.length c, .int .i64 g.root] 43 (0, 0)) := by rw [hW1]; exact heap_new _ _ rfl
  have hcall := rcheck_any g A c W1 (hG.kept hch)
  have HC := Lib.hid (And.intro hch (And.intro hg1 (And.intro hW1 hcall)))
  clear hG hch hg1 hW1 hcall hK
  obtain ⟨a0, a1⟩ := cell2 HC.out.2.1
  go_enter Try.func134, Try.ntmps134
  go_wp2_with fail
  rw [← HC.out.2.2.1]
  refine HC.out.2.2.2.mono ?_
  rintro e X ⟨z, rfl, hz, hzz, hcx⟩
  have HX := Lib.hid (And.intro hz (And.intro hcx (HC.out.1.trans hcx)))
  clear a0 a1 hcx
  obtain ⟨a0, a1⟩ := cell2 (HX.out.2.1.at HC.out.2.1 (by simp))
  by_cases hz0 : z = 0
  · subst hz0
    have HOk := Lib.hid (HX.out.1.1 rfl)
    clear hz hzz
    by_cases hk : 0 ≤ k ∧ k < g.kinds.length ∧ kids.length ≤ 200
    · obtain ⟨h0, h1, hk2⟩ := hk
      obtain ⟨x, hx⟩ := kindAt_some h0 h1
      obtain ⟨kn, rfl⟩ : ∃ kn : Nat, k = kn := ⟨k.toNat, by omega⟩
      have hkn : kn < g.kinds.length := by omega
      obtain ⟨gk, ok, hA, _, hat⟩ := (HG.out.1.kept HX.out.2.2).row.at hkn
      have hxe : g.kinds[kn] = x := by
        have := (kindAt_of hx).2.2
        rw [Int.toNat_natCast, List.getElem?_eq_getElem hkn] at this
        cases this
        rfl
      rw [hxe] at hat
      obtain ⟨As, cs, hr, _, hsl, hrs⟩ := hat.range
      subst hA
      have e2 : X.cell? ⟨gk, ok + kn * 3 + 2, none⟩ = some (.slice As x.slots.length cs) := hr 2 _ rfl
      have HK := Lib.hid (And.intro hx hrs)
      clear hx hat hxe hr h0 h1 hrs
      have hlt1 : w.heap.size < X.heap.size := Nat.lt_of_lt_of_le (lt_of_block HC.out.2.1) HX.out.2.1.size
      have hlt2 : gk < X.heap.size := World.block_lt_of_cell? X _ e2
      have da : decide ((g.kinds.length : Int) ≤ kn) = false := by simp; omega
      have da' : decide (g.kinds.length ≤ kn) = false := by simp; omega
      have db : decide ((kn : Int) < 0) = false := by simp
      have dc : decide (200 < (kids.length : Int)) = false := by simp; omega
      go_wp2_with (first
        | (refine wpList_make_bools rfl (.tmp 34) (.tmp 34) rfl (kids.length + 1) (by simp [Act.eval]) (by simp [Act.eval]) (by omega) ?_
           intro Y ht hc
           have HY := Lib.hid (And.intro ht hc)
           clear ht hc
           ((try dsimp only); (try simp only [Act.put, List.setIfInBounds_toArray, List.set_cons_zero, List.set_cons_succ])))
        | (refine wpList_store_bool rfl (.tmp 37) (.const (.bool true)) rfl X.heap.size 0 (kids.length + 1) rfl true rfl _ (Reach x.slots kids 0) HY.out.1 (by omega) (fun m _ => by unfold Reach; split <;> simp [*]) ?_
           intro Z ht hc
           have HZ := Lib.hid (And.intro ht (HY.out.2.andThen hc (by simp)))
           have b0 := HZ.out.2.cell a0 (by simp)
           have b2 := HZ.out.2.cell e2 (by simp)
           clear a0 a1 e2 ht hc
           ((try dsimp only); (try simp only [Act.put, List.setIfInBounds_toArray, List.set_cons_zero, List.set_cons_succ])))
        | (skip; fail))
      clear hlt1 hlt2 b0 b2 da da' db dc
      have hS : x.slots.length ≤ 9223372036854775807 := by omega
      go_loopw [7, 9] (fun cv iv wr => ∃ (i b : Nat), i ≤ x.slots.length ∧ iv = .int .i64 i ∧ cv = .slice (some ⟨b, 0, none⟩) (kids.length + 1) (kids.length + 1) ∧ Hid (Chg [] X wr ∧ Tells wr b (kids.length + 1) (Reach x.slots kids i))) (fun _ iv _ => x.slots.length - (intOf iv).toNat)
      case atStart => exact ⟨0, X.heap.size, Nat.zero_le _, rfl, rfl, Lib.hid ⟨HZ.out.2, HZ.out.1⟩⟩
      case round =>
        obtain ⟨i, b, hi, rfl, rfl, H⟩ := hrel
        obtain ⟨V, hV⟩ : ∃ V, V = wr := ⟨_, rfl⟩
        subst hV
        by_cases hlt : i < x.slots.length
        · obtain ⟨gs, os, hA, _, hat⟩ := (HK.out.2.imp H.out.1.size fun _ _ _ => SlAt.kept H.out.1).at hlt
          obtain ⟨s, hs⟩ : ∃ s, s = x.slots[i] := ⟨_, rfl⟩
          rw [← hs] at hat
          have hse : x.slots[i]? = some s := by rw [hs]; exact List.getElem?_eq_getElem hlt
          obtain ⟨Ai, ci, hri, hci, hcm, hrw⟩ := hat.range
          subst hA
          have HSL := Lib.hid (And.intro hri (And.intro hrw (And.intro hse (And.intro hci hcm))))
          clear hs hat hri hrw hse
          have hbV := H.out.2.lt
          go_wp2_with (first
            | (refine wpList_make_bools rfl (.tmp 52) (.tmp 52) rfl (kids.length + 1) (by simp [Act.eval]) (by simp [Act.eval]) (by omega) ?_
               intro Y1 ht hc
               have HY1 := Lib.hid (And.intro ht (And.intro hc (H.out.2.of hc (by simp))))
               clear ht hc
               ((try dsimp only); (try simp only [Act.put, List.setIfInBounds_toArray, List.set_cons_zero, List.set_cons_succ])))
            | (skip; fail))
          go_loopw [11] (fun fv wq => ∃ fr : Nat, fr ≤ kids.length + 1 ∧ fv = .int .i64 fr ∧ Hid (Chg [V.heap.size] Y1 wq ∧ Tells wq V.heap.size (kids.length + 1) (fun m => ∃ f, f < fr ∧ Reach x.slots kids i f ∧ Hop s kids f m))) (fun fv _ => kids.length + 1 - (intOf fv).toNat)
          case atStart => exact ⟨0, Nat.zero_le _, rfl, Lib.hid ⟨Chg.refl _ _, HY1.out.1.imp fun m _ => by simp⟩⟩
          case round =>
            obtain ⟨fr, hfr, rfl, HL⟩ := hrel
            obtain ⟨U, hU⟩ : ∃ U, U = wr := ⟨_, rfl⟩
            subst hU
            by_cases hfl : fr ≤ kids.length
            · obtain ⟨v, hv, hvr⟩ := (HY1.out.2.2.of HL.out.1 (by simp; omega)).at (m := fr) (by omega)
              have HV := Lib.hid hvr
              clear hvr
              cases v with
              | false =>
                go_wp2_with (skip; fail)
                go_roundw
                case rel =>
                  refine ⟨fr + 1, by omega, by go_num, Lib.hid ⟨HL.out.1, HL.out.2.imp fun m _ => ?_⟩⟩
                  constructor
                  · rintro ⟨f, h1, h2⟩; exact ⟨f, by omega, h2⟩
                  · rintro ⟨f, h1, h2, h3⟩
                    by_cases e : f = fr
                    · subst e; exact absurd (HV.out.2 h2) (by simp)
                    · exact ⟨f, by omega, h2, h3⟩
                case measure => simp [intOf]; omega
              | true =>
                have HRe := Lib.hid (HV.out.1 (by first | rfl | trivial))
                clear HV
                go_wp2_with (skip; fail)
                go_loopw [12] (fun nv wq => ∃ n : Nat, fr + n ≤ kids.length + 1 ∧ nv = .int .i64 n ∧ Hid (Chg [V.heap.size] Y1 wq ∧ Tells wq V.heap.size (kids.length + 1) (fun m => (∃ f, f < fr ∧ Reach x.slots kids i f ∧ Hop s kids f m) ∨ HopTo s kids fr n m) ∧ ∀ j, j + 1 < n → kids.getD (fr + j) 0 ∈ s.kinds)) (fun nv _ => kids.length + 1 - (intOf nv).toNat)
                case atStart =>
                  refine ⟨0, by omega, rfl, Lib.hid ⟨HL.out.1, HL.out.2.imp fun m _ => ?_, fun j hj => by omega⟩⟩
                  constructor
                  · exact .inl
                  · rintro (h | ⟨n', h, _⟩)
                    · exact h
                    · omega
                case round =>
                  obtain ⟨n, hn, rfl, H3⟩ := hrel
                  obtain ⟨T, hT⟩ : ∃ T, T = wr := ⟨_, rfl⟩
                  subst hT
                  have hkr := Lib.hid (RowI.kept (HX.out.2.2.trans (H.out.1.trans (HY1.out.2.1.andThen H3.out.1 (by simp)))) HG.out.2)
                  have hVT : Chg [] V T := HY1.out.2.1.andThen H3.out.1 (by simp)
                  have HVT := Lib.hid hVT
                  clear hVT
                  have f2 : T.cell? ⟨gs, os + i * 3 + 2, none⟩ = some (.int .i64 s.most) := range_kept HVT.out HSL.out.1 2 _ rfl
                  have f1 : T.cell? ⟨gs, os + i * 3 + 1, none⟩ = some (.int .i64 s.least) := range_kept HVT.out HSL.out.1 1 _ rfl
                  by_cases c1 : (n : Int) ≤ s.most
                  · have d1 : decide ((n : Int) ≤ s.most) = true := by simpa using c1
                    by_cases c2 : fr + n ≤ kids.length
                    · have d2 : decide ((fr : Int) + n ≤ (kids.length : Int)) = true := by simp; omega
                      have HC1 := Lib.hid c1
                      clear c1
                      by_cases hn0 : n = 0
                      · have g0 : decide (0 < (n : Int)) = false := by simp; omega
                        have g0' : decide (0 < n) = false := by simp; omega
                        have HN0 := Lib.hid hn0
                        clear hn0
                        go_wp2_with (skip; fail)
                        refine wp_region_M (fun _ => True) (fun _ => false) (fun _ => false) (by kernel_rfl) ?_
                        obtain ⟨Q, hQ⟩ : ∃ Q, Q = T.drew := ⟨_, rfl⟩
                        rw [← hQ]
                        have hqc : Chg [] T Q := by rw [hQ]; exact (Chg.refl _ _).drew
                        have HQ := Lib.hid (And.intro hqc (show ∀ j, j < n → kids.getD (fr + j) 0 ∈ s.kinds from fun j hj => by have := HN0.out; omega))
                        clear hQ hqc
                        refine M_pure (i := 0) (v := ?_) rfl (by kernel_rfl) (by kernel_rfl) (by kernel_rfl) (fun _ _ _ h => h) (by rfl) ?hy ?_; (case hy => (intro w; go_simp; with_reducible rfl)); ((try dsimp only); (try simp only [Act.put, List.setIfInBounds_toArray, List.set_cons_zero, List.set_cons_succ]))
                        refine M_pure (i := 1) (v := ?_) rfl (by kernel_rfl) (by kernel_rfl) (by kernel_rfl) (fun _ _ _ h => h) (by rfl) ?hy ?_; (case hy => (intro w; go_simp; with_reducible rfl)); ((try dsimp only); (try simp only [Act.put, List.setIfInBounds_toArray, List.set_cons_zero, List.set_cons_succ]))
                        refine M_pure (i := 2) (v := ?_) rfl (by kernel_rfl) (by kernel_rfl) (by kernel_rfl) (fun _ _ _ h => h) (by rfl) ?hy ?_; (case hy => (intro w; go_simp; with_reducible rfl)); ((try dsimp only); (try simp only [Act.put, List.setIfInBounds_toArray, List.set_cons_zero, List.set_cons_succ]))
                        refine M_skip (i := 3) rfl (by kernel_rfl) (by kernel_rfl) (by kernel_rfl) (fun _ _ _ h => h) (by rfl) ?_; ((try dsimp only); (try simp only [Act.put, List.setIfInBounds_toArray, List.set_cons_zero, List.set_cons_succ]))
                        refine M_skip (i := 4) rfl (by kernel_rfl) (by kernel_rfl) (by kernel_rfl) (fun _ _ _ h => h) (by rfl) ?_; ((try dsimp only); (try simp only [Act.put, List.setIfInBounds_toArray, List.set_cons_zero, List.set_cons_succ]))
                        refine M_skip (i := 5) rfl (by kernel_rfl) (by kernel_rfl) (by kernel_rfl) (fun _ _ _ h => h) (by rfl) ?_; ((try dsimp only); (try simp only [Act.put, List.setIfInBounds_toArray, List.set_cons_zero, List.set_cons_succ]))
                        refine M_skip (i := 6) rfl (by kernel_rfl) (by kernel_rfl) (by kernel_rfl) (fun _ _ _ h => h) (by rfl) ?_; ((try dsimp only); (try simp only [Act.put, List.setIfInBounds_toArray, List.set_cons_zero, List.set_cons_succ]))
                        refine M_skip (i := 7) rfl (by kernel_rfl) (by kernel_rfl) (by kernel_rfl) (fun _ _ _ h => h) (by rfl) ?_; ((try dsimp only); (try simp only [Act.put, List.setIfInBounds_toArray, List.set_cons_zero, List.set_cons_succ]))
                        refine M_skip (i := 8) rfl (by kernel_rfl) (by kernel_rfl) (by kernel_rfl) (fun _ _ _ h => h) (by rfl) ?_; ((try dsimp only); (try simp only [Act.put, List.setIfInBounds_toArray, List.set_cons_zero, List.set_cons_succ]))
                        refine M_skip (i := 9) rfl (by kernel_rfl) (by kernel_rfl) (by kernel_rfl) (fun _ _ _ h => h) (by rfl) ?_; ((try dsimp only); (try simp only [Act.put, List.setIfInBounds_toArray, List.set_cons_zero, List.set_cons_succ]))
                        refine M_skip (i := 10) rfl (by kernel_rfl) (by kernel_rfl) (by kernel_rfl) (fun _ _ _ h => h) (by rfl) ?_; ((try dsimp only); (try simp only [Act.put, List.setIfInBounds_toArray, List.set_cons_zero, List.set_cons_succ]))
                        refine M_skip (i := 11) rfl (by kernel_rfl) (by kernel_rfl) (by kernel_rfl) (fun _ _ _ h => h) (by rfl) ?_; ((try dsimp only); (try simp only [Act.put, List.setIfInBounds_toArray, List.set_cons_zero, List.set_cons_succ]))
                        refine M_skip (i := 12) rfl (by kernel_rfl) (by kernel_rfl) (by kernel_rfl) (fun _ _ _ h => h) (by rfl) ?_; ((try dsimp only); (try simp only [Act.put, List.setIfInBounds_toArray, List.set_cons_zero, List.set_cons_succ]))
                        refine M_skip (i := 13) rfl (by kernel_rfl) (by kernel_rfl) (by kernel_rfl) (fun _ _ _ h => h) (by rfl) ?_; ((try dsimp only); (try simp only [Act.put, List.setIfInBounds_toArray, List.set_cons_zero, List.set_cons_succ]))
                        refine M_skip (i := 14) rfl (by kernel_rfl) (by kernel_rfl) (by kernel_rfl) (fun _ _ _ h => h) (by rfl) ?_; ((try dsimp only); (try simp only [Act.put, List.setIfInBounds_toArray, List.set_cons_zero, List.set_cons_succ]))
                        refine M_skip (i := 15) rfl (by kernel_rfl) (by kernel_rfl) (by kernel_rfl) (fun _ _ _ h => h) (by rfl) ?_; ((try dsimp only); (try simp only [Act.put, List.setIfInBounds_toArray, List.set_cons_zero, List.set_cons_succ]))
                        refine M_pure (i := 16) (v := ?_) rfl (by kernel_rfl) (by kernel_rfl) (by kernel_rfl) (fun _ _ _ h => h) (by rfl) ?hy ?_; (case hy => (intro w; go_simp; with_reducible rfl)); ((try dsimp only); (try simp only [Act.put, List.setIfInBounds_toArray, List.set_cons_zero, List.set_cons_succ]))
                        refine M_done (by kernel_rfl) ?_ _
                        have hst : Tells Q V.heap.size (kids.length + 1) (fun m => (∃ f, f < fr ∧ Reach x.slots kids i f ∧ Hop s kids f m) ∨ HopTo s kids fr n m) := H3.out.2.1.of HQ.out.1 (by simp)
                        have hnx : ∀ (m : Nat), HopTo s kids fr (n + 1) m ↔ (HopTo s kids fr n m ∨ (m = fr + n ∧ s.least ≤ (n : Int))) := fun m => by
                          constructor
                          · rintro ⟨n', h1, h2, h3, h4, h5⟩
                            by_cases e : n' = n
                            · subst e; exact .inr ⟨h2, h3⟩
                            · exact .inl ⟨n', by omega, h2, h3, h4, h5⟩
                          · rintro (⟨n', h1, h2, h3, h4, h5⟩ | ⟨h1, h2⟩)
                            · exact ⟨n', by omega, h2, h3, h4, h5⟩
                            · exact ⟨n, by omega, h1, h2, HC1.out, HQ.out.2⟩
                        have HST := Lib.hid (And.intro hst hnx)
                        clear hst hnx
                        have g1 := HQ.out.1.cell f1 (by simp)
                        by_cases c3 : s.least ≤ (n : Int)
                        · have d3 : decide (s.least ≤ (n : Int)) = true := by simpa using c3
                          try simp only [Int.natCast_add, Int.natCast_one] at d3
                          have w1 : (((fr : Int) + (n : Int))).toNat = fr + n := by omega
                          try simp only [Int.natCast_add, Int.natCast_one] at w1
                          go_wp2_with (first
                            | (refine wpList_store_bool rfl (.tmp 110) (.const (.bool true)) rfl V.heap.size (fr + n) (kids.length + 1) (by simp [Act.eval, w1]) true rfl _ (fun m => (∃ f, f < fr ∧ Reach x.slots kids i f ∧ Hop s kids f m) ∨ HopTo s kids fr (n + 1) m) HST.out.1 (by omega) (fun m _ => by
                                 try dsimp only
                                 rw [HST.out.2 m]
                                 by_cases e : m = fr + n
                                 · rw [if_pos e]; exact ⟨fun _ => rfl, fun _ => .inr (.inr ⟨e, c3⟩)⟩
                                 · rw [if_neg e]; exact ⟨fun h => h.imp id (fun h => h.resolve_right (fun h => e h.1)), fun h => h.imp id .inl⟩) ?_
                               intro P ht hc
                               have HP := Lib.hid (And.intro ht hc)
                               clear ht hc
                               ((try dsimp only); (try simp only [Act.put, List.setIfInBounds_toArray, List.set_cons_zero, List.set_cons_succ])))
                            | (skip; fail))
                          go_roundw
                          case rel => exact ⟨n + 1, by omega, by go_num, Lib.hid ⟨(H3.out.1.andThen HQ.out.1 (by simp)).trans HP.out.2, HP.out.1, fun j hj => HQ.out.2 j (by omega)⟩⟩
                          case measure => simp [intOf]; omega
                        · have d3 : decide (s.least ≤ (n : Int)) = false := by simpa using c3
                          try simp only [Int.natCast_add, Int.natCast_one] at d3
                          go_wp2_with (skip; fail)
                          go_roundw
                          case rel => exact ⟨n + 1, by omega, by go_num, Lib.hid ⟨H3.out.1.andThen HQ.out.1 (by simp), HST.out.1.imp fun m _ => by rw [HST.out.2 m]; exact ⟨fun h => h.imp id .inl, fun h => h.imp id (fun h => h.resolve_right (fun h => by have := h.2; omega))⟩, fun j hj => HQ.out.2 j (by omega)⟩⟩
                          case measure => simp [intOf]; omega
                      · obtain ⟨n, rfl⟩ : ∃ n', n = n' + 1 := ⟨n - 1, by omega⟩
                        obtain ⟨gK, oK, hKA, hKc⟩ := RowI.get hkr.out (i := fr + n) (by omega)
                        obtain ⟨u, hu⟩ : ∃ u, u = kids.getD (fr + n) 0 := ⟨_, rfl⟩
                        rw [← hu] at hKc
                        subst hKA
                        have HU := Lib.hid hu
                        clear hu
                        have s1 : IntKind.i64.wrap ((fr : Int) + (n + 1)) = (fr : Int) + (n + 1) := IntWalk.i64_in _ (by omega)
                        have s2 : IntKind.i64.wrap ((fr : Int) + (n + 1) - 1) = ((fr + n : Nat) : Int) := by rw [IntWalk.i64_in _ (by omega)]; omega
                        have s3 : (0 : Int) ≤ (fr : Int) + n := by omega
                        have s4 : (fr : Int) + n < (kids.length : Int) := by omega
                        have s5 : ((fr : Int) + n).toNat = fr + n := by omega
                        go_wp2_with (skip; fail)
                        refine wp_region_M (fun _ => True) (fun k => [14].contains k) (fun _ => false) (by kernel_rfl) ?_
                        obtain ⟨Z1, hZ1⟩ : ∃ Z1, Z1 = T.drew := ⟨_, rfl⟩
                        rw [← hZ1]
                        have hqc : Chg [] T Z1 := by rw [hZ1]; exact (Chg.refl _ _).drew
                        have HZd := Lib.hid (And.intro (HVT.out.trans hqc) hqc)
                        have hKc := hqc.cell hKc (by simp)
                        clear hZ1 hqc
                        refine M_pure (i := 0) (v := ?_) rfl (by kernel_rfl) (by kernel_rfl) (by kernel_rfl) (fun _ _ _ h => h) (by rfl) ?hy ?_; (case hy => (intro w; go_simp; with_reducible rfl)); ((try dsimp only); (try simp only [Act.put, List.setIfInBounds_toArray, List.set_cons_zero, List.set_cons_succ]))
                        refine M_pure (i := 1) (v := ?_) rfl (by kernel_rfl) (by kernel_rfl) (by kernel_rfl) (fun _ _ _ h => h) (by rfl) ?hy ?_; (case hy => (intro w; go_simp; with_reducible rfl)); ((try dsimp only); (try simp only [Act.put, List.setIfInBounds_toArray, List.set_cons_zero, List.set_cons_succ]))
                        refine M_pure (i := 2) (v := ?_) rfl (by kernel_rfl) (by kernel_rfl) (by kernel_rfl) (fun _ _ _ h => h) (by rfl) ?hy ?_; (case hy => (intro w; go_simp; with_reducible rfl)); ((try dsimp only); (try simp only [Act.put, List.setIfInBounds_toArray, List.set_cons_zero, List.set_cons_succ]))
                        refine M_pure (i := 3) (v := ?_) rfl (by kernel_rfl) (by kernel_rfl) (by kernel_rfl) (fun _ _ _ h => h) (by rfl) ?hy ?_; (case hy => (intro w; go_simp; with_reducible rfl)); ((try dsimp only); (try simp only [Act.put, List.setIfInBounds_toArray, List.set_cons_zero, List.set_cons_succ]))
                        refine M_pure (i := 4) (v := ?_) rfl (by kernel_rfl) (by kernel_rfl) (by kernel_rfl) (fun _ _ _ h => h) (by rfl) ?hy ?_; (case hy => (intro w; go_simp; with_reducible rfl)); ((try dsimp only); (try simp only [Act.put, List.setIfInBounds_toArray, List.set_cons_zero, List.set_cons_succ]))
                        refine M_pure (i := 5) (v := ?_) rfl (by kernel_rfl) (by kernel_rfl) (by kernel_rfl) (fun _ _ _ h => h) (by rfl) ?hy ?_; (case hy => (intro w; go_simp; with_reducible rfl)); ((try dsimp only); (try simp only [Act.put, List.setIfInBounds_toArray, List.set_cons_zero, List.set_cons_succ]))
                        refine M_take (i := 6) rfl (by kernel_rfl) (by kernel_rfl) (by kernel_rfl) (by kernel_rfl) (fun _ _ _ h => h) (by rfl) (exec_load_mid 111 (.tmp 87) rfl gs (os + i * 3) rfl _ _ (range_kept HZd.out.1 HSL.out.1) Try.underlying111 rfl szSl) ?_; ((try dsimp only); (try simp only [Act.put, List.setIfInBounds_toArray, List.set_cons_zero, List.set_cons_succ]))
                        refine M_pure (i := 7) (v := ?_) rfl (by kernel_rfl) (by kernel_rfl) (by kernel_rfl) (fun _ _ _ h => h) (by rfl) ?hy ?_; (case hy => (intro w; go_simp; with_reducible rfl)); ((try dsimp only); (try simp only [Act.put, List.setIfInBounds_toArray, List.set_cons_zero, List.set_cons_succ]))
                        refine M_pure (i := 8) (v := ?_) rfl (by kernel_rfl) (by kernel_rfl) (by kernel_rfl) (fun _ _ _ h => h) (by rfl) ?hy ?_; (case hy => (intro w; go_simp; with_reducible rfl)); ((try dsimp only); (try simp only [Act.put, List.setIfInBounds_toArray, List.set_cons_zero, List.set_cons_succ]))
                        refine M_pure (i := 9) (v := ?_) rfl (by kernel_rfl) (by kernel_rfl) (by kernel_rfl) (fun _ _ _ h => h) (by rfl) ?hy ?_; (case hy => (intro w; go_simp; with_reducible rfl)); ((try dsimp only); (try simp only [Act.put, List.setIfInBounds_toArray, List.set_cons_zero, List.set_cons_succ]))
                        refine M_pure (i := 10) (v := ?_) rfl (by kernel_rfl) (by kernel_rfl) (by kernel_rfl) (fun _ _ _ h => h) (by rfl) ?hy ?_; (case hy => (intro w; go_simp; with_reducible rfl)); ((try dsimp only); (try simp only [Act.put, List.setIfInBounds_toArray, List.set_cons_zero, List.set_cons_succ]))
                        refine M_pure (i := 11) (v := ?_) rfl (by kernel_rfl) (by kernel_rfl) (by kernel_rfl) (fun _ _ _ h => h) (by rfl) ?hy ?_; (case hy => (intro w; go_simp; with_reducible rfl)); ((try dsimp only); (try simp only [Act.put, List.setIfInBounds_toArray, List.set_cons_zero, List.set_cons_succ]))
                        refine M_pure (i := 12) (v := ?_) rfl (by kernel_rfl) (by kernel_rfl) (by kernel_rfl) (fun _ _ _ h => h) (by rfl) ?hy ?_; (case hy => (intro w; go_simp; with_reducible rfl)); ((try dsimp only); (try simp only [Act.put, List.setIfInBounds_toArray, List.set_cons_zero, List.set_cons_succ]))
                        refine M_take (i := 13) (v := ?_) rfl (by kernel_rfl) (by kernel_rfl) (by kernel_rfl) (by kernel_rfl) (fun _ _ _ h => h) (by rfl) ?hy ?_; (case hy => (go_simp; with_reducible rfl)); ((try dsimp only); (try simp only [Act.put, List.setIfInBounds_toArray, List.set_cons_zero, List.set_cons_succ]))
                        refine M_eff (i := 14) rfl (by kernel_rfl) (by rfl) ?_
                        go_wp2_with fail
                        refine (may_any Ai s.kinds ci s.least s.most u Z1 (RowI.kept HZd.out.1 HSL.out.2.1) HSL.out.2.2.2.1 HSL.out.2.2.2.2).mono ?_
                        rintro e Q ⟨bb, rfl, hbb, hqq⟩
                        have HQ0 := Lib.hid (And.intro hbb (HZd.out.2.trans hqq))
                        clear hbb hqq hKc
                        go_wp2_with fail
                        refine ⟨trivial, ?_⟩
                        ((try dsimp only); (try simp only [Act.put, List.setIfInBounds_toArray, List.set_cons_zero, List.set_cons_succ]))
                        cases bb with
                        | false =>
                          refine M_pure (i := 15) (v := ?_) rfl (by kernel_rfl) (by kernel_rfl) (by kernel_rfl) (fun _ _ _ h => h) (by rfl) ?hy ?_; (case hy => (intro w; go_simp; with_reducible rfl)); ((try dsimp only); (try simp only [Act.put, List.setIfInBounds_toArray, List.set_cons_zero, List.set_cons_succ]))
                          refine M_pure (i := 16) (v := ?_) rfl (by kernel_rfl) (by kernel_rfl) (by kernel_rfl) (fun _ _ _ h => h) (by rfl) ?hy ?_; (case hy => (intro w; go_simp; with_reducible rfl)); ((try dsimp only); (try simp only [Act.put, List.setIfInBounds_toArray, List.set_cons_zero, List.set_cons_succ]))
                          refine M_done (by kernel_rfl) ?_ _
                          have HF : Hid (∀ m, m ≤ kids.length → (HopTo s kids fr (n + 1) m ↔ Hop s kids fr m)) := Lib.hid fun m hm => HopTo.all (fun n' h1 _ _ h4 => by
                            have := h4 n (by omega)
                            rw [← HU.out] at this
                            have h := HQ0.out.1.2 this
                            cases h) hm
                          go_wp2_with (skip; fail)
                          go_roundw
                          case rel =>
                            refine ⟨fr + 1, by omega, by go_num, Lib.hid ⟨H3.out.1.andThen HQ0.out.2 (by simp), (H3.out.2.1.of HQ0.out.2 (by simp)).imp fun m hm => ?_⟩⟩
                            constructor
                            · rintro (⟨f, h1, h2⟩ | h)
                              · exact ⟨f, by omega, h2⟩
                              · exact ⟨fr, by omega, HRe.out, (HF.out m (by omega)).1 h⟩
                            · rintro ⟨f, h1, h2, h3⟩
                              by_cases e : f = fr
                              · subst e; exact .inr ((HF.out m (by omega)).2 h3)
                              · exact .inl ⟨f, by omega, h2, h3⟩
                          case measure => simp [intOf]; omega
                        | true =>
                          refine M_pure (i := 15) (v := ?_) rfl (by kernel_rfl) (by kernel_rfl) (by kernel_rfl) (fun _ _ _ h => h) (by rfl) ?hy ?_; (case hy => (intro w; go_simp; with_reducible rfl)); ((try dsimp only); (try simp only [Act.put, List.setIfInBounds_toArray, List.set_cons_zero, List.set_cons_succ]))
                          refine M_pure (i := 16) (v := ?_) rfl (by kernel_rfl) (by kernel_rfl) (by kernel_rfl) (fun _ _ _ h => h) (by rfl) ?hy ?_; (case hy => (intro w; go_simp; with_reducible rfl)); ((try dsimp only); (try simp only [Act.put, List.setIfInBounds_toArray, List.set_cons_zero, List.set_cons_succ]))
                          refine M_done (by kernel_rfl) ?_ _
                          have HQ := Lib.hid (show Chg [] T Q ∧ ∀ j, j < n + 1 → kids.getD (fr + j) 0 ∈ s.kinds from ⟨HQ0.out.2, fun j hj => by
                            by_cases e : j = n
                            · subst e; rw [← HU.out]; exact HQ0.out.1.1 (by first | rfl | trivial)
                            · exact H3.out.2.2 j (by omega)⟩)
                          have hst : Tells Q V.heap.size (kids.length + 1) (fun m => (∃ f, f < fr ∧ Reach x.slots kids i f ∧ Hop s kids f m) ∨ HopTo s kids fr (n + 1) m) := H3.out.2.1.of HQ.out.1 (by simp)
                          have hnx : ∀ (m : Nat), HopTo s kids fr ((n + 1) + 1) m ↔ (HopTo s kids fr (n + 1) m ∨ (m = fr + (n + 1) ∧ s.least ≤ (((n + 1) : Nat) : Int))) := fun m => by
                            constructor
                            · rintro ⟨n', h1, h2, h3, h4, h5⟩
                              by_cases e : n' = (n + 1)
                              · subst e; exact .inr ⟨h2, h3⟩
                              · exact .inl ⟨n', by omega, h2, h3, h4, h5⟩
                            · rintro (⟨n', h1, h2, h3, h4, h5⟩ | ⟨h1, h2⟩)
                              · exact ⟨n', by omega, h2, h3, h4, h5⟩
                              · exact ⟨(n + 1), by omega, h1, h2, HC1.out, HQ.out.2⟩
                          have HST := Lib.hid (And.intro hst hnx)
                          clear hst hnx
                          have g1 := HQ.out.1.cell f1 (by simp)
                          by_cases c3 : s.least ≤ (((n + 1) : Nat) : Int)
                          · have d3 : decide (s.least ≤ (((n + 1) : Nat) : Int)) = true := by simpa using c3
                            try simp only [Int.natCast_add, Int.natCast_one] at d3
                            have w1 : (((fr : Int) + (((n + 1) : Nat) : Int))).toNat = fr + (n + 1) := by omega
                            try simp only [Int.natCast_add, Int.natCast_one] at w1
                            go_wp2_with (first
                              | (refine wpList_store_bool rfl (.tmp 110) (.const (.bool true)) rfl V.heap.size (fr + ((n + 1))) (kids.length + 1) (by simp [Act.eval, w1]) true rfl _ (fun m => (∃ f, f < fr ∧ Reach x.slots kids i f ∧ Hop s kids f m) ∨ HopTo s kids fr ((n + 1) + 1) m) HST.out.1 (by omega) (fun m _ => by
                                   try dsimp only
                                   rw [HST.out.2 m]
                                   by_cases e : m = fr + ((n + 1))
                                   · rw [if_pos e]; exact ⟨fun _ => rfl, fun _ => .inr (.inr ⟨e, c3⟩)⟩
                                   · rw [if_neg e]; exact ⟨fun h => h.imp id (fun h => h.resolve_right (fun h => e h.1)), fun h => h.imp id .inl⟩) ?_
                                 intro P ht hc
                                 have HP := Lib.hid (And.intro ht hc)
                                 clear ht hc
                                 ((try dsimp only); (try simp only [Act.put, List.setIfInBounds_toArray, List.set_cons_zero, List.set_cons_succ])))
                              | (skip; fail))
                            go_roundw
                            case rel => exact ⟨(n + 1) + 1, by omega, by go_num, Lib.hid ⟨(H3.out.1.andThen HQ.out.1 (by simp)).trans HP.out.2, HP.out.1, fun j hj => HQ.out.2 j (by omega)⟩⟩
                            case measure => simp [intOf]; omega
                          · have d3 : decide (s.least ≤ (((n + 1) : Nat) : Int)) = false := by simpa using c3
                            try simp only [Int.natCast_add, Int.natCast_one] at d3
                            go_wp2_with (skip; fail)
                            go_roundw
                            case rel => exact ⟨(n + 1) + 1, by omega, by go_num, Lib.hid ⟨H3.out.1.andThen HQ.out.1 (by simp), HST.out.1.imp fun m _ => by rw [HST.out.2 m]; exact ⟨fun h => h.imp id .inl, fun h => h.imp id (fun h => h.resolve_right (fun h => by have := h.2; omega))⟩, fun j hj => HQ.out.2 j (by omega)⟩⟩
                            case measure => simp [intOf]; omega
                    · have d2 : decide ((fr : Int) + n ≤ (kids.length : Int)) = false := by simp; omega
                      have HF : Hid (∀ m, m ≤ kids.length → (HopTo s kids fr n m ↔ Hop s kids fr m)) := Lib.hid fun m hm => HopTo.all (fun n' h1 h2 _ _ => by omega) hm
                      go_wp2_with (skip; fail)
                      go_roundw
                      case rel =>
                        refine ⟨fr + 1, by omega, by go_num, Lib.hid ⟨H3.out.1, H3.out.2.1.imp fun m hm => ?_⟩⟩
                        constructor
                        · rintro (⟨f, h1, h2⟩ | h)
                          · exact ⟨f, by omega, h2⟩
                          · exact ⟨fr, by omega, HRe.out, (HF.out m (by omega)).1 h⟩
                        · rintro ⟨f, h1, h2, h3⟩
                          by_cases e : f = fr
                          · subst e; exact .inr ((HF.out m (by omega)).2 h3)
                          · exact .inl ⟨f, by omega, h2, h3⟩
                      case measure => simp [intOf]; omega
                  · have d1 : decide ((n : Int) ≤ s.most) = false := by simpa using c1
                    have HF : Hid (∀ m, m ≤ kids.length → (HopTo s kids fr n m ↔ Hop s kids fr m)) := Lib.hid fun m hm => HopTo.all (fun n' h1 _ h2 _ => by omega) hm
                    go_wp2_with (skip; fail)
                    go_roundw
                    case rel =>
                      refine ⟨fr + 1, by omega, by go_num, Lib.hid ⟨H3.out.1, H3.out.2.1.imp fun m hm => ?_⟩⟩
                      constructor
                      · rintro (⟨f, h1, h2⟩ | h)
                        · exact ⟨f, by omega, h2⟩
                        · exact ⟨fr, by omega, HRe.out, (HF.out m (by omega)).1 h⟩
                      · rintro ⟨f, h1, h2, h3⟩
                        by_cases e : f = fr
                        · subst e; exact .inr ((HF.out m (by omega)).2 h3)
                        · exact .inl ⟨f, by omega, h2, h3⟩
                    case measure => simp [intOf]; omega
            · obtain rfl : fr = kids.length + 1 := by omega
              go_wp2_with (skip; fail)
              go_roundw
              case rel =>
                refine ⟨i + 1, V.heap.size, by omega, by go_num, rfl, Lib.hid ⟨H.out.1.trans (HY1.out.2.1.andThen HL.out.1 (by simp)), HL.out.2.imp fun m hm => ?_⟩⟩
                rw [reach_succ HSL.out.2.2.1]
                constructor
                · rintro ⟨f, _, h⟩; exact ⟨f, h⟩
                · rintro ⟨f, h1, h2⟩
                  obtain ⟨n, h3, h4⟩ := h2
                  exact ⟨f, by omega, h1, n, h3, h4⟩
              case measure => simp [intOf]; omega
        · obtain rfl : i = x.slots.length := by omega
          obtain ⟨v, hv, hvr⟩ := H.out.2.at (m := kids.length) (by omega)
          have HV := Lib.hid hvr
          clear hvr
          go_wp2_with (skip; fail)
          go_ret
          exact ⟨v, rfl, ⟨fun h => ⟨HOk.out, hk2, x, HK.out.1, HV.out.1 h⟩, fun ⟨_, _, y, hy, h⟩ => by rw [HK.out.1] at hy; cases hy; exact HV.out.2 h⟩, HX.out.2.2.trans H.out.1⟩
    · have HN := Lib.hid (show ¬ FitsOk g k kids from fun ⟨_, h3, x, hx, _⟩ => hk ⟨(kindAt_of hx).1, (kindAt_of hx).2.1, h3⟩)
      have hk2 : k < 0 ∨ (g.kinds.length : Int) ≤ k ∨ 200 < (kids.length : Int) := by omega
      clear hk
      go_wp2_with (skip; fail)
      all_goals first
        | (go_ret; exact BoolIs.no HN.out HX.out.2.2)
        | (exfalso; omega)
  · have HN := Lib.hid (show ¬ FitsOk g k kids from fun h => hz0 (hz.2 h.1))
    obtain rfl : z = 50 := by omega
    clear hz hzz hz0
    go_wp2_with (skip; fail)
    go_ret
    exact BoolIs.no HN.out HX.out.2.2
end Go.Proofs.Ytofjocjljbkjgaa
namespace Go.Proofs.Ytofjocjljbkjgaa
open Go.RowKit
abbrev DU := DataW Unit
def anyElem : Value → Option (DU × List MemPlace) := fun _ => some (.map [], [])
def nameLit (k : Kd) : Lit := .string k.name.data.toList
structure NamesTo (ks : List Kd) (i : Nat) (D : DU) : Prop where
  tidy : Maps.Tidy D
  has : ∀ (k : Kd), Maps.has D (nameLit k) = true ↔ ∃ (j : Nat) (a : Kd), j < i ∧ ks[j]? = some a ∧ a.name.toList = k.name.toList
  le : Maps.size D ≤ i
  size : Maps.size D = i ↔ ∀ (a b : Nat) (x y : Kd), a < b → b < i → ks[a]? = some x → ks[b]? = some y → x.name.toList ≠ y.name.toList
theorem NamesTo.zero (ks : List Kd) : NamesTo ks 0 (.map []) := ⟨Maps.tidy_empty, fun k => by simp [Maps.has], Nat.le_refl _, by simp [Maps.size]⟩
theorem nameLit_eq {a b : Kd} : nameLit a = nameLit b ↔ a.name.toList = b.name.toList := by
  unfold nameLit
  rw [ByteArray.toList_eq, ByteArray.toList_eq]
  simp
theorem NamesTo.next {ks : List Kd} {i : Nat} {D : DU} {k : Kd} (h : NamesTo ks i D) (hk : ks[i]? = some k) (d : DU) : NamesTo ks (i + 1) (D.put (nameLit k) d) := by
  have hkl : WideAt.IsKeyLit (nameLit k) := trivial
  have hsz := Maps.size_put (k := nameLit k) h.tidy d
  constructor
  · exact h.tidy.put hkl d
  · intro k'
    by_cases e : nameLit k' = nameLit k
    · rw [e, Maps.has_put_same h.tidy.isMap hkl]
      exact ⟨fun _ => ⟨i, k, by omega, hk, (nameLit_eq.1 e).symm⟩, fun _ => rfl⟩
    · rw [Maps.has_put_other e, h.has]
      constructor
      · rintro ⟨j, a, h1, h2⟩; exact ⟨j, a, by omega, h2⟩
      · rintro ⟨j, a, h1, h2, h3⟩
        by_cases ej : j = i
        · subst ej; rw [hk] at h2; cases h2; exact absurd (nameLit_eq.2 h3.symm) e
        · exact ⟨j, a, by omega, h2, h3⟩
  · have := h.le
    rw [hsz]
    split <;> omega
  · have hle := h.le
    rw [hsz]
    by_cases hh : Maps.has D (nameLit k) = true
    · rw [if_pos hh]
      obtain ⟨j, a, h1, h2, h3⟩ := (h.has k).1 hh
      constructor
      · intro e; omega
      · intro hn; exact absurd h3 (hn j i a k h1 (by omega) h2 hk)
    · rw [if_neg hh]
      have hne : ∀ (j : Nat) (a : Kd), j < i → ks[j]? = some a → a.name.toList ≠ k.name.toList := fun j a h1 h2 h3 => hh ((h.has k).2 ⟨j, a, h1, h2, h3⟩)
      constructor
      · intro e a b x y hab hb hx hy
        by_cases eb : b = i
        · subst eb; rw [hk] at hy; cases hy; exact hne a x hab hx
        · exact (h.size.1 (by omega)) a b x y hab (by omega) hx hy
      · intro hn
        have := h.size.2 (fun a b x y hab hb hx hy => hn a b x y hab (by omega) hx hy)
        omega
theorem NamesTo.named {ks : List Kd} {D : DU} (h : NamesTo ks ks.length D) : Maps.size D = ks.length ↔ Named ks := by
  rw [h.size]
  constructor
  · intro hn i j a b hij ha hb; exact hn i j a b hij (List.getElem?_eq_some_iff.1 hb).1 ha hb
  · intro hn a b x y hab _ hx hy; exact hn a b x y hab hx hy
def NamesPost (ks : List Kd) (w : World) (e : Ending) (w' : World) : Prop := ∃ (b : Nat) (D : DU), e = .returned (.map (some b)) ∧ w'.ownsMap Try.prog 9 anyElem b ks.length D ∧ NamesTo ks ks.length D ∧ Chg [] w w'
set_option maxHeartbeats 8000000 in
set_option maxRecDepth 100000 in
theorem names_any (g : Gr) (A : Option Addr) (c gb : Nat) (w : World) (hG : GrC w A c g.kinds) (hg : w.heap[gb]? = some (.cells #[.slice A g.kinds.length c, .int .i64 g.root] 43 (0, 0))) :
    Calls Try.prog 136 #[.pointer (some ⟨gb, 0, none⟩)] w (NamesPost g.kinds w) := by
  have hcap := hG.cap
  have hbig := hG.big
  have HG := Lib.hid (And.intro hG hg)
  have hmm := @run_makeMap Try.prog
  obtain ⟨a0, a1⟩ := cell2 hg
  have hgl := lt_of_block hg
  clear hG hg
  obtain ⟨W1, hW1⟩ : ∃ W1, W1 = w.alloc (.map #[] 0) := ⟨_, rfl⟩
  have hch : Chg [] w W1 := by rw [hW1]; exact (by with_reducible repeat (first | exact Chg.refl _ _ | apply Chg.alloc | apply Chg.drew | apply Chg.drewN | (refine Chg.setCell ?_ _ _ (by simp))))
  have hmp : W1.ownsMap Try.prog 9 anyElem w.heap.size 0 (.map []) := by rw [hW1]; exact World.ownsMap_made _ _ _ _
  have HC := Lib.hid (And.intro hch (And.intro hmp hW1))
  clear hch hmp hW1
  go_enter Try.func136, Try.ntmps136
  go_wp2_with fail
  rw [← HC.out.2.2]
  clear hmm a0 a1
  go_loopw [11] (fun iv wr => ∃ i : Nat, i ≤ g.kinds.length ∧ iv = .int .i64 i ∧ Hid (∃ D : DU, wr.ownsMap Try.prog 9 anyElem w.heap.size i D ∧ NamesTo g.kinds i D ∧ Chg [] w wr)) (fun iv _ => g.kinds.length - (intOf iv).toNat)
  case atStart => exact ⟨0, Nat.zero_le _, rfl, Lib.hid ⟨_, HC.out.2.1, NamesTo.zero _, HC.out.1⟩⟩
  case round =>
    obtain ⟨i, hi, rfl, H⟩ := hrel
    obtain ⟨D, hD⟩ := H.out
    have HD := Lib.hid hD
    clear hD
    obtain ⟨a0, a1⟩ := cell2 (HD.out.2.2.at HG.out.2 (by simp))
    by_cases hlt : i < g.kinds.length
    · obtain ⟨gk, ok, hA, hgk, hat⟩ := (HG.out.1.kept HD.out.2.2).row.at hlt
      obtain ⟨k, hk⟩ : ∃ k, k = g.kinds[i] := ⟨_, rfl⟩
      rw [← hk] at hat
      have hke : g.kinds[i]? = some k := by rw [hk]; exact List.getElem?_eq_getElem hlt
      obtain ⟨As, cs, hrk, hns, hsl, hsr⟩ := hat.range
      subst hA
      have e0 : wr.cell? ⟨gk, ok + i * 3, none⟩ = some (.string k.name) := hrk 0 _ rfl
      have HK := Lib.hid hke
      clear hk hat hrk hke hsr
      go_wp2_with (first
        | (refine wpList_mapUpdate_own _ rfl (.tmp 14) (.tmp 22) (.tmp 23) 183 rfl 9 3 (Maps.string_keyed Try.underlying9) Try.underlying183 anyElem w.heap.size i D rfl HD.out.1 (by unfold maxLen; omega) (.string k.name) (.int .i64 i) (nameLit k) rfl rfl (Go.WideMaps.keyOf_string_mk Try.underlying9 (by unfold maxLen; omega)) (.map []) [] rfl ?_
           intro W2 h1 h2
           have HW := Lib.hid (And.intro h1 (And.intro (HD.out.2.1.next HK.out (.map [])) (Chg.grown HD.out.2.2 h2 (fun k hk => by cases hk; exact .inr (Nat.le_refl _)))))
           clear h1 h2
           ((try dsimp only); (try simp only [Act.put, List.setIfInBounds_toArray, List.set_cons_zero, List.set_cons_succ])))
        | (skip; fail))
      go_roundw
      case rel => exact ⟨i + 1, by omega, by go_num, Lib.hid ⟨_, HW.out⟩⟩
      case measure => simp [intOf]; omega
    · obtain rfl : i = g.kinds.length := by omega
      go_wp2_with (skip; fail)
      go_ret
      exact ⟨_, D, rfl, HD.out⟩
set_option maxHeartbeats 8000000 in
set_option maxRecDepth 100000 in
theorem gslot_any (g o : Nat) (s : Sl) (n : Int) (w : World) (hS : SlAt w g o s) : Calls Try.prog 137 #[.pointer (some ⟨g, o, none⟩), .int .i64 n] w (BoolIs (s.Ok n) w) := by
  obtain ⟨A, c, hr, hc, hm, hrow⟩ := hS.range
  have f0 : w.cell? ⟨g, o, none⟩ = some (.slice A s.kinds.length c) := hr 0 _ rfl
  have f1 : w.cell? ⟨g, o + 1, none⟩ = some (.int .i64 s.least) := hr 1 _ rfl
  have f2 : w.cell? ⟨g, o + 2, none⟩ = some (.int .i64 s.most) := hr 2 _ rfl
  have HS := Lib.hid (And.intro hr hrow)
  clear hS hr hrow
  have hno : (s.kinds.length < 1 ∨ 32 < s.kinds.length ∨ s.least < 0 ∨ s.most < s.least ∨ 1000 < s.most) → ¬ s.Ok n := fun h hk => by
    have h1 := hk.1.2.1
    have h2 := hk.1.2.2
    have h3 := hk.2
    omega
  by_cases c0 : s.kinds.length < 1
  · have d0 : decide ((s.kinds.length : Int) < 1) = true := decide_eq_true (by omega)
    have d0' : decide (s.kinds.length < 1) = true := decide_eq_true (by omega)
    have HN := Lib.hid (hno (by omega))
    clear hno c0
    go_enter Try.func137, Try.ntmps137
    go_wp2_with fail
    go_quiet (fail)
    go_wp2_with fail
    go_ret
    exact BoolIs.no HN.out ((Chg.refl _ _).drewN _)
  have d0 : decide ((s.kinds.length : Int) < 1) = false := decide_eq_false (by omega)
  have d0' : decide (s.kinds.length < 1) = false := decide_eq_false (by omega)
  by_cases c1 : 32 < s.kinds.length
  · have d1 : decide (32 < (s.kinds.length : Int)) = true := decide_eq_true (by omega)
    have d1' : decide (32 < s.kinds.length) = true := decide_eq_true (by omega)
    have HN := Lib.hid (hno (by omega))
    clear hno c1
    go_enter Try.func137, Try.ntmps137
    go_wp2_with fail
    go_quiet (fail)
    go_wp2_with fail
    go_ret
    exact BoolIs.no HN.out ((Chg.refl _ _).drewN _)
  have d1 : decide (32 < (s.kinds.length : Int)) = false := decide_eq_false (by omega)
  have d1' : decide (32 < s.kinds.length) = false := decide_eq_false (by omega)
  by_cases c2 : s.least < 0
  · have d2 : decide (s.least < 0) = true := decide_eq_true (by omega)
    have HN := Lib.hid (hno (by omega))
    clear hno c2
    go_enter Try.func137, Try.ntmps137
    go_wp2_with fail
    go_quiet (fail)
    go_wp2_with fail
    go_ret
    exact BoolIs.no HN.out ((Chg.refl _ _).drewN _)
  have d2 : decide (s.least < 0) = false := decide_eq_false (by omega)
  by_cases c3 : s.most < s.least
  · have d3 : decide (s.most < s.least) = true := decide_eq_true (by omega)
    have HN := Lib.hid (hno (by omega))
    clear hno c3
    go_enter Try.func137, Try.ntmps137
    go_wp2_with fail
    go_quiet (fail)
    go_wp2_with fail
    go_ret
    exact BoolIs.no HN.out ((Chg.refl _ _).drewN _)
  have d3 : decide (s.most < s.least) = false := decide_eq_false (by omega)
  by_cases c4 : 1000 < s.most
  · have d4 : decide (1000 < s.most) = true := decide_eq_true (by omega)
    have HN := Lib.hid (hno (by omega))
    clear hno c4
    go_enter Try.func137, Try.ntmps137
    go_wp2_with fail
    go_quiet (fail)
    go_wp2_with fail
    go_ret
    exact BoolIs.no HN.out ((Chg.refl _ _).drewN _)
  have d4 : decide (1000 < s.most) = false := decide_eq_false (by omega)
  have HR := Lib.hid (show (1 ≤ s.kinds.length ∧ s.kinds.length ≤ 32) ∧ 0 ≤ s.least ∧ s.least ≤ s.most ∧ s.most ≤ 1000 by omega)
  have hlen : s.kinds.length ≤ 32 := by omega
  clear hno c0 c1 c2 c3 c4
  go_enter Try.func137, Try.ntmps137
  go_wp2_with fail
  go_quiet (fail)
  go_wp2_with fail
  clear d0 d0' d1 d1' d2 d3 d4
  go_loopw [5, 52] (fun lv iv wr => ∃ (i : Nat) (l : Int), i ≤ s.kinds.length ∧ iv = .int .i64 i ∧ lv = .int .i64 l ∧ Hid (Chg [] w wr ∧ (∀ j, j < i → 0 ≤ s.kinds.getD j 0 ∧ s.kinds.getD j 0 < n ∧ (0 < j → s.kinds.getD (j - 1) 0 < s.kinds.getD j 0)) ∧ l = (if i = 0 then -1 else s.kinds.getD (i - 1) 0))) (fun _ iv _ => s.kinds.length - (intOf iv).toNat)
  case atStart => exact ⟨0, -1, Nat.zero_le _, rfl, rfl, Lib.hid ⟨(Chg.refl _ _).drewN _, fun j hj => by omega, rfl⟩⟩
  case round =>
    obtain ⟨i, l, hi, rfl, rfl, H⟩ := hrel
    by_cases hlt : i < s.kinds.length
    · obtain ⟨gi, oi, hA, hv⟩ := RowI.get (RowI.kept H.out.1 HS.out.2) hlt
      subst hA
      obtain ⟨v, hve⟩ : ∃ v, v = s.kinds.getD i 0 := ⟨_, rfl⟩
      rw [← hve] at hv
      have hl1 : -1 ≤ l := by
        have h := H.out.2.2
        rw [h]
        split
        · omega
        · have := (H.out.2.1 (i - 1) (by omega)).1; omega
      have HV := Lib.hid (And.intro hve hl1)
      clear hve hl1
      by_cases e1 : v ≤ l
      · have d1 : decide (v ≤ l) = true := by simpa using e1
        have HN := Lib.hid (show ¬ s.Ok n from fun hk => by
          have h := hk.1.1 i hlt
          rw [← HV.out.1] at h
          have hl := H.out.2.2
          by_cases h0 : i = 0
          · rw [if_pos h0] at hl; omega
          · rw [if_neg h0] at hl; have := h.2.2 (by omega); omega)
        clear e1
        go_wp2_with (skip; fail)
        go_ret
        exact BoolIs.no HN.out H.out.1
      · have d1 : decide (v ≤ l) = false := by simpa using e1
        by_cases e2 : n ≤ v
        · have d2 : decide (n ≤ v) = true := by simpa using e2
          have HN := Lib.hid (show ¬ s.Ok n from fun hk => by
            have h := hk.1.1 i hlt
            rw [← HV.out.1] at h
            omega)
          clear e1 e2
          go_wp2_with (skip; fail)
          go_ret
          exact BoolIs.no HN.out H.out.1
        · have d2 : decide (n ≤ v) = false := by simpa using e2
          have HE := Lib.hid (And.intro e1 e2)
          clear e1 e2
          go_wp2_with (skip; fail)
          go_roundw
          case rel =>
            refine ⟨i + 1, v, by omega, by go_num, rfl, Lib.hid ⟨H.out.1, fun j hj => ?_, by rw [if_neg (by omega), Nat.add_sub_cancel]; exact HV.out.1⟩⟩
            by_cases e : j = i
            · subst e
              rw [← HV.out.1]
              have h1 := HV.out.2
              have h2 := HE.out.1
              have h3 := HE.out.2
              refine ⟨by omega, by omega, fun h0 => ?_⟩
              have hl := H.out.2.2
              rw [if_neg (by omega)] at hl
              omega
            · exact H.out.2.1 j (by omega)
          case measure => simp [intOf]; omega
    · obtain rfl : i = s.kinds.length := by omega
      go_wp2_with (skip; fail)
      go_ret
      exact BoolIs.yes ⟨⟨H.out.2.1, HR.out.1⟩, HR.out.2⟩ H.out.1
end Go.Proofs.Ytofjocjljbkjgaa
namespace Go.Proofs.Ytofjocjljbkjgaa
open Go.RowKit
set_option maxHeartbeats 8000000 in
set_option maxRecDepth 100000 in
theorem gcheck_any (g : Gr) (A : Option Addr) (c : Nat) (w : World) (hG : GrC w A c g.kinds) :
    Calls Try.prog 109 #[.agg #[.slice A g.kinds.length c, .int .i64 g.root]] w (ErrIs g.Ok 50 w) := by
  have hcap := hG.cap
  have hbig := hG.big
  have HG := Lib.hid hG
  obtain ⟨W1, hW1⟩ : ∃ W1, W1 = w.alloc (.cells #[.slice A g.kinds.length c, .int .i64 g.root] 43) := ⟨_, rfl⟩
  have hch : Chg [] w W1 := by rw [hW1]; exact (by with_reducible repeat (first | exact Chg.refl _ _ | apply Chg.alloc | apply Chg.drew | apply Chg.drewN | (refine Chg.setCell ?_ _ _ (by simp))))
  have hg1 : W1.heap[w.heap.size]? = some (.cells #[.slice A g.kinds.length c, .int .i64 g.root] 43 (0, 0)) := by rw [hW1]; exact heap_new _ _ rfl
  have hnm := names_any g A c w.heap.size W1 (hG.kept hch) hg1
  have HC := Lib.hid (And.intro hch (And.intro hg1 (And.intro hW1 hnm)))
  clear hG hch hg1 hW1 hnm
  by_cases hn : ¬ (1 ≤ g.kinds.length ∧ g.kinds.length ≤ 32 ∧ 0 ≤ g.root ∧ g.root < g.kinds.length)
  · have HN := Lib.hid (show ¬ g.Ok from fun h => hn h.1)
    have hcl : Chg [] w (w.alloc (.cells #[.slice A g.kinds.length c, .int .i64 g.root] 43)) := (by with_reducible repeat (first | exact Chg.refl _ _ | apply Chg.alloc | apply Chg.drew | apply Chg.drewN | (refine Chg.setCell ?_ _ _ (by simp))))
    have HCl := Lib.hid hcl
    clear hcl
    by_cases c1 : g.kinds.length < 1
    · have d1 : decide ((g.kinds.length : Int) < 1) = true := decide_eq_true (by omega)
      have d1' : decide (g.kinds.length < 1) = true := decide_eq_true (by omega)
      clear hn c1
      go_enter Try.func109, Try.ntmps109
      go_wp2_with (skip; fail)
      go_ret
      exact ErrIs.no HN.out (by decide) HCl.out
    have d1 : decide ((g.kinds.length : Int) < 1) = false := decide_eq_false (by omega)
    have d1' : decide (g.kinds.length < 1) = false := decide_eq_false (by omega)
    by_cases c2 : 32 < g.kinds.length
    · have d2 : decide (32 < (g.kinds.length : Int)) = true := decide_eq_true (by omega)
      have d2' : decide (32 < g.kinds.length) = true := decide_eq_true (by omega)
      clear hn c1 c2
      go_enter Try.func109, Try.ntmps109
      go_wp2_with (skip; fail)
      go_ret
      exact ErrIs.no HN.out (by decide) HCl.out
    have d2 : decide (32 < (g.kinds.length : Int)) = false := decide_eq_false (by omega)
    have d2' : decide (32 < g.kinds.length) = false := decide_eq_false (by omega)
    by_cases c3 : g.root < 0
    · have d3 : decide (g.root < 0) = true := decide_eq_true c3
      clear hn c1 c2 c3
      go_enter Try.func109, Try.ntmps109
      go_wp2_with (skip; fail)
      go_ret
      exact ErrIs.no HN.out (by decide) HCl.out
    have d3 : decide (g.root < 0) = false := decide_eq_false c3
    have d4 : decide ((g.kinds.length : Int) ≤ g.root) = true := decide_eq_true (by omega)
    clear hn c1 c2 c3
    go_enter Try.func109, Try.ntmps109
    go_wp2_with (skip; fail)
    go_ret
    exact ErrIs.no HN.out (by decide) HCl.out
  · have hr := Decidable.not_not.1 hn
    clear hn
    obtain ⟨r1, r2, r3, r4⟩ := hr
    have d1 : decide ((g.kinds.length : Int) < 1) = false := decide_eq_false (by omega)
    have d1' : decide (g.kinds.length < 1) = false := decide_eq_false (by omega)
    have d2 : decide (32 < (g.kinds.length : Int)) = false := decide_eq_false (by omega)
    have d2' : decide (32 < g.kinds.length) = false := decide_eq_false (by omega)
    have d3 : decide (g.root < 0) = false := decide_eq_false (by omega)
    have d4 : decide ((g.kinds.length : Int) ≤ g.root) = false := decide_eq_false (by omega)
    have HR := Lib.hid (And.intro r1 (And.intro r2 (And.intro r3 r4)))
    clear r3 r4
    go_enter Try.func109, Try.ntmps109
    go_wp2_with fail
    rw [← HC.out.2.2.1]
    refine HC.out.2.2.2.mono ?_
    rintro e X ⟨b, D, rfl, hm, hnt, hcx⟩
    have HX := Lib.hid (And.intro hm (And.intro hnt (And.intro hcx (HC.out.1.trans hcx))))
    clear hm hnt hcx
    by_cases hnm : Maps.size D = g.kinds.length
    · have d5 : ((Maps.size D : Int) != (g.kinds.length : Int)) = false := by rw [hnm]; simp
      have HNm := Lib.hid (HX.out.2.1.named.1 hnm)
      clear hnm
      obtain ⟨a0, a1⟩ := cell2 (HX.out.2.2.1.at HC.out.2.1 (by simp))
      have hml := fun ty => HX.out.1.len Try.underlying183 ty
      go_wp2_with (skip; fail)
      clear d1 d1' d2 d2' d3 d4 d5 a0 a1 hml
      go_loopw [36] (fun iv wr => ∃ i : Nat, i ≤ g.kinds.length ∧ iv = .int .i64 i ∧ Hid (Chg [] X wr ∧ ∀ j k, j < i → g.kinds[j]? = some k → k.Ok g.kinds.length)) (fun iv _ => g.kinds.length - (intOf iv).toNat)
      case atStart => exact ⟨0, Nat.zero_le _, rfl, Lib.hid ⟨Chg.refl _ _, fun j k hj => by omega⟩⟩
      case round =>
        obtain ⟨i, hi, rfl, H⟩ := hrel
        obtain ⟨V, hV⟩ : ∃ V, V = wr := ⟨_, rfl⟩
        subst hV
        obtain ⟨a0, a1⟩ := cell2 ((HX.out.2.2.1.trans H.out.1).at HC.out.2.1 (by simp))
        by_cases hlt : i < g.kinds.length
        · obtain ⟨gk, ok, hA, hgk, hat⟩ := (HG.out.kept (HX.out.2.2.2.trans H.out.1)).row.at hlt
          obtain ⟨k, hk⟩ : ∃ k, k = g.kinds[i] := ⟨_, rfl⟩
          rw [← hk] at hat
          have hke : g.kinds[i]? = some k := by rw [hk]; exact List.getElem?_eq_getElem hlt
          have hkm : k ∈ g.kinds := List.mem_of_getElem? hke
          obtain ⟨As, cs, hrk, hns, hsl, hsr⟩ := hat.range
          subst hA
          have e0 : V.cell? ⟨gk, ok + i * 3, none⟩ = some (.string k.name) := hrk 0 _ rfl
          have e2 : V.cell? ⟨gk, ok + i * 3 + 2, none⟩ = some (.slice As k.slots.length cs) := hrk 2 _ rfl
          have HK := Lib.hid (And.intro hrk (And.intro hsr (And.intro hke hkm)))
          clear hk hat hgk hrk hsr hke hkm
          by_cases hkf : k.name.size < 1 ∨ 40 < k.name.size ∨ 8 < k.slots.length
          · have HN := Lib.hid (show ¬ g.Ok from fun hG => by
              have h := hG.2.2 k HK.out.2.2.2
              have h1 := h.1
              have h2 := h.2.1
              have h3 := h.2.2.1
              omega)
            go_wp2_with (skip; fail)
            all_goals first
              | (go_ret; exact ErrIs.no HN.out (by decide) (HX.out.2.2.2.trans H.out.1))
              | (exfalso; omega)
          · have hks : 1 ≤ k.name.size ∧ k.name.size ≤ 40 ∧ k.slots.length ≤ 8 := by omega
            obtain ⟨k1, k2, k3⟩ := hks
            have q1 : decide ((k.name.size : Int) < 1) = false := decide_eq_false (by omega)
            have q1' : decide (k.name.size < 1) = false := decide_eq_false (by omega)
            have q2 : decide (40 < (k.name.size : Int)) = false := decide_eq_false (by omega)
            have q2' : decide (40 < k.name.size) = false := decide_eq_false (by omega)
            have q3 : decide (8 < (k.slots.length : Int)) = false := decide_eq_false (by omega)
            have q3' : decide (8 < k.slots.length) = false := decide_eq_false (by omega)
            clear hkf
            go_wp2_with (skip; fail)
            clear q1 q1' q2 q2' q3 q3' e0
            go_loopw [70] (fun jv wq => ∃ j : Nat, j ≤ k.slots.length ∧ jv = .int .i64 j ∧ Hid (Chg [] V wq ∧ ∀ (j' : Nat) (a : Sl), j' < j → k.slots[j']? = some a → a.Ok g.kinds.length)) (fun jv _ => k.slots.length - (intOf jv).toNat)
            case atStart => exact ⟨0, Nat.zero_le _, rfl, Lib.hid ⟨Chg.refl _ _, fun j' a h => by omega⟩⟩
            case round =>
              obtain ⟨l, hl, rfl, HL⟩ := hrel
              obtain ⟨Y, hY⟩ : ∃ Y, Y = wr := ⟨_, rfl⟩
              subst hY
              have e3 : Y.cell? ⟨gk, ok + i * 3 + 2, none⟩ = some (.slice As k.slots.length cs) := HL.out.1.cell e2 (by simp)
              by_cases hll : l < k.slots.length
              · obtain ⟨gl, ol, hA, _, hat⟩ := (HK.out.2.1.imp HL.out.1.size fun _ _ _ => SlAt.kept HL.out.1).at hll
                obtain ⟨s, hs⟩ : ∃ s, s = k.slots[l] := ⟨_, rfl⟩
                rw [← hs] at hat
                have hse : k.slots[l]? = some s := by rw [hs]; exact List.getElem?_eq_getElem hll
                have hsm : s ∈ k.slots := List.mem_of_getElem? hse
                subst hA
                have HS := Lib.hid (And.intro hse (And.intro hsm (gslot_any gl (ol + l * 3) s g.kinds.length Y hat)))
                clear hs hat hse hsm
                go_wp2_with fail
                refine HS.out.2.2.mono ?_
                rintro e Z ⟨b, rfl, hb, hc⟩
                have HZ := Lib.hid (And.intro hb (And.intro hc ((HX.out.2.2.2.trans H.out.1).trans (HL.out.1.trans hc))))
                clear hb hc
                cases b with
                | false =>
                  go_wp2_with (skip; fail)
                  go_ret
                  exact ErrIs.no (fun hG => by have h := (hG.2.2 k HK.out.2.2.2).2.2.2 s HS.out.2.1; have h2 := HZ.out.1.2 h; cases h2) (by decide) HZ.out.2.2
                | true =>
                  go_wp2_with (skip; fail)
                  go_roundw
                  case rel =>
                    refine ⟨l + 1, by omega, by go_num, Lib.hid ⟨HL.out.1.trans HZ.out.2.1, fun j' a hj' ha => ?_⟩⟩
                    by_cases e : j' = l
                    · subst e
                      rw [HS.out.1] at ha
                      cases ha
                      exact HZ.out.1.1 (by first | rfl | trivial)
                    · exact HL.out.2 j' a (by omega) ha
                  case measure => simp [intOf]; omega
              · obtain rfl : l = k.slots.length := by omega
                go_wp2_with (skip; fail)
                go_roundw
                case rel =>
                  refine ⟨i + 1, by omega, by go_num, Lib.hid ⟨H.out.1.trans HL.out.1, fun j a hj ha => ?_⟩⟩
                  by_cases e : j = i
                  · subst e
                    rw [HK.out.2.2.1] at ha
                    cases ha
                    refine ⟨k1, k2, k3, fun s hs => ?_⟩
                    obtain ⟨l, hl, rfl⟩ := List.getElem_of_mem hs
                    exact HL.out.2 l _ hl (List.getElem?_eq_getElem hl)
                  · exact H.out.2 j a (by omega) ha
                case measure => simp [intOf]; omega
        · obtain rfl : i = g.kinds.length := by omega
          go_wp2_with (skip; fail)
          go_ret
          exact ErrIs.yes ⟨HR.out, HNm.out, fun k hk => by
            obtain ⟨j, hj, rfl⟩ := List.getElem_of_mem hk
            exact H.out.2 j _ hj (List.getElem?_eq_getElem hj)⟩ (HX.out.2.2.2.trans H.out.1)
    · have d5 : ((Maps.size D : Int) != (g.kinds.length : Int)) = true := by simp; omega
      have HN := Lib.hid (show ¬ g.Ok from fun h => hnm (HX.out.2.1.named.2 h.2.1))
      clear hnm
      have hml := fun ty => HX.out.1.len Try.underlying183 ty
      go_wp2_with (skip; fail)
      go_ret
      exact ErrIs.no HN.out (by decide) HX.out.2.2.2
end Go.Proofs.Ytofjocjljbkjgaa
namespace Go.Proofs.Ytofjocjljbkjgaa
open Go.RowKit
def KindPost (g : Gr) (k : Int) (w : World) (e : Ending) (w' : World) : Prop :=
  ((∃ x gk o, g.Ok ∧ g.kindAt k = some x ∧ e = .returned (.pointer (some ⟨gk, o, none⟩)) ∧ KdAt w' gk o x) ∨ (¬ (g.Ok ∧ ∃ x, g.kindAt k = some x) ∧ e = .returned (.pointer none))) ∧ Chg [] w w'
set_option maxHeartbeats 8000000 in
set_option maxRecDepth 100000 in
theorem gkind_any (g : Gr) (A : Option Addr) (c gb : Nat) (k : Int) (w : World) (hG : GrC w A c g.kinds) (hg : w.heap[gb]? = some (.cells #[.slice A g.kinds.length c, .int .i64 g.root] 43 (0, 0))) :
    Calls Try.prog 159 #[.pointer (some ⟨gb, 0, none⟩), .int .i64 k] w (KindPost g k w) := by
  have hcap := hG.cap
  have hbig := hG.big
  have HG := Lib.hid (And.intro hG (And.intro hg (gcheck_any g A c w hG)))
  obtain ⟨a0, a1⟩ := cell2 hg
  clear hG hg
  go_enter Try.func159, Try.ntmps159
  go_wp2_with fail
  refine HG.out.2.2.mono ?_
  rintro e X ⟨z, rfl, hz, hzz, hcx⟩
  have HX := Lib.hid (And.intro hz hcx)
  clear a0 a1 hcx
  obtain ⟨a0, a1⟩ := cell2 (HX.out.2.at HG.out.2.1 (by simp))
  by_cases hz0 : z = 0
  · subst hz0
    have HOk := Lib.hid (HX.out.1.1 rfl)
    clear hz hzz
    by_cases hk : 0 ≤ k ∧ k < g.kinds.length
    · obtain ⟨h0, h1⟩ := hk
      obtain ⟨x, hx⟩ := kindAt_some h0 h1
      obtain ⟨kn, rfl⟩ : ∃ kn : Nat, k = kn := ⟨k.toNat, by omega⟩
      have hkn : kn < g.kinds.length := by omega
      obtain ⟨gk, ok, hA, _, hat⟩ := (HG.out.1.kept HX.out.2).row.at hkn
      have hxe : g.kinds[kn] = x := by
        have := (kindAt_of hx).2.2
        rw [Int.toNat_natCast, List.getElem?_eq_getElem hkn] at this
        cases this
        rfl
      rw [hxe] at hat
      subst hA
      have HK := Lib.hid (And.intro hx hat)
      clear hx hat hxe h0 h1
      have da : decide ((g.kinds.length : Int) ≤ kn) = false := decide_eq_false (by omega)
      have da' : decide (g.kinds.length ≤ kn) = false := decide_eq_false (by omega)
      have db : decide ((kn : Int) < 0) = false := decide_eq_false (by omega)
      go_wp2_with (skip; fail)
      go_ret
      exact ⟨.inl ⟨x, gk, _, HOk.out, HK.out.1, rfl, HK.out.2⟩, HX.out.2⟩
    · have HN := Lib.hid (show ¬ (g.Ok ∧ ∃ x, g.kindAt k = some x) from fun ⟨_, x, hx⟩ => hk ⟨(kindAt_of hx).1, (kindAt_of hx).2.1⟩)
      have hk2 : k < 0 ∨ (g.kinds.length : Int) ≤ k := by omega
      clear hk
      go_wp2_with (skip; fail)
      all_goals first
        | (go_ret; exact ⟨.inr ⟨HN.out, rfl⟩, HX.out.2⟩)
        | (exfalso; omega)
  · have HN := Lib.hid (show ¬ (g.Ok ∧ ∃ x, g.kindAt k = some x) from fun h => hz0 (hz.2 h.1))
    obtain rfl : z = 50 := by omega
    clear hz hzz hz0
    go_wp2_with (skip; fail)
    go_ret
    exact ⟨.inr ⟨HN.out, rfl⟩, HX.out.2⟩
set_option maxHeartbeats 8000000 in
set_option maxRecDepth 100000 in
theorem gtext_any (g : Gr) (A : Option Addr) (c : Nat) (k : Int) (s : ByteArray) (w : World) (hG : GrC w A c g.kinds) (hs : s.size ≤ 9223372036854775807) :
    Calls Try.prog 150 #[.agg #[.slice A g.kinds.length c, .int .i64 g.root], .int .i64 k, .string s] w (BoolIs (TextOk g k s) w) := by
  obtain ⟨W1, hW1⟩ : ∃ W1, W1 = w.alloc (.cells #[.slice A g.kinds.length c, .int .i64 g.root] 43) := ⟨_, rfl⟩
  have hch : Chg [] w W1 := by rw [hW1]; exact (by with_reducible repeat (first | exact Chg.refl _ _ | apply Chg.alloc | apply Chg.drew | apply Chg.drewN | (refine Chg.setCell ?_ _ _ (by simp))))
  have hg1 : W1.heap[w.heap.size]? = some (.cells #[.slice A g.kinds.length c, .int .i64 g.root] 43 (0, 0)) := by rw [hW1]; exact heap_new _ _ rfl
  have HC := Lib.hid (And.intro hch (And.intro (gkind_any g A c w.heap.size k W1 (hG.kept hch) hg1) hW1))
  clear hG hch hg1 hW1
  go_enter Try.func150, Try.ntmps150
  go_wp2_with fail
  rw [← HC.out.2.2]
  refine HC.out.2.1.mono ?_
  rintro e X ⟨h, hcx⟩
  have HX := Lib.hid (HC.out.1.trans hcx)
  clear hcx
  rcases h with ⟨x, gk, o, hok, hx, rfl, hat⟩ | ⟨hn, rfl⟩
  · obtain ⟨As, cs, hr, _, _, _⟩ := hat.range
    have e1 : X.cell? ⟨gk, o + 1, none⟩ = some (.bool x.text) := hr 1 _ rfl
    have HK := Lib.hid (And.intro hok hx)
    have HT : Hid (∀ y, g.kindAt k = some y → y = x) := Lib.hid fun y hy => by rw [HK.out.2] at hy; cases hy; rfl
    clear hok hx hat hr
    by_cases hse : s.toList = []
    · have d1 : s.toList.isEmpty = true := by rw [hse]; rfl
      have HS := Lib.hid (str_nil.1 hse)
      go_wp2_with (skip; fail)
      go_ret
      exact BoolIs.yes ⟨HK.out.1, x, HK.out.2, .inl HS.out⟩ HX.out
    · have d1 : s.toList.isEmpty = false := by simpa using hse
      have HS := Lib.hid (show ¬ s.size = 0 from fun h => hse (str_nil.2 h))
      cases ht : x.text with
      | false =>
        have HF := Lib.hid ht
        rw [ht] at e1
        clear ht
        go_wp2_with (skip; fail)
        go_ret
        exact BoolIs.no (fun ⟨_, y, hy, h⟩ => by
          obtain rfl := HT.out y hy
          rcases h with h | h
          · exact HS.out h
          · rw [HF.out] at h; cases h.1) HX.out
      | true =>
        have HF := Lib.hid ht
        rw [ht] at e1
        clear ht
        by_cases h40 : s.size ≤ 40
        · have d2 : decide ((s.size : Int) ≤ 40) = true := decide_eq_true (by omega)
          have d2' : decide (s.size ≤ 40) = true := decide_eq_true (by omega)
          go_wp2_with (skip; fail)
          go_ret
          exact BoolIs.yes ⟨HK.out.1, x, HK.out.2, .inr ⟨HF.out, h40⟩⟩ HX.out
        · have d2 : decide ((s.size : Int) ≤ 40) = false := decide_eq_false (by omega)
          have d2' : decide (s.size ≤ 40) = false := decide_eq_false (by omega)
          go_wp2_with (skip; fail)
          go_ret
          exact BoolIs.no (fun ⟨_, y, hy, h⟩ => by
            obtain rfl := HT.out y hy
            rcases h with h | h
            · exact HS.out h
            · exact h40 h.2) HX.out
  · have HN := Lib.hid (show ¬ TextOk g k s from fun ⟨h1, x, hx, _⟩ => hn ⟨h1, x, hx⟩)
    clear hn
    go_wp2_with (skip; fail)
    go_ret
    exact BoolIs.no HN.out HX.out
def IdxPost (v : Int) (xs : List Int) (w : World) (e : Ending) (w' : World) : Prop := ∃ z : Int, e = .returned (.int .i64 z) ∧ (0 ≤ z ↔ v ∈ xs) ∧ Chg [] w w'
set_option maxHeartbeats 4000000 in
set_option maxRecDepth 100000 in
theorem index_any (A : Option Addr) (xs : List Int) (c : Nat) (v : Int) (w : World) (hr : RowP w 1 IntAt A xs) (hl : xs.length ≤ 9223372036854775807) :
    Calls Try.prog 164 #[.slice A xs.length c, .int .i64 v] w (IdxPost v xs w) := by
  have HR := Lib.hid hr
  clear hr
  go_enter Try.func164, Try.ntmps164
  go_wp2_with fail
  go_loopw [8] (fun iv wr => ∃ i : Nat, i ≤ xs.length ∧ iv = .int .i64 i ∧ Hid (Chg [] w wr ∧ ∀ j, j < i → xs.getD j 0 ≠ v)) (fun iv _ => xs.length - (intOf iv).toNat)
  case atStart => exact ⟨0, Nat.zero_le _, rfl, Lib.hid ⟨Chg.refl _ _, fun j hj => by omega⟩⟩
  case round =>
    obtain ⟨i, hi, rfl, H⟩ := hrel
    by_cases hlt : i < xs.length
    · obtain ⟨gg, o, hA, hv⟩ := RowI.get (RowI.kept H.out.1 HR.out) hlt
      subst hA
      have hmem : xs.getD i 0 ∈ xs := by rw [List.getD_eq_getElem?_getD, List.getElem?_eq_getElem hlt]; exact List.getElem_mem hlt
      obtain ⟨u, hu⟩ : ∃ u, u = xs.getD i 0 := ⟨_, rfl⟩
      rw [← hu] at hv hmem
      have HU := Lib.hid (And.intro hu hmem)
      clear hu hmem
      by_cases he : v = u
      · have d1 : (v == u) = true := by simpa using he
        have HE := Lib.hid he
        clear he
        go_wp2_with (skip; fail)
        go_ret
        exact ⟨i, rfl, ⟨fun _ => by rw [HE.out]; exact HU.out.2, fun _ => by omega⟩, H.out.1⟩
      · have d1 : (v == u) = false := by simpa using he
        have HE := Lib.hid he
        clear he
        go_wp2_with (skip; fail)
        go_roundw
        case rel =>
          refine ⟨i + 1, by omega, by go_num, Lib.hid ⟨H.out.1, fun j hj => ?_⟩⟩
          by_cases e : j = i
          · subst e; rw [← HU.out.1]; exact fun h => HE.out h.symm
          · exact H.out.2 j (by omega)
        case measure => simp [intOf]; omega
    · obtain rfl : i = xs.length := by omega
      go_wp2_with (skip; fail)
      go_ret
      refine ⟨-1, rfl, ⟨fun h => by omega, fun hm => ?_⟩, H.out.1⟩
      obtain ⟨j, hj, e⟩ := List.getElem_of_mem hm
      have := H.out.2 j hj
      rw [List.getD_eq_getElem?_getD, List.getElem?_eq_getElem hj] at this
      exact absurd e this
theorem contains_any (A : Option Addr) (xs : List Int) (c : Nat) (v : Int) (w : World) (hr : RowP w 1 IntAt A xs) (hl : xs.length ≤ 9223372036854775807) :
    Calls Try.prog 160 #[.slice A xs.length c, .int .i64 v] w (BoolIs (v ∈ xs) w) := by
  have HI := Lib.hid (index_any A xs c v w hr hl)
  clear hr
  go_enter Try.func160, Try.ntmps160
  go_wp2_with fail
  refine HI.out.mono ?_
  rintro e X ⟨z, rfl, hz, hc⟩
  have HZ := Lib.hid (And.intro hz hc)
  clear hz hc
  go_wp2_with (skip; fail)
  go_ret
  exact ⟨_, rfl, by rw [decide_eq_true_eq]; exact HZ.out.1, HZ.out.2⟩
end Go.Proofs.Ytofjocjljbkjgaa
