import Derived.Test.YtipijkpjmpejlaaNetT
import Derived.Test.YtipijkpjmpejlaaStp
import Derived.Test.YtipijkpjmpejlaaRowG
/- Messages as data; the contracts of slices.Clone (steps) and net.copied. Conditions: at most 1000 steps, trees of at most 100,000 nodes. -/
set_option linter.unusedVariables false
set_option linter.unusedSimpArgs false
namespace Go.Proofs.Ytipijkpjmpejlaa
open Go.RowKit
/-- A message. -/
structure Msg where
  kind : Int
  frm : Int
  to : Int
  boot : Int
  server : Int
  number : Int
  node : Int
  lease : Int
  epoch : Int
  version : Int
  e : Int
  steps : List Stp
  tree : Tr
theorem infoStep : (Try.prog.info? 148).map (fun i => (i.zero, i.size, i.bytes)) = some (some (.agg #[.int .i8 0, .int .i64 0, .int .i64 0, .int .i64 0, .string ⟨#[]⟩, .int .i64 0, .int .i64 0, .string ⟨#[]⟩, .slice none 0 0]), 9, 104) := by kernel_rfl
theorem infoMsg : (Try.prog.info? 39).map (fun i => (i.size)) = some 16 := by kernel_rfl
/-- What a clone of steps is. -/
def ClonePost (ok : Nat → Prop) (ss : List Stp) (w : World) (e : Ending) (w' : World) : Prop :=
  ∃ v css, e = .returned v ∧ RowR w' 9 148 w.heap.size v css ∧ css.length = ss.length ∧ (∀ (i : Nat) s cs, ss[i]? = some s → css[i]? = some cs → StpC ok w' s cs) ∧ Chg [] w w'
set_option maxHeartbeats 4000000 in
set_option maxRecDepth 100000 in
theorem clone_any (ok : Nat → Prop) (ss : List Stp) (B : Option Addr) (d : Nat) (w : World) (hS : StepsC ok w B ss) (h0 : B = none → d = 0) (hl : ss.length ≤ 1000) :
    Calls Try.prog 103 #[.slice B ss.length d] w (ClonePost ok ss w) := by
  obtain ⟨ip, hi, hz0, hz1, hz2⟩ := info_parts infoStep
  have HI := Lib.hid (And.intro hi (And.intro hz0 (And.intro hz1 hz2)))
  have HS := Lib.hid hS
  clear hi hz0 hz1 hz2
  cases B with
  | none =>
    obtain rfl := h0 rfl
    have : ss = [] := by
      rcases hS with h | ⟨g, o, css, hB, _⟩
      · exact h
      · cases hB
    subst this
    clear hS h0
    have hq : ∀ w, (binOp .eql 34 (.slice none 0 0) (.slice none 0 0)).run Try.prog w = .ok (.bool true) w := fun w => by kernel_rfl
    go_enter Try.func103, Try.ntmps103
    go_wp2
    go_ret
    exact ⟨_, [], rfl, RowR.nil _ _ _ _, rfl, (fun i s cs h => by simp at h), (by with_reducible repeat (first | exact Chg.refl _ _ | apply Chg.alloc | apply Chg.drew | apply Chg.drewN | (refine Chg.setCell ?_ _ _ (by simp))))⟩
  | some a =>
    clear h0 hS
    have hq : ∀ n w, (binOp .eql 34 (.slice (some a) n d) (.slice none 0 0)).run Try.prog w = .ok (.bool false) w := fun n w => by kernel_rfl
    obtain ⟨css, hcl, hcells, hcs⟩ : ∃ css : List (List Value), css.length = ss.length ∧ (∀ j u, css.flatten[j]? = some u → (w.alloc (.cells #[] 148)).cell? (a.add j) = some u) ∧ ∀ (i : Nat) s cs, ss[i]? = some s → css[i]? = some cs → StpC ok w s cs := by
      rcases HS.out with h | ⟨g, o, css, hB, hg, h1, h2, h3⟩
      · exact ⟨[], by simp [h], by simp, fun i s cs h1 h2 => by simp at h2⟩
      · injection hB with hB
        subst hB
        exact ⟨css, h1, fun j u hu => by rw [Addr.add_mid]; exact Chg.cell (l := []) (by with_reducible repeat (first | exact Chg.refl _ _ | apply Chg.alloc | apply Chg.drew | apply Chg.drewN | (refine Chg.setCell ?_ _ _ (by simp)))) (h2 j u hu) (by simp), h3⟩
    have h9 : ∀ cs ∈ css, cs.length = 9 := all4 hcl (fun i k cs a b => (hcs i k cs a b).nine)
    have hone : ∀ u ∈ css.flatten, u.oneCell' = true := by
      intro u hu
      obtain ⟨cs, hm, hu⟩ := List.mem_flatten.1 hu
      obtain ⟨i, hi, rfl⟩ := List.getElem_of_mem hm
      exact (hcs i _ _ (List.getElem?_eq_getElem (by omega)) (List.getElem?_eq_getElem hi)).one u hu
    have hfl := flatN css h9
    have hown : (w.alloc (.cells #[] 148)).ownsRow w.heap.size 148 9 (.slice (some ⟨w.heap.size, 0, none⟩) 0 0) 0 [] := ⟨rfl, .inr ⟨w.heap.size, 0, #[], rfl, Nat.le_refl _, heap_new _ _ rfl, Nat.le_refl _, by unfold maxLen; omega, rfl, rfl⟩⟩
    have HC := Lib.hid (And.intro hcl (And.intro hcells (And.intro hcs (And.intro h9 (And.intro hone (And.intro hfl hown))))))
    clear hcl hcells hcs h9 hone hfl hown
    go_enter Try.func103, Try.ntmps103
    go_wp2_with (first
      | (refine wpList_append_own_at _ rfl (.tmp 5) (.tmp 6) 34 rfl _ 148 ip _ 9 104 Try.underlying34 HI.out.1 HI.out.2.1 HI.out.2.2.1 HI.out.2.2.2 rfl (by omega) (.slice (some ⟨w.heap.size, 0, none⟩) 0 0) 0 [] rfl HC.out.2.2.2.2.2.2 a ss.length d css.flatten rfl (by rw [HC.out.2.2.2.2.2.1, HC.out.1]) HC.out.2.1 HC.out.2.2.2.2.1 (by unfold maxLen; omega) (by omega) (by simp) ?_
         intro v' X hown' hgr _ hat
         have HX := Lib.hid (And.intro hown' (And.intro hgr hat))
         obtain ⟨A', c', rfl⟩ := own_slice hown'
         clear hown' hgr hat)
      | fail)
    go_ret
    have hCX : Chg [w.heap.size] (w.alloc (.cells #[] 148)) X := ⟨HX.out.2.1.os, HX.out.2.1.tape, HX.out.2.1.output, HX.out.2.1.size, fun k hk hn => HX.out.2.1.block k hk (fun e => hn (by simpa [Value.ownBlock] using e))⟩
    have hCw : Chg [] w X := ((by with_reducible repeat (first | exact Chg.refl _ _ | apply Chg.alloc | apply Chg.drew | apply Chg.drewN | (refine Chg.setCell ?_ _ _ (by simp)))) : Chg [] w (w.alloc (.cells #[] 148))).andThen hCX (fun i hi => .inr (by simp at hi; omega))
    refine ⟨_, css, rfl, ⟨?_, HC.out.2.2.2.1⟩, HC.out.1, fun i s cs h1 h2 => (HC.out.2.2.1 i s cs h1 h2).kept hCw (by simp), hCw⟩
    have h := HX.out.1
    rw [Nat.zero_add, List.nil_append] at h
    rw [HC.out.1]
    exact h
end Go.Proofs.Ytipijkpjmpejlaa
