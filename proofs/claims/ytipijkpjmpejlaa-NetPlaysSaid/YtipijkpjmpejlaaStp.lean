import Derived.Test.YtipijkpjmpejlaaTreeB
/- Steps as data. -/
set_option linter.unusedVariables false
set_option linter.unusedSimpArgs false
namespace Go.Proofs.Ytipijkpjmpejlaa
open Go.RowKit
/-- A step. -/
structure Stp where
  op : Int
  id : Int
  par : Int
  place : Int
  text : ByteArray
  sub : Tr
/-- The nine cells of a step that reads as s. -/
def StpC (ok : Nat → Prop) (w : World) (s : Stp) (cs : List Value) : Prop :=
  ∃ A c, cs = [.int .i8 s.op, .int .i64 s.id, .int .i64 s.par, .int .i64 s.place, .string s.text, .int .i64 s.sub.id, .int .i64 s.sub.kind, .string s.sub.text, .slice A s.sub.kids.length c] ∧ TrC ok w s.sub [.int .i64 (Tr.id s.sub), .int .i64 (Tr.kind s.sub), .string (Tr.text s.sub), .slice A (Tr.kids s.sub).length c] ∧ s.text.size ≤ 9223372036854775807
theorem StpC.nine {ok : Nat → Prop} {w : World} {s : Stp} {cs : List Value} (h : StpC ok w s cs) : cs.length = 9 := by obtain ⟨A, c, rfl, _⟩ := h; rfl
theorem StpC.one {ok : Nat → Prop} {w : World} {s : Stp} {cs : List Value} (h : StpC ok w s cs) : ∀ u ∈ cs, u.oneCell' = true := by
  obtain ⟨A, c, rfl, _⟩ := h
  intro u hu
  simp at hu
  rcases hu with rfl | rfl | rfl | rfl | rfl | rfl | rfl | rfl | rfl <;> rfl
theorem StpC.kept {ok : Nat → Prop} {w w' : World} {s : Stp} {cs : List Value} {l : List Nat} (h : StpC ok w s cs) (hc : Chg l w w') (hl : ∀ g, ok g → g ∉ l) : StpC ok w' s cs := by
  obtain ⟨A, c, e, ht, hs⟩ := h; exact ⟨A, c, e, ht.kept hc hl, hs⟩
theorem StpC.weak {ok ok' : Nat → Prop} {w : World} {s : Stp} {cs : List Value} (h : StpC ok w s cs) (hl : ∀ g, ok g → g < w.heap.size → ok' g) : StpC ok' w s cs := by
  obtain ⟨A, c, e, ht, hs⟩ := h; exact ⟨A, c, e, ht.weak hl, hs⟩
/-- A row of steps that can be read at an address. -/
def StepsC (ok : Nat → Prop) (w : World) (B : Option Addr) (ss : List Stp) : Prop :=
  ss = [] ∨ ∃ (g o : Nat) (css : List (List Value)), B = some ⟨g, o, none⟩ ∧ ok g ∧ css.length = ss.length ∧ w.rangeAt g o css.flatten ∧ ∀ (i : Nat) s cs, ss[i]? = some s → css[i]? = some cs → StpC ok w s cs
theorem StepsC.kept {ok : Nat → Prop} {w w' : World} {B : Option Addr} {ss : List Stp} {l : List Nat} (h : StepsC ok w B ss) (hc : Chg l w w') (hl : ∀ g, ok g → g ∉ l) : StepsC ok w' B ss := by
  rcases h with h | ⟨g, o, css, hB, hg, h1, h2, h3⟩
  · exact .inl h
  · exact .inr ⟨g, o, css, hB, hg, h1, hc.range h2 (hl g hg), fun i s cs a b => (h3 i s cs a b).kept hc hl⟩
theorem StepsC.weak {ok ok' : Nat → Prop} {w : World} {B : Option Addr} {ss : List Stp} (h : StepsC ok w B ss) (hl : ∀ g, ok g → g < w.heap.size → ok' g) : StepsC ok' w B ss := by
  rcases h with h | ⟨g, o, css, hB, hg, h1, h2, h3⟩
  · exact .inl h
  · by_cases h0 : ss = []
    · exact .inl h0
    · have hp : 0 < ss.length := List.length_pos_iff.2 h0
      have h9 := (h3 0 _ _ (List.getElem?_eq_getElem hp) (List.getElem?_eq_getElem (by omega))).nine
      have hlt : g < w.heap.size := by
        refine range_lt h2 ?_
        have hm : css[0]'(by omega) ∈ css := List.getElem_mem _
        have := List.length_pos_iff.2 (show css.flatten ≠ [] by
          intro e
          have := (List.flatten_eq_nil_iff.1 e) _ hm
          rw [this] at h9; simp at h9)
        exact this
      exact .inr ⟨g, o, css, hB, hl g hg hlt, h1, h2, fun i s cs a b => (h3 i s cs a b).weak hl⟩
end Go.Proofs.Ytipijkpjmpejlaa
