import Derived.Test.YtipijkpjmpejlaaTreeV
import Derived.Maps.AppendAt
/- Small facts of trees in memory. No condition. -/
set_option linter.unusedVariables false
set_option linter.unusedSimpArgs false
namespace Go.Proofs.Ytipijkpjmpejlaa
open Go.RowKit
theorem take_snoc' {α : Type} (l : List α) (k : Nat) (h : k < l.length) : l.take (k + 1) = l.take k ++ [l[k]] := by
  rw [List.take_succ_eq_append_getElem h]
theorem TrAt.kept {ok : Nat → Prop} {w w' : World} {g o : Nat} {t : Tr} {l : List Nat} (h : TrAt ok w g o t) (hc : Chg l w w') (hg : g ∉ l) (hl : ∀ g, ok g → g ∉ l) : TrAt ok w' g o t := by
  obtain ⟨cs, hr, ht⟩ := h
  exact ⟨cs, fun j v hv => hc.cell (hr j v hv) hg, ht.kept hc hl⟩
theorem TrAt.weak {ok ok' : Nat → Prop} {w : World} {g o : Nat} {t : Tr} (h : TrAt ok w g o t) (hl : ∀ g, ok g → ok' g) : TrAt ok' w g o t := by
  obtain ⟨cs, hr, ht⟩ := h
  exact ⟨cs, hr, ht.weak (fun g hg _ => hl g hg)⟩
/-- A node's own cells. -/
theorem TrAt.cells {ok : Nat → Prop} {w : World} {g o : Nat} {t : Tr} (h : TrAt ok w g o t) : ∃ A c, w.cell? ⟨g, o, none⟩ = some (.int .i64 t.id) ∧ w.cell? ⟨g, o + 1, none⟩ = some (.int .i64 t.kind) ∧ w.cell? ⟨g, o + 2, none⟩ = some (.string t.text) ∧ w.cell? ⟨g, o + 3, none⟩ = some (.slice A t.kids.length c) ∧ t.kids.length ≤ c ∧ c ≤ 9223372036854775807 ∧ t.text.size ≤ 9223372036854775807 ∧ KidsC ok w A t.kids := by
  obtain ⟨cs, hr, ht⟩ := h
  obtain ⟨A, c, rfl, h1, h2, h3, h4⟩ := ht.opens
  exact ⟨A, c, hr 0 _ rfl, hr 1 _ rfl, hr 2 _ rfl, hr 3 _ rfl, h1, h2, h3, h4⟩
theorem blk4 {w : World} {b : Nat} {a0 a1 a2 a3 : Value} {t : TypeId} {fr : Nat × Nat} (h : w.heap[b]? = some (.cells #[a0, a1, a2, a3] t fr)) : w.cell? ⟨b, 0, none⟩ = some a0 ∧ w.cell? ⟨b, 1, none⟩ = some a1 ∧ w.cell? ⟨b, 2, none⟩ = some a2 ∧ w.cell? ⟨b, 3, none⟩ = some a3 := by
  simp [World.cell?, h]
theorem blkF {w : World} {b : Nat} {C : Array Value} {t : TypeId} (h : w.heap[b]? = some (.cells C t (0, 0))) (i : Nat) : w.frozen? ⟨b, i, none⟩ = false := by simp [World.frozen?, h]
end Go.Proofs.Ytipijkpjmpejlaa
