import Derived.Test.YtipijkpjmpejlaaTree
/- What a node that can be read as data looks like in memory. -/
set_option linter.unusedVariables false
set_option linter.unusedSimpArgs false
namespace Go.Proofs.Ytipijkpjmpejlaa
open Go.RowKit
theorem cellsNode : Try.prog.cellsOf 37 = 4 := by kernel_rfl
theorem cellsInt' : Try.prog.cellsOf 3 = 1 := by kernel_rfl
theorem cellsStr : Try.prog.cellsOf 9 = 1 := by kernel_rfl
theorem cellsNDS : Try.prog.cellsOf 35 = 1 := by kernel_rfl
theorem list4 {α : Type} {l : List α} (h : l.length = 4) : ∃ a0 a1 a2 a3, l = [a0, a1, a2, a3] := by
  match l, h with
  | [a0, a1, a2, a3], _ => exact ⟨_, _, _, _, rfl⟩
theorem node_of {H : Type} {enc : TypeId × Value → H} {w : World} {base : Nat} {sp : Nat → Bool} {held : Bool} : ∀ (fuel : Nat) (cs : List Value) (x : DataW H × List MemPlace), DataW.trod enc Try.prog w base sp held fuel 37 cs = some x → ∃ t : Tr, TrC (fun b => b < w.heap.size) w t cs := by
  intro fuel
  induction fuel using Nat.strongRecOn with
  | _ fuel ih =>
  intro cs x h
  cases fuel with
  | zero => simp [DataW.trod] at h
  | succ fuel =>
    obtain ⟨hl, hfs⟩ := trod_struct Try.underlying37 h
    rw [cellsNode] at hl
    obtain ⟨a0, a1, a2, a3, rfl⟩ := list4 hl
    simp only [List.forall_mem_cons] at hfs
    obtain ⟨⟨y0, e0⟩, ⟨y1, e1⟩, ⟨y2, e2⟩, ⟨y3, e3⟩, _⟩ := hfs
    obtain ⟨k0, f0, _⟩ := trod_int Try.underlying3 e0
    obtain ⟨k1, f1, _⟩ := trod_int Try.underlying3 e1
    obtain ⟨s, f2, hs⟩ := trod_string Try.underlying9 e2
    obtain ⟨A, len, cap, n, f3, hlc, hcm, hn, hA, hel⟩ := trod_slice' Try.underlying35 (by rw [cellsNode]; omega) e3
    simp [cellsInt', cellsStr, cellsNDS] at f0 f1 f2 f3
    subst f0 f1 f2 f3
    unfold maxLen at hcm hs
    have hk : ∀ i, i < len → ∃ (k : Tr) (g o : Nat) (cs : List Value), A = some ⟨g, o, none⟩ ∧ g < w.heap.size ∧ w.rangeAt g (o + i * 4) cs ∧ TrC (fun b => b < w.heap.size) w k cs := by
      intro i hi
      obtain ⟨B, o, es, y, hA, hl, hr, ht⟩ := hel i hi
      rw [cellsNode] at hl hr
      obtain ⟨k, hT⟩ := ih n (by omega) es y ht
      exact ⟨k, B, o, es, hA, range_lt hr (by omega), hr, hT⟩
    let f : Nat → Tr := fun i => if h : i < len then (hk i h).choose else ⟨0, 0, ⟨#[]⟩, []⟩
    have hlen : ((List.range len).map f).length = len := by simp
    refine ⟨⟨k0, k1, s, (List.range len).map f⟩, ?_⟩
    have := TrC.mk (ok := fun b => b < w.heap.size) (w := w) (A := A) (c := cap) ⟨k0, k1, s, (List.range len).map f⟩ (by simpa using hlc) (by omega) (by omega) (fun i k hki => by
      have hi : i < len := by have := (List.getElem?_eq_some_iff.1 hki).1; simpa using this
      simp [hi] at hki
      have e : f i = (hk i hi).choose := by simp [f, hi]
      obtain ⟨g, o, cs, h1, h2, h3, h4⟩ := (hk i hi).choose_spec
      rw [← e, hki] at h4
      exact ⟨g, o, cs, h1, h2, h3, h4⟩)
    rw [hlen] at this
    exact this
end Go.Proofs.Ytipijkpjmpejlaa
