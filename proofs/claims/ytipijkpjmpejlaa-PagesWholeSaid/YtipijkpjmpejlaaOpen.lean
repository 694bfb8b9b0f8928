/- What a value that can be read as data looks like in memory, over any program. -/
import Derived.Test.YtipijkpjmpejlaaBase
import Derived.Deep.Slices
import Derived.OpenShut
import Derived.ShutString
import Derived.ChangeOld
import Derived.SizedLaws
import Derived.ProofKit
/-! What a value that can be read as data looks like in memory. -/
namespace Go.Proofs.Ytipijkpjmpejlaa
open Go.RowKit
section
variable {H : Type} {enc : TypeId × Value → H} {P : Program} {w : World} {base : Nat} {sp : Nat → Bool} {held : Bool}
theorem trod_int {t : TypeId} {k : IntKind} {fuel : Nat} {cs : List Value} {x : DataW H × List MemPlace} (ht : P.underlying t = some (.int k)) (h : DataW.trod enc P w base sp held fuel t cs = some x) :
    ∃ n, cs = [.int k n] ∧ (Lit.int k n).wf = true := by
  cases fuel with
  | zero => simp [DataW.trod] at h
  | succ fuel =>
    simp only [DataW.trod, ht] at h
    split at h <;> simp_all
theorem trod_bool {t : TypeId} {fuel : Nat} {cs : List Value} {x : DataW H × List MemPlace} (ht : P.underlying t = some .bool) (h : DataW.trod enc P w base sp held fuel t cs = some x) :
    ∃ b, cs = [.bool b] := by
  cases fuel with
  | zero => simp [DataW.trod] at h
  | succ fuel =>
    simp only [DataW.trod, ht] at h
    split at h <;> simp_all
theorem trod_string {t : TypeId} {fuel : Nat} {cs : List Value} {x : DataW H × List MemPlace} (ht : P.underlying t = some .string) (h : DataW.trod enc P w base sp held fuel t cs = some x) :
    ∃ s, cs = [.string s] ∧ s.size ≤ maxLen := by
  cases fuel with
  | zero => simp [DataW.trod] at h
  | succ fuel =>
    simp only [DataW.trod, ht] at h
    split at h <;> simp_all
theorem trod_struct {t : TypeId} {fs : Array Field} {fuel : Nat} {cs : List Value} {x : DataW H × List MemPlace} (ht : P.underlying t = some (.struct fs)) (h : DataW.trod enc P w base sp held (fuel + 1) t cs = some x) :
    cs.length = P.cellsOf t ∧ ∀ f ∈ fs.toList, ∃ y, DataW.trod enc P w base sp held fuel f.type ((cs.drop f.offset).take (P.cellsOf f.type)) = some y := by
  simp only [DataW.trod, ht] at h
  split at h
  · rename_i hl
    refine ⟨hl, ?_⟩
    obtain ⟨ys, hys, _⟩ := Option.map_eq_some_iff.1 h
    intro f hf
    obtain ⟨i, hi⟩ := List.getElem?_of_mem hf
    have h1 := mapM_some_get hys i f hi
    have hl2 := mapM_some_length hys
    have hlt : i < ys.length := by rw [hl2]; exact (List.getElem?_eq_some_iff.1 hi).1
    rw [List.getElem?_eq_getElem hlt] at h1
    exact ⟨_, h1⟩
  · cases h
/-- Cells that were read lie in a row. -/
theorem cells_row {a : Addr} {n : Nat} {cs : List Value} (h : w.cells? base a n = some cs) (hn : 0 < n) : a.spot = none ∧ cs.length = n ∧ w.rangeAt a.block a.off cs := by
  unfold World.cells? at h
  split at h
  · have hl := mapM_some_length h
    rw [List.length_range] at hl
    have hat : ∀ i, i < n → w.cell? (a.add i) = cs[i]? := fun i hi => mapM_some_get h i i (by simp [hi])
    have h0 := hat 0 hn
    rw [List.getElem?_eq_getElem (by omega)] at h0
    have hs : a.spot = none := by
      have : (a.add 0) = a := by simp [Addr.add]
      rw [this] at h0
      unfold World.cell? at h0
      cases hsp : a.spot with
      | none => rfl
      | some x => simp only [hsp] at h0; split at h0 <;> simp_all
    refine ⟨hs, hl, fun j v hv => ?_⟩
    have hj : j < n := by rw [← hl]; exact (List.getElem?_eq_some_iff.1 hv).1
    have := hat j hj
    rw [hv] at this
    rw [← this]
    congr 1
    unfold Addr.add
    split
    · rename_i e; subst e; cases a; simp_all
    · simp
  · cases h
/-- A slice, whose elements have cells: nil, or in a block of its own. -/
theorem trod_slice' {t e : TypeId} {fuel : Nat} {cs : List Value} {x : DataW H × List MemPlace} (ht : P.underlying t = some (.slice e)) (hpos : 0 < P.cellsOf e) (h : DataW.trod enc P w base sp held fuel t cs = some x) :
    ∃ A len cap n, cs = [.slice A len cap] ∧ len ≤ cap ∧ cap ≤ maxLen ∧ fuel = n + 1 ∧ (A = none → len = 0 ∧ cap = 0) ∧ ∀ i, i < len → ∃ B o es y, A = some ⟨B, o, none⟩ ∧ es.length = P.cellsOf e ∧ w.rangeAt B (o + i * P.cellsOf e) es ∧ DataW.trod enc P w base sp held n e es = some y := by
  rcases DataW.trod_slice ht h with ⟨rfl, _⟩ | ⟨a, len, cap, elems, rest, n, rfl, rfl, _, hb, hl, hm, hlen, hel, _, _⟩
  · cases fuel with
    | zero => simp [DataW.trod] at h
    | succ n => exact ⟨none, 0, 0, n, rfl, Nat.le_refl _, Nat.zero_le _, rfl, fun _ => ⟨rfl, rfl⟩, fun i hi => absurd hi (Nat.not_lt_zero _)⟩
  · refine ⟨some a, len, cap, n, rfl, hl, hm, rfl, (fun h => by cases h), fun i hi => ?_⟩
    have hat : ∀ i, i < len → ∃ es y, w.cells? base (a.add (i * P.cellsOf e)) (P.cellsOf e) = some es ∧ DataW.trod enc P w base sp held n e es = some y := by
      intro i hi
      have h1 := hel i hi
      rw [List.getElem?_eq_getElem (by omega)] at h1
      obtain ⟨es, h2, h3⟩ := Option.bind_eq_some_iff.1 h1
      exact ⟨es, _, h2, h3⟩
    obtain ⟨es0, y0, h0, _⟩ := hat 0 (by omega)
    have hsp : a.spot = none := by
      have := (cells_row h0 hpos).1
      simpa [Addr.add] using this
    obtain ⟨es, y, h1, h2⟩ := hat i hi
    obtain ⟨_, h3, h4⟩ := cells_row h1 hpos
    have e1 : (a.add (i * P.cellsOf e)).block = a.block := by unfold Addr.add; split <;> rfl
    have e2 : (a.add (i * P.cellsOf e)).off = a.off + i * P.cellsOf e := by
      unfold Addr.add; split
      · rename_i h; rw [h]; rfl
      · rfl
    rw [e1, e2] at h4
    exact ⟨a.block, a.off, es, y, by cases a; simp_all, h3, h4, h2⟩
/-- A list of so many things is written out. -/
theorem list16 {α : Type} {l : List α} (h : l.length = 16) : ∃ a0 a1 a2 a3 a4 a5 a6 a7 a8 a9 a10 a11 a12 a13 a14 a15, l = [a0, a1, a2, a3, a4, a5, a6, a7, a8, a9, a10, a11, a12, a13, a14, a15] := by
  match l, h with
  | [a0, a1, a2, a3, a4, a5, a6, a7, a8, a9, a10, a11, a12, a13, a14, a15], _ => exact ⟨_, _, _, _, _, _, _, _, _, _, _, _, _, _, _, _, rfl⟩
end
end Go.Proofs.Ytipijkpjmpejlaa
