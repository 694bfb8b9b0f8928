import Derived.Test.YtipijkpjmpejlaaDisk8
import Derived.Test.YtipijkpjmpejlaaOpen
/- What a slice of acts that can be read looks like in memory. -/
set_option linter.unusedVariables false
set_option linter.unusedSimpArgs false
namespace Go.Proofs.Ytipijkpjmpejlaa
open Go.RowKit
theorem cellsAct : Try.prog.cellsOf 51 = 3 := by kernel_rfl
theorem cellsInt : Try.prog.cellsOf 3 = 1 := by kernel_rfl
theorem cellsBs : Try.prog.cellsOf 49 = 1 := by kernel_rfl
theorem cellsU8 : Try.prog.cellsOf 5 = 1 := by kernel_rfl
theorem list3 {α : Type} {l : List α} (h : l.length = 3) : ∃ a0 a1 a2, l = [a0, a1, a2] := by
  match l, h with
  | [a0, a1, a2], _ => exact ⟨_, _, _, rfl⟩
/-- Bytes, out of their reading. -/
theorem bytes_of {H : Type} {enc : TypeId × Value → H} {w : World} {base : Nat} {sp : Nat → Bool} {held : Bool} {fuel : Nat} {cs : List Value} {x : DataW H × List MemPlace} (h : DataW.trod enc Try.prog w base sp held fuel 49 cs = some x) :
    ∃ A bs c, cs = [.slice A bs.length c] ∧ bs.length ≤ 9223372036854775807 ∧ BytesAt w A bs := by
  obtain ⟨A, len, cap, n, rfl, hlc, hcm, _, hA, hel⟩ := trod_slice' Try.underlying49 (by rw [cellsU8]; omega) h
  unfold maxLen at hcm
  have hb : ∀ i, i < len → ∃ v, ∃ B o, A = some ⟨B, o, none⟩ ∧ w.cell? ⟨B, o + i, none⟩ = some (.int .u8 v) := by
    intro i hi
    obtain ⟨B, o, es, y, hA, hl, hr, ht⟩ := hel i hi
    obtain ⟨v, rfl, _⟩ := trod_int Try.underlying5 ht
    rw [cellsU8, Nat.mul_one] at hr
    exact ⟨v, B, o, hA, hr 0 _ rfl⟩
  let f : Nat → Int := fun i => if h : i < len then (hb i h).choose else 0
  have hf : ∀ i, i < len → ∃ B o, A = some ⟨B, o, none⟩ ∧ w.cell? ⟨B, o + i, none⟩ = some (.int .u8 (f i)) := by
    intro i hi
    have := (hb i hi).choose_spec
    simpa [f, hi] using this
  refine ⟨A, (List.range len).map f, cap, by simp, by simp; omega, fun hp => ?_⟩
  simp at hp
  obtain ⟨B, o, rfl, h0⟩ := hf 0 hp
  refine ⟨_, rfl, World.block_lt_of_cell? w _ h0, fun j v hv => ?_⟩
  have hj : j < len := by
    have := (List.getElem?_eq_some_iff.1 hv).1
    simpa [u8s] using this
  obtain ⟨B', o', e, hc⟩ := hf j hj
  cases e
  rw [Addr.add_mid, hc]
  simp [u8s, hj] at hv
  rw [← hv]
theorem acts_of {H : Type} {enc : TypeId × Value → H} {w : World} {base : Nat} {sp : Nat → Bool} {held : Bool} {A : Option Addr} {n c : Nat} {d : DataW H} {p : List MemPlace} (h : DataW.Trod enc Try.prog w base sp held 45 (.slice A n c) d p) :
    ∃ acts : List Act', acts.length = n ∧ n ≤ 9223372036854775807 ∧ ActsAt w A acts := by
  obtain ⟨fuel, hf⟩ := h
  obtain ⟨A', n', c', m, hcs, hnc, hcm, _, hA, hel⟩ := trod_slice' Try.underlying45 (by rw [cellsAct]; omega) hf
  simp [Value.cells] at hcs
  obtain ⟨rfl, rfl, rfl⟩ := hcs
  unfold maxLen at hcm
  have hb : ∀ i, i < n → ∃ x : Act', ∃ g o Ab cb, A = some ⟨g, o, none⟩ ∧ g < w.heap.size ∧ w.rangeAt g (o + i * 3) [.int .i64 x.kind, .int .i64 x.n, .slice Ab x.b.length cb] ∧ BytesAt w Ab x.b ∧ x.b.length ≤ 9223372036854775807 := by
    intro i hi
    obtain ⟨B, o, es, y, hA, hl, hr, ht⟩ := hel i hi
    rw [cellsAct] at hl hr
    obtain ⟨a0, a1, a2, rfl⟩ := list3 hl
    cases m with
    | zero => simp [DataW.trod] at ht
    | succ m =>
      obtain ⟨_, hfs⟩ := trod_struct Try.underlying51 ht
      simp only [List.forall_mem_cons] at hfs
      obtain ⟨⟨y0, e0⟩, ⟨y1, e1⟩, ⟨y2, e2⟩, _⟩ := hfs
      obtain ⟨k0, f0, _⟩ := trod_int Try.underlying3 e0
      obtain ⟨k1, f1, _⟩ := trod_int Try.underlying3 e1
      obtain ⟨Ab, bs, cb, f2, hbl, hbs⟩ := bytes_of e2
      simp [cellsInt, cellsBs] at f0 f1 f2
      subst f0 f1 f2
      exact ⟨⟨k0, k1, bs⟩, B, o, Ab, cb, hA, World.block_lt_of_cell? w _ (hr 0 _ rfl), hr, hbs, hbl⟩
  let f : Nat → Act' := fun i => if h : i < n then (hb i h).choose else ⟨0, 0, []⟩
  refine ⟨(List.range n).map f, by simp, by omega, fun i x hx => ?_⟩
  have hi : i < n := by
    have := (List.getElem?_eq_some_iff.1 hx).1
    simpa using this
  simp [hi] at hx
  have := (hb i hi).choose_spec
  have e : f i = (hb i hi).choose := by simp [f, hi]
  rw [← e, hx] at this
  exact this
end Go.Proofs.Ytipijkpjmpejlaa
