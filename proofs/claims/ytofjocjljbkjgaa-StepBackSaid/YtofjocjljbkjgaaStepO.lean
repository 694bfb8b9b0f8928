import Derived.Test.YtofjocjljbkjgaaStepM
import Derived.Test.YtofjocjljbkjgaaTreeO
/- What a step that can be read as data looks like in memory. -/
set_option linter.unusedVariables false
set_option linter.unusedSimpArgs false
namespace Go.Proofs.Ytofjocjljbkjgaa
open Go.RowKit
theorem cellsStep : Try.prog.cellsOf 27 = 9 := by kernel_rfl
theorem cellsI8 : Try.prog.cellsOf 25 = 1 := by kernel_rfl
theorem list9 {α : Type} {l : List α} (h : l.length = 9) : ∃ a0 a1 a2 a3 a4 a5 a6 a7 a8, l = [a0, a1, a2, a3, a4, a5, a6, a7, a8] := by
  match l, h with
  | [a0, a1, a2, a3, a4, a5, a6, a7, a8], _ => exact ⟨_, _, _, _, _, _, _, _, _, rfl⟩
theorem step_of {H : Type} {enc : TypeId × Value → H} {w : World} {base : Nat} {sp : Nat → Bool} {held : Bool} (fuel : Nat) (cs : List Value) (x : DataW H × List MemPlace) (h : DataW.trod enc Try.prog w base sp held fuel 27 cs = some x) :
    ∃ (s : Stp) (A : Option Addr) (c : Nat), cs = [.int .i8 s.op, .int .i64 s.id, .int .i64 s.par, .int .i64 s.place, .string s.text, .int .i64 s.sub.id, .int .i64 s.sub.kind, .string s.sub.text, .slice A s.sub.kids.length c] ∧ TrC (fun b => b < w.heap.size) w s.sub [.int .i64 (Tr.id s.sub), .int .i64 (Tr.kind s.sub), .string (Tr.text s.sub), .slice A (Tr.kids s.sub).length c] ∧ s.text.size ≤ 9223372036854775807 := by
  cases fuel with
  | zero => simp [DataW.trod] at h
  | succ fuel =>
    obtain ⟨hl, hfs⟩ := trod_struct Try.underlying27 h
    rw [cellsStep] at hl
    obtain ⟨a0, a1, a2, a3, a4, a5, a6, a7, a8, rfl⟩ := list9 hl
    simp only [List.forall_mem_cons] at hfs
    obtain ⟨⟨y0, e0⟩, ⟨y1, e1⟩, ⟨y2, e2⟩, ⟨y3, e3⟩, ⟨y4, e4⟩, ⟨y5, e5⟩, _⟩ := hfs
    obtain ⟨k0, f0, _⟩ := trod_int Try.underlying25 e0
    obtain ⟨k1, f1, _⟩ := trod_int Try.underlying3 e1
    obtain ⟨k2, f2, _⟩ := trod_int Try.underlying3 e2
    obtain ⟨k3, f3, _⟩ := trod_int Try.underlying3 e3
    obtain ⟨s, f4, hs⟩ := trod_string Try.underlying9 e4
    obtain ⟨t, hT⟩ := node_of _ _ _ e5
    obtain ⟨A, c, f5, _⟩ := hT.opens
    rw [f5] at hT
    simp [cellsI8, cellsInt', cellsStr, cellsNode] at f0 f1 f2 f3 f4 f5
    obtain ⟨g5, g6, g7, g8⟩ := f5
    subst f0 f1 f2 f3 f4 g5 g6 g7 g8
    unfold maxLen at hs
    exact ⟨⟨k0, k1, k2, k3, s, t⟩, A, c, rfl, hT, by omega⟩
end Go.Proofs.Ytofjocjljbkjgaa
