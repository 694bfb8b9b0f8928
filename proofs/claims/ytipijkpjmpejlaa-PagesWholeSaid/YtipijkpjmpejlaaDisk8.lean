import Derived.Test.YtipijkpjmpejlaaDisk6
import Derived.Laws.BytesArg
/- The acts that the laws of the disk are given, and whether they are too many. -/
set_option linter.unusedVariables false
set_option linter.unusedSimpArgs false
namespace Go.Proofs.Ytipijkpjmpejlaa
open Go.RowKit
/-- An act: its kind, its number, its bytes. -/
structure Act' where
  kind : Int
  n : Int
  b : List Int
def ActsAt (w : World) (A : Option Addr) (acts : List Act') : Prop :=
  ∀ i x, acts[i]? = some x → ∃ g o Ab cb, A = some ⟨g, o, none⟩ ∧ g < w.heap.size ∧ w.rangeAt g (o + i * 3) [.int .i64 x.kind, .int .i64 x.n, .slice Ab x.b.length cb] ∧ BytesAt w Ab x.b ∧ x.b.length ≤ 9223372036854775807
def GreatPost (acts : List Act') (w : World) (e : Ending) (w' : World) : Prop := ∃ b : Bool, e = .returned (.bool b) ∧ (b = false → acts.length ≤ 200) ∧ w = w'
set_option maxHeartbeats 1000000 in
theorem great_any (A : Option Addr) (acts : List Act') (c : Nat) (w : World) (hA : ActsAt w A acts) (hm : acts.length ≤ 9223372036854775807) : Calls Try.prog 26 #[.slice A acts.length c] w (GreatPost acts w) := by
  have HA := Lib.hid hA
  clear hA
  go_enter Try.func26, Try.ntmps26
  go_wp2
  go_loop [3, 7] (fun s i => ∃ (k : Nat) (nn : Int), k ≤ acts.length ∧ i = .int .i64 k ∧ s = .int .i64 nn ∧ 0 ≤ nn ∧ nn ≤ 20000 ∧ k ≤ 200) (fun _ i => acts.length - (intOf i).toNat)
  case atStart => exact ⟨0, 0, Nat.zero_le _, rfl, rfl, by omega, by omega, by omega⟩
  case round =>
    obtain ⟨k, nn, hk, rfl, rfl, hn0, hn1, hk2⟩ := hrel
    by_cases hlt : k < acts.length
    · obtain ⟨x, hx⟩ : ∃ x, acts[k]? = some x := ⟨acts[k], List.getElem?_eq_getElem hlt⟩
      obtain ⟨g, o, Ab, cb, rfl, _, hr, _, hbl⟩ := HA.out k x hx
      have m2 := hr 2 _ rfl
      clear hr hx
      by_cases h2 : 200 ≤ k
      · have g2 : decide (200 ≤ (k : Int)) = true := by simp; omega
        go_wp2
        go_ret
        exact ⟨true, rfl, (fun h => by cases h), rfl⟩
      · have g2 : decide (200 ≤ (k : Int)) = false := by simp; omega
        by_cases h3 : 20000 - nn < x.b.length
        · have g3 : decide (20000 - nn < (x.b.length : Int)) = true := by simpa using h3
          go_wp2
          go_ret
          exact ⟨true, rfl, (fun h => by cases h), rfl⟩
        · have g3 : decide (20000 - nn < (x.b.length : Int)) = false := by simpa using h3
          go_wp2
          go_round
          case rel => exact ⟨k + 1, nn + x.b.length, by omega, by go_num, rfl, by omega, by omega, by omega⟩
          case measure => simp [intOf]; omega
    · go_wp2
      go_ret
      exact ⟨false, rfl, fun _ => by omega, rfl⟩
end Go.Proofs.Ytipijkpjmpejlaa
