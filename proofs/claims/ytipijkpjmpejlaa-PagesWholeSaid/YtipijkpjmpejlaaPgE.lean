import Derived.Test.YtipijkpjmpejlaaPgD
/- The contract of pages.Parts. -/
set_option linter.unusedVariables false
set_option linter.unusedSimpArgs false
namespace Go.Proofs.Ytipijkpjmpejlaa
open Go.RowKit
def partsN (n : Int) : Int := if n < 0 ∨ 32768 < n then 0 else (n + 47) / 44
theorem partsN_out {n : Int} (h : n < 0 ∨ 32768 < n) : partsN n = 0 := if_pos h
theorem partsN_in {n : Int} (h1 : 0 ≤ n) (h2 : n ≤ 32768) : partsN n = (n + 47) / 44 := if_neg (by omega)
set_option maxHeartbeats 4000000 in
theorem parts_any (n : Int) (w : World) : Calls Try.prog 66 #[.int .i64 n] w fun e w' => e = .returned (.int .i64 (partsN n)) ∧ w = w' := by
  by_cases h1 : n < 0
  · have d1 : decide (n < 0) = true := by simpa using h1
    rw [partsN_out (.inl h1)]
    go_enter Try.func66, Try.ntmps66
    go_wp2
    go_ret
    exact ⟨rfl, rfl⟩
  · have d1 : decide (n < 0) = false := by simpa using h1
    by_cases h2 : 32768 < n
    · have d2 : decide (32768 < n) = true := by simpa using h2
      rw [partsN_out (.inr h2)]
      go_enter Try.func66, Try.ntmps66
      go_wp2
      go_ret
      exact ⟨rfl, rfl⟩
    · have d2 : decide (32768 < n) = false := by simpa using h2
      rw [partsN_in (by omega) (by omega)]
      have e : (4 + n + 44 - 1) / 44 = (n + 47) / 44 := by congr 1; omega
      have E := Lib.hid e
      clear e
      go_enter Try.func66, Try.ntmps66
      go_wp2
      go_ret
      exact ⟨by rw [← E.out]; rfl, rfl⟩
end Go.Proofs.Ytipijkpjmpejlaa
