import Derived.Test.YtipijkpjmpejlaaDisk6
/- The walk of the law DiskNil: it returns true, whatever came in. -/
set_option linter.unusedVariables false
set_option linter.unusedSimpArgs false
namespace Go.Proofs.Ytipijkpjmpejlaa
open Go.RowKit
set_option maxHeartbeats 2000000 in
set_option maxRecDepth 100000 in
theorem diskNil_walk (n : Int) (A : Option Addr) (len c : Nat) (w : World) : Calls Try.prog 7 #[.int .i64 n, .slice A len c] w fun e w' => e = .returned (.bool true) ∧ Chg [] w w' := by
  go_enter Try.func7, Try.ntmps7
  go_wp2_with fail
  refine (read_nil _ _).mono ?_
  rintro e W ⟨rfl, rfl⟩
  go_wp2_with fail
  refine (cut_nil _ _).mono ?_
  rintro e W1 ⟨rfl, hD, hC⟩
  have H := Lib.hid (And.intro hD hC)
  clear hD hC
  go_wp2_with fail
  refine (write_nil _ _ _ _ _).mono ?_
  rintro e W ⟨rfl, rfl⟩
  go_wp2_with fail
  refine (writes_nil _).mono ?_
  rintro e W ⟨rfl, rfl⟩
  go_wp2_with fail
  refine (writes_any _ _ _ _ _ _ _ _ H.out.1).mono ?_
  rintro e W ⟨rfl, rfl⟩
  go_wp2_with fail
  refine (arm_nil _ _).mono ?_
  rintro e W ⟨rfl, rfl⟩
  go_wp2_with fail
  refine (up_nil _).mono ?_
  rintro e W ⟨rfl, rfl⟩
  go_wp2_with fail
  refine (down_nil _).mono ?_
  rintro e W ⟨rfl, rfl⟩
  go_wp2_with fail
  refine (dwakes_any _).mono ?_
  rintro e W2 ⟨rfl, hC2⟩
  go_wp2
  go_ret
  exact ⟨rfl, H.out.2.trans hC2⟩
end Go.Proofs.Ytipijkpjmpejlaa
