import Derived.Test.YtipijkpjmpejlaaPgR
/- What the statements' own example of pages comes to, told plainly; a disk's calls, told by its state. -/
set_option linter.unusedVariables false
set_option linter.unusedSimpArgs false
namespace Go.Proofs.Ytipijkpjmpejlaa
open Go.RowKit
deriving instance DecidableEq for DS
deriving instance DecidableEq for PS
def z60 : List Int := List.replicate 60 0
def wk1 : DS × PS × Int := snapOf DS.new ⟨Img.zero, 0, false⟩ [97]
def wk2 : DS × PS × Int := appendOf wk1.1 wk1.2.1 [98]
def wk3 : DS × PS × Int := appendOf wk2.1 wk2.2.1 z60
def wkB : Bool := openOf DS.new == (DS.new, some ⟨Img.zero, 0, false⟩, 0) && wk1.2.2 == 0 && wk2.2.2 == 0 && wk3.2.2 == 0 && (wk3.1.L.length == 5) && !wk3.1.down
set_option maxRecDepth 100000 in
theorem wk_ok : wkB = true := by decide +kernel
set_option maxRecDepth 100000 in
theorem wk_look : (lookOf wk3.1).2 = 0 ∧ (lookOf wk3.1).1.recs.length = 3 := by decide +kernel
def wkC : DS := ⟨wk3.1.L.take 4, false, false, 0⟩
set_option maxRecDepth 100000 in
theorem wk_cut : (lookOf wkC).2 = 0 ∧ (lookOf wkC).1.recs.length = 2 ∧ (lookOf wkC).1.gen = 1 ∧ (lookOf wkC).1.boot = 1 := by decide +kernel
end Go.Proofs.Ytipijkpjmpejlaa
