/-
  NARROWER THAN 'FOR EVERY INPUT', by the rows' own cells (each row's printed sentence says how): StepBack: loops · StepKeeps: loops · WithinAlone: loops · WithinAbove: loops · ChangesBack: loops · ChangesJoin: loops · ChangesCut: loops · BaseFollows: loops · EditInto: loops · EditShows: loops · EditBack: loops.
  DERIVED. THE GIVEN ROWS OF THIS SEAT. 11 by the template 'for every input the law returns true; each argument reads behind the call as it read before'; 0 by the template 'total and deterministic' (their statements: YtofjocjljbkjgaaTotals.lean).
  GIVEN WITH THE SEED: the statements are not yours to turn. If you find one false, say at which input.
  Laid BY PROGRAM, IN A SANDBOX (cutbox-rows.mjs): the forced cells as the released guide's own fill.sh prints them over the translation 5dc032d86210e028… (all of the seat's roots in one cut). By AI agents, Wed Nov 11 2026. No macro, syntax, notation, axiom, sorry.
-/
import Derived.Test.YtofjocjljbkjgaaChecked
import GoSem.Claim
import GoSem.ClaimJoined
import GoSem.ClaimMapViews
import Derived.JoinedTies
import Derived.KernelRfl
namespace Go.Proofs.Ytofjocjljbkjgaa
/- THE CELL 'sum', in the pinned program and in every row, IS THE sha256 OF THE DUMP (.gsa) THAT YtofjocjljbkjgaaProg.lean LOADS. Nothing in Lean hashes anything: it is a label: what it is worth is what the hold of that sum in a sandbox is worth. -/
noncomputable def Try.pinned : Pinned := { name := "ytofjocjljbkjgaa", sum := "5dc032d86210e0289b499307fbd0065cec067ed334da173edfff9aea97b05492", checked := Try.checked }
namespace Rows
def none {H : Type} : Left H := { results := [], args := [] }

/-- 'allotmentlaw09.StepBack': WHATEVER THE INPUT: true; the input reads as it did. -/
def stepBackSpec : ChangeSpec := { name := "stepBack", fn := fun _ => fun
  | [d1, d2] => { results := [.lit (.bool true)], args := [d1, d2] }
  | _ => none }
def stepBackRow : OpenClaim := { program := "ytofjocjljbkjgaa", sum := "5dc032d86210e0289b499307fbd0065cec067ed334da173edfff9aea97b05492", func := "allotment/allotmentlaw09.StepBack", spec := "stepBack", unfollowed := true, recurses := true, loops := true, plainKeys := false, apart := false }
def StepBackSaid : Prop := stepBackRow.holds Try.pinned (OpenSpec.ofChange stepBackSpec)

/-- ITS FALSE NEIGHBOUR: 'it returns false'. Refute it at one input. -/
def stepBackWrong : ChangeSpec := { name := "stepBack", fn := fun _ => fun
  | [d1, d2] => { results := [.lit (.bool false)], args := [d1, d2] }
  | _ => none }
def StepBackWrongFalsely : Prop := stepBackRow.holds Try.pinned (OpenSpec.ofChange stepBackWrong)

/-- 'allotmentlaw09.StepKeeps': WHATEVER THE INPUT: true; the input reads as it did. -/
def stepKeepsSpec : ChangeSpec := { name := "stepKeeps", fn := fun _ => fun
  | [d1, d2, d3] => { results := [.lit (.bool true)], args := [d1, d2, d3] }
  | _ => none }
def stepKeepsRow : OpenClaim := { program := "ytofjocjljbkjgaa", sum := "5dc032d86210e0289b499307fbd0065cec067ed334da173edfff9aea97b05492", func := "allotment/allotmentlaw09.StepKeeps", spec := "stepKeeps", unfollowed := true, recurses := true, loops := true, plainKeys := false, apart := false }
def StepKeepsSaid : Prop := stepKeepsRow.holds Try.pinned (OpenSpec.ofChange stepKeepsSpec)

/-- ITS FALSE NEIGHBOUR: 'it returns false'. Refute it at one input. -/
def stepKeepsWrong : ChangeSpec := { name := "stepKeeps", fn := fun _ => fun
  | [d1, d2, d3] => { results := [.lit (.bool false)], args := [d1, d2, d3] }
  | _ => none }
def StepKeepsWrongFalsely : Prop := stepKeepsRow.holds Try.pinned (OpenSpec.ofChange stepKeepsWrong)

/-- 'allotmentlaw13.WithinAlone': WHATEVER THE INPUT: true; the input reads as it did. -/
def withinAloneSpec : ChangeSpec := { name := "withinAlone", fn := fun _ => fun
  | [d1, d2, d3, d4] => { results := [.lit (.bool true)], args := [d1, d2, d3, d4] }
  | _ => none }
def withinAloneRow : OpenClaim := { program := "ytofjocjljbkjgaa", sum := "5dc032d86210e0289b499307fbd0065cec067ed334da173edfff9aea97b05492", func := "allotment/allotmentlaw13.WithinAlone", spec := "withinAlone", unfollowed := true, recurses := true, loops := true, plainKeys := false, apart := false }
def WithinAloneSaid : Prop := withinAloneRow.holds Try.pinned (OpenSpec.ofChange withinAloneSpec)

/-- ITS FALSE NEIGHBOUR: 'it returns false'. Refute it at one input. -/
def withinAloneWrong : ChangeSpec := { name := "withinAlone", fn := fun _ => fun
  | [d1, d2, d3, d4] => { results := [.lit (.bool false)], args := [d1, d2, d3, d4] }
  | _ => none }
def WithinAloneWrongFalsely : Prop := withinAloneRow.holds Try.pinned (OpenSpec.ofChange withinAloneWrong)

/-- 'allotmentlaw13.WithinAbove': WHATEVER THE INPUT: true; the input reads as it did. -/
def withinAboveSpec : ChangeSpec := { name := "withinAbove", fn := fun _ => fun
  | [d1, d2, d3, d4, d5] => { results := [.lit (.bool true)], args := [d1, d2, d3, d4, d5] }
  | _ => none }
def withinAboveRow : OpenClaim := { program := "ytofjocjljbkjgaa", sum := "5dc032d86210e0289b499307fbd0065cec067ed334da173edfff9aea97b05492", func := "allotment/allotmentlaw13.WithinAbove", spec := "withinAbove", unfollowed := true, recurses := true, loops := true, plainKeys := false, apart := false }
def WithinAboveSaid : Prop := withinAboveRow.holds Try.pinned (OpenSpec.ofChange withinAboveSpec)

/-- ITS FALSE NEIGHBOUR: 'it returns false'. Refute it at one input. -/
def withinAboveWrong : ChangeSpec := { name := "withinAbove", fn := fun _ => fun
  | [d1, d2, d3, d4, d5] => { results := [.lit (.bool false)], args := [d1, d2, d3, d4, d5] }
  | _ => none }
def WithinAboveWrongFalsely : Prop := withinAboveRow.holds Try.pinned (OpenSpec.ofChange withinAboveWrong)

/-- 'allotmentlaw11.ChangesBack': WHATEVER THE INPUT: true; the input reads as it did. -/
def changesBackSpec : ChangeSpec := { name := "changesBack", fn := fun _ => fun
  | [d1, d2, d3] => { results := [.lit (.bool true)], args := [d1, d2, d3] }
  | _ => none }
def changesBackRow : OpenClaim := { program := "ytofjocjljbkjgaa", sum := "5dc032d86210e0289b499307fbd0065cec067ed334da173edfff9aea97b05492", func := "allotment/allotmentlaw11.ChangesBack", spec := "changesBack", unfollowed := true, recurses := true, loops := true, plainKeys := false, apart := false }
def ChangesBackSaid : Prop := changesBackRow.holds Try.pinned (OpenSpec.ofChange changesBackSpec)

/-- ITS FALSE NEIGHBOUR: 'it returns false'. Refute it at one input. -/
def changesBackWrong : ChangeSpec := { name := "changesBack", fn := fun _ => fun
  | [d1, d2, d3] => { results := [.lit (.bool false)], args := [d1, d2, d3] }
  | _ => none }
def ChangesBackWrongFalsely : Prop := changesBackRow.holds Try.pinned (OpenSpec.ofChange changesBackWrong)

/-- 'allotmentlaw11.ChangesJoin': WHATEVER THE INPUT: true; the input reads as it did. -/
def changesJoinSpec : ChangeSpec := { name := "changesJoin", fn := fun _ => fun
  | [d1, d2, d3, d4] => { results := [.lit (.bool true)], args := [d1, d2, d3, d4] }
  | _ => none }
def changesJoinRow : OpenClaim := { program := "ytofjocjljbkjgaa", sum := "5dc032d86210e0289b499307fbd0065cec067ed334da173edfff9aea97b05492", func := "allotment/allotmentlaw11.ChangesJoin", spec := "changesJoin", unfollowed := true, recurses := true, loops := true, plainKeys := false, apart := false }
def ChangesJoinSaid : Prop := changesJoinRow.holds Try.pinned (OpenSpec.ofChange changesJoinSpec)

/-- ITS FALSE NEIGHBOUR: 'it returns false'. Refute it at one input. -/
def changesJoinWrong : ChangeSpec := { name := "changesJoin", fn := fun _ => fun
  | [d1, d2, d3, d4] => { results := [.lit (.bool false)], args := [d1, d2, d3, d4] }
  | _ => none }
def ChangesJoinWrongFalsely : Prop := changesJoinRow.holds Try.pinned (OpenSpec.ofChange changesJoinWrong)

/-- 'allotmentlaw11.ChangesCut': WHATEVER THE INPUT: true; the input reads as it did. -/
def changesCutSpec : ChangeSpec := { name := "changesCut", fn := fun _ => fun
  | [d1, d2, d3, d4] => { results := [.lit (.bool true)], args := [d1, d2, d3, d4] }
  | _ => none }
def changesCutRow : OpenClaim := { program := "ytofjocjljbkjgaa", sum := "5dc032d86210e0289b499307fbd0065cec067ed334da173edfff9aea97b05492", func := "allotment/allotmentlaw11.ChangesCut", spec := "changesCut", unfollowed := true, recurses := true, loops := true, plainKeys := false, apart := false }
def ChangesCutSaid : Prop := changesCutRow.holds Try.pinned (OpenSpec.ofChange changesCutSpec)

/-- ITS FALSE NEIGHBOUR: 'it returns false'. Refute it at one input. -/
def changesCutWrong : ChangeSpec := { name := "changesCut", fn := fun _ => fun
  | [d1, d2, d3, d4] => { results := [.lit (.bool false)], args := [d1, d2, d3, d4] }
  | _ => none }
def ChangesCutWrongFalsely : Prop := changesCutRow.holds Try.pinned (OpenSpec.ofChange changesCutWrong)

/-- 'allotmentlaw23.BaseFollows': WHATEVER THE INPUT: true; the input reads as it did. -/
def baseFollowsSpec : ChangeSpec := { name := "baseFollows", fn := fun _ => fun
  | [d1, d2, d3, d4, d5] => { results := [.lit (.bool true)], args := [d1, d2, d3, d4, d5] }
  | _ => none }
def baseFollowsRow : OpenClaim := { program := "ytofjocjljbkjgaa", sum := "5dc032d86210e0289b499307fbd0065cec067ed334da173edfff9aea97b05492", func := "allotment/allotmentlaw23.BaseFollows", spec := "baseFollows", unfollowed := true, recurses := true, loops := true, plainKeys := false, apart := false }
def BaseFollowsSaid : Prop := baseFollowsRow.holds Try.pinned (OpenSpec.ofChange baseFollowsSpec)

/-- ITS FALSE NEIGHBOUR: 'it returns false'. Refute it at one input. -/
def baseFollowsWrong : ChangeSpec := { name := "baseFollows", fn := fun _ => fun
  | [d1, d2, d3, d4, d5] => { results := [.lit (.bool false)], args := [d1, d2, d3, d4, d5] }
  | _ => none }
def BaseFollowsWrongFalsely : Prop := baseFollowsRow.holds Try.pinned (OpenSpec.ofChange baseFollowsWrong)

/-- 'allotmentlaw24.EditInto': WHATEVER THE INPUT: true; the input reads as it did. -/
def editIntoSpec : ChangeSpec := { name := "editInto", fn := fun _ => fun
  | [d1, d2, d3] => { results := [.lit (.bool true)], args := [d1, d2, d3] }
  | _ => none }
def editIntoRow : OpenClaim := { program := "ytofjocjljbkjgaa", sum := "5dc032d86210e0289b499307fbd0065cec067ed334da173edfff9aea97b05492", func := "allotment/allotmentlaw24.EditInto", spec := "editInto", unfollowed := true, recurses := true, loops := true, plainKeys := false, apart := false }
def EditIntoSaid : Prop := editIntoRow.holds Try.pinned (OpenSpec.ofChange editIntoSpec)

/-- ITS FALSE NEIGHBOUR: 'it returns false'. Refute it at one input. -/
def editIntoWrong : ChangeSpec := { name := "editInto", fn := fun _ => fun
  | [d1, d2, d3] => { results := [.lit (.bool false)], args := [d1, d2, d3] }
  | _ => none }
def EditIntoWrongFalsely : Prop := editIntoRow.holds Try.pinned (OpenSpec.ofChange editIntoWrong)

/-- 'allotmentlaw24.EditShows': WHATEVER THE INPUT: true; the input reads as it did. -/
def editShowsSpec : ChangeSpec := { name := "editShows", fn := fun _ => fun
  | [d1, d2, d3] => { results := [.lit (.bool true)], args := [d1, d2, d3] }
  | _ => none }
def editShowsRow : OpenClaim := { program := "ytofjocjljbkjgaa", sum := "5dc032d86210e0289b499307fbd0065cec067ed334da173edfff9aea97b05492", func := "allotment/allotmentlaw24.EditShows", spec := "editShows", unfollowed := true, recurses := true, loops := true, plainKeys := false, apart := false }
def EditShowsSaid : Prop := editShowsRow.holds Try.pinned (OpenSpec.ofChange editShowsSpec)

/-- ITS FALSE NEIGHBOUR: 'it returns false'. Refute it at one input. -/
def editShowsWrong : ChangeSpec := { name := "editShows", fn := fun _ => fun
  | [d1, d2, d3] => { results := [.lit (.bool false)], args := [d1, d2, d3] }
  | _ => none }
def EditShowsWrongFalsely : Prop := editShowsRow.holds Try.pinned (OpenSpec.ofChange editShowsWrong)

/-- 'allotmentlaw24.EditBack': WHATEVER THE INPUT: true; the input reads as it did. -/
def editBackSpec : ChangeSpec := { name := "editBack", fn := fun _ => fun
  | [d1, d2, d3] => { results := [.lit (.bool true)], args := [d1, d2, d3] }
  | _ => none }
def editBackRow : OpenClaim := { program := "ytofjocjljbkjgaa", sum := "5dc032d86210e0289b499307fbd0065cec067ed334da173edfff9aea97b05492", func := "allotment/allotmentlaw24.EditBack", spec := "editBack", unfollowed := true, recurses := true, loops := true, plainKeys := false, apart := false }
def EditBackSaid : Prop := editBackRow.holds Try.pinned (OpenSpec.ofChange editBackSpec)

/-- ITS FALSE NEIGHBOUR: 'it returns false'. Refute it at one input. -/
def editBackWrong : ChangeSpec := { name := "editBack", fn := fun _ => fun
  | [d1, d2, d3] => { results := [.lit (.bool false)], args := [d1, d2, d3] }
  | _ => none }
def EditBackWrongFalsely : Prop := editBackRow.holds Try.pinned (OpenSpec.ofChange editBackWrong)

/- THE SECOND FORM. 'bulk': how many values and letters a reading holds, each counted each time it is reached (what is shared counts as often as it is met; a slice's spare places count too). A statement '..UptoSaid' is the law's where the arguments, and the package variables that the reading takes, are together of bulk at most 1048576: NARROWER than '..Said'. Prove '..Said' where nothing that the law and all that it calls make is longer than what came in: it says more and counts as full. Else prove '..UptoSaid'. A law counts once. -/
mutual
def uptoBulk {H : Type} : DataW H → Nat
  | .lit (.string bytes) => bytes.length + 1
  | .lit _ => 1
  | .nil => 1
  | .ptr d => uptoBulk d + 1
  | .slice elems spare => uptoBulkAll elems + uptoBulkAll spare + 1
  | .agg parts => uptoBulkAll parts + 1
  | .iface _ d => uptoBulk d + 1
  | .map entries => uptoBulkEntries entries + 1
  | .held _ => 1
def uptoBulkAll {H : Type} : List (DataW H) → Nat
  | [] => 0
  | d :: r => uptoBulk d + uptoBulkAll r
def uptoBulkEntries {H : Type} : List (Lit × DataW H) → Nat
  | [] => 0
  | x :: r => uptoBulkEntry x + uptoBulkEntries r
def uptoBulkEntry {H : Type} : Lit × DataW H → Nat
  | (.string bytes, d) => bytes.length + uptoBulk d + 1
  | (_, d) => uptoBulk d + 1
 end
def uptoSmall : (H : Type) → List (DataW H) → Bool := fun _ ds => decide (uptoBulkAll ds ≤ 1048576)
def OpenSpec.upto (s : _root_.Go.ChangeSpec) : _root_.Go.OpenSpec := { _root_.Go.OpenSpec.ofChange s with cond := some uptoSmall }

/-- 'allotmentlaw09.StepBack', WHERE WHAT IT READS IS OF BULK AT MOST 1048576: true; the input reads as it did. -/
def stepBackUptoRow : OpenClaim := { program := "ytofjocjljbkjgaa", sum := "5dc032d86210e0289b499307fbd0065cec067ed334da173edfff9aea97b05492", func := "allotment/allotmentlaw09.StepBack", spec := "stepBack", unfollowed := true, recurses := true, loops := true, plainKeys := false, apart := false, narrowed := true }
def StepBackUptoSaid : Prop := stepBackUptoRow.holds Try.pinned (OpenSpec.upto stepBackSpec)

/-- 'allotmentlaw09.StepKeeps', WHERE WHAT IT READS IS OF BULK AT MOST 1048576: true; the input reads as it did. -/
def stepKeepsUptoRow : OpenClaim := { program := "ytofjocjljbkjgaa", sum := "5dc032d86210e0289b499307fbd0065cec067ed334da173edfff9aea97b05492", func := "allotment/allotmentlaw09.StepKeeps", spec := "stepKeeps", unfollowed := true, recurses := true, loops := true, plainKeys := false, apart := false, narrowed := true }
def StepKeepsUptoSaid : Prop := stepKeepsUptoRow.holds Try.pinned (OpenSpec.upto stepKeepsSpec)

/-- 'allotmentlaw13.WithinAlone', WHERE WHAT IT READS IS OF BULK AT MOST 1048576: true; the input reads as it did. -/
def withinAloneUptoRow : OpenClaim := { program := "ytofjocjljbkjgaa", sum := "5dc032d86210e0289b499307fbd0065cec067ed334da173edfff9aea97b05492", func := "allotment/allotmentlaw13.WithinAlone", spec := "withinAlone", unfollowed := true, recurses := true, loops := true, plainKeys := false, apart := false, narrowed := true }
def WithinAloneUptoSaid : Prop := withinAloneUptoRow.holds Try.pinned (OpenSpec.upto withinAloneSpec)

/-- 'allotmentlaw13.WithinAbove', WHERE WHAT IT READS IS OF BULK AT MOST 1048576: true; the input reads as it did. -/
def withinAboveUptoRow : OpenClaim := { program := "ytofjocjljbkjgaa", sum := "5dc032d86210e0289b499307fbd0065cec067ed334da173edfff9aea97b05492", func := "allotment/allotmentlaw13.WithinAbove", spec := "withinAbove", unfollowed := true, recurses := true, loops := true, plainKeys := false, apart := false, narrowed := true }
def WithinAboveUptoSaid : Prop := withinAboveUptoRow.holds Try.pinned (OpenSpec.upto withinAboveSpec)

/-- 'allotmentlaw11.ChangesBack', WHERE WHAT IT READS IS OF BULK AT MOST 1048576: true; the input reads as it did. -/
def changesBackUptoRow : OpenClaim := { program := "ytofjocjljbkjgaa", sum := "5dc032d86210e0289b499307fbd0065cec067ed334da173edfff9aea97b05492", func := "allotment/allotmentlaw11.ChangesBack", spec := "changesBack", unfollowed := true, recurses := true, loops := true, plainKeys := false, apart := false, narrowed := true }
def ChangesBackUptoSaid : Prop := changesBackUptoRow.holds Try.pinned (OpenSpec.upto changesBackSpec)

/-- 'allotmentlaw11.ChangesJoin', WHERE WHAT IT READS IS OF BULK AT MOST 1048576: true; the input reads as it did. -/
def changesJoinUptoRow : OpenClaim := { program := "ytofjocjljbkjgaa", sum := "5dc032d86210e0289b499307fbd0065cec067ed334da173edfff9aea97b05492", func := "allotment/allotmentlaw11.ChangesJoin", spec := "changesJoin", unfollowed := true, recurses := true, loops := true, plainKeys := false, apart := false, narrowed := true }
def ChangesJoinUptoSaid : Prop := changesJoinUptoRow.holds Try.pinned (OpenSpec.upto changesJoinSpec)

/-- 'allotmentlaw11.ChangesCut', WHERE WHAT IT READS IS OF BULK AT MOST 1048576: true; the input reads as it did. -/
def changesCutUptoRow : OpenClaim := { program := "ytofjocjljbkjgaa", sum := "5dc032d86210e0289b499307fbd0065cec067ed334da173edfff9aea97b05492", func := "allotment/allotmentlaw11.ChangesCut", spec := "changesCut", unfollowed := true, recurses := true, loops := true, plainKeys := false, apart := false, narrowed := true }
def ChangesCutUptoSaid : Prop := changesCutUptoRow.holds Try.pinned (OpenSpec.upto changesCutSpec)

/-- 'allotmentlaw23.BaseFollows', WHERE WHAT IT READS IS OF BULK AT MOST 1048576: true; the input reads as it did. -/
def baseFollowsUptoRow : OpenClaim := { program := "ytofjocjljbkjgaa", sum := "5dc032d86210e0289b499307fbd0065cec067ed334da173edfff9aea97b05492", func := "allotment/allotmentlaw23.BaseFollows", spec := "baseFollows", unfollowed := true, recurses := true, loops := true, plainKeys := false, apart := false, narrowed := true }
def BaseFollowsUptoSaid : Prop := baseFollowsUptoRow.holds Try.pinned (OpenSpec.upto baseFollowsSpec)

/-- 'allotmentlaw24.EditInto', WHERE WHAT IT READS IS OF BULK AT MOST 1048576: true; the input reads as it did. -/
def editIntoUptoRow : OpenClaim := { program := "ytofjocjljbkjgaa", sum := "5dc032d86210e0289b499307fbd0065cec067ed334da173edfff9aea97b05492", func := "allotment/allotmentlaw24.EditInto", spec := "editInto", unfollowed := true, recurses := true, loops := true, plainKeys := false, apart := false, narrowed := true }
def EditIntoUptoSaid : Prop := editIntoUptoRow.holds Try.pinned (OpenSpec.upto editIntoSpec)

/-- 'allotmentlaw24.EditShows', WHERE WHAT IT READS IS OF BULK AT MOST 1048576: true; the input reads as it did. -/
def editShowsUptoRow : OpenClaim := { program := "ytofjocjljbkjgaa", sum := "5dc032d86210e0289b499307fbd0065cec067ed334da173edfff9aea97b05492", func := "allotment/allotmentlaw24.EditShows", spec := "editShows", unfollowed := true, recurses := true, loops := true, plainKeys := false, apart := false, narrowed := true }
def EditShowsUptoSaid : Prop := editShowsUptoRow.holds Try.pinned (OpenSpec.upto editShowsSpec)

/-- 'allotmentlaw24.EditBack', WHERE WHAT IT READS IS OF BULK AT MOST 1048576: true; the input reads as it did. -/
def editBackUptoRow : OpenClaim := { program := "ytofjocjljbkjgaa", sum := "5dc032d86210e0289b499307fbd0065cec067ed334da173edfff9aea97b05492", func := "allotment/allotmentlaw24.EditBack", spec := "editBack", unfollowed := true, recurses := true, loops := true, plainKeys := false, apart := false, narrowed := true }
def EditBackUptoSaid : Prop := editBackUptoRow.holds Try.pinned (OpenSpec.upto editBackSpec)

end Rows
end Go.Proofs.Ytofjocjljbkjgaa
