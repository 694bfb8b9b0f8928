/-
  NARROWER THAN 'FOR EVERY INPUT', by the rows' own cells (each row's printed sentence says how): LinkDoor: loops · NetPlays: loops.
  DERIVED. THE GIVEN ROWS OF THIS SEAT. 12 by the template 'for every input the law returns true; each argument reads behind the call as it read before'; 0 by the template 'total and deterministic' (their statements: YtipijkpjmpejlaaTotals.lean).
  GIVEN WITH THE SEED: the statements are not yours to turn. If you find one false, say at which input.
  Laid BY PROGRAM, IN A SANDBOX (cutbox-rows.mjs): the forced cells as the released guide's own fill.sh prints them over the translation c2e34b63621ac933… (all of the seat's roots in one cut). By AI agents, Wed Nov 11 2026. No macro, syntax, notation, axiom, sorry.
-/
import Derived.Test.YtipijkpjmpejlaaChecked
import GoSem.Claim
import GoSem.ClaimJoined
import GoSem.ClaimMapViews
import Derived.JoinedTies
import Derived.KernelRfl
namespace Go.Proofs.Ytipijkpjmpejlaa
/- THE CELL 'sum', in the pinned program and in every row, IS THE sha256 OF THE DUMP (.gsa) THAT YtipijkpjmpejlaaProg.lean LOADS. Nothing in Lean hashes anything: it is a label: what it is worth is what the hold of that sum in a sandbox is worth. -/
noncomputable def Try.pinned : Pinned := { name := "ytipijkpjmpejlaa", sum := "c2e34b63621ac9338a8367dee46c4ca104d78bf5f357004512df1a4df55e1b09", checked := Try.checked }
namespace Rows
def none {H : Type} : Left H := { results := [], args := [] }

/-- 'allotmentlaw15.LinkDoor': WHATEVER THE INPUT: true; the input reads as it did. -/
def linkDoorSpec : ChangeSpec := { name := "linkDoor", fn := fun _ => fun
  | [d1, d2, d3] => { results := [.lit (.bool true)], args := [d1, d2, d3] }
  | _ => none }
def linkDoorRow : OpenClaim := { program := "ytipijkpjmpejlaa", sum := "c2e34b63621ac9338a8367dee46c4ca104d78bf5f357004512df1a4df55e1b09", func := "allotment/allotmentlaw15.LinkDoor", spec := "linkDoor", loops := true, apart := false }
def LinkDoorSaid : Prop := linkDoorRow.holds Try.pinned (OpenSpec.ofChange linkDoorSpec)

/-- ITS FALSE NEIGHBOUR: 'it returns false'. Refute it at one input. -/
def linkDoorWrong : ChangeSpec := { name := "linkDoor", fn := fun _ => fun
  | [d1, d2, d3] => { results := [.lit (.bool false)], args := [d1, d2, d3] }
  | _ => none }
def LinkDoorWrongFalsely : Prop := linkDoorRow.holds Try.pinned (OpenSpec.ofChange linkDoorWrong)

/-- 'allotmentlaw01.DiskCuts': WHATEVER THE INPUT: true; the input reads as it did. -/
def diskCutsSpec : ChangeSpec := { name := "diskCuts", fn := fun _ => fun
  | [d1, d2, d3, d4] => { results := [.lit (.bool true)], args := [d1, d2, d3, d4] }
  | _ => none }
def diskCutsRow : OpenClaim := { program := "ytipijkpjmpejlaa", sum := "c2e34b63621ac9338a8367dee46c4ca104d78bf5f357004512df1a4df55e1b09", func := "allotment/allotmentlaw01.DiskCuts", spec := "diskCuts", unfollowed := true, recurses := true, apart := false }
def DiskCutsSaid : Prop := diskCutsRow.holds Try.pinned (OpenSpec.ofChange diskCutsSpec)

/-- ITS FALSE NEIGHBOUR: 'it returns false'. Refute it at one input. -/
def diskCutsWrong : ChangeSpec := { name := "diskCuts", fn := fun _ => fun
  | [d1, d2, d3, d4] => { results := [.lit (.bool false)], args := [d1, d2, d3, d4] }
  | _ => none }
def DiskCutsWrongFalsely : Prop := diskCutsRow.holds Try.pinned (OpenSpec.ofChange diskCutsWrong)

/-- 'allotmentlaw01.DiskLast': WHATEVER THE INPUT: true; the input reads as it did. -/
def diskLastSpec : ChangeSpec := { name := "diskLast", fn := fun _ => fun
  | [d1, d2] => { results := [.lit (.bool true)], args := [d1, d2] }
  | _ => none }
def diskLastRow : OpenClaim := { program := "ytipijkpjmpejlaa", sum := "c2e34b63621ac9338a8367dee46c4ca104d78bf5f357004512df1a4df55e1b09", func := "allotment/allotmentlaw01.DiskLast", spec := "diskLast", unfollowed := true, recurses := true, apart := false }
def DiskLastSaid : Prop := diskLastRow.holds Try.pinned (OpenSpec.ofChange diskLastSpec)

/-- ITS FALSE NEIGHBOUR: 'it returns false'. Refute it at one input. -/
def diskLastWrong : ChangeSpec := { name := "diskLast", fn := fun _ => fun
  | [d1, d2] => { results := [.lit (.bool false)], args := [d1, d2] }
  | _ => none }
def DiskLastWrongFalsely : Prop := diskLastRow.holds Try.pinned (OpenSpec.ofChange diskLastWrong)

/-- 'allotmentlaw01.DiskPlays': WHATEVER THE INPUT: true; the input reads as it did. -/
def diskPlaysSpec : ChangeSpec := { name := "diskPlays", fn := fun _ => fun
  | [d] => { results := [.lit (.bool true)], args := [d] }
  | _ => none }
def diskPlaysRow : OpenClaim := { program := "ytipijkpjmpejlaa", sum := "c2e34b63621ac9338a8367dee46c4ca104d78bf5f357004512df1a4df55e1b09", func := "allotment/allotmentlaw01.DiskPlays", spec := "diskPlays", unfollowed := true, recurses := true, apart := false }
def DiskPlaysSaid : Prop := diskPlaysRow.holds Try.pinned (OpenSpec.ofChange diskPlaysSpec)

/-- ITS FALSE NEIGHBOUR: 'it returns false'. Refute it at one input. -/
def diskPlaysWrong : ChangeSpec := { name := "diskPlays", fn := fun _ => fun
  | [d] => { results := [.lit (.bool false)], args := [d] }
  | _ => none }
def DiskPlaysWrongFalsely : Prop := diskPlaysRow.holds Try.pinned (OpenSpec.ofChange diskPlaysWrong)

/-- 'allotmentlaw01.DiskNil': WHATEVER THE INPUT: true; the input reads as it did. -/
def diskNilSpec : ChangeSpec := { name := "diskNil", fn := fun _ => fun
  | [d1, d2] => { results := [.lit (.bool true)], args := [d1, d2] }
  | _ => none }
def diskNilRow : OpenClaim := { program := "ytipijkpjmpejlaa", sum := "c2e34b63621ac9338a8367dee46c4ca104d78bf5f357004512df1a4df55e1b09", func := "allotment/allotmentlaw01.DiskNil", spec := "diskNil", unfollowed := true, recurses := true, apart := false }
def DiskNilSaid : Prop := diskNilRow.holds Try.pinned (OpenSpec.ofChange diskNilSpec)

/-- ITS FALSE NEIGHBOUR: 'it returns false'. Refute it at one input. -/
def diskNilWrong : ChangeSpec := { name := "diskNil", fn := fun _ => fun
  | [d1, d2] => { results := [.lit (.bool false)], args := [d1, d2] }
  | _ => none }
def DiskNilWrongFalsely : Prop := diskNilRow.holds Try.pinned (OpenSpec.ofChange diskNilWrong)

/-- 'allotmentlaw02.NetFull': WHATEVER THE INPUT: true; the input reads as it did. -/
def netFullSpec : ChangeSpec := { name := "netFull", fn := fun _ => fun
  | [d1, d2] => { results := [.lit (.bool true)], args := [d1, d2] }
  | _ => none }
def netFullRow : OpenClaim := { program := "ytipijkpjmpejlaa", sum := "c2e34b63621ac9338a8367dee46c4ca104d78bf5f357004512df1a4df55e1b09", func := "allotment/allotmentlaw02.NetFull", spec := "netFull", unfollowed := true, recurses := true, apart := false }
def NetFullSaid : Prop := netFullRow.holds Try.pinned (OpenSpec.ofChange netFullSpec)

/-- ITS FALSE NEIGHBOUR: 'it returns false'. Refute it at one input. -/
def netFullWrong : ChangeSpec := { name := "netFull", fn := fun _ => fun
  | [d1, d2] => { results := [.lit (.bool false)], args := [d1, d2] }
  | _ => none }
def NetFullWrongFalsely : Prop := netFullRow.holds Try.pinned (OpenSpec.ofChange netFullWrong)

/-- 'allotmentlaw02.NetOrder': WHATEVER THE INPUT: true; the input reads as it did. -/
def netOrderSpec : ChangeSpec := { name := "netOrder", fn := fun _ => fun
  | [d1, d2, d3] => { results := [.lit (.bool true)], args := [d1, d2, d3] }
  | _ => none }
def netOrderRow : OpenClaim := { program := "ytipijkpjmpejlaa", sum := "c2e34b63621ac9338a8367dee46c4ca104d78bf5f357004512df1a4df55e1b09", func := "allotment/allotmentlaw02.NetOrder", spec := "netOrder", unfollowed := true, recurses := true, apart := false }
def NetOrderSaid : Prop := netOrderRow.holds Try.pinned (OpenSpec.ofChange netOrderSpec)

/-- ITS FALSE NEIGHBOUR: 'it returns false'. Refute it at one input. -/
def netOrderWrong : ChangeSpec := { name := "netOrder", fn := fun _ => fun
  | [d1, d2, d3] => { results := [.lit (.bool false)], args := [d1, d2, d3] }
  | _ => none }
def NetOrderWrongFalsely : Prop := netOrderRow.holds Try.pinned (OpenSpec.ofChange netOrderWrong)

/-- 'allotmentlaw02.NetPlays': WHATEVER THE INPUT: true; the input reads as it did. -/
def netPlaysSpec : ChangeSpec := { name := "netPlays", fn := fun _ => fun
  | [d] => { results := [.lit (.bool true)], args := [d] }
  | _ => none }
def netPlaysRow : OpenClaim := { program := "ytipijkpjmpejlaa", sum := "c2e34b63621ac9338a8367dee46c4ca104d78bf5f357004512df1a4df55e1b09", func := "allotment/allotmentlaw02.NetPlays", spec := "netPlays", unfollowed := true, recurses := true, loops := true, apart := false }
def NetPlaysSaid : Prop := netPlaysRow.holds Try.pinned (OpenSpec.ofChange netPlaysSpec)

/-- ITS FALSE NEIGHBOUR: 'it returns false'. Refute it at one input. -/
def netPlaysWrong : ChangeSpec := { name := "netPlays", fn := fun _ => fun
  | [d] => { results := [.lit (.bool false)], args := [d] }
  | _ => none }
def NetPlaysWrongFalsely : Prop := netPlaysRow.holds Try.pinned (OpenSpec.ofChange netPlaysWrong)

/-- 'allotmentlaw17.PagesAgain': WHATEVER THE INPUT: true; the input reads as it did. -/
def pagesAgainSpec : ChangeSpec := { name := "pagesAgain", fn := fun _ => fun
  | [d1, d2] => { results := [.lit (.bool true)], args := [d1, d2] }
  | _ => none }
def pagesAgainRow : OpenClaim := { program := "ytipijkpjmpejlaa", sum := "c2e34b63621ac9338a8367dee46c4ca104d78bf5f357004512df1a4df55e1b09", func := "allotment/allotmentlaw17.PagesAgain", spec := "pagesAgain", unfollowed := true, recurses := true, apart := false }
def PagesAgainSaid : Prop := pagesAgainRow.holds Try.pinned (OpenSpec.ofChange pagesAgainSpec)

/-- ITS FALSE NEIGHBOUR: 'it returns false'. Refute it at one input. -/
def pagesAgainWrong : ChangeSpec := { name := "pagesAgain", fn := fun _ => fun
  | [d1, d2] => { results := [.lit (.bool false)], args := [d1, d2] }
  | _ => none }
def PagesAgainWrongFalsely : Prop := pagesAgainRow.holds Try.pinned (OpenSpec.ofChange pagesAgainWrong)

/-- 'allotmentlaw17.PagesWhole': WHATEVER THE INPUT: true; the input reads as it did. -/
def pagesWholeSpec : ChangeSpec := { name := "pagesWhole", fn := fun _ => fun
  | [d1, d2, d3, d4] => { results := [.lit (.bool true)], args := [d1, d2, d3, d4] }
  | _ => none }
def pagesWholeRow : OpenClaim := { program := "ytipijkpjmpejlaa", sum := "c2e34b63621ac9338a8367dee46c4ca104d78bf5f357004512df1a4df55e1b09", func := "allotment/allotmentlaw17.PagesWhole", spec := "pagesWhole", unfollowed := true, recurses := true, apart := false }
def PagesWholeSaid : Prop := pagesWholeRow.holds Try.pinned (OpenSpec.ofChange pagesWholeSpec)

/-- ITS FALSE NEIGHBOUR: 'it returns false'. Refute it at one input. -/
def pagesWholeWrong : ChangeSpec := { name := "pagesWhole", fn := fun _ => fun
  | [d1, d2, d3, d4] => { results := [.lit (.bool false)], args := [d1, d2, d3, d4] }
  | _ => none }
def PagesWholeWrongFalsely : Prop := pagesWholeRow.holds Try.pinned (OpenSpec.ofChange pagesWholeWrong)

/-- 'allotmentlaw17.PagesNil': WHATEVER THE INPUT: true; the input reads as it did. -/
def pagesNilSpec : ChangeSpec := { name := "pagesNil", fn := fun _ => fun
  | [d1, d2] => { results := [.lit (.bool true)], args := [d1, d2] }
  | _ => none }
def pagesNilRow : OpenClaim := { program := "ytipijkpjmpejlaa", sum := "c2e34b63621ac9338a8367dee46c4ca104d78bf5f357004512df1a4df55e1b09", func := "allotment/allotmentlaw17.PagesNil", spec := "pagesNil", unfollowed := true, recurses := true, apart := false }
def PagesNilSaid : Prop := pagesNilRow.holds Try.pinned (OpenSpec.ofChange pagesNilSpec)

/-- ITS FALSE NEIGHBOUR: 'it returns false'. Refute it at one input. -/
def pagesNilWrong : ChangeSpec := { name := "pagesNil", fn := fun _ => fun
  | [d1, d2] => { results := [.lit (.bool false)], args := [d1, d2] }
  | _ => none }
def PagesNilWrongFalsely : Prop := pagesNilRow.holds Try.pinned (OpenSpec.ofChange pagesNilWrong)

/-- 'allotmentlaw17.PagesPlay': WHATEVER THE INPUT: true; the input reads as it did. -/
def pagesPlaySpec : ChangeSpec := { name := "pagesPlay", fn := fun _ => fun
  | [d] => { results := [.lit (.bool true)], args := [d] }
  | _ => none }
def pagesPlayRow : OpenClaim := { program := "ytipijkpjmpejlaa", sum := "c2e34b63621ac9338a8367dee46c4ca104d78bf5f357004512df1a4df55e1b09", func := "allotment/allotmentlaw17.PagesPlay", spec := "pagesPlay", unfollowed := true, recurses := true, apart := false }
def PagesPlaySaid : Prop := pagesPlayRow.holds Try.pinned (OpenSpec.ofChange pagesPlaySpec)

/-- ITS FALSE NEIGHBOUR: 'it returns false'. Refute it at one input. -/
def pagesPlayWrong : ChangeSpec := { name := "pagesPlay", fn := fun _ => fun
  | [d] => { results := [.lit (.bool false)], args := [d] }
  | _ => none }
def PagesPlayWrongFalsely : Prop := pagesPlayRow.holds Try.pinned (OpenSpec.ofChange pagesPlayWrong)

/- THE SECOND FORM. 'bulk': how many values and letters a reading holds, each counted each time it is reached (what is shared counts as often as it is met; a slice's spare places count too). A statement '..UptoSaid' is the law's where the arguments, and the package variables that the reading takes, are together of bulk at most 1048576: NARROWER than '..Said'. Prove '..Said' where nothing that the law and all that it calls make is longer than what came in: it says more and counts as full. Else prove '..UptoSaid'. A law counts once. -/
mutual
def uptoBulk {H : Type} : DataW H → Nat
  | .lit (.string bytes) => bytes.length + 1
  | .lit _ => 1
  | .nil => 1
  | .ptr d => uptoBulk d + 1
  | .slice elems spare => uptoBulkAll elems + uptoBulkAll spare + 1
  | .agg parts => uptoBulkAll parts + 1
  | .iface _ d => uptoBulk d + 1
  | .map entries => uptoBulkEntries entries + 1
  | .held _ => 1
def uptoBulkAll {H : Type} : List (DataW H) → Nat
  | [] => 0
  | d :: r => uptoBulk d + uptoBulkAll r
def uptoBulkEntries {H : Type} : List (Lit × DataW H) → Nat
  | [] => 0
  | x :: r => uptoBulkEntry x + uptoBulkEntries r
def uptoBulkEntry {H : Type} : Lit × DataW H → Nat
  | (.string bytes, d) => bytes.length + uptoBulk d + 1
  | (_, d) => uptoBulk d + 1
 end
def uptoSmall : (H : Type) → List (DataW H) → Bool := fun _ ds => decide (uptoBulkAll ds ≤ 1048576)
def OpenSpec.upto (s : _root_.Go.ChangeSpec) : _root_.Go.OpenSpec := { _root_.Go.OpenSpec.ofChange s with cond := some uptoSmall }

/-- 'allotmentlaw15.LinkDoor', WHERE WHAT IT READS IS OF BULK AT MOST 1048576: true; the input reads as it did. -/
def linkDoorUptoRow : OpenClaim := { program := "ytipijkpjmpejlaa", sum := "c2e34b63621ac9338a8367dee46c4ca104d78bf5f357004512df1a4df55e1b09", func := "allotment/allotmentlaw15.LinkDoor", spec := "linkDoor", loops := true, apart := false, narrowed := true }
def LinkDoorUptoSaid : Prop := linkDoorUptoRow.holds Try.pinned (OpenSpec.upto linkDoorSpec)

/-- 'allotmentlaw01.DiskCuts', WHERE WHAT IT READS IS OF BULK AT MOST 1048576: true; the input reads as it did. -/
def diskCutsUptoRow : OpenClaim := { program := "ytipijkpjmpejlaa", sum := "c2e34b63621ac9338a8367dee46c4ca104d78bf5f357004512df1a4df55e1b09", func := "allotment/allotmentlaw01.DiskCuts", spec := "diskCuts", unfollowed := true, recurses := true, apart := false, narrowed := true }
def DiskCutsUptoSaid : Prop := diskCutsUptoRow.holds Try.pinned (OpenSpec.upto diskCutsSpec)

/-- 'allotmentlaw01.DiskLast', WHERE WHAT IT READS IS OF BULK AT MOST 1048576: true; the input reads as it did. -/
def diskLastUptoRow : OpenClaim := { program := "ytipijkpjmpejlaa", sum := "c2e34b63621ac9338a8367dee46c4ca104d78bf5f357004512df1a4df55e1b09", func := "allotment/allotmentlaw01.DiskLast", spec := "diskLast", unfollowed := true, recurses := true, apart := false, narrowed := true }
def DiskLastUptoSaid : Prop := diskLastUptoRow.holds Try.pinned (OpenSpec.upto diskLastSpec)

/-- 'allotmentlaw01.DiskPlays', WHERE WHAT IT READS IS OF BULK AT MOST 1048576: true; the input reads as it did. -/
def diskPlaysUptoRow : OpenClaim := { program := "ytipijkpjmpejlaa", sum := "c2e34b63621ac9338a8367dee46c4ca104d78bf5f357004512df1a4df55e1b09", func := "allotment/allotmentlaw01.DiskPlays", spec := "diskPlays", unfollowed := true, recurses := true, apart := false, narrowed := true }
def DiskPlaysUptoSaid : Prop := diskPlaysUptoRow.holds Try.pinned (OpenSpec.upto diskPlaysSpec)

/-- 'allotmentlaw01.DiskNil', WHERE WHAT IT READS IS OF BULK AT MOST 1048576: true; the input reads as it did. -/
def diskNilUptoRow : OpenClaim := { program := "ytipijkpjmpejlaa", sum := "c2e34b63621ac9338a8367dee46c4ca104d78bf5f357004512df1a4df55e1b09", func := "allotment/allotmentlaw01.DiskNil", spec := "diskNil", unfollowed := true, recurses := true, apart := false, narrowed := true }
def DiskNilUptoSaid : Prop := diskNilUptoRow.holds Try.pinned (OpenSpec.upto diskNilSpec)

/-- 'allotmentlaw02.NetFull', WHERE WHAT IT READS IS OF BULK AT MOST 1048576: true; the input reads as it did. -/
def netFullUptoRow : OpenClaim := { program := "ytipijkpjmpejlaa", sum := "c2e34b63621ac9338a8367dee46c4ca104d78bf5f357004512df1a4df55e1b09", func := "allotment/allotmentlaw02.NetFull", spec := "netFull", unfollowed := true, recurses := true, apart := false, narrowed := true }
def NetFullUptoSaid : Prop := netFullUptoRow.holds Try.pinned (OpenSpec.upto netFullSpec)

/-- 'allotmentlaw02.NetOrder', WHERE WHAT IT READS IS OF BULK AT MOST 1048576: true; the input reads as it did. -/
def netOrderUptoRow : OpenClaim := { program := "ytipijkpjmpejlaa", sum := "c2e34b63621ac9338a8367dee46c4ca104d78bf5f357004512df1a4df55e1b09", func := "allotment/allotmentlaw02.NetOrder", spec := "netOrder", unfollowed := true, recurses := true, apart := false, narrowed := true }
def NetOrderUptoSaid : Prop := netOrderUptoRow.holds Try.pinned (OpenSpec.upto netOrderSpec)

/-- 'allotmentlaw02.NetPlays', WHERE WHAT IT READS IS OF BULK AT MOST 1048576: true; the input reads as it did. -/
def netPlaysUptoRow : OpenClaim := { program := "ytipijkpjmpejlaa", sum := "c2e34b63621ac9338a8367dee46c4ca104d78bf5f357004512df1a4df55e1b09", func := "allotment/allotmentlaw02.NetPlays", spec := "netPlays", unfollowed := true, recurses := true, loops := true, apart := false, narrowed := true }
def NetPlaysUptoSaid : Prop := netPlaysUptoRow.holds Try.pinned (OpenSpec.upto netPlaysSpec)

/-- 'allotmentlaw17.PagesAgain', WHERE WHAT IT READS IS OF BULK AT MOST 1048576: true; the input reads as it did. -/
def pagesAgainUptoRow : OpenClaim := { program := "ytipijkpjmpejlaa", sum := "c2e34b63621ac9338a8367dee46c4ca104d78bf5f357004512df1a4df55e1b09", func := "allotment/allotmentlaw17.PagesAgain", spec := "pagesAgain", unfollowed := true, recurses := true, apart := false, narrowed := true }
def PagesAgainUptoSaid : Prop := pagesAgainUptoRow.holds Try.pinned (OpenSpec.upto pagesAgainSpec)

/-- 'allotmentlaw17.PagesWhole', WHERE WHAT IT READS IS OF BULK AT MOST 1048576: true; the input reads as it did. -/
def pagesWholeUptoRow : OpenClaim := { program := "ytipijkpjmpejlaa", sum := "c2e34b63621ac9338a8367dee46c4ca104d78bf5f357004512df1a4df55e1b09", func := "allotment/allotmentlaw17.PagesWhole", spec := "pagesWhole", unfollowed := true, recurses := true, apart := false, narrowed := true }
def PagesWholeUptoSaid : Prop := pagesWholeUptoRow.holds Try.pinned (OpenSpec.upto pagesWholeSpec)

/-- 'allotmentlaw17.PagesNil', WHERE WHAT IT READS IS OF BULK AT MOST 1048576: true; the input reads as it did. -/
def pagesNilUptoRow : OpenClaim := { program := "ytipijkpjmpejlaa", sum := "c2e34b63621ac9338a8367dee46c4ca104d78bf5f357004512df1a4df55e1b09", func := "allotment/allotmentlaw17.PagesNil", spec := "pagesNil", unfollowed := true, recurses := true, apart := false, narrowed := true }
def PagesNilUptoSaid : Prop := pagesNilUptoRow.holds Try.pinned (OpenSpec.upto pagesNilSpec)

/-- 'allotmentlaw17.PagesPlay', WHERE WHAT IT READS IS OF BULK AT MOST 1048576: true; the input reads as it did. -/
def pagesPlayUptoRow : OpenClaim := { program := "ytipijkpjmpejlaa", sum := "c2e34b63621ac9338a8367dee46c4ca104d78bf5f357004512df1a4df55e1b09", func := "allotment/allotmentlaw17.PagesPlay", spec := "pagesPlay", unfollowed := true, recurses := true, apart := false, narrowed := true }
def PagesPlayUptoSaid : Prop := pagesPlayUptoRow.holds Try.pinned (OpenSpec.upto pagesPlaySpec)

end Rows
end Go.Proofs.Ytipijkpjmpejlaa
