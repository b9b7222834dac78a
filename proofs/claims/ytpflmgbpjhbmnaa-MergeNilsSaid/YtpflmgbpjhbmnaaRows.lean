/-
  No cell of these rows narrows 'for every input' (looked for: loops, veiled, ifaces, maps, wideKeys, modest, calm, conditions, laid).
  DERIVED. THE GIVEN ROWS OF THIS SEAT. 6 by the template 'for every input the law returns true; each argument reads behind the call as it read before'; 0 by the template 'total and deterministic' (their statements: YtpflmgbpjhbmnaaTotals.lean).
  GIVEN WITH THE SEED: the statements are not yours to turn. If you find one false, say at which input.
  Laid BY PROGRAM, IN A SANDBOX (cutbox-rows.mjs): the forced cells as the released guide's own fill.sh prints them over the translation 636a7586914942bb… (all of the seat's roots in one cut). By AI agents, Wed Nov 11 2026. No macro, syntax, notation, axiom, sorry.
-/
import Derived.Test.YtpflmgbpjhbmnaaChecked
import GoSem.Claim
import GoSem.ClaimJoined
import GoSem.ClaimMapViews
import Derived.JoinedTies
import Derived.KernelRfl
namespace Go.Proofs.Ytpflmgbpjhbmnaa
/- THE CELL 'sum', in the pinned program and in every row, IS THE sha256 OF THE DUMP (.gsa) THAT YtpflmgbpjhbmnaaProg.lean LOADS. Nothing in Lean hashes anything: it is a label: what it is worth is what the hold of that sum in a sandbox is worth. -/
noncomputable def Try.pinned : Pinned := { name := "ytpflmgbpjhbmnaa", sum := "636a7586914942bb78753e9a4b98d2f7285a79ae1f2c96c61af1285eadcbe9c8", checked := Try.checked }
namespace Rows
def none {H : Type} : Left H := { results := [], args := [] }

/-- 'runnellaw10.SeekFinds': WHATEVER THE INPUT: true; the input reads as it did. -/
def seekFindsSpec : ChangeSpec := { name := "seekFinds", fn := fun _ => fun
  | [d1, d2, d3] => { results := [.lit (.bool true)], args := [d1, d2, d3] }
  | _ => none }
def seekFindsRow : OpenClaim := { program := "ytpflmgbpjhbmnaa", sum := "636a7586914942bb78753e9a4b98d2f7285a79ae1f2c96c61af1285eadcbe9c8", func := "runnel/runnellaw10.SeekFinds", spec := "seekFinds", unfollowed := true, recurses := true, apart := false }
def SeekFindsSaid : Prop := seekFindsRow.holds Try.pinned (OpenSpec.ofChange seekFindsSpec)

/-- ITS FALSE NEIGHBOUR: 'it returns false'. Refute it at one input. -/
def seekFindsWrong : ChangeSpec := { name := "seekFinds", fn := fun _ => fun
  | [d1, d2, d3] => { results := [.lit (.bool false)], args := [d1, d2, d3] }
  | _ => none }
def SeekFindsWrongFalsely : Prop := seekFindsRow.holds Try.pinned (OpenSpec.ofChange seekFindsWrong)

/-- 'runnellaw09.BatchBounds': WHATEVER THE INPUT: true; the input reads as it did. -/
def batchBoundsSpec : ChangeSpec := { name := "batchBounds", fn := fun _ => fun
  | [d1, d2, d3] => { results := [.lit (.bool true)], args := [d1, d2, d3] }
  | _ => none }
def batchBoundsRow : OpenClaim := { program := "ytpflmgbpjhbmnaa", sum := "636a7586914942bb78753e9a4b98d2f7285a79ae1f2c96c61af1285eadcbe9c8", func := "runnel/runnellaw09.BatchBounds", spec := "batchBounds", unfollowed := true, recurses := true, apart := false }
def BatchBoundsSaid : Prop := batchBoundsRow.holds Try.pinned (OpenSpec.ofChange batchBoundsSpec)

/-- ITS FALSE NEIGHBOUR: 'it returns false'. Refute it at one input. -/
def batchBoundsWrong : ChangeSpec := { name := "batchBounds", fn := fun _ => fun
  | [d1, d2, d3] => { results := [.lit (.bool false)], args := [d1, d2, d3] }
  | _ => none }
def BatchBoundsWrongFalsely : Prop := batchBoundsRow.holds Try.pinned (OpenSpec.ofChange batchBoundsWrong)

/-- 'runnellaw09.BatchOwn': WHATEVER THE INPUT: true; the input reads as it did. -/
def batchOwnSpec : ChangeSpec := { name := "batchOwn", fn := fun _ => fun
  | [d1, d2, d3] => { results := [.lit (.bool true)], args := [d1, d2, d3] }
  | _ => none }
def batchOwnRow : OpenClaim := { program := "ytpflmgbpjhbmnaa", sum := "636a7586914942bb78753e9a4b98d2f7285a79ae1f2c96c61af1285eadcbe9c8", func := "runnel/runnellaw09.BatchOwn", spec := "batchOwn", unfollowed := true, recurses := true, apart := false }
def BatchOwnSaid : Prop := batchOwnRow.holds Try.pinned (OpenSpec.ofChange batchOwnSpec)

/-- ITS FALSE NEIGHBOUR: 'it returns false'. Refute it at one input. -/
def batchOwnWrong : ChangeSpec := { name := "batchOwn", fn := fun _ => fun
  | [d1, d2, d3] => { results := [.lit (.bool false)], args := [d1, d2, d3] }
  | _ => none }
def BatchOwnWrongFalsely : Prop := batchOwnRow.holds Try.pinned (OpenSpec.ofChange batchOwnWrong)

/-- 'runnellaw13.TraceMany': WHATEVER THE INPUT: true; the input reads as it did. -/
def traceManySpec : ChangeSpec := { name := "traceMany", fn := fun _ => fun
  | [d] => { results := [.lit (.bool true)], args := [d] }
  | _ => none }
def traceManyRow : OpenClaim := { program := "ytpflmgbpjhbmnaa", sum := "636a7586914942bb78753e9a4b98d2f7285a79ae1f2c96c61af1285eadcbe9c8", func := "runnel/runnellaw13.TraceMany", spec := "traceMany", unfollowed := true, recurses := true, apart := false }
def TraceManySaid : Prop := traceManyRow.holds Try.pinned (OpenSpec.ofChange traceManySpec)

/-- ITS FALSE NEIGHBOUR: 'it returns false'. Refute it at one input. -/
def traceManyWrong : ChangeSpec := { name := "traceMany", fn := fun _ => fun
  | [d] => { results := [.lit (.bool false)], args := [d] }
  | _ => none }
def TraceManyWrongFalsely : Prop := traceManyRow.holds Try.pinned (OpenSpec.ofChange traceManyWrong)

/-- 'runnellaw10.SeekNils': WHATEVER THE INPUT: true; the input reads as it did. -/
def seekNilsSpec : ChangeSpec := { name := "seekNils", fn := fun _ => fun
  | [d1, d2, d3] => { results := [.lit (.bool true)], args := [d1, d2, d3] }
  | _ => none }
def seekNilsRow : OpenClaim := { program := "ytpflmgbpjhbmnaa", sum := "636a7586914942bb78753e9a4b98d2f7285a79ae1f2c96c61af1285eadcbe9c8", func := "runnel/runnellaw10.SeekNils", spec := "seekNils", unfollowed := true, recurses := true, apart := false }
def SeekNilsSaid : Prop := seekNilsRow.holds Try.pinned (OpenSpec.ofChange seekNilsSpec)

/-- ITS FALSE NEIGHBOUR: 'it returns false'. Refute it at one input. -/
def seekNilsWrong : ChangeSpec := { name := "seekNils", fn := fun _ => fun
  | [d1, d2, d3] => { results := [.lit (.bool false)], args := [d1, d2, d3] }
  | _ => none }
def SeekNilsWrongFalsely : Prop := seekNilsRow.holds Try.pinned (OpenSpec.ofChange seekNilsWrong)

/-- 'runnellaw11.MergeNils': WHATEVER THE INPUT: true; the input reads as it did. -/
def mergeNilsSpec : ChangeSpec := { name := "mergeNils", fn := fun _ => fun
  | [d1, d2, d3] => { results := [.lit (.bool true)], args := [d1, d2, d3] }
  | _ => none }
def mergeNilsRow : OpenClaim := { program := "ytpflmgbpjhbmnaa", sum := "636a7586914942bb78753e9a4b98d2f7285a79ae1f2c96c61af1285eadcbe9c8", func := "runnel/runnellaw11.MergeNils", spec := "mergeNils", unfollowed := true, recurses := true, apart := false }
def MergeNilsSaid : Prop := mergeNilsRow.holds Try.pinned (OpenSpec.ofChange mergeNilsSpec)

/-- ITS FALSE NEIGHBOUR: 'it returns false'. Refute it at one input. -/
def mergeNilsWrong : ChangeSpec := { name := "mergeNils", fn := fun _ => fun
  | [d1, d2, d3] => { results := [.lit (.bool false)], args := [d1, d2, d3] }
  | _ => none }
def MergeNilsWrongFalsely : Prop := mergeNilsRow.holds Try.pinned (OpenSpec.ofChange mergeNilsWrong)

/- THE SECOND FORM. 'bulk': how many values and letters a reading holds, each counted each time it is reached (what is shared counts as often as it is met; a slice's spare places count too). A statement '..UptoSaid' is the law's where the arguments, and the package variables that the reading takes, are together of bulk at most 1048576: NARROWER than '..Said'. Prove '..Said' where nothing that the law and all that it calls make is longer than what came in: it says more and counts as full. Else prove '..UptoSaid'. A law counts once. -/
mutual
def uptoBulk {H : Type} : DataW H → Nat
  | .lit (.string bytes) => bytes.length + 1
  | .lit _ => 1
  | .nil => 1
  | .ptr d => uptoBulk d + 1
  | .slice elems spare => uptoBulkAll elems + uptoBulkAll spare + 1
  | .agg parts => uptoBulkAll parts + 1
  | .iface _ d => uptoBulk d + 1
  | .map entries => uptoBulkEntries entries + 1
  | .held _ => 1
def uptoBulkAll {H : Type} : List (DataW H) → Nat
  | [] => 0
  | d :: r => uptoBulk d + uptoBulkAll r
def uptoBulkEntries {H : Type} : List (Lit × DataW H) → Nat
  | [] => 0
  | x :: r => uptoBulkEntry x + uptoBulkEntries r
def uptoBulkEntry {H : Type} : Lit × DataW H → Nat
  | (.string bytes, d) => bytes.length + uptoBulk d + 1
  | (_, d) => uptoBulk d + 1
 end
def uptoSmall : (H : Type) → List (DataW H) → Bool := fun _ ds => decide (uptoBulkAll ds ≤ 1048576)
def OpenSpec.upto (s : _root_.Go.ChangeSpec) : _root_.Go.OpenSpec := { _root_.Go.OpenSpec.ofChange s with cond := some uptoSmall }

/-- 'runnellaw10.SeekFinds', WHERE WHAT IT READS IS OF BULK AT MOST 1048576: true; the input reads as it did. -/
def seekFindsUptoRow : OpenClaim := { program := "ytpflmgbpjhbmnaa", sum := "636a7586914942bb78753e9a4b98d2f7285a79ae1f2c96c61af1285eadcbe9c8", func := "runnel/runnellaw10.SeekFinds", spec := "seekFinds", unfollowed := true, recurses := true, apart := false, narrowed := true }
def SeekFindsUptoSaid : Prop := seekFindsUptoRow.holds Try.pinned (OpenSpec.upto seekFindsSpec)

/-- 'runnellaw09.BatchBounds', WHERE WHAT IT READS IS OF BULK AT MOST 1048576: true; the input reads as it did. -/
def batchBoundsUptoRow : OpenClaim := { program := "ytpflmgbpjhbmnaa", sum := "636a7586914942bb78753e9a4b98d2f7285a79ae1f2c96c61af1285eadcbe9c8", func := "runnel/runnellaw09.BatchBounds", spec := "batchBounds", unfollowed := true, recurses := true, apart := false, narrowed := true }
def BatchBoundsUptoSaid : Prop := batchBoundsUptoRow.holds Try.pinned (OpenSpec.upto batchBoundsSpec)

/-- 'runnellaw09.BatchOwn', WHERE WHAT IT READS IS OF BULK AT MOST 1048576: true; the input reads as it did. -/
def batchOwnUptoRow : OpenClaim := { program := "ytpflmgbpjhbmnaa", sum := "636a7586914942bb78753e9a4b98d2f7285a79ae1f2c96c61af1285eadcbe9c8", func := "runnel/runnellaw09.BatchOwn", spec := "batchOwn", unfollowed := true, recurses := true, apart := false, narrowed := true }
def BatchOwnUptoSaid : Prop := batchOwnUptoRow.holds Try.pinned (OpenSpec.upto batchOwnSpec)

/-- 'runnellaw13.TraceMany', WHERE WHAT IT READS IS OF BULK AT MOST 1048576: true; the input reads as it did. -/
def traceManyUptoRow : OpenClaim := { program := "ytpflmgbpjhbmnaa", sum := "636a7586914942bb78753e9a4b98d2f7285a79ae1f2c96c61af1285eadcbe9c8", func := "runnel/runnellaw13.TraceMany", spec := "traceMany", unfollowed := true, recurses := true, apart := false, narrowed := true }
def TraceManyUptoSaid : Prop := traceManyUptoRow.holds Try.pinned (OpenSpec.upto traceManySpec)

/-- 'runnellaw10.SeekNils', WHERE WHAT IT READS IS OF BULK AT MOST 1048576: true; the input reads as it did. -/
def seekNilsUptoRow : OpenClaim := { program := "ytpflmgbpjhbmnaa", sum := "636a7586914942bb78753e9a4b98d2f7285a79ae1f2c96c61af1285eadcbe9c8", func := "runnel/runnellaw10.SeekNils", spec := "seekNils", unfollowed := true, recurses := true, apart := false, narrowed := true }
def SeekNilsUptoSaid : Prop := seekNilsUptoRow.holds Try.pinned (OpenSpec.upto seekNilsSpec)

/-- 'runnellaw11.MergeNils', WHERE WHAT IT READS IS OF BULK AT MOST 1048576: true; the input reads as it did. -/
def mergeNilsUptoRow : OpenClaim := { program := "ytpflmgbpjhbmnaa", sum := "636a7586914942bb78753e9a4b98d2f7285a79ae1f2c96c61af1285eadcbe9c8", func := "runnel/runnellaw11.MergeNils", spec := "mergeNils", unfollowed := true, recurses := true, apart := false, narrowed := true }
def MergeNilsUptoSaid : Prop := mergeNilsUptoRow.holds Try.pinned (OpenSpec.upto mergeNilsSpec)

end Rows
end Go.Proofs.Ytpflmgbpjhbmnaa
