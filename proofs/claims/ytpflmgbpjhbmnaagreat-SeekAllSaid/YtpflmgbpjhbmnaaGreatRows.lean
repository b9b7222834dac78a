/-
  No cell of these rows narrows 'for every input' (looked for: loops, veiled, ifaces, maps, wideKeys, modest, calm, conditions, laid).
  DERIVED. THE GIVEN ROWS OF THIS SEAT. 4 by the template 'for every input the law returns true; each argument reads behind the call as it read before'; 0 by the template 'total and deterministic' (their statements: YtpflmgbpjhbmnaaGreatTotals.lean).
  GIVEN WITH THE SEED: the statements are not yours to turn. If you find one false, say at which input.
  Laid BY PROGRAM, IN A SANDBOX (cutbox-rows.mjs): the forced cells as the released guide's own fill.sh prints them over the translation ac64df533a346574… (all of the seat's roots in one cut). By AI agents, Wed Nov 11 2026. No macro, syntax, notation, axiom, sorry.
-/
import Derived.Test.YtpflmgbpjhbmnaaGreatChecked
import GoSem.Claim
import GoSem.ClaimJoined
import GoSem.ClaimMapViews
import Derived.JoinedTies
import Derived.KernelRfl
namespace Go.Proofs.YtpflmgbpjhbmnaaGreat
/- THE CELL 'sum', in the pinned program and in every row, IS THE sha256 OF THE DUMP (.gsa) THAT YtpflmgbpjhbmnaaGreatProg.lean LOADS. Nothing in Lean hashes anything: it is a label: what it is worth is what the hold of that sum in a sandbox is worth. -/
noncomputable def Tryz.pinned : Pinned := { name := "ytpflmgbpjhbmnaagreat", sum := "ac64df533a3465740d22cf4db4f16a41bd55e8dfbbd9c14d0ddc05a42472ac47", checked := Tryz.checked }
namespace Rows
def none {H : Type} : Left H := { results := [], args := [] }

/-- 'runnellaw09.BatchMakes': WHATEVER THE INPUT: true; the input reads as it did. -/
def batchMakesSpec : ChangeSpec := { name := "batchMakes", fn := fun _ => fun
  | [d1, d2, d3] => { results := [.lit (.bool true)], args := [d1, d2, d3] }
  | _ => none }
def batchMakesRow : OpenClaim := { program := "ytpflmgbpjhbmnaagreat", sum := "ac64df533a3465740d22cf4db4f16a41bd55e8dfbbd9c14d0ddc05a42472ac47", func := "runnel/runnellaw09.BatchMakes", spec := "batchMakes", unfollowed := true, recurses := true, apart := false }
def BatchMakesSaid : Prop := batchMakesRow.holds Tryz.pinned (OpenSpec.ofChange batchMakesSpec)

/-- ITS FALSE NEIGHBOUR: 'it returns false'. Refute it at one input. -/
def batchMakesWrong : ChangeSpec := { name := "batchMakes", fn := fun _ => fun
  | [d1, d2, d3] => { results := [.lit (.bool false)], args := [d1, d2, d3] }
  | _ => none }
def BatchMakesWrongFalsely : Prop := batchMakesRow.holds Tryz.pinned (OpenSpec.ofChange batchMakesWrong)

/-- 'runnellaw10.SeekAll': WHATEVER THE INPUT: true; the input reads as it did. -/
def seekAllSpec : ChangeSpec := { name := "seekAll", fn := fun _ => fun
  | [d1, d2] => { results := [.lit (.bool true)], args := [d1, d2] }
  | _ => none }
def seekAllRow : OpenClaim := { program := "ytpflmgbpjhbmnaagreat", sum := "ac64df533a3465740d22cf4db4f16a41bd55e8dfbbd9c14d0ddc05a42472ac47", func := "runnel/runnellaw10.SeekAll", spec := "seekAll", unfollowed := true, recurses := true, apart := false }
def SeekAllSaid : Prop := seekAllRow.holds Tryz.pinned (OpenSpec.ofChange seekAllSpec)

/-- ITS FALSE NEIGHBOUR: 'it returns false'. Refute it at one input. -/
def seekAllWrong : ChangeSpec := { name := "seekAll", fn := fun _ => fun
  | [d1, d2] => { results := [.lit (.bool false)], args := [d1, d2] }
  | _ => none }
def SeekAllWrongFalsely : Prop := seekAllRow.holds Tryz.pinned (OpenSpec.ofChange seekAllWrong)

/-- 'runnellaw10.SeekPlays': WHATEVER THE INPUT: true; the input reads as it did. -/
def seekPlaysSpec : ChangeSpec := { name := "seekPlays", fn := fun _ => fun
  | [d1, d2, d3] => { results := [.lit (.bool true)], args := [d1, d2, d3] }
  | _ => none }
def seekPlaysRow : OpenClaim := { program := "ytpflmgbpjhbmnaagreat", sum := "ac64df533a3465740d22cf4db4f16a41bd55e8dfbbd9c14d0ddc05a42472ac47", func := "runnel/runnellaw10.SeekPlays", spec := "seekPlays", unfollowed := true, recurses := true, apart := false }
def SeekPlaysSaid : Prop := seekPlaysRow.holds Tryz.pinned (OpenSpec.ofChange seekPlaysSpec)

/-- ITS FALSE NEIGHBOUR: 'it returns false'. Refute it at one input. -/
def seekPlaysWrong : ChangeSpec := { name := "seekPlays", fn := fun _ => fun
  | [d1, d2, d3] => { results := [.lit (.bool false)], args := [d1, d2, d3] }
  | _ => none }
def SeekPlaysWrongFalsely : Prop := seekPlaysRow.holds Tryz.pinned (OpenSpec.ofChange seekPlaysWrong)

/-- 'runnellaw11.MergeOnce': WHATEVER THE INPUT: true; the input reads as it did. -/
def mergeOnceSpec : ChangeSpec := { name := "mergeOnce", fn := fun _ => fun
  | [d1, d2, d3, d4, d5] => { results := [.lit (.bool true)], args := [d1, d2, d3, d4, d5] }
  | _ => none }
def mergeOnceRow : OpenClaim := { program := "ytpflmgbpjhbmnaagreat", sum := "ac64df533a3465740d22cf4db4f16a41bd55e8dfbbd9c14d0ddc05a42472ac47", func := "runnel/runnellaw11.MergeOnce", spec := "mergeOnce", unfollowed := true, recurses := true, apart := false }
def MergeOnceSaid : Prop := mergeOnceRow.holds Tryz.pinned (OpenSpec.ofChange mergeOnceSpec)

/-- ITS FALSE NEIGHBOUR: 'it returns false'. Refute it at one input. -/
def mergeOnceWrong : ChangeSpec := { name := "mergeOnce", fn := fun _ => fun
  | [d1, d2, d3, d4, d5] => { results := [.lit (.bool false)], args := [d1, d2, d3, d4, d5] }
  | _ => none }
def MergeOnceWrongFalsely : Prop := mergeOnceRow.holds Tryz.pinned (OpenSpec.ofChange mergeOnceWrong)

/- THE SECOND FORM. 'bulk': how many values and letters a reading holds, each counted each time it is reached (what is shared counts as often as it is met; a slice's spare places count too). A statement '..UptoSaid' is the law's where the arguments, and the package variables that the reading takes, are together of bulk at most 1048576: NARROWER than '..Said'. Prove '..Said' where nothing that the law and all that it calls make is longer than what came in: it says more and counts as full. Else prove '..UptoSaid'. A law counts once. -/
mutual
def uptoBulk {H : Type} : DataW H → Nat
  | .lit (.string bytes) => bytes.length + 1
  | .lit _ => 1
  | .nil => 1
  | .ptr d => uptoBulk d + 1
  | .slice elems spare => uptoBulkAll elems + uptoBulkAll spare + 1
  | .agg parts => uptoBulkAll parts + 1
  | .iface _ d => uptoBulk d + 1
  | .map entries => uptoBulkEntries entries + 1
  | .held _ => 1
def uptoBulkAll {H : Type} : List (DataW H) → Nat
  | [] => 0
  | d :: r => uptoBulk d + uptoBulkAll r
def uptoBulkEntries {H : Type} : List (Lit × DataW H) → Nat
  | [] => 0
  | x :: r => uptoBulkEntry x + uptoBulkEntries r
def uptoBulkEntry {H : Type} : Lit × DataW H → Nat
  | (.string bytes, d) => bytes.length + uptoBulk d + 1
  | (_, d) => uptoBulk d + 1
 end
def uptoSmall : (H : Type) → List (DataW H) → Bool := fun _ ds => decide (uptoBulkAll ds ≤ 1048576)
def OpenSpec.upto (s : _root_.Go.ChangeSpec) : _root_.Go.OpenSpec := { _root_.Go.OpenSpec.ofChange s with cond := some uptoSmall }

/-- 'runnellaw09.BatchMakes', WHERE WHAT IT READS IS OF BULK AT MOST 1048576: true; the input reads as it did. -/
def batchMakesUptoRow : OpenClaim := { program := "ytpflmgbpjhbmnaagreat", sum := "ac64df533a3465740d22cf4db4f16a41bd55e8dfbbd9c14d0ddc05a42472ac47", func := "runnel/runnellaw09.BatchMakes", spec := "batchMakes", unfollowed := true, recurses := true, apart := false, narrowed := true }
def BatchMakesUptoSaid : Prop := batchMakesUptoRow.holds Tryz.pinned (OpenSpec.upto batchMakesSpec)

/-- 'runnellaw10.SeekAll', WHERE WHAT IT READS IS OF BULK AT MOST 1048576: true; the input reads as it did. -/
def seekAllUptoRow : OpenClaim := { program := "ytpflmgbpjhbmnaagreat", sum := "ac64df533a3465740d22cf4db4f16a41bd55e8dfbbd9c14d0ddc05a42472ac47", func := "runnel/runnellaw10.SeekAll", spec := "seekAll", unfollowed := true, recurses := true, apart := false, narrowed := true }
def SeekAllUptoSaid : Prop := seekAllUptoRow.holds Tryz.pinned (OpenSpec.upto seekAllSpec)

/-- 'runnellaw10.SeekPlays', WHERE WHAT IT READS IS OF BULK AT MOST 1048576: true; the input reads as it did. -/
def seekPlaysUptoRow : OpenClaim := { program := "ytpflmgbpjhbmnaagreat", sum := "ac64df533a3465740d22cf4db4f16a41bd55e8dfbbd9c14d0ddc05a42472ac47", func := "runnel/runnellaw10.SeekPlays", spec := "seekPlays", unfollowed := true, recurses := true, apart := false, narrowed := true }
def SeekPlaysUptoSaid : Prop := seekPlaysUptoRow.holds Tryz.pinned (OpenSpec.upto seekPlaysSpec)

/-- 'runnellaw11.MergeOnce', WHERE WHAT IT READS IS OF BULK AT MOST 1048576: true; the input reads as it did. -/
def mergeOnceUptoRow : OpenClaim := { program := "ytpflmgbpjhbmnaagreat", sum := "ac64df533a3465740d22cf4db4f16a41bd55e8dfbbd9c14d0ddc05a42472ac47", func := "runnel/runnellaw11.MergeOnce", spec := "mergeOnce", unfollowed := true, recurses := true, apart := false, narrowed := true }
def MergeOnceUptoSaid : Prop := mergeOnceUptoRow.holds Tryz.pinned (OpenSpec.upto mergeOnceSpec)

end Rows
end Go.Proofs.YtpflmgbpjhbmnaaGreat
