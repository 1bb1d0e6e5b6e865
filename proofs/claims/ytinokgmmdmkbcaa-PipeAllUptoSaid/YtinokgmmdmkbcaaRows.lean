/-
  No cell of these rows narrows 'for every input' (looked for: loops, veiled, ifaces, maps, wideKeys, modest, calm, conditions, laid).
  DERIVED. THE GIVEN ROWS OF THIS SEAT. 4 by the template 'for every input the law returns true; each argument reads behind the call as it read before'; 0 by the template 'total and deterministic' (their statements: YtinokgmmdmkbcaaTotals.lean).
  GIVEN WITH THE SEED: the statements are not yours to turn. If you find one false, say at which input.
  Laid BY PROGRAM, IN A SANDBOX (cutbox-rows.mjs): the forced cells as the released guide's own fill.sh prints them over the translation e9f4d6a6d53800fe… (all of the seat's roots in one cut). By AI agents, Wed Nov 11 2026. No macro, syntax, notation, axiom, sorry.
-/
import Derived.Test.YtinokgmmdmkbcaaChecked
import GoSem.Claim
import GoSem.ClaimJoined
import GoSem.ClaimMapViews
import Derived.JoinedTies
import Derived.KernelRfl
namespace Go.Proofs.Ytinokgmmdmkbcaa
/- THE CELL 'sum', in the pinned program and in every row, IS THE sha256 OF THE DUMP (.gsa) THAT YtinokgmmdmkbcaaProg.lean LOADS. Nothing in Lean hashes anything: it is a label: what it is worth is what the hold of that sum in a sandbox is worth. -/
noncomputable def Try.pinned : Pinned := { name := "ytinokgmmdmkbcaa", sum := "e9f4d6a6d53800fe99319a673888a79f4ab1e71ef38e6ede2f6304fd652dfc08", checked := Try.checked }
namespace Rows
def none {H : Type} : Left H := { results := [], args := [] }

/-- 'isthmuslaw20.PipeChunks': WHATEVER THE INPUT: true; the input reads as it did. -/
def pipeChunksSpec : ChangeSpec := { name := "pipeChunks", fn := fun _ => fun
  | [d1, d2, d3] => { results := [.lit (.bool true)], args := [d1, d2, d3] }
  | _ => none }
def pipeChunksRow : OpenClaim := { program := "ytinokgmmdmkbcaa", sum := "e9f4d6a6d53800fe99319a673888a79f4ab1e71ef38e6ede2f6304fd652dfc08", func := "isthmus/isthmuslaw20.PipeChunks", spec := "pipeChunks", unfollowed := true, recurses := true, apart := false }
def PipeChunksSaid : Prop := pipeChunksRow.holds Try.pinned (OpenSpec.ofChange pipeChunksSpec)

/-- ITS FALSE NEIGHBOUR: 'it returns false'. Refute it at one input. -/
def pipeChunksWrong : ChangeSpec := { name := "pipeChunks", fn := fun _ => fun
  | [d1, d2, d3] => { results := [.lit (.bool false)], args := [d1, d2, d3] }
  | _ => none }
def PipeChunksWrongFalsely : Prop := pipeChunksRow.holds Try.pinned (OpenSpec.ofChange pipeChunksWrong)

/-- 'isthmuslaw20.PipeWhole': WHATEVER THE INPUT: true; the input reads as it did. -/
def pipeWholeSpec : ChangeSpec := { name := "pipeWhole", fn := fun _ => fun
  | [d1, d2] => { results := [.lit (.bool true)], args := [d1, d2] }
  | _ => none }
def pipeWholeRow : OpenClaim := { program := "ytinokgmmdmkbcaa", sum := "e9f4d6a6d53800fe99319a673888a79f4ab1e71ef38e6ede2f6304fd652dfc08", func := "isthmus/isthmuslaw20.PipeWhole", spec := "pipeWhole", unfollowed := true, recurses := true, apart := false }
def PipeWholeSaid : Prop := pipeWholeRow.holds Try.pinned (OpenSpec.ofChange pipeWholeSpec)

/-- ITS FALSE NEIGHBOUR: 'it returns false'. Refute it at one input. -/
def pipeWholeWrong : ChangeSpec := { name := "pipeWhole", fn := fun _ => fun
  | [d1, d2] => { results := [.lit (.bool false)], args := [d1, d2] }
  | _ => none }
def PipeWholeWrongFalsely : Prop := pipeWholeRow.holds Try.pinned (OpenSpec.ofChange pipeWholeWrong)

/-- 'isthmuslaw20.PipeAll': WHATEVER THE INPUT: true; the input reads as it did. -/
def pipeAllSpec : ChangeSpec := { name := "pipeAll", fn := fun _ => fun
  | [d] => { results := [.lit (.bool true)], args := [d] }
  | _ => none }
def pipeAllRow : OpenClaim := { program := "ytinokgmmdmkbcaa", sum := "e9f4d6a6d53800fe99319a673888a79f4ab1e71ef38e6ede2f6304fd652dfc08", func := "isthmus/isthmuslaw20.PipeAll", spec := "pipeAll", unfollowed := true, recurses := true, apart := false }
def PipeAllSaid : Prop := pipeAllRow.holds Try.pinned (OpenSpec.ofChange pipeAllSpec)

/-- ITS FALSE NEIGHBOUR: 'it returns false'. Refute it at one input. -/
def pipeAllWrong : ChangeSpec := { name := "pipeAll", fn := fun _ => fun
  | [d] => { results := [.lit (.bool false)], args := [d] }
  | _ => none }
def PipeAllWrongFalsely : Prop := pipeAllRow.holds Try.pinned (OpenSpec.ofChange pipeAllWrong)

/-- 'isthmuslaw20.PipeNone': WHATEVER THE INPUT: true; the input reads as it did. -/
def pipeNoneSpec : ChangeSpec := { name := "pipeNone", fn := fun _ => fun
  | [] => { results := [.lit (.bool true)], args := [] }
  | _ => none }
def pipeNoneRow : OpenClaim := { program := "ytinokgmmdmkbcaa", sum := "e9f4d6a6d53800fe99319a673888a79f4ab1e71ef38e6ede2f6304fd652dfc08", func := "isthmus/isthmuslaw20.PipeNone", spec := "pipeNone", unfollowed := true, recurses := true, apart := false }
def PipeNoneSaid : Prop := pipeNoneRow.holds Try.pinned (OpenSpec.ofChange pipeNoneSpec)

/-- ITS FALSE NEIGHBOUR: 'it returns false'. Refute it at one input. -/
def pipeNoneWrong : ChangeSpec := { name := "pipeNone", fn := fun _ => fun
  | [] => { results := [.lit (.bool false)], args := [] }
  | _ => none }
def PipeNoneWrongFalsely : Prop := pipeNoneRow.holds Try.pinned (OpenSpec.ofChange pipeNoneWrong)

/- THE SECOND FORM. 'bulk': how many values and letters a reading holds, each counted each time it is reached (what is shared counts as often as it is met; a slice's spare places count too). A statement '..UptoSaid' is the law's where the arguments, and the package variables that the reading takes, are together of bulk at most 1048576: NARROWER than '..Said'. Prove '..Said' where nothing that the law and all that it calls make is longer than what came in: it says more and counts as full. Else prove '..UptoSaid'. A law counts once. -/
mutual
def uptoBulk {H : Type} : DataW H → Nat
  | .lit (.string bytes) => bytes.length + 1
  | .lit _ => 1
  | .nil => 1
  | .ptr d => uptoBulk d + 1
  | .slice elems spare => uptoBulkAll elems + uptoBulkAll spare + 1
  | .agg parts => uptoBulkAll parts + 1
  | .iface _ d => uptoBulk d + 1
  | .map entries => uptoBulkEntries entries + 1
  | .held _ => 1
def uptoBulkAll {H : Type} : List (DataW H) → Nat
  | [] => 0
  | d :: r => uptoBulk d + uptoBulkAll r
def uptoBulkEntries {H : Type} : List (Lit × DataW H) → Nat
  | [] => 0
  | x :: r => uptoBulkEntry x + uptoBulkEntries r
def uptoBulkEntry {H : Type} : Lit × DataW H → Nat
  | (.string bytes, d) => bytes.length + uptoBulk d + 1
  | (_, d) => uptoBulk d + 1
 end
def uptoSmall : (H : Type) → List (DataW H) → Bool := fun _ ds => decide (uptoBulkAll ds ≤ 1048576)
def OpenSpec.upto (s : _root_.Go.ChangeSpec) : _root_.Go.OpenSpec := { _root_.Go.OpenSpec.ofChange s with cond := some uptoSmall }

/-- 'isthmuslaw20.PipeChunks', WHERE WHAT IT READS IS OF BULK AT MOST 1048576: true; the input reads as it did. -/
def pipeChunksUptoRow : OpenClaim := { program := "ytinokgmmdmkbcaa", sum := "e9f4d6a6d53800fe99319a673888a79f4ab1e71ef38e6ede2f6304fd652dfc08", func := "isthmus/isthmuslaw20.PipeChunks", spec := "pipeChunks", unfollowed := true, recurses := true, apart := false, narrowed := true }
def PipeChunksUptoSaid : Prop := pipeChunksUptoRow.holds Try.pinned (OpenSpec.upto pipeChunksSpec)

/-- 'isthmuslaw20.PipeWhole', WHERE WHAT IT READS IS OF BULK AT MOST 1048576: true; the input reads as it did. -/
def pipeWholeUptoRow : OpenClaim := { program := "ytinokgmmdmkbcaa", sum := "e9f4d6a6d53800fe99319a673888a79f4ab1e71ef38e6ede2f6304fd652dfc08", func := "isthmus/isthmuslaw20.PipeWhole", spec := "pipeWhole", unfollowed := true, recurses := true, apart := false, narrowed := true }
def PipeWholeUptoSaid : Prop := pipeWholeUptoRow.holds Try.pinned (OpenSpec.upto pipeWholeSpec)

/-- 'isthmuslaw20.PipeAll', WHERE WHAT IT READS IS OF BULK AT MOST 1048576: true; the input reads as it did. -/
def pipeAllUptoRow : OpenClaim := { program := "ytinokgmmdmkbcaa", sum := "e9f4d6a6d53800fe99319a673888a79f4ab1e71ef38e6ede2f6304fd652dfc08", func := "isthmus/isthmuslaw20.PipeAll", spec := "pipeAll", unfollowed := true, recurses := true, apart := false, narrowed := true }
def PipeAllUptoSaid : Prop := pipeAllUptoRow.holds Try.pinned (OpenSpec.upto pipeAllSpec)

/-- 'isthmuslaw20.PipeNone', WHERE WHAT IT READS IS OF BULK AT MOST 1048576: true; the input reads as it did. -/
def pipeNoneUptoRow : OpenClaim := { program := "ytinokgmmdmkbcaa", sum := "e9f4d6a6d53800fe99319a673888a79f4ab1e71ef38e6ede2f6304fd652dfc08", func := "isthmus/isthmuslaw20.PipeNone", spec := "pipeNone", unfollowed := true, recurses := true, apart := false, narrowed := true }
def PipeNoneUptoSaid : Prop := pipeNoneUptoRow.holds Try.pinned (OpenSpec.upto pipeNoneSpec)

end Rows
end Go.Proofs.Ytinokgmmdmkbcaa
