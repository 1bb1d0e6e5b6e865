/-
  No cell of these rows narrows 'for every input' (looked for: loops, veiled, ifaces, maps, wideKeys, modest, calm, conditions, laid).
  DERIVED. THE GIVEN ROWS OF THIS SEAT. 4 by the template 'for every input the law returns true; each argument reads behind the call as it read before'; 0 by the template 'total and deterministic' (their statements: YtbnhlbbddlchmaaTotals.lean).
  GIVEN WITH THE SEED: the statements are not yours to turn. If you find one false, say at which input.
  Laid BY PROGRAM, IN A SANDBOX (cutbox-rows.mjs): the forced cells as the released guide's own fill.sh prints them over the translation 228699ca8bf51e54… (all of the seat's roots in one cut). By AI agents, Wed Nov 11 2026. No macro, syntax, notation, axiom, sorry.
-/
import Derived.Test.YtbnhlbbddlchmaaChecked
import GoSem.Claim
import GoSem.ClaimJoined
import GoSem.ClaimMapViews
import Derived.JoinedTies
import Derived.KernelRfl
namespace Go.Proofs.Ytbnhlbbddlchmaa
/- THE CELL 'sum', in the pinned program and in every row, IS THE sha256 OF THE DUMP (.gsa) THAT YtbnhlbbddlchmaaProg.lean LOADS. Nothing in Lean hashes anything: it is a label: what it is worth is what the hold of that sum in a sandbox is worth. -/
noncomputable def Try.pinned : Pinned := { name := "ytbnhlbbddlchmaa", sum := "228699ca8bf51e54a2401ddcccfb53fa30ff6b6fca70b9e81cfa3f145de76389", checked := Try.checked }
namespace Rows
def none {H : Type} : Left H := { results := [], args := [] }

/-- 'isthmuslaw9.FlowOut': WHATEVER THE INPUT: true; the input reads as it did. -/
def flowOutSpec : ChangeSpec := { name := "flowOut", fn := fun _ => fun
  | [d1, d2] => { results := [.lit (.bool true)], args := [d1, d2] }
  | _ => none }
def flowOutRow : OpenClaim := { program := "ytbnhlbbddlchmaa", sum := "228699ca8bf51e54a2401ddcccfb53fa30ff6b6fca70b9e81cfa3f145de76389", func := "isthmus/isthmuslaw9.FlowOut", spec := "flowOut", apart := false }
def FlowOutSaid : Prop := flowOutRow.holds Try.pinned (OpenSpec.ofChange flowOutSpec)

/-- ITS FALSE NEIGHBOUR: 'it returns false'. Refute it at one input. -/
def flowOutWrong : ChangeSpec := { name := "flowOut", fn := fun _ => fun
  | [d1, d2] => { results := [.lit (.bool false)], args := [d1, d2] }
  | _ => none }
def FlowOutWrongFalsely : Prop := flowOutRow.holds Try.pinned (OpenSpec.ofChange flowOutWrong)

/-- 'isthmuslaw9.FlowIn': WHATEVER THE INPUT: true; the input reads as it did. -/
def flowInSpec : ChangeSpec := { name := "flowIn", fn := fun _ => fun
  | [d1, d2] => { results := [.lit (.bool true)], args := [d1, d2] }
  | _ => none }
def flowInRow : OpenClaim := { program := "ytbnhlbbddlchmaa", sum := "228699ca8bf51e54a2401ddcccfb53fa30ff6b6fca70b9e81cfa3f145de76389", func := "isthmus/isthmuslaw9.FlowIn", spec := "flowIn", apart := false }
def FlowInSaid : Prop := flowInRow.holds Try.pinned (OpenSpec.ofChange flowInSpec)

/-- ITS FALSE NEIGHBOUR: 'it returns false'. Refute it at one input. -/
def flowInWrong : ChangeSpec := { name := "flowIn", fn := fun _ => fun
  | [d1, d2] => { results := [.lit (.bool false)], args := [d1, d2] }
  | _ => none }
def FlowInWrongFalsely : Prop := flowInRow.holds Try.pinned (OpenSpec.ofChange flowInWrong)

/-- 'isthmuslaw9.FlowBoth': WHATEVER THE INPUT: true; the input reads as it did. -/
def flowBothSpec : ChangeSpec := { name := "flowBoth", fn := fun _ => fun
  | [d1, d2] => { results := [.lit (.bool true)], args := [d1, d2] }
  | _ => none }
def flowBothRow : OpenClaim := { program := "ytbnhlbbddlchmaa", sum := "228699ca8bf51e54a2401ddcccfb53fa30ff6b6fca70b9e81cfa3f145de76389", func := "isthmus/isthmuslaw9.FlowBoth", spec := "flowBoth", apart := false }
def FlowBothSaid : Prop := flowBothRow.holds Try.pinned (OpenSpec.ofChange flowBothSpec)

/-- ITS FALSE NEIGHBOUR: 'it returns false'. Refute it at one input. -/
def flowBothWrong : ChangeSpec := { name := "flowBoth", fn := fun _ => fun
  | [d1, d2] => { results := [.lit (.bool false)], args := [d1, d2] }
  | _ => none }
def FlowBothWrongFalsely : Prop := flowBothRow.holds Try.pinned (OpenSpec.ofChange flowBothWrong)

/-- 'isthmuslaw9.FlowNone': WHATEVER THE INPUT: true; the input reads as it did. -/
def flowNoneSpec : ChangeSpec := { name := "flowNone", fn := fun _ => fun
  | [] => { results := [.lit (.bool true)], args := [] }
  | _ => none }
def flowNoneRow : OpenClaim := { program := "ytbnhlbbddlchmaa", sum := "228699ca8bf51e54a2401ddcccfb53fa30ff6b6fca70b9e81cfa3f145de76389", func := "isthmus/isthmuslaw9.FlowNone", spec := "flowNone", apart := false }
def FlowNoneSaid : Prop := flowNoneRow.holds Try.pinned (OpenSpec.ofChange flowNoneSpec)

/-- ITS FALSE NEIGHBOUR: 'it returns false'. Refute it at one input. -/
def flowNoneWrong : ChangeSpec := { name := "flowNone", fn := fun _ => fun
  | [] => { results := [.lit (.bool false)], args := [] }
  | _ => none }
def FlowNoneWrongFalsely : Prop := flowNoneRow.holds Try.pinned (OpenSpec.ofChange flowNoneWrong)

/- THE SECOND FORM. 'bulk': how many values and letters a reading holds, each counted each time it is reached (what is shared counts as often as it is met; a slice's spare places count too). A statement '..UptoSaid' is the law's where the arguments, and the package variables that the reading takes, are together of bulk at most 1048576: NARROWER than '..Said'. Prove '..Said' where nothing that the law and all that it calls make is longer than what came in: it says more and counts as full. Else prove '..UptoSaid'. A law counts once. -/
mutual
def uptoBulk {H : Type} : DataW H → Nat
  | .lit (.string bytes) => bytes.length + 1
  | .lit _ => 1
  | .nil => 1
  | .ptr d => uptoBulk d + 1
  | .slice elems spare => uptoBulkAll elems + uptoBulkAll spare + 1
  | .agg parts => uptoBulkAll parts + 1
  | .iface _ d => uptoBulk d + 1
  | .map entries => uptoBulkEntries entries + 1
  | .held _ => 1
def uptoBulkAll {H : Type} : List (DataW H) → Nat
  | [] => 0
  | d :: r => uptoBulk d + uptoBulkAll r
def uptoBulkEntries {H : Type} : List (Lit × DataW H) → Nat
  | [] => 0
  | x :: r => uptoBulkEntry x + uptoBulkEntries r
def uptoBulkEntry {H : Type} : Lit × DataW H → Nat
  | (.string bytes, d) => bytes.length + uptoBulk d + 1
  | (_, d) => uptoBulk d + 1
 end
def uptoSmall : (H : Type) → List (DataW H) → Bool := fun _ ds => decide (uptoBulkAll ds ≤ 1048576)
def OpenSpec.upto (s : _root_.Go.ChangeSpec) : _root_.Go.OpenSpec := { _root_.Go.OpenSpec.ofChange s with cond := some uptoSmall }

/-- 'isthmuslaw9.FlowOut', WHERE WHAT IT READS IS OF BULK AT MOST 1048576: true; the input reads as it did. -/
def flowOutUptoRow : OpenClaim := { program := "ytbnhlbbddlchmaa", sum := "228699ca8bf51e54a2401ddcccfb53fa30ff6b6fca70b9e81cfa3f145de76389", func := "isthmus/isthmuslaw9.FlowOut", spec := "flowOut", apart := false, narrowed := true }
def FlowOutUptoSaid : Prop := flowOutUptoRow.holds Try.pinned (OpenSpec.upto flowOutSpec)

/-- 'isthmuslaw9.FlowIn', WHERE WHAT IT READS IS OF BULK AT MOST 1048576: true; the input reads as it did. -/
def flowInUptoRow : OpenClaim := { program := "ytbnhlbbddlchmaa", sum := "228699ca8bf51e54a2401ddcccfb53fa30ff6b6fca70b9e81cfa3f145de76389", func := "isthmus/isthmuslaw9.FlowIn", spec := "flowIn", apart := false, narrowed := true }
def FlowInUptoSaid : Prop := flowInUptoRow.holds Try.pinned (OpenSpec.upto flowInSpec)

/-- 'isthmuslaw9.FlowBoth', WHERE WHAT IT READS IS OF BULK AT MOST 1048576: true; the input reads as it did. -/
def flowBothUptoRow : OpenClaim := { program := "ytbnhlbbddlchmaa", sum := "228699ca8bf51e54a2401ddcccfb53fa30ff6b6fca70b9e81cfa3f145de76389", func := "isthmus/isthmuslaw9.FlowBoth", spec := "flowBoth", apart := false, narrowed := true }
def FlowBothUptoSaid : Prop := flowBothUptoRow.holds Try.pinned (OpenSpec.upto flowBothSpec)

/-- 'isthmuslaw9.FlowNone', WHERE WHAT IT READS IS OF BULK AT MOST 1048576: true; the input reads as it did. -/
def flowNoneUptoRow : OpenClaim := { program := "ytbnhlbbddlchmaa", sum := "228699ca8bf51e54a2401ddcccfb53fa30ff6b6fca70b9e81cfa3f145de76389", func := "isthmus/isthmuslaw9.FlowNone", spec := "flowNone", apart := false, narrowed := true }
def FlowNoneUptoSaid : Prop := flowNoneUptoRow.holds Try.pinned (OpenSpec.upto flowNoneSpec)

end Rows
end Go.Proofs.Ytbnhlbbddlchmaa
