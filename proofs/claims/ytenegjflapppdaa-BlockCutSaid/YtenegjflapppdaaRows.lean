/-
  No cell of these rows narrows 'for every input' (looked for: loops, veiled, ifaces, maps, wideKeys, modest, calm, conditions, laid).
  DERIVED. THE GIVEN ROWS OF THIS SEAT. 5 by the template 'for every input the law returns true; each argument reads behind the call as it read before'; 0 by the template 'total and deterministic' (their statements: YtenegjflapppdaaTotals.lean).
  GIVEN WITH THE SEED: the statements are not yours to turn. If you find one false, say at which input.
  Laid BY PROGRAM, IN A SANDBOX (cutbox-rows.mjs): the forced cells as the released guide's own fill.sh prints them over the translation dc0828009eb55527… (all of the seat's roots in one cut). By AI agents, Wed Nov 11 2026. No macro, syntax, notation, axiom, sorry.
-/
import Derived.Test.YtenegjflapppdaaChecked
import GoSem.Claim
import GoSem.ClaimJoined
import GoSem.ClaimMapViews
import Derived.JoinedTies
import Derived.KernelRfl
namespace Go.Proofs.Ytenegjflapppdaa
/- THE CELL 'sum', in the pinned program and in every row, IS THE sha256 OF THE DUMP (.gsa) THAT YtenegjflapppdaaProg.lean LOADS. Nothing in Lean hashes anything: it is a label: what it is worth is what the hold of that sum in a sandbox is worth. -/
noncomputable def Try.pinned : Pinned := { name := "ytenegjflapppdaa", sum := "dc0828009eb55527b787957cf1523d28d42cb565fe588fcc5f26c6472bf5b6d7", checked := Try.checked }
namespace Rows
def none {H : Type} : Left H := { results := [], args := [] }

/-- 'isthmuslaw13.BlockAll': WHATEVER THE INPUT: true; the input reads as it did. -/
def blockAllSpec : ChangeSpec := { name := "blockAll", fn := fun _ => fun
  | [d] => { results := [.lit (.bool true)], args := [d] }
  | _ => none }
def blockAllRow : OpenClaim := { program := "ytenegjflapppdaa", sum := "dc0828009eb55527b787957cf1523d28d42cb565fe588fcc5f26c6472bf5b6d7", func := "isthmus/isthmuslaw13.BlockAll", spec := "blockAll", unfollowed := true, recurses := true, apart := false }
def BlockAllSaid : Prop := blockAllRow.holds Try.pinned (OpenSpec.ofChange blockAllSpec)

/-- ITS FALSE NEIGHBOUR: 'it returns false'. Refute it at one input. -/
def blockAllWrong : ChangeSpec := { name := "blockAll", fn := fun _ => fun
  | [d] => { results := [.lit (.bool false)], args := [d] }
  | _ => none }
def BlockAllWrongFalsely : Prop := blockAllRow.holds Try.pinned (OpenSpec.ofChange blockAllWrong)

/-- 'isthmuslaw13.BlockCut': WHATEVER THE INPUT: true; the input reads as it did. -/
def blockCutSpec : ChangeSpec := { name := "blockCut", fn := fun _ => fun
  | [d1, d2, d3, d4, d5] => { results := [.lit (.bool true)], args := [d1, d2, d3, d4, d5] }
  | _ => none }
def blockCutRow : OpenClaim := { program := "ytenegjflapppdaa", sum := "dc0828009eb55527b787957cf1523d28d42cb565fe588fcc5f26c6472bf5b6d7", func := "isthmus/isthmuslaw13.BlockCut", spec := "blockCut", unfollowed := true, recurses := true, apart := false }
def BlockCutSaid : Prop := blockCutRow.holds Try.pinned (OpenSpec.ofChange blockCutSpec)

/-- ITS FALSE NEIGHBOUR: 'it returns false'. Refute it at one input. -/
def blockCutWrong : ChangeSpec := { name := "blockCut", fn := fun _ => fun
  | [d1, d2, d3, d4, d5] => { results := [.lit (.bool false)], args := [d1, d2, d3, d4, d5] }
  | _ => none }
def BlockCutWrongFalsely : Prop := blockCutRow.holds Try.pinned (OpenSpec.ofChange blockCutWrong)

/-- 'isthmuslaw13.BlockBack': WHATEVER THE INPUT: true; the input reads as it did. -/
def blockBackSpec : ChangeSpec := { name := "blockBack", fn := fun _ => fun
  | [d1, d2, d3, d4] => { results := [.lit (.bool true)], args := [d1, d2, d3, d4] }
  | _ => none }
def blockBackRow : OpenClaim := { program := "ytenegjflapppdaa", sum := "dc0828009eb55527b787957cf1523d28d42cb565fe588fcc5f26c6472bf5b6d7", func := "isthmus/isthmuslaw13.BlockBack", spec := "blockBack", unfollowed := true, recurses := true, apart := false }
def BlockBackSaid : Prop := blockBackRow.holds Try.pinned (OpenSpec.ofChange blockBackSpec)

/-- ITS FALSE NEIGHBOUR: 'it returns false'. Refute it at one input. -/
def blockBackWrong : ChangeSpec := { name := "blockBack", fn := fun _ => fun
  | [d1, d2, d3, d4] => { results := [.lit (.bool false)], args := [d1, d2, d3, d4] }
  | _ => none }
def BlockBackWrongFalsely : Prop := blockBackRow.holds Try.pinned (OpenSpec.ofChange blockBackWrong)

/-- 'isthmuslaw13.BlockNone': WHATEVER THE INPUT: true; the input reads as it did. -/
def blockNoneSpec : ChangeSpec := { name := "blockNone", fn := fun _ => fun
  | [] => { results := [.lit (.bool true)], args := [] }
  | _ => none }
def blockNoneRow : OpenClaim := { program := "ytenegjflapppdaa", sum := "dc0828009eb55527b787957cf1523d28d42cb565fe588fcc5f26c6472bf5b6d7", func := "isthmus/isthmuslaw13.BlockNone", spec := "blockNone", unfollowed := true, recurses := true, apart := false }
def BlockNoneSaid : Prop := blockNoneRow.holds Try.pinned (OpenSpec.ofChange blockNoneSpec)

/-- ITS FALSE NEIGHBOUR: 'it returns false'. Refute it at one input. -/
def blockNoneWrong : ChangeSpec := { name := "blockNone", fn := fun _ => fun
  | [] => { results := [.lit (.bool false)], args := [] }
  | _ => none }
def BlockNoneWrongFalsely : Prop := blockNoneRow.holds Try.pinned (OpenSpec.ofChange blockNoneWrong)

/-- 'isthmuslaw13.BlockMost': WHATEVER THE INPUT: true; the input reads as it did. -/
def blockMostSpec : ChangeSpec := { name := "blockMost", fn := fun _ => fun
  | [d1, d2] => { results := [.lit (.bool true)], args := [d1, d2] }
  | _ => none }
def blockMostRow : OpenClaim := { program := "ytenegjflapppdaa", sum := "dc0828009eb55527b787957cf1523d28d42cb565fe588fcc5f26c6472bf5b6d7", func := "isthmus/isthmuslaw13.BlockMost", spec := "blockMost", unfollowed := true, recurses := true, apart := false }
def BlockMostSaid : Prop := blockMostRow.holds Try.pinned (OpenSpec.ofChange blockMostSpec)

/-- ITS FALSE NEIGHBOUR: 'it returns false'. Refute it at one input. -/
def blockMostWrong : ChangeSpec := { name := "blockMost", fn := fun _ => fun
  | [d1, d2] => { results := [.lit (.bool false)], args := [d1, d2] }
  | _ => none }
def BlockMostWrongFalsely : Prop := blockMostRow.holds Try.pinned (OpenSpec.ofChange blockMostWrong)

/- THE SECOND FORM. 'bulk': how many values and letters a reading holds, each counted each time it is reached (what is shared counts as often as it is met; a slice's spare places count too). A statement '..UptoSaid' is the law's where the arguments, and the package variables that the reading takes, are together of bulk at most 1048576: NARROWER than '..Said'. Prove '..Said' where nothing that the law and all that it calls make is longer than what came in: it says more and counts as full. Else prove '..UptoSaid'. A law counts once. -/
mutual
def uptoBulk {H : Type} : DataW H → Nat
  | .lit (.string bytes) => bytes.length + 1
  | .lit _ => 1
  | .nil => 1
  | .ptr d => uptoBulk d + 1
  | .slice elems spare => uptoBulkAll elems + uptoBulkAll spare + 1
  | .agg parts => uptoBulkAll parts + 1
  | .iface _ d => uptoBulk d + 1
  | .map entries => uptoBulkEntries entries + 1
  | .held _ => 1
def uptoBulkAll {H : Type} : List (DataW H) → Nat
  | [] => 0
  | d :: r => uptoBulk d + uptoBulkAll r
def uptoBulkEntries {H : Type} : List (Lit × DataW H) → Nat
  | [] => 0
  | x :: r => uptoBulkEntry x + uptoBulkEntries r
def uptoBulkEntry {H : Type} : Lit × DataW H → Nat
  | (.string bytes, d) => bytes.length + uptoBulk d + 1
  | (_, d) => uptoBulk d + 1
 end
def uptoSmall : (H : Type) → List (DataW H) → Bool := fun _ ds => decide (uptoBulkAll ds ≤ 1048576)
def OpenSpec.upto (s : _root_.Go.ChangeSpec) : _root_.Go.OpenSpec := { _root_.Go.OpenSpec.ofChange s with cond := some uptoSmall }

/-- 'isthmuslaw13.BlockAll', WHERE WHAT IT READS IS OF BULK AT MOST 1048576: true; the input reads as it did. -/
def blockAllUptoRow : OpenClaim := { program := "ytenegjflapppdaa", sum := "dc0828009eb55527b787957cf1523d28d42cb565fe588fcc5f26c6472bf5b6d7", func := "isthmus/isthmuslaw13.BlockAll", spec := "blockAll", unfollowed := true, recurses := true, apart := false, narrowed := true }
def BlockAllUptoSaid : Prop := blockAllUptoRow.holds Try.pinned (OpenSpec.upto blockAllSpec)

/-- 'isthmuslaw13.BlockCut', WHERE WHAT IT READS IS OF BULK AT MOST 1048576: true; the input reads as it did. -/
def blockCutUptoRow : OpenClaim := { program := "ytenegjflapppdaa", sum := "dc0828009eb55527b787957cf1523d28d42cb565fe588fcc5f26c6472bf5b6d7", func := "isthmus/isthmuslaw13.BlockCut", spec := "blockCut", unfollowed := true, recurses := true, apart := false, narrowed := true }
def BlockCutUptoSaid : Prop := blockCutUptoRow.holds Try.pinned (OpenSpec.upto blockCutSpec)

/-- 'isthmuslaw13.BlockBack', WHERE WHAT IT READS IS OF BULK AT MOST 1048576: true; the input reads as it did. -/
def blockBackUptoRow : OpenClaim := { program := "ytenegjflapppdaa", sum := "dc0828009eb55527b787957cf1523d28d42cb565fe588fcc5f26c6472bf5b6d7", func := "isthmus/isthmuslaw13.BlockBack", spec := "blockBack", unfollowed := true, recurses := true, apart := false, narrowed := true }
def BlockBackUptoSaid : Prop := blockBackUptoRow.holds Try.pinned (OpenSpec.upto blockBackSpec)

/-- 'isthmuslaw13.BlockNone', WHERE WHAT IT READS IS OF BULK AT MOST 1048576: true; the input reads as it did. -/
def blockNoneUptoRow : OpenClaim := { program := "ytenegjflapppdaa", sum := "dc0828009eb55527b787957cf1523d28d42cb565fe588fcc5f26c6472bf5b6d7", func := "isthmus/isthmuslaw13.BlockNone", spec := "blockNone", unfollowed := true, recurses := true, apart := false, narrowed := true }
def BlockNoneUptoSaid : Prop := blockNoneUptoRow.holds Try.pinned (OpenSpec.upto blockNoneSpec)

/-- 'isthmuslaw13.BlockMost', WHERE WHAT IT READS IS OF BULK AT MOST 1048576: true; the input reads as it did. -/
def blockMostUptoRow : OpenClaim := { program := "ytenegjflapppdaa", sum := "dc0828009eb55527b787957cf1523d28d42cb565fe588fcc5f26c6472bf5b6d7", func := "isthmus/isthmuslaw13.BlockMost", spec := "blockMost", unfollowed := true, recurses := true, apart := false, narrowed := true }
def BlockMostUptoSaid : Prop := blockMostUptoRow.holds Try.pinned (OpenSpec.upto blockMostSpec)

end Rows
end Go.Proofs.Ytenegjflapppdaa
