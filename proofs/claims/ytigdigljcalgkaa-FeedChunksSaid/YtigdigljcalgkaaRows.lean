/-
  No cell of these rows narrows 'for every input' (looked for: loops, veiled, ifaces, maps, wideKeys, modest, calm, conditions, laid).
  DERIVED. THE GIVEN ROWS OF THIS SEAT. 5 by the template 'for every input the law returns true; each argument reads behind the call as it read before'; 0 by the template 'total and deterministic' (their statements: YtigdigljcalgkaaTotals.lean).
  GIVEN WITH THE SEED: the statements are not yours to turn. If you find one false, say at which input.
  Laid BY PROGRAM, IN A SANDBOX (cutbox-rows.mjs): the forced cells as the released guide's own fill.sh prints them over the translation 2167be467d927fca… (all of the seat's roots in one cut). By AI agents, Wed Nov 11 2026. No macro, syntax, notation, axiom, sorry.
-/
import Derived.Test.YtigdigljcalgkaaChecked
import GoSem.Claim
import GoSem.ClaimJoined
import GoSem.ClaimMapViews
import Derived.JoinedTies
import Derived.KernelRfl
namespace Go.Proofs.Ytigdigljcalgkaa
/- THE CELL 'sum', in the pinned program and in every row, IS THE sha256 OF THE DUMP (.gsa) THAT YtigdigljcalgkaaProg.lean LOADS. Nothing in Lean hashes anything: it is a label: what it is worth is what the hold of that sum in a sandbox is worth. -/
noncomputable def Try.pinned : Pinned := { name := "ytigdigljcalgkaa", sum := "2167be467d927fca1a246a847b385dfd19776357a87e2e5bc427e00e9308076c", checked := Try.checked }
namespace Rows
def none {H : Type} : Left H := { results := [], args := [] }

/-- 'isthmuslaw8.FeedChunks': WHATEVER THE INPUT: true; the input reads as it did. -/
def feedChunksSpec : ChangeSpec := { name := "feedChunks", fn := fun _ => fun
  | [d1, d2, d3] => { results := [.lit (.bool true)], args := [d1, d2, d3] }
  | _ => none }
def feedChunksRow : OpenClaim := { program := "ytigdigljcalgkaa", sum := "2167be467d927fca1a246a847b385dfd19776357a87e2e5bc427e00e9308076c", func := "isthmus/isthmuslaw8.FeedChunks", spec := "feedChunks", unfollowed := true, recurses := true, apart := false }
def FeedChunksSaid : Prop := feedChunksRow.holds Try.pinned (OpenSpec.ofChange feedChunksSpec)

/-- ITS FALSE NEIGHBOUR: 'it returns false'. Refute it at one input. -/
def feedChunksWrong : ChangeSpec := { name := "feedChunks", fn := fun _ => fun
  | [d1, d2, d3] => { results := [.lit (.bool false)], args := [d1, d2, d3] }
  | _ => none }
def FeedChunksWrongFalsely : Prop := feedChunksRow.holds Try.pinned (OpenSpec.ofChange feedChunksWrong)

/-- 'isthmuslaw8.FeedGrows': WHATEVER THE INPUT: true; the input reads as it did. -/
def feedGrowsSpec : ChangeSpec := { name := "feedGrows", fn := fun _ => fun
  | [d] => { results := [.lit (.bool true)], args := [d] }
  | _ => none }
def feedGrowsRow : OpenClaim := { program := "ytigdigljcalgkaa", sum := "2167be467d927fca1a246a847b385dfd19776357a87e2e5bc427e00e9308076c", func := "isthmus/isthmuslaw8.FeedGrows", spec := "feedGrows", unfollowed := true, recurses := true, apart := false }
def FeedGrowsSaid : Prop := feedGrowsRow.holds Try.pinned (OpenSpec.ofChange feedGrowsSpec)

/-- ITS FALSE NEIGHBOUR: 'it returns false'. Refute it at one input. -/
def feedGrowsWrong : ChangeSpec := { name := "feedGrows", fn := fun _ => fun
  | [d] => { results := [.lit (.bool false)], args := [d] }
  | _ => none }
def FeedGrowsWrongFalsely : Prop := feedGrowsRow.holds Try.pinned (OpenSpec.ofChange feedGrowsWrong)

/-- 'isthmuslaw8.FeedNone': WHATEVER THE INPUT: true; the input reads as it did. -/
def feedNoneSpec : ChangeSpec := { name := "feedNone", fn := fun _ => fun
  | [] => { results := [.lit (.bool true)], args := [] }
  | _ => none }
def feedNoneRow : OpenClaim := { program := "ytigdigljcalgkaa", sum := "2167be467d927fca1a246a847b385dfd19776357a87e2e5bc427e00e9308076c", func := "isthmus/isthmuslaw8.FeedNone", spec := "feedNone", unfollowed := true, recurses := true, apart := false }
def FeedNoneSaid : Prop := feedNoneRow.holds Try.pinned (OpenSpec.ofChange feedNoneSpec)

/-- ITS FALSE NEIGHBOUR: 'it returns false'. Refute it at one input. -/
def feedNoneWrong : ChangeSpec := { name := "feedNone", fn := fun _ => fun
  | [] => { results := [.lit (.bool false)], args := [] }
  | _ => none }
def FeedNoneWrongFalsely : Prop := feedNoneRow.holds Try.pinned (OpenSpec.ofChange feedNoneWrong)

/-- 'isthmuslaw8.FeedPreface': WHATEVER THE INPUT: true; the input reads as it did. -/
def feedPrefaceSpec : ChangeSpec := { name := "feedPreface", fn := fun _ => fun
  | [d1, d2] => { results := [.lit (.bool true)], args := [d1, d2] }
  | _ => none }
def feedPrefaceRow : OpenClaim := { program := "ytigdigljcalgkaa", sum := "2167be467d927fca1a246a847b385dfd19776357a87e2e5bc427e00e9308076c", func := "isthmus/isthmuslaw8.FeedPreface", spec := "feedPreface", unfollowed := true, recurses := true, apart := false }
def FeedPrefaceSaid : Prop := feedPrefaceRow.holds Try.pinned (OpenSpec.ofChange feedPrefaceSpec)

/-- ITS FALSE NEIGHBOUR: 'it returns false'. Refute it at one input. -/
def feedPrefaceWrong : ChangeSpec := { name := "feedPreface", fn := fun _ => fun
  | [d1, d2] => { results := [.lit (.bool false)], args := [d1, d2] }
  | _ => none }
def FeedPrefaceWrongFalsely : Prop := feedPrefaceRow.holds Try.pinned (OpenSpec.ofChange feedPrefaceWrong)

/-- 'isthmuslaw8.FeedMost': WHATEVER THE INPUT: true; the input reads as it did. -/
def feedMostSpec : ChangeSpec := { name := "feedMost", fn := fun _ => fun
  | [d1, d2, d3] => { results := [.lit (.bool true)], args := [d1, d2, d3] }
  | _ => none }
def feedMostRow : OpenClaim := { program := "ytigdigljcalgkaa", sum := "2167be467d927fca1a246a847b385dfd19776357a87e2e5bc427e00e9308076c", func := "isthmus/isthmuslaw8.FeedMost", spec := "feedMost", unfollowed := true, recurses := true, apart := false }
def FeedMostSaid : Prop := feedMostRow.holds Try.pinned (OpenSpec.ofChange feedMostSpec)

/-- ITS FALSE NEIGHBOUR: 'it returns false'. Refute it at one input. -/
def feedMostWrong : ChangeSpec := { name := "feedMost", fn := fun _ => fun
  | [d1, d2, d3] => { results := [.lit (.bool false)], args := [d1, d2, d3] }
  | _ => none }
def FeedMostWrongFalsely : Prop := feedMostRow.holds Try.pinned (OpenSpec.ofChange feedMostWrong)

/- THE SECOND FORM. 'bulk': how many values and letters a reading holds, each counted each time it is reached (what is shared counts as often as it is met; a slice's spare places count too). A statement '..UptoSaid' is the law's where the arguments, and the package variables that the reading takes, are together of bulk at most 1048576: NARROWER than '..Said'. Prove '..Said' where nothing that the law and all that it calls make is longer than what came in: it says more and counts as full. Else prove '..UptoSaid'. A law counts once. -/
mutual
def uptoBulk {H : Type} : DataW H → Nat
  | .lit (.string bytes) => bytes.length + 1
  | .lit _ => 1
  | .nil => 1
  | .ptr d => uptoBulk d + 1
  | .slice elems spare => uptoBulkAll elems + uptoBulkAll spare + 1
  | .agg parts => uptoBulkAll parts + 1
  | .iface _ d => uptoBulk d + 1
  | .map entries => uptoBulkEntries entries + 1
  | .held _ => 1
def uptoBulkAll {H : Type} : List (DataW H) → Nat
  | [] => 0
  | d :: r => uptoBulk d + uptoBulkAll r
def uptoBulkEntries {H : Type} : List (Lit × DataW H) → Nat
  | [] => 0
  | x :: r => uptoBulkEntry x + uptoBulkEntries r
def uptoBulkEntry {H : Type} : Lit × DataW H → Nat
  | (.string bytes, d) => bytes.length + uptoBulk d + 1
  | (_, d) => uptoBulk d + 1
 end
def uptoSmall : (H : Type) → List (DataW H) → Bool := fun _ ds => decide (uptoBulkAll ds ≤ 1048576)
def OpenSpec.upto (s : _root_.Go.ChangeSpec) : _root_.Go.OpenSpec := { _root_.Go.OpenSpec.ofChange s with cond := some uptoSmall }

/-- 'isthmuslaw8.FeedChunks', WHERE WHAT IT READS IS OF BULK AT MOST 1048576: true; the input reads as it did. -/
def feedChunksUptoRow : OpenClaim := { program := "ytigdigljcalgkaa", sum := "2167be467d927fca1a246a847b385dfd19776357a87e2e5bc427e00e9308076c", func := "isthmus/isthmuslaw8.FeedChunks", spec := "feedChunks", unfollowed := true, recurses := true, apart := false, narrowed := true }
def FeedChunksUptoSaid : Prop := feedChunksUptoRow.holds Try.pinned (OpenSpec.upto feedChunksSpec)

/-- 'isthmuslaw8.FeedGrows', WHERE WHAT IT READS IS OF BULK AT MOST 1048576: true; the input reads as it did. -/
def feedGrowsUptoRow : OpenClaim := { program := "ytigdigljcalgkaa", sum := "2167be467d927fca1a246a847b385dfd19776357a87e2e5bc427e00e9308076c", func := "isthmus/isthmuslaw8.FeedGrows", spec := "feedGrows", unfollowed := true, recurses := true, apart := false, narrowed := true }
def FeedGrowsUptoSaid : Prop := feedGrowsUptoRow.holds Try.pinned (OpenSpec.upto feedGrowsSpec)

/-- 'isthmuslaw8.FeedNone', WHERE WHAT IT READS IS OF BULK AT MOST 1048576: true; the input reads as it did. -/
def feedNoneUptoRow : OpenClaim := { program := "ytigdigljcalgkaa", sum := "2167be467d927fca1a246a847b385dfd19776357a87e2e5bc427e00e9308076c", func := "isthmus/isthmuslaw8.FeedNone", spec := "feedNone", unfollowed := true, recurses := true, apart := false, narrowed := true }
def FeedNoneUptoSaid : Prop := feedNoneUptoRow.holds Try.pinned (OpenSpec.upto feedNoneSpec)

/-- 'isthmuslaw8.FeedPreface', WHERE WHAT IT READS IS OF BULK AT MOST 1048576: true; the input reads as it did. -/
def feedPrefaceUptoRow : OpenClaim := { program := "ytigdigljcalgkaa", sum := "2167be467d927fca1a246a847b385dfd19776357a87e2e5bc427e00e9308076c", func := "isthmus/isthmuslaw8.FeedPreface", spec := "feedPreface", unfollowed := true, recurses := true, apart := false, narrowed := true }
def FeedPrefaceUptoSaid : Prop := feedPrefaceUptoRow.holds Try.pinned (OpenSpec.upto feedPrefaceSpec)

/-- 'isthmuslaw8.FeedMost', WHERE WHAT IT READS IS OF BULK AT MOST 1048576: true; the input reads as it did. -/
def feedMostUptoRow : OpenClaim := { program := "ytigdigljcalgkaa", sum := "2167be467d927fca1a246a847b385dfd19776357a87e2e5bc427e00e9308076c", func := "isthmus/isthmuslaw8.FeedMost", spec := "feedMost", unfollowed := true, recurses := true, apart := false, narrowed := true }
def FeedMostUptoSaid : Prop := feedMostUptoRow.holds Try.pinned (OpenSpec.upto feedMostSpec)

end Rows
end Go.Proofs.Ytigdigljcalgkaa
