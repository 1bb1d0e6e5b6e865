/-
  No cell of these rows narrows 'for every input' (looked for: loops, veiled, ifaces, maps, wideKeys, modest, calm, conditions, laid).
  DERIVED. THE GIVEN ROWS OF THIS SEAT. 6 by the template 'for every input the law returns true; each argument reads behind the call as it read before'; 0 by the template 'total and deterministic' (their statements: YtbngoaonkhcciaaTotals.lean).
  GIVEN WITH THE SEED: the statements are not yours to turn. If you find one false, say at which input.
  Laid BY PROGRAM, IN A SANDBOX (cutbox-rows.mjs): the forced cells as the released guide's own fill.sh prints them over the translation 86773823b652c316… (all of the seat's roots in one cut). By AI agents, Wed Nov 11 2026. No macro, syntax, notation, axiom, sorry.
-/
import Derived.Test.YtbngoaonkhcciaaChecked
import GoSem.Claim
import GoSem.ClaimJoined
import GoSem.ClaimMapViews
import Derived.JoinedTies
import Derived.KernelRfl
namespace Go.Proofs.Ytbngoaonkhcciaa
/- THE CELL 'sum', in the pinned program and in every row, IS THE sha256 OF THE DUMP (.gsa) THAT YtbngoaonkhcciaaProg.lean LOADS. Nothing in Lean hashes anything: it is a label: what it is worth is what the hold of that sum in a sandbox is worth. -/
noncomputable def Try.pinned : Pinned := { name := "ytbngoaonkhcciaa", sum := "86773823b652c316a6109d8e1fac39245a1cf9c15124aebe8423ee9ac6359f74", checked := Try.checked }
namespace Rows
def none {H : Type} : Left H := { results := [], args := [] }

/-- 'isthmuslaw7.FramePut': WHATEVER THE INPUT: true; the input reads as it did. -/
def framePutSpec : ChangeSpec := { name := "framePut", fn := fun _ => fun
  | [d] => { results := [.lit (.bool true)], args := [d] }
  | _ => none }
def framePutRow : OpenClaim := { program := "ytbngoaonkhcciaa", sum := "86773823b652c316a6109d8e1fac39245a1cf9c15124aebe8423ee9ac6359f74", func := "isthmus/isthmuslaw7.FramePut", spec := "framePut", unfollowed := true, recurses := true, apart := false }
def FramePutSaid : Prop := framePutRow.holds Try.pinned (OpenSpec.ofChange framePutSpec)

/-- ITS FALSE NEIGHBOUR: 'it returns false'. Refute it at one input. -/
def framePutWrong : ChangeSpec := { name := "framePut", fn := fun _ => fun
  | [d] => { results := [.lit (.bool false)], args := [d] }
  | _ => none }
def FramePutWrongFalsely : Prop := framePutRow.holds Try.pinned (OpenSpec.ofChange framePutWrong)

/-- 'isthmuslaw7.FrameHead': WHATEVER THE INPUT: true; the input reads as it did. -/
def frameHeadSpec : ChangeSpec := { name := "frameHead", fn := fun _ => fun
  | [d] => { results := [.lit (.bool true)], args := [d] }
  | _ => none }
def frameHeadRow : OpenClaim := { program := "ytbngoaonkhcciaa", sum := "86773823b652c316a6109d8e1fac39245a1cf9c15124aebe8423ee9ac6359f74", func := "isthmus/isthmuslaw7.FrameHead", spec := "frameHead", unfollowed := true, recurses := true, apart := false }
def FrameHeadSaid : Prop := frameHeadRow.holds Try.pinned (OpenSpec.ofChange frameHeadSpec)

/-- ITS FALSE NEIGHBOUR: 'it returns false'. Refute it at one input. -/
def frameHeadWrong : ChangeSpec := { name := "frameHead", fn := fun _ => fun
  | [d] => { results := [.lit (.bool false)], args := [d] }
  | _ => none }
def FrameHeadWrongFalsely : Prop := frameHeadRow.holds Try.pinned (OpenSpec.ofChange frameHeadWrong)

/-- 'isthmuslaw7.FrameRead': WHATEVER THE INPUT: true; the input reads as it did. -/
def frameReadSpec : ChangeSpec := { name := "frameRead", fn := fun _ => fun
  | [d] => { results := [.lit (.bool true)], args := [d] }
  | _ => none }
def frameReadRow : OpenClaim := { program := "ytbngoaonkhcciaa", sum := "86773823b652c316a6109d8e1fac39245a1cf9c15124aebe8423ee9ac6359f74", func := "isthmus/isthmuslaw7.FrameRead", spec := "frameRead", unfollowed := true, recurses := true, apart := false }
def FrameReadSaid : Prop := frameReadRow.holds Try.pinned (OpenSpec.ofChange frameReadSpec)

/-- ITS FALSE NEIGHBOUR: 'it returns false'. Refute it at one input. -/
def frameReadWrong : ChangeSpec := { name := "frameRead", fn := fun _ => fun
  | [d] => { results := [.lit (.bool false)], args := [d] }
  | _ => none }
def FrameReadWrongFalsely : Prop := frameReadRow.holds Try.pinned (OpenSpec.ofChange frameReadWrong)

/-- 'isthmuslaw7.FrameBack': WHATEVER THE INPUT: true; the input reads as it did. -/
def frameBackSpec : ChangeSpec := { name := "frameBack", fn := fun _ => fun
  | [d1, d2, d3, d4] => { results := [.lit (.bool true)], args := [d1, d2, d3, d4] }
  | _ => none }
def frameBackRow : OpenClaim := { program := "ytbngoaonkhcciaa", sum := "86773823b652c316a6109d8e1fac39245a1cf9c15124aebe8423ee9ac6359f74", func := "isthmus/isthmuslaw7.FrameBack", spec := "frameBack", unfollowed := true, recurses := true, apart := false }
def FrameBackSaid : Prop := frameBackRow.holds Try.pinned (OpenSpec.ofChange frameBackSpec)

/-- ITS FALSE NEIGHBOUR: 'it returns false'. Refute it at one input. -/
def frameBackWrong : ChangeSpec := { name := "frameBack", fn := fun _ => fun
  | [d1, d2, d3, d4] => { results := [.lit (.bool false)], args := [d1, d2, d3, d4] }
  | _ => none }
def FrameBackWrongFalsely : Prop := frameBackRow.holds Try.pinned (OpenSpec.ofChange frameBackWrong)

/-- 'isthmuslaw7.FrameOwn': WHATEVER THE INPUT: true; the input reads as it did. -/
def frameOwnSpec : ChangeSpec := { name := "frameOwn", fn := fun _ => fun
  | [d] => { results := [.lit (.bool true)], args := [d] }
  | _ => none }
def frameOwnRow : OpenClaim := { program := "ytbngoaonkhcciaa", sum := "86773823b652c316a6109d8e1fac39245a1cf9c15124aebe8423ee9ac6359f74", func := "isthmus/isthmuslaw7.FrameOwn", spec := "frameOwn", unfollowed := true, recurses := true, apart := false }
def FrameOwnSaid : Prop := frameOwnRow.holds Try.pinned (OpenSpec.ofChange frameOwnSpec)

/-- ITS FALSE NEIGHBOUR: 'it returns false'. Refute it at one input. -/
def frameOwnWrong : ChangeSpec := { name := "frameOwn", fn := fun _ => fun
  | [d] => { results := [.lit (.bool false)], args := [d] }
  | _ => none }
def FrameOwnWrongFalsely : Prop := frameOwnRow.holds Try.pinned (OpenSpec.ofChange frameOwnWrong)

/-- 'isthmuslaw7.FrameSettings': WHATEVER THE INPUT: true; the input reads as it did. -/
def frameSettingsSpec : ChangeSpec := { name := "frameSettings", fn := fun _ => fun
  | [d1, d2] => { results := [.lit (.bool true)], args := [d1, d2] }
  | _ => none }
def frameSettingsRow : OpenClaim := { program := "ytbngoaonkhcciaa", sum := "86773823b652c316a6109d8e1fac39245a1cf9c15124aebe8423ee9ac6359f74", func := "isthmus/isthmuslaw7.FrameSettings", spec := "frameSettings", unfollowed := true, recurses := true, apart := false }
def FrameSettingsSaid : Prop := frameSettingsRow.holds Try.pinned (OpenSpec.ofChange frameSettingsSpec)

/-- ITS FALSE NEIGHBOUR: 'it returns false'. Refute it at one input. -/
def frameSettingsWrong : ChangeSpec := { name := "frameSettings", fn := fun _ => fun
  | [d1, d2] => { results := [.lit (.bool false)], args := [d1, d2] }
  | _ => none }
def FrameSettingsWrongFalsely : Prop := frameSettingsRow.holds Try.pinned (OpenSpec.ofChange frameSettingsWrong)

/- THE SECOND FORM. 'bulk': how many values and letters a reading holds, each counted each time it is reached (what is shared counts as often as it is met; a slice's spare places count too). A statement '..UptoSaid' is the law's where the arguments, and the package variables that the reading takes, are together of bulk at most 1048576: NARROWER than '..Said'. Prove '..Said' where nothing that the law and all that it calls make is longer than what came in: it says more and counts as full. Else prove '..UptoSaid'. A law counts once. -/
mutual
def uptoBulk {H : Type} : DataW H → Nat
  | .lit (.string bytes) => bytes.length + 1
  | .lit _ => 1
  | .nil => 1
  | .ptr d => uptoBulk d + 1
  | .slice elems spare => uptoBulkAll elems + uptoBulkAll spare + 1
  | .agg parts => uptoBulkAll parts + 1
  | .iface _ d => uptoBulk d + 1
  | .map entries => uptoBulkEntries entries + 1
  | .held _ => 1
def uptoBulkAll {H : Type} : List (DataW H) → Nat
  | [] => 0
  | d :: r => uptoBulk d + uptoBulkAll r
def uptoBulkEntries {H : Type} : List (Lit × DataW H) → Nat
  | [] => 0
  | x :: r => uptoBulkEntry x + uptoBulkEntries r
def uptoBulkEntry {H : Type} : Lit × DataW H → Nat
  | (.string bytes, d) => bytes.length + uptoBulk d + 1
  | (_, d) => uptoBulk d + 1
 end
def uptoSmall : (H : Type) → List (DataW H) → Bool := fun _ ds => decide (uptoBulkAll ds ≤ 1048576)
def OpenSpec.upto (s : _root_.Go.ChangeSpec) : _root_.Go.OpenSpec := { _root_.Go.OpenSpec.ofChange s with cond := some uptoSmall }

/-- 'isthmuslaw7.FramePut', WHERE WHAT IT READS IS OF BULK AT MOST 1048576: true; the input reads as it did. -/
def framePutUptoRow : OpenClaim := { program := "ytbngoaonkhcciaa", sum := "86773823b652c316a6109d8e1fac39245a1cf9c15124aebe8423ee9ac6359f74", func := "isthmus/isthmuslaw7.FramePut", spec := "framePut", unfollowed := true, recurses := true, apart := false, narrowed := true }
def FramePutUptoSaid : Prop := framePutUptoRow.holds Try.pinned (OpenSpec.upto framePutSpec)

/-- 'isthmuslaw7.FrameHead', WHERE WHAT IT READS IS OF BULK AT MOST 1048576: true; the input reads as it did. -/
def frameHeadUptoRow : OpenClaim := { program := "ytbngoaonkhcciaa", sum := "86773823b652c316a6109d8e1fac39245a1cf9c15124aebe8423ee9ac6359f74", func := "isthmus/isthmuslaw7.FrameHead", spec := "frameHead", unfollowed := true, recurses := true, apart := false, narrowed := true }
def FrameHeadUptoSaid : Prop := frameHeadUptoRow.holds Try.pinned (OpenSpec.upto frameHeadSpec)

/-- 'isthmuslaw7.FrameRead', WHERE WHAT IT READS IS OF BULK AT MOST 1048576: true; the input reads as it did. -/
def frameReadUptoRow : OpenClaim := { program := "ytbngoaonkhcciaa", sum := "86773823b652c316a6109d8e1fac39245a1cf9c15124aebe8423ee9ac6359f74", func := "isthmus/isthmuslaw7.FrameRead", spec := "frameRead", unfollowed := true, recurses := true, apart := false, narrowed := true }
def FrameReadUptoSaid : Prop := frameReadUptoRow.holds Try.pinned (OpenSpec.upto frameReadSpec)

/-- 'isthmuslaw7.FrameBack', WHERE WHAT IT READS IS OF BULK AT MOST 1048576: true; the input reads as it did. -/
def frameBackUptoRow : OpenClaim := { program := "ytbngoaonkhcciaa", sum := "86773823b652c316a6109d8e1fac39245a1cf9c15124aebe8423ee9ac6359f74", func := "isthmus/isthmuslaw7.FrameBack", spec := "frameBack", unfollowed := true, recurses := true, apart := false, narrowed := true }
def FrameBackUptoSaid : Prop := frameBackUptoRow.holds Try.pinned (OpenSpec.upto frameBackSpec)

/-- 'isthmuslaw7.FrameOwn', WHERE WHAT IT READS IS OF BULK AT MOST 1048576: true; the input reads as it did. -/
def frameOwnUptoRow : OpenClaim := { program := "ytbngoaonkhcciaa", sum := "86773823b652c316a6109d8e1fac39245a1cf9c15124aebe8423ee9ac6359f74", func := "isthmus/isthmuslaw7.FrameOwn", spec := "frameOwn", unfollowed := true, recurses := true, apart := false, narrowed := true }
def FrameOwnUptoSaid : Prop := frameOwnUptoRow.holds Try.pinned (OpenSpec.upto frameOwnSpec)

/-- 'isthmuslaw7.FrameSettings', WHERE WHAT IT READS IS OF BULK AT MOST 1048576: true; the input reads as it did. -/
def frameSettingsUptoRow : OpenClaim := { program := "ytbngoaonkhcciaa", sum := "86773823b652c316a6109d8e1fac39245a1cf9c15124aebe8423ee9ac6359f74", func := "isthmus/isthmuslaw7.FrameSettings", spec := "frameSettings", unfollowed := true, recurses := true, apart := false, narrowed := true }
def FrameSettingsUptoSaid : Prop := frameSettingsUptoRow.holds Try.pinned (OpenSpec.upto frameSettingsSpec)

end Rows
end Go.Proofs.Ytbngoaonkhcciaa
