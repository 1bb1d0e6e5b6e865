/-
  No cell of these rows narrows 'for every input' (looked for: loops, veiled, ifaces, maps, wideKeys, modest, calm, conditions, laid).
  DERIVED. THE GIVEN ROWS OF THIS SEAT. 5 by the template 'for every input the law returns true; each argument reads behind the call as it read before'; 0 by the template 'total and deterministic' (their statements: YtjnjglhkfaopmaaTotals.lean).
  GIVEN WITH THE SEED: the statements are not yours to turn. If you find one false, say at which input.
  Laid BY PROGRAM, IN A SANDBOX (cutbox-rows.mjs): the forced cells as the released guide's own fill.sh prints them over the translation ddd3923e4b49c0e8… (all of the seat's roots in one cut). By AI agents, Wed Nov 11 2026. No macro, syntax, notation, axiom, sorry.
-/
import Derived.Test.YtjnjglhkfaopmaaChecked
import GoSem.Claim
import GoSem.ClaimJoined
import GoSem.ClaimMapViews
import Derived.JoinedTies
import Derived.KernelRfl
namespace Go.Proofs.Ytjnjglhkfaopmaa
/- THE CELL 'sum', in the pinned program and in every row, IS THE sha256 OF THE DUMP (.gsa) THAT YtjnjglhkfaopmaaProg.lean LOADS. Nothing in Lean hashes anything: it is a label: what it is worth is what the hold of that sum in a sandbox is worth. -/
noncomputable def Try.pinned : Pinned := { name := "ytjnjglhkfaopmaa", sum := "ddd3923e4b49c0e8c01c9b5bc52698851038c88ff1d59d6802537fe1f0f28c9e", checked := Try.checked }
namespace Rows
def none {H : Type} : Left H := { results := [], args := [] }

/-- 'isthmuslaw17.DrainAll': WHATEVER THE INPUT: true; the input reads as it did. -/
def drainAllSpec : ChangeSpec := { name := "drainAll", fn := fun _ => fun
  | [d1, d2] => { results := [.lit (.bool true)], args := [d1, d2] }
  | _ => none }
def drainAllRow : OpenClaim := { program := "ytjnjglhkfaopmaa", sum := "ddd3923e4b49c0e8c01c9b5bc52698851038c88ff1d59d6802537fe1f0f28c9e", func := "isthmus/isthmuslaw17.DrainAll", spec := "drainAll", apart := false }
def DrainAllSaid : Prop := drainAllRow.holds Try.pinned (OpenSpec.ofChange drainAllSpec)

/-- ITS FALSE NEIGHBOUR: 'it returns false'. Refute it at one input. -/
def drainAllWrong : ChangeSpec := { name := "drainAll", fn := fun _ => fun
  | [d1, d2] => { results := [.lit (.bool false)], args := [d1, d2] }
  | _ => none }
def DrainAllWrongFalsely : Prop := drainAllRow.holds Try.pinned (OpenSpec.ofChange drainAllWrong)

/-- 'isthmuslaw17.DrainOnce': WHATEVER THE INPUT: true; the input reads as it did. -/
def drainOnceSpec : ChangeSpec := { name := "drainOnce", fn := fun _ => fun
  | [d1, d2] => { results := [.lit (.bool true)], args := [d1, d2] }
  | _ => none }
def drainOnceRow : OpenClaim := { program := "ytjnjglhkfaopmaa", sum := "ddd3923e4b49c0e8c01c9b5bc52698851038c88ff1d59d6802537fe1f0f28c9e", func := "isthmus/isthmuslaw17.DrainOnce", spec := "drainOnce", apart := false }
def DrainOnceSaid : Prop := drainOnceRow.holds Try.pinned (OpenSpec.ofChange drainOnceSpec)

/-- ITS FALSE NEIGHBOUR: 'it returns false'. Refute it at one input. -/
def drainOnceWrong : ChangeSpec := { name := "drainOnce", fn := fun _ => fun
  | [d1, d2] => { results := [.lit (.bool false)], args := [d1, d2] }
  | _ => none }
def DrainOnceWrongFalsely : Prop := drainOnceRow.holds Try.pinned (OpenSpec.ofChange drainOnceWrong)

/-- 'isthmuslaw17.DrainPeace': WHATEVER THE INPUT: true; the input reads as it did. -/
def drainPeaceSpec : ChangeSpec := { name := "drainPeace", fn := fun _ => fun
  | [d1, d2, d3] => { results := [.lit (.bool true)], args := [d1, d2, d3] }
  | _ => none }
def drainPeaceRow : OpenClaim := { program := "ytjnjglhkfaopmaa", sum := "ddd3923e4b49c0e8c01c9b5bc52698851038c88ff1d59d6802537fe1f0f28c9e", func := "isthmus/isthmuslaw17.DrainPeace", spec := "drainPeace", apart := false }
def DrainPeaceSaid : Prop := drainPeaceRow.holds Try.pinned (OpenSpec.ofChange drainPeaceSpec)

/-- ITS FALSE NEIGHBOUR: 'it returns false'. Refute it at one input. -/
def drainPeaceWrong : ChangeSpec := { name := "drainPeace", fn := fun _ => fun
  | [d1, d2, d3] => { results := [.lit (.bool false)], args := [d1, d2, d3] }
  | _ => none }
def DrainPeaceWrongFalsely : Prop := drainPeaceRow.holds Try.pinned (OpenSpec.ofChange drainPeaceWrong)

/-- 'isthmuslaw17.DrainPlay': WHATEVER THE INPUT: true; the input reads as it did. -/
def drainPlaySpec : ChangeSpec := { name := "drainPlay", fn := fun _ => fun
  | [d1, d2, d3] => { results := [.lit (.bool true)], args := [d1, d2, d3] }
  | _ => none }
def drainPlayRow : OpenClaim := { program := "ytjnjglhkfaopmaa", sum := "ddd3923e4b49c0e8c01c9b5bc52698851038c88ff1d59d6802537fe1f0f28c9e", func := "isthmus/isthmuslaw17.DrainPlay", spec := "drainPlay", unfollowed := true, recurses := true, apart := false }
def DrainPlaySaid : Prop := drainPlayRow.holds Try.pinned (OpenSpec.ofChange drainPlaySpec)

/-- ITS FALSE NEIGHBOUR: 'it returns false'. Refute it at one input. -/
def drainPlayWrong : ChangeSpec := { name := "drainPlay", fn := fun _ => fun
  | [d1, d2, d3] => { results := [.lit (.bool false)], args := [d1, d2, d3] }
  | _ => none }
def DrainPlayWrongFalsely : Prop := drainPlayRow.holds Try.pinned (OpenSpec.ofChange drainPlayWrong)

/-- 'isthmuslaw17.DrainNone': WHATEVER THE INPUT: true; the input reads as it did. -/
def drainNoneSpec : ChangeSpec := { name := "drainNone", fn := fun _ => fun
  | [] => { results := [.lit (.bool true)], args := [] }
  | _ => none }
def drainNoneRow : OpenClaim := { program := "ytjnjglhkfaopmaa", sum := "ddd3923e4b49c0e8c01c9b5bc52698851038c88ff1d59d6802537fe1f0f28c9e", func := "isthmus/isthmuslaw17.DrainNone", spec := "drainNone", unfollowed := true, recurses := true, apart := false }
def DrainNoneSaid : Prop := drainNoneRow.holds Try.pinned (OpenSpec.ofChange drainNoneSpec)

/-- ITS FALSE NEIGHBOUR: 'it returns false'. Refute it at one input. -/
def drainNoneWrong : ChangeSpec := { name := "drainNone", fn := fun _ => fun
  | [] => { results := [.lit (.bool false)], args := [] }
  | _ => none }
def DrainNoneWrongFalsely : Prop := drainNoneRow.holds Try.pinned (OpenSpec.ofChange drainNoneWrong)

/- THE SECOND FORM. 'bulk': how many values and letters a reading holds, each counted each time it is reached (what is shared counts as often as it is met; a slice's spare places count too). A statement '..UptoSaid' is the law's where the arguments, and the package variables that the reading takes, are together of bulk at most 1048576: NARROWER than '..Said'. Prove '..Said' where nothing that the law and all that it calls make is longer than what came in: it says more and counts as full. Else prove '..UptoSaid'. A law counts once. -/
mutual
def uptoBulk {H : Type} : DataW H → Nat
  | .lit (.string bytes) => bytes.length + 1
  | .lit _ => 1
  | .nil => 1
  | .ptr d => uptoBulk d + 1
  | .slice elems spare => uptoBulkAll elems + uptoBulkAll spare + 1
  | .agg parts => uptoBulkAll parts + 1
  | .iface _ d => uptoBulk d + 1
  | .map entries => uptoBulkEntries entries + 1
  | .held _ => 1
def uptoBulkAll {H : Type} : List (DataW H) → Nat
  | [] => 0
  | d :: r => uptoBulk d + uptoBulkAll r
def uptoBulkEntries {H : Type} : List (Lit × DataW H) → Nat
  | [] => 0
  | x :: r => uptoBulkEntry x + uptoBulkEntries r
def uptoBulkEntry {H : Type} : Lit × DataW H → Nat
  | (.string bytes, d) => bytes.length + uptoBulk d + 1
  | (_, d) => uptoBulk d + 1
 end
def uptoSmall : (H : Type) → List (DataW H) → Bool := fun _ ds => decide (uptoBulkAll ds ≤ 1048576)
def OpenSpec.upto (s : _root_.Go.ChangeSpec) : _root_.Go.OpenSpec := { _root_.Go.OpenSpec.ofChange s with cond := some uptoSmall }

/-- 'isthmuslaw17.DrainAll', WHERE WHAT IT READS IS OF BULK AT MOST 1048576: true; the input reads as it did. -/
def drainAllUptoRow : OpenClaim := { program := "ytjnjglhkfaopmaa", sum := "ddd3923e4b49c0e8c01c9b5bc52698851038c88ff1d59d6802537fe1f0f28c9e", func := "isthmus/isthmuslaw17.DrainAll", spec := "drainAll", apart := false, narrowed := true }
def DrainAllUptoSaid : Prop := drainAllUptoRow.holds Try.pinned (OpenSpec.upto drainAllSpec)

/-- 'isthmuslaw17.DrainOnce', WHERE WHAT IT READS IS OF BULK AT MOST 1048576: true; the input reads as it did. -/
def drainOnceUptoRow : OpenClaim := { program := "ytjnjglhkfaopmaa", sum := "ddd3923e4b49c0e8c01c9b5bc52698851038c88ff1d59d6802537fe1f0f28c9e", func := "isthmus/isthmuslaw17.DrainOnce", spec := "drainOnce", apart := false, narrowed := true }
def DrainOnceUptoSaid : Prop := drainOnceUptoRow.holds Try.pinned (OpenSpec.upto drainOnceSpec)

/-- 'isthmuslaw17.DrainPeace', WHERE WHAT IT READS IS OF BULK AT MOST 1048576: true; the input reads as it did. -/
def drainPeaceUptoRow : OpenClaim := { program := "ytjnjglhkfaopmaa", sum := "ddd3923e4b49c0e8c01c9b5bc52698851038c88ff1d59d6802537fe1f0f28c9e", func := "isthmus/isthmuslaw17.DrainPeace", spec := "drainPeace", apart := false, narrowed := true }
def DrainPeaceUptoSaid : Prop := drainPeaceUptoRow.holds Try.pinned (OpenSpec.upto drainPeaceSpec)

/-- 'isthmuslaw17.DrainPlay', WHERE WHAT IT READS IS OF BULK AT MOST 1048576: true; the input reads as it did. -/
def drainPlayUptoRow : OpenClaim := { program := "ytjnjglhkfaopmaa", sum := "ddd3923e4b49c0e8c01c9b5bc52698851038c88ff1d59d6802537fe1f0f28c9e", func := "isthmus/isthmuslaw17.DrainPlay", spec := "drainPlay", unfollowed := true, recurses := true, apart := false, narrowed := true }
def DrainPlayUptoSaid : Prop := drainPlayUptoRow.holds Try.pinned (OpenSpec.upto drainPlaySpec)

/-- 'isthmuslaw17.DrainNone', WHERE WHAT IT READS IS OF BULK AT MOST 1048576: true; the input reads as it did. -/
def drainNoneUptoRow : OpenClaim := { program := "ytjnjglhkfaopmaa", sum := "ddd3923e4b49c0e8c01c9b5bc52698851038c88ff1d59d6802537fe1f0f28c9e", func := "isthmus/isthmuslaw17.DrainNone", spec := "drainNone", unfollowed := true, recurses := true, apart := false, narrowed := true }
def DrainNoneUptoSaid : Prop := drainNoneUptoRow.holds Try.pinned (OpenSpec.upto drainNoneSpec)

end Rows
end Go.Proofs.Ytjnjglhkfaopmaa
