/-
  No cell of these rows narrows 'for every input' (looked for: loops, veiled, ifaces, maps, wideKeys, modest, calm, conditions, laid).
  DERIVED. THE GIVEN ROWS OF THIS SEAT. 9 by the template 'for every input the law returns true; each argument reads behind the call as it read before'; 0 by the template 'total and deterministic' (their statements: YtjnlmcpcdgfpkaaTotals.lean).
  GIVEN WITH THE SEED: the statements are not yours to turn. If you find one false, say at which input.
  Laid BY PROGRAM, IN A SANDBOX (cutbox-rows.mjs): the forced cells as the released guide's own fill.sh prints them over the translation ef64e25c9bc863ab… (all of the seat's roots in one cut). By AI agents, Wed Nov 11 2026. No macro, syntax, notation, axiom, sorry.
-/
import Derived.Test.YtjnlmcpcdgfpkaaChecked
import GoSem.Claim
import GoSem.ClaimJoined
import GoSem.ClaimMapViews
import Derived.JoinedTies
import Derived.KernelRfl
namespace Go.Proofs.Ytjnlmcpcdgfpkaa
/- THE CELL 'sum', in the pinned program and in every row, IS THE sha256 OF THE DUMP (.gsa) THAT YtjnlmcpcdgfpkaaProg.lean LOADS. Nothing in Lean hashes anything: it is a label: what it is worth is what the hold of that sum in a sandbox is worth. -/
noncomputable def Try.pinned : Pinned := { name := "ytjnlmcpcdgfpkaa", sum := "ef64e25c9bc863abd49aa94e44739ec7d79c65f5dc755b172e136555bfb675c7", checked := Try.checked }
namespace Rows
def none {H : Type} : Left H := { results := [], args := [] }

/-- 'thresherlaw16.EntKinds': WHATEVER THE INPUT: true; the input reads as it did. -/
def entKindsSpec : ChangeSpec := { name := "entKinds", fn := fun _ => fun
  | [d] => { results := [.lit (.bool true)], args := [d] }
  | _ => none }
def entKindsRow : OpenClaim := { program := "ytjnlmcpcdgfpkaa", sum := "ef64e25c9bc863abd49aa94e44739ec7d79c65f5dc755b172e136555bfb675c7", func := "thresher/thresherlaw16.EntKinds", spec := "entKinds", apart := false }
def EntKindsSaid : Prop := entKindsRow.holds Try.pinned (OpenSpec.ofChange entKindsSpec)

/-- ITS FALSE NEIGHBOUR: 'it returns false'. Refute it at one input. -/
def entKindsWrong : ChangeSpec := { name := "entKinds", fn := fun _ => fun
  | [d] => { results := [.lit (.bool false)], args := [d] }
  | _ => none }
def EntKindsWrongFalsely : Prop := entKindsRow.holds Try.pinned (OpenSpec.ofChange entKindsWrong)

/-- 'thresherlaw5.FrameBytes': WHATEVER THE INPUT: true; the input reads as it did. -/
def frameBytesSpec : ChangeSpec := { name := "frameBytes", fn := fun _ => fun
  | [d] => { results := [.lit (.bool true)], args := [d] }
  | _ => none }
def frameBytesRow : OpenClaim := { program := "ytjnlmcpcdgfpkaa", sum := "ef64e25c9bc863abd49aa94e44739ec7d79c65f5dc755b172e136555bfb675c7", func := "thresher/thresherlaw5.FrameBytes", spec := "frameBytes", apart := false }
def FrameBytesSaid : Prop := frameBytesRow.holds Try.pinned (OpenSpec.ofChange frameBytesSpec)

/-- ITS FALSE NEIGHBOUR: 'it returns false'. Refute it at one input. -/
def frameBytesWrong : ChangeSpec := { name := "frameBytes", fn := fun _ => fun
  | [d] => { results := [.lit (.bool false)], args := [d] }
  | _ => none }
def FrameBytesWrongFalsely : Prop := frameBytesRow.holds Try.pinned (OpenSpec.ofChange frameBytesWrong)

/-- 'thresherlaw5.FrameCuts': WHATEVER THE INPUT: true; the input reads as it did. -/
def frameCutsSpec : ChangeSpec := { name := "frameCuts", fn := fun _ => fun
  | [d] => { results := [.lit (.bool true)], args := [d] }
  | _ => none }
def frameCutsRow : OpenClaim := { program := "ytjnlmcpcdgfpkaa", sum := "ef64e25c9bc863abd49aa94e44739ec7d79c65f5dc755b172e136555bfb675c7", func := "thresher/thresherlaw5.FrameCuts", spec := "frameCuts", apart := false }
def FrameCutsSaid : Prop := frameCutsRow.holds Try.pinned (OpenSpec.ofChange frameCutsSpec)

/-- ITS FALSE NEIGHBOUR: 'it returns false'. Refute it at one input. -/
def frameCutsWrong : ChangeSpec := { name := "frameCuts", fn := fun _ => fun
  | [d] => { results := [.lit (.bool false)], args := [d] }
  | _ => none }
def FrameCutsWrongFalsely : Prop := frameCutsRow.holds Try.pinned (OpenSpec.ofChange frameCutsWrong)

/-- 'thresherlaw16.EntBytes': WHATEVER THE INPUT: true; the input reads as it did. -/
def entBytesSpec : ChangeSpec := { name := "entBytes", fn := fun _ => fun
  | [d] => { results := [.lit (.bool true)], args := [d] }
  | _ => none }
def entBytesRow : OpenClaim := { program := "ytjnlmcpcdgfpkaa", sum := "ef64e25c9bc863abd49aa94e44739ec7d79c65f5dc755b172e136555bfb675c7", func := "thresher/thresherlaw16.EntBytes", spec := "entBytes", apart := false }
def EntBytesSaid : Prop := entBytesRow.holds Try.pinned (OpenSpec.ofChange entBytesSpec)

/-- ITS FALSE NEIGHBOUR: 'it returns false'. Refute it at one input. -/
def entBytesWrong : ChangeSpec := { name := "entBytes", fn := fun _ => fun
  | [d] => { results := [.lit (.bool false)], args := [d] }
  | _ => none }
def EntBytesWrongFalsely : Prop := entBytesRow.holds Try.pinned (OpenSpec.ofChange entBytesWrong)

/-- 'thresherlaw16.EntAccepts': WHATEVER THE INPUT: true; the input reads as it did. -/
def entAcceptsSpec : ChangeSpec := { name := "entAccepts", fn := fun _ => fun
  | [d] => { results := [.lit (.bool true)], args := [d] }
  | _ => none }
def entAcceptsRow : OpenClaim := { program := "ytjnlmcpcdgfpkaa", sum := "ef64e25c9bc863abd49aa94e44739ec7d79c65f5dc755b172e136555bfb675c7", func := "thresher/thresherlaw16.EntAccepts", spec := "entAccepts", apart := false }
def EntAcceptsSaid : Prop := entAcceptsRow.holds Try.pinned (OpenSpec.ofChange entAcceptsSpec)

/-- ITS FALSE NEIGHBOUR: 'it returns false'. Refute it at one input. -/
def entAcceptsWrong : ChangeSpec := { name := "entAccepts", fn := fun _ => fun
  | [d] => { results := [.lit (.bool false)], args := [d] }
  | _ => none }
def EntAcceptsWrongFalsely : Prop := entAcceptsRow.holds Try.pinned (OpenSpec.ofChange entAcceptsWrong)

/-- 'thresherlaw16.EntParts': WHATEVER THE INPUT: true; the input reads as it did. -/
def entPartsSpec : ChangeSpec := { name := "entParts", fn := fun _ => fun
  | [d] => { results := [.lit (.bool true)], args := [d] }
  | _ => none }
def entPartsRow : OpenClaim := { program := "ytjnlmcpcdgfpkaa", sum := "ef64e25c9bc863abd49aa94e44739ec7d79c65f5dc755b172e136555bfb675c7", func := "thresher/thresherlaw16.EntParts", spec := "entParts", apart := false }
def EntPartsSaid : Prop := entPartsRow.holds Try.pinned (OpenSpec.ofChange entPartsSpec)

/-- ITS FALSE NEIGHBOUR: 'it returns false'. Refute it at one input. -/
def entPartsWrong : ChangeSpec := { name := "entParts", fn := fun _ => fun
  | [d] => { results := [.lit (.bool false)], args := [d] }
  | _ => none }
def EntPartsWrongFalsely : Prop := entPartsRow.holds Try.pinned (OpenSpec.ofChange entPartsWrong)

/-- 'thresherlaw16.EntDecides': WHATEVER THE INPUT: true; the input reads as it did. -/
def entDecidesSpec : ChangeSpec := { name := "entDecides", fn := fun _ => fun
  | [d] => { results := [.lit (.bool true)], args := [d] }
  | _ => none }
def entDecidesRow : OpenClaim := { program := "ytjnlmcpcdgfpkaa", sum := "ef64e25c9bc863abd49aa94e44739ec7d79c65f5dc755b172e136555bfb675c7", func := "thresher/thresherlaw16.EntDecides", spec := "entDecides", apart := false }
def EntDecidesSaid : Prop := entDecidesRow.holds Try.pinned (OpenSpec.ofChange entDecidesSpec)

/-- ITS FALSE NEIGHBOUR: 'it returns false'. Refute it at one input. -/
def entDecidesWrong : ChangeSpec := { name := "entDecides", fn := fun _ => fun
  | [d] => { results := [.lit (.bool false)], args := [d] }
  | _ => none }
def EntDecidesWrongFalsely : Prop := entDecidesRow.holds Try.pinned (OpenSpec.ofChange entDecidesWrong)

/-- 'thresherlaw16.EntPrepares': WHATEVER THE INPUT: true; the input reads as it did. -/
def entPreparesSpec : ChangeSpec := { name := "entPrepares", fn := fun _ => fun
  | [d] => { results := [.lit (.bool true)], args := [d] }
  | _ => none }
def entPreparesRow : OpenClaim := { program := "ytjnlmcpcdgfpkaa", sum := "ef64e25c9bc863abd49aa94e44739ec7d79c65f5dc755b172e136555bfb675c7", func := "thresher/thresherlaw16.EntPrepares", spec := "entPrepares", apart := false }
def EntPreparesSaid : Prop := entPreparesRow.holds Try.pinned (OpenSpec.ofChange entPreparesSpec)

/-- ITS FALSE NEIGHBOUR: 'it returns false'. Refute it at one input. -/
def entPreparesWrong : ChangeSpec := { name := "entPrepares", fn := fun _ => fun
  | [d] => { results := [.lit (.bool false)], args := [d] }
  | _ => none }
def EntPreparesWrongFalsely : Prop := entPreparesRow.holds Try.pinned (OpenSpec.ofChange entPreparesWrong)

/-- 'thresherlaw16.EntKnows': WHATEVER THE INPUT: true; the input reads as it did. -/
def entKnowsSpec : ChangeSpec := { name := "entKnows", fn := fun _ => fun
  | [d] => { results := [.lit (.bool true)], args := [d] }
  | _ => none }
def entKnowsRow : OpenClaim := { program := "ytjnlmcpcdgfpkaa", sum := "ef64e25c9bc863abd49aa94e44739ec7d79c65f5dc755b172e136555bfb675c7", func := "thresher/thresherlaw16.EntKnows", spec := "entKnows", apart := false }
def EntKnowsSaid : Prop := entKnowsRow.holds Try.pinned (OpenSpec.ofChange entKnowsSpec)

/-- ITS FALSE NEIGHBOUR: 'it returns false'. Refute it at one input. -/
def entKnowsWrong : ChangeSpec := { name := "entKnows", fn := fun _ => fun
  | [d] => { results := [.lit (.bool false)], args := [d] }
  | _ => none }
def EntKnowsWrongFalsely : Prop := entKnowsRow.holds Try.pinned (OpenSpec.ofChange entKnowsWrong)

/- THE SECOND FORM. 'bulk': how many values and letters a reading holds, each counted each time it is reached (what is shared counts as often as it is met; a slice's spare places count too). A statement '..UptoSaid' is the law's where the arguments, and the package variables that the reading takes, are together of bulk at most 1048576: NARROWER than '..Said'. Prove '..Said' where nothing that the law and all that it calls make is longer than what came in: it says more and counts as full. Else prove '..UptoSaid'. A law counts once. -/
mutual
def uptoBulk {H : Type} : DataW H → Nat
  | .lit (.string bytes) => bytes.length + 1
  | .lit _ => 1
  | .nil => 1
  | .ptr d => uptoBulk d + 1
  | .slice elems spare => uptoBulkAll elems + uptoBulkAll spare + 1
  | .agg parts => uptoBulkAll parts + 1
  | .iface _ d => uptoBulk d + 1
  | .map entries => uptoBulkEntries entries + 1
  | .held _ => 1
def uptoBulkAll {H : Type} : List (DataW H) → Nat
  | [] => 0
  | d :: r => uptoBulk d + uptoBulkAll r
def uptoBulkEntries {H : Type} : List (Lit × DataW H) → Nat
  | [] => 0
  | x :: r => uptoBulkEntry x + uptoBulkEntries r
def uptoBulkEntry {H : Type} : Lit × DataW H → Nat
  | (.string bytes, d) => bytes.length + uptoBulk d + 1
  | (_, d) => uptoBulk d + 1
 end
def uptoSmall : (H : Type) → List (DataW H) → Bool := fun _ ds => decide (uptoBulkAll ds ≤ 1048576)
def OpenSpec.upto (s : _root_.Go.ChangeSpec) : _root_.Go.OpenSpec := { _root_.Go.OpenSpec.ofChange s with cond := some uptoSmall }

/-- 'thresherlaw16.EntKinds', WHERE WHAT IT READS IS OF BULK AT MOST 1048576: true; the input reads as it did. -/
def entKindsUptoRow : OpenClaim := { program := "ytjnlmcpcdgfpkaa", sum := "ef64e25c9bc863abd49aa94e44739ec7d79c65f5dc755b172e136555bfb675c7", func := "thresher/thresherlaw16.EntKinds", spec := "entKinds", apart := false, narrowed := true }
def EntKindsUptoSaid : Prop := entKindsUptoRow.holds Try.pinned (OpenSpec.upto entKindsSpec)

/-- 'thresherlaw5.FrameBytes', WHERE WHAT IT READS IS OF BULK AT MOST 1048576: true; the input reads as it did. -/
def frameBytesUptoRow : OpenClaim := { program := "ytjnlmcpcdgfpkaa", sum := "ef64e25c9bc863abd49aa94e44739ec7d79c65f5dc755b172e136555bfb675c7", func := "thresher/thresherlaw5.FrameBytes", spec := "frameBytes", apart := false, narrowed := true }
def FrameBytesUptoSaid : Prop := frameBytesUptoRow.holds Try.pinned (OpenSpec.upto frameBytesSpec)

/-- 'thresherlaw5.FrameCuts', WHERE WHAT IT READS IS OF BULK AT MOST 1048576: true; the input reads as it did. -/
def frameCutsUptoRow : OpenClaim := { program := "ytjnlmcpcdgfpkaa", sum := "ef64e25c9bc863abd49aa94e44739ec7d79c65f5dc755b172e136555bfb675c7", func := "thresher/thresherlaw5.FrameCuts", spec := "frameCuts", apart := false, narrowed := true }
def FrameCutsUptoSaid : Prop := frameCutsUptoRow.holds Try.pinned (OpenSpec.upto frameCutsSpec)

/-- 'thresherlaw16.EntBytes', WHERE WHAT IT READS IS OF BULK AT MOST 1048576: true; the input reads as it did. -/
def entBytesUptoRow : OpenClaim := { program := "ytjnlmcpcdgfpkaa", sum := "ef64e25c9bc863abd49aa94e44739ec7d79c65f5dc755b172e136555bfb675c7", func := "thresher/thresherlaw16.EntBytes", spec := "entBytes", apart := false, narrowed := true }
def EntBytesUptoSaid : Prop := entBytesUptoRow.holds Try.pinned (OpenSpec.upto entBytesSpec)

/-- 'thresherlaw16.EntAccepts', WHERE WHAT IT READS IS OF BULK AT MOST 1048576: true; the input reads as it did. -/
def entAcceptsUptoRow : OpenClaim := { program := "ytjnlmcpcdgfpkaa", sum := "ef64e25c9bc863abd49aa94e44739ec7d79c65f5dc755b172e136555bfb675c7", func := "thresher/thresherlaw16.EntAccepts", spec := "entAccepts", apart := false, narrowed := true }
def EntAcceptsUptoSaid : Prop := entAcceptsUptoRow.holds Try.pinned (OpenSpec.upto entAcceptsSpec)

/-- 'thresherlaw16.EntParts', WHERE WHAT IT READS IS OF BULK AT MOST 1048576: true; the input reads as it did. -/
def entPartsUptoRow : OpenClaim := { program := "ytjnlmcpcdgfpkaa", sum := "ef64e25c9bc863abd49aa94e44739ec7d79c65f5dc755b172e136555bfb675c7", func := "thresher/thresherlaw16.EntParts", spec := "entParts", apart := false, narrowed := true }
def EntPartsUptoSaid : Prop := entPartsUptoRow.holds Try.pinned (OpenSpec.upto entPartsSpec)

/-- 'thresherlaw16.EntDecides', WHERE WHAT IT READS IS OF BULK AT MOST 1048576: true; the input reads as it did. -/
def entDecidesUptoRow : OpenClaim := { program := "ytjnlmcpcdgfpkaa", sum := "ef64e25c9bc863abd49aa94e44739ec7d79c65f5dc755b172e136555bfb675c7", func := "thresher/thresherlaw16.EntDecides", spec := "entDecides", apart := false, narrowed := true }
def EntDecidesUptoSaid : Prop := entDecidesUptoRow.holds Try.pinned (OpenSpec.upto entDecidesSpec)

/-- 'thresherlaw16.EntPrepares', WHERE WHAT IT READS IS OF BULK AT MOST 1048576: true; the input reads as it did. -/
def entPreparesUptoRow : OpenClaim := { program := "ytjnlmcpcdgfpkaa", sum := "ef64e25c9bc863abd49aa94e44739ec7d79c65f5dc755b172e136555bfb675c7", func := "thresher/thresherlaw16.EntPrepares", spec := "entPrepares", apart := false, narrowed := true }
def EntPreparesUptoSaid : Prop := entPreparesUptoRow.holds Try.pinned (OpenSpec.upto entPreparesSpec)

/-- 'thresherlaw16.EntKnows', WHERE WHAT IT READS IS OF BULK AT MOST 1048576: true; the input reads as it did. -/
def entKnowsUptoRow : OpenClaim := { program := "ytjnlmcpcdgfpkaa", sum := "ef64e25c9bc863abd49aa94e44739ec7d79c65f5dc755b172e136555bfb675c7", func := "thresher/thresherlaw16.EntKnows", spec := "entKnows", apart := false, narrowed := true }
def EntKnowsUptoSaid : Prop := entKnowsUptoRow.holds Try.pinned (OpenSpec.upto entKnowsSpec)

end Rows
end Go.Proofs.Ytjnlmcpcdgfpkaa
