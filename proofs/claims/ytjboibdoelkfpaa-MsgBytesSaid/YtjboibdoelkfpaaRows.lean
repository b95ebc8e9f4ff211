/-
  No cell of these rows narrows 'for every input' (looked for: loops, veiled, ifaces, maps, wideKeys, modest, calm, conditions, laid).
  DERIVED. THE GIVEN ROWS OF THIS SEAT. 9 by the template 'for every input the law returns true; each argument reads behind the call as it read before'; 0 by the template 'total and deterministic' (their statements: YtjboibdoelkfpaaTotals.lean).
  GIVEN WITH THE SEED: the statements are not yours to turn. If you find one false, say at which input.
  Laid BY PROGRAM, IN A SANDBOX (cutbox-rows.mjs): the forced cells as the released guide's own fill.sh prints them over the translation b6978b73c6ec8396… (all of the seat's roots in one cut). By AI agents, Wed Nov 11 2026. No macro, syntax, notation, axiom, sorry.
-/
import Derived.Test.YtjboibdoelkfpaaChecked
import GoSem.Claim
import GoSem.ClaimJoined
import GoSem.ClaimMapViews
import Derived.JoinedTies
import Derived.KernelRfl
namespace Go.Proofs.Ytjboibdoelkfpaa
/- THE CELL 'sum', in the pinned program and in every row, IS THE sha256 OF THE DUMP (.gsa) THAT YtjboibdoelkfpaaProg.lean LOADS. Nothing in Lean hashes anything: it is a label: what it is worth is what the hold of that sum in a sandbox is worth. -/
noncomputable def Try.pinned : Pinned := { name := "ytjboibdoelkfpaa", sum := "b6978b73c6ec8396c979945fc8bec3c7c8e634c185b4b1d76f3eaaf9482282dc", checked := Try.checked }
namespace Rows
def none {H : Type} : Left H := { results := [], args := [] }

/-- 'thresherlaw15.MsgBytes': WHATEVER THE INPUT: true; the input reads as it did. -/
def msgBytesSpec : ChangeSpec := { name := "msgBytes", fn := fun _ => fun
  | [d] => { results := [.lit (.bool true)], args := [d] }
  | _ => none }
def msgBytesRow : OpenClaim := { program := "ytjboibdoelkfpaa", sum := "b6978b73c6ec8396c979945fc8bec3c7c8e634c185b4b1d76f3eaaf9482282dc", func := "thresher/thresherlaw15.MsgBytes", spec := "msgBytes", apart := false }
def MsgBytesSaid : Prop := msgBytesRow.holds Try.pinned (OpenSpec.ofChange msgBytesSpec)

/-- ITS FALSE NEIGHBOUR: 'it returns false'. Refute it at one input. -/
def msgBytesWrong : ChangeSpec := { name := "msgBytes", fn := fun _ => fun
  | [d] => { results := [.lit (.bool false)], args := [d] }
  | _ => none }
def MsgBytesWrongFalsely : Prop := msgBytesRow.holds Try.pinned (OpenSpec.ofChange msgBytesWrong)

/-- 'thresherlaw15.MsgRuns': WHATEVER THE INPUT: true; the input reads as it did. -/
def msgRunsSpec : ChangeSpec := { name := "msgRuns", fn := fun _ => fun
  | [d] => { results := [.lit (.bool true)], args := [d] }
  | _ => none }
def msgRunsRow : OpenClaim := { program := "ytjboibdoelkfpaa", sum := "b6978b73c6ec8396c979945fc8bec3c7c8e634c185b4b1d76f3eaaf9482282dc", func := "thresher/thresherlaw15.MsgRuns", spec := "msgRuns", apart := false }
def MsgRunsSaid : Prop := msgRunsRow.holds Try.pinned (OpenSpec.ofChange msgRunsSpec)

/-- ITS FALSE NEIGHBOUR: 'it returns false'. Refute it at one input. -/
def msgRunsWrong : ChangeSpec := { name := "msgRuns", fn := fun _ => fun
  | [d] => { results := [.lit (.bool false)], args := [d] }
  | _ => none }
def MsgRunsWrongFalsely : Prop := msgRunsRow.holds Try.pinned (OpenSpec.ofChange msgRunsWrong)

/-- 'thresherlaw15.MsgChunks': WHATEVER THE INPUT: true; the input reads as it did. -/
def msgChunksSpec : ChangeSpec := { name := "msgChunks", fn := fun _ => fun
  | [d] => { results := [.lit (.bool true)], args := [d] }
  | _ => none }
def msgChunksRow : OpenClaim := { program := "ytjboibdoelkfpaa", sum := "b6978b73c6ec8396c979945fc8bec3c7c8e634c185b4b1d76f3eaaf9482282dc", func := "thresher/thresherlaw15.MsgChunks", spec := "msgChunks", apart := false }
def MsgChunksSaid : Prop := msgChunksRow.holds Try.pinned (OpenSpec.ofChange msgChunksSpec)

/-- ITS FALSE NEIGHBOUR: 'it returns false'. Refute it at one input. -/
def msgChunksWrong : ChangeSpec := { name := "msgChunks", fn := fun _ => fun
  | [d] => { results := [.lit (.bool false)], args := [d] }
  | _ => none }
def MsgChunksWrongFalsely : Prop := msgChunksRow.holds Try.pinned (OpenSpec.ofChange msgChunksWrong)

/-- 'thresherlaw15.MsgAcks': WHATEVER THE INPUT: true; the input reads as it did. -/
def msgAcksSpec : ChangeSpec := { name := "msgAcks", fn := fun _ => fun
  | [d] => { results := [.lit (.bool true)], args := [d] }
  | _ => none }
def msgAcksRow : OpenClaim := { program := "ytjboibdoelkfpaa", sum := "b6978b73c6ec8396c979945fc8bec3c7c8e634c185b4b1d76f3eaaf9482282dc", func := "thresher/thresherlaw15.MsgAcks", spec := "msgAcks", apart := false }
def MsgAcksSaid : Prop := msgAcksRow.holds Try.pinned (OpenSpec.ofChange msgAcksSpec)

/-- ITS FALSE NEIGHBOUR: 'it returns false'. Refute it at one input. -/
def msgAcksWrong : ChangeSpec := { name := "msgAcks", fn := fun _ => fun
  | [d] => { results := [.lit (.bool false)], args := [d] }
  | _ => none }
def MsgAcksWrongFalsely : Prop := msgAcksRow.holds Try.pinned (OpenSpec.ofChange msgAcksWrong)

/-- 'thresherlaw15.MsgFails': WHATEVER THE INPUT: true; the input reads as it did. -/
def msgFailsSpec : ChangeSpec := { name := "msgFails", fn := fun _ => fun
  | [d] => { results := [.lit (.bool true)], args := [d] }
  | _ => none }
def msgFailsRow : OpenClaim := { program := "ytjboibdoelkfpaa", sum := "b6978b73c6ec8396c979945fc8bec3c7c8e634c185b4b1d76f3eaaf9482282dc", func := "thresher/thresherlaw15.MsgFails", spec := "msgFails", apart := false }
def MsgFailsSaid : Prop := msgFailsRow.holds Try.pinned (OpenSpec.ofChange msgFailsSpec)

/-- ITS FALSE NEIGHBOUR: 'it returns false'. Refute it at one input. -/
def msgFailsWrong : ChangeSpec := { name := "msgFails", fn := fun _ => fun
  | [d] => { results := [.lit (.bool false)], args := [d] }
  | _ => none }
def MsgFailsWrongFalsely : Prop := msgFailsRow.holds Try.pinned (OpenSpec.ofChange msgFailsWrong)

/-- 'thresherlaw15.MsgPrepares': WHATEVER THE INPUT: true; the input reads as it did. -/
def msgPreparesSpec : ChangeSpec := { name := "msgPrepares", fn := fun _ => fun
  | [d] => { results := [.lit (.bool true)], args := [d] }
  | _ => none }
def msgPreparesRow : OpenClaim := { program := "ytjboibdoelkfpaa", sum := "b6978b73c6ec8396c979945fc8bec3c7c8e634c185b4b1d76f3eaaf9482282dc", func := "thresher/thresherlaw15.MsgPrepares", spec := "msgPrepares", apart := false }
def MsgPreparesSaid : Prop := msgPreparesRow.holds Try.pinned (OpenSpec.ofChange msgPreparesSpec)

/-- ITS FALSE NEIGHBOUR: 'it returns false'. Refute it at one input. -/
def msgPreparesWrong : ChangeSpec := { name := "msgPrepares", fn := fun _ => fun
  | [d] => { results := [.lit (.bool false)], args := [d] }
  | _ => none }
def MsgPreparesWrongFalsely : Prop := msgPreparesRow.holds Try.pinned (OpenSpec.ofChange msgPreparesWrong)

/-- 'thresherlaw15.MsgVotes': WHATEVER THE INPUT: true; the input reads as it did. -/
def msgVotesSpec : ChangeSpec := { name := "msgVotes", fn := fun _ => fun
  | [d] => { results := [.lit (.bool true)], args := [d] }
  | _ => none }
def msgVotesRow : OpenClaim := { program := "ytjboibdoelkfpaa", sum := "b6978b73c6ec8396c979945fc8bec3c7c8e634c185b4b1d76f3eaaf9482282dc", func := "thresher/thresherlaw15.MsgVotes", spec := "msgVotes", apart := false }
def MsgVotesSaid : Prop := msgVotesRow.holds Try.pinned (OpenSpec.ofChange msgVotesSpec)

/-- ITS FALSE NEIGHBOUR: 'it returns false'. Refute it at one input. -/
def msgVotesWrong : ChangeSpec := { name := "msgVotes", fn := fun _ => fun
  | [d] => { results := [.lit (.bool false)], args := [d] }
  | _ => none }
def MsgVotesWrongFalsely : Prop := msgVotesRow.holds Try.pinned (OpenSpec.ofChange msgVotesWrong)

/-- 'thresherlaw15.MsgDecides': WHATEVER THE INPUT: true; the input reads as it did. -/
def msgDecidesSpec : ChangeSpec := { name := "msgDecides", fn := fun _ => fun
  | [d] => { results := [.lit (.bool true)], args := [d] }
  | _ => none }
def msgDecidesRow : OpenClaim := { program := "ytjboibdoelkfpaa", sum := "b6978b73c6ec8396c979945fc8bec3c7c8e634c185b4b1d76f3eaaf9482282dc", func := "thresher/thresherlaw15.MsgDecides", spec := "msgDecides", apart := false }
def MsgDecidesSaid : Prop := msgDecidesRow.holds Try.pinned (OpenSpec.ofChange msgDecidesSpec)

/-- ITS FALSE NEIGHBOUR: 'it returns false'. Refute it at one input. -/
def msgDecidesWrong : ChangeSpec := { name := "msgDecides", fn := fun _ => fun
  | [d] => { results := [.lit (.bool false)], args := [d] }
  | _ => none }
def MsgDecidesWrongFalsely : Prop := msgDecidesRow.holds Try.pinned (OpenSpec.ofChange msgDecidesWrong)

/-- 'thresherlaw15.MsgDones': WHATEVER THE INPUT: true; the input reads as it did. -/
def msgDonesSpec : ChangeSpec := { name := "msgDones", fn := fun _ => fun
  | [d] => { results := [.lit (.bool true)], args := [d] }
  | _ => none }
def msgDonesRow : OpenClaim := { program := "ytjboibdoelkfpaa", sum := "b6978b73c6ec8396c979945fc8bec3c7c8e634c185b4b1d76f3eaaf9482282dc", func := "thresher/thresherlaw15.MsgDones", spec := "msgDones", apart := false }
def MsgDonesSaid : Prop := msgDonesRow.holds Try.pinned (OpenSpec.ofChange msgDonesSpec)

/-- ITS FALSE NEIGHBOUR: 'it returns false'. Refute it at one input. -/
def msgDonesWrong : ChangeSpec := { name := "msgDones", fn := fun _ => fun
  | [d] => { results := [.lit (.bool false)], args := [d] }
  | _ => none }
def MsgDonesWrongFalsely : Prop := msgDonesRow.holds Try.pinned (OpenSpec.ofChange msgDonesWrong)

/- THE SECOND FORM. 'bulk': how many values and letters a reading holds, each counted each time it is reached (what is shared counts as often as it is met; a slice's spare places count too). A statement '..UptoSaid' is the law's where the arguments, and the package variables that the reading takes, are together of bulk at most 1048576: NARROWER than '..Said'. Prove '..Said' where nothing that the law and all that it calls make is longer than what came in: it says more and counts as full. Else prove '..UptoSaid'. A law counts once. -/
mutual
def uptoBulk {H : Type} : DataW H → Nat
  | .lit (.string bytes) => bytes.length + 1
  | .lit _ => 1
  | .nil => 1
  | .ptr d => uptoBulk d + 1
  | .slice elems spare => uptoBulkAll elems + uptoBulkAll spare + 1
  | .agg parts => uptoBulkAll parts + 1
  | .iface _ d => uptoBulk d + 1
  | .map entries => uptoBulkEntries entries + 1
  | .held _ => 1
def uptoBulkAll {H : Type} : List (DataW H) → Nat
  | [] => 0
  | d :: r => uptoBulk d + uptoBulkAll r
def uptoBulkEntries {H : Type} : List (Lit × DataW H) → Nat
  | [] => 0
  | x :: r => uptoBulkEntry x + uptoBulkEntries r
def uptoBulkEntry {H : Type} : Lit × DataW H → Nat
  | (.string bytes, d) => bytes.length + uptoBulk d + 1
  | (_, d) => uptoBulk d + 1
 end
def uptoSmall : (H : Type) → List (DataW H) → Bool := fun _ ds => decide (uptoBulkAll ds ≤ 1048576)
def OpenSpec.upto (s : _root_.Go.ChangeSpec) : _root_.Go.OpenSpec := { _root_.Go.OpenSpec.ofChange s with cond := some uptoSmall }

/-- 'thresherlaw15.MsgBytes', WHERE WHAT IT READS IS OF BULK AT MOST 1048576: true; the input reads as it did. -/
def msgBytesUptoRow : OpenClaim := { program := "ytjboibdoelkfpaa", sum := "b6978b73c6ec8396c979945fc8bec3c7c8e634c185b4b1d76f3eaaf9482282dc", func := "thresher/thresherlaw15.MsgBytes", spec := "msgBytes", apart := false, narrowed := true }
def MsgBytesUptoSaid : Prop := msgBytesUptoRow.holds Try.pinned (OpenSpec.upto msgBytesSpec)

/-- 'thresherlaw15.MsgRuns', WHERE WHAT IT READS IS OF BULK AT MOST 1048576: true; the input reads as it did. -/
def msgRunsUptoRow : OpenClaim := { program := "ytjboibdoelkfpaa", sum := "b6978b73c6ec8396c979945fc8bec3c7c8e634c185b4b1d76f3eaaf9482282dc", func := "thresher/thresherlaw15.MsgRuns", spec := "msgRuns", apart := false, narrowed := true }
def MsgRunsUptoSaid : Prop := msgRunsUptoRow.holds Try.pinned (OpenSpec.upto msgRunsSpec)

/-- 'thresherlaw15.MsgChunks', WHERE WHAT IT READS IS OF BULK AT MOST 1048576: true; the input reads as it did. -/
def msgChunksUptoRow : OpenClaim := { program := "ytjboibdoelkfpaa", sum := "b6978b73c6ec8396c979945fc8bec3c7c8e634c185b4b1d76f3eaaf9482282dc", func := "thresher/thresherlaw15.MsgChunks", spec := "msgChunks", apart := false, narrowed := true }
def MsgChunksUptoSaid : Prop := msgChunksUptoRow.holds Try.pinned (OpenSpec.upto msgChunksSpec)

/-- 'thresherlaw15.MsgAcks', WHERE WHAT IT READS IS OF BULK AT MOST 1048576: true; the input reads as it did. -/
def msgAcksUptoRow : OpenClaim := { program := "ytjboibdoelkfpaa", sum := "b6978b73c6ec8396c979945fc8bec3c7c8e634c185b4b1d76f3eaaf9482282dc", func := "thresher/thresherlaw15.MsgAcks", spec := "msgAcks", apart := false, narrowed := true }
def MsgAcksUptoSaid : Prop := msgAcksUptoRow.holds Try.pinned (OpenSpec.upto msgAcksSpec)

/-- 'thresherlaw15.MsgFails', WHERE WHAT IT READS IS OF BULK AT MOST 1048576: true; the input reads as it did. -/
def msgFailsUptoRow : OpenClaim := { program := "ytjboibdoelkfpaa", sum := "b6978b73c6ec8396c979945fc8bec3c7c8e634c185b4b1d76f3eaaf9482282dc", func := "thresher/thresherlaw15.MsgFails", spec := "msgFails", apart := false, narrowed := true }
def MsgFailsUptoSaid : Prop := msgFailsUptoRow.holds Try.pinned (OpenSpec.upto msgFailsSpec)

/-- 'thresherlaw15.MsgPrepares', WHERE WHAT IT READS IS OF BULK AT MOST 1048576: true; the input reads as it did. -/
def msgPreparesUptoRow : OpenClaim := { program := "ytjboibdoelkfpaa", sum := "b6978b73c6ec8396c979945fc8bec3c7c8e634c185b4b1d76f3eaaf9482282dc", func := "thresher/thresherlaw15.MsgPrepares", spec := "msgPrepares", apart := false, narrowed := true }
def MsgPreparesUptoSaid : Prop := msgPreparesUptoRow.holds Try.pinned (OpenSpec.upto msgPreparesSpec)

/-- 'thresherlaw15.MsgVotes', WHERE WHAT IT READS IS OF BULK AT MOST 1048576: true; the input reads as it did. -/
def msgVotesUptoRow : OpenClaim := { program := "ytjboibdoelkfpaa", sum := "b6978b73c6ec8396c979945fc8bec3c7c8e634c185b4b1d76f3eaaf9482282dc", func := "thresher/thresherlaw15.MsgVotes", spec := "msgVotes", apart := false, narrowed := true }
def MsgVotesUptoSaid : Prop := msgVotesUptoRow.holds Try.pinned (OpenSpec.upto msgVotesSpec)

/-- 'thresherlaw15.MsgDecides', WHERE WHAT IT READS IS OF BULK AT MOST 1048576: true; the input reads as it did. -/
def msgDecidesUptoRow : OpenClaim := { program := "ytjboibdoelkfpaa", sum := "b6978b73c6ec8396c979945fc8bec3c7c8e634c185b4b1d76f3eaaf9482282dc", func := "thresher/thresherlaw15.MsgDecides", spec := "msgDecides", apart := false, narrowed := true }
def MsgDecidesUptoSaid : Prop := msgDecidesUptoRow.holds Try.pinned (OpenSpec.upto msgDecidesSpec)

/-- 'thresherlaw15.MsgDones', WHERE WHAT IT READS IS OF BULK AT MOST 1048576: true; the input reads as it did. -/
def msgDonesUptoRow : OpenClaim := { program := "ytjboibdoelkfpaa", sum := "b6978b73c6ec8396c979945fc8bec3c7c8e634c185b4b1d76f3eaaf9482282dc", func := "thresher/thresherlaw15.MsgDones", spec := "msgDones", apart := false, narrowed := true }
def MsgDonesUptoSaid : Prop := msgDonesUptoRow.holds Try.pinned (OpenSpec.upto msgDonesSpec)

end Rows
end Go.Proofs.Ytjboibdoelkfpaa
