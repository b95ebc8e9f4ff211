/-
  No cell of these rows narrows 'for every input' (looked for: loops, veiled, ifaces, maps, wideKeys, modest, calm, conditions, laid).
  DERIVED. THE GIVEN ROWS OF THIS SEAT. 3 by the template 'for every input the law returns true; each argument reads behind the call as it read before'; 0 by the template 'total and deterministic' (their statements: YtilnobfpkepdbaaTotals.lean).
  GIVEN WITH THE SEED: the statements are not yours to turn. If you find one false, say at which input.
  Laid BY PROGRAM, IN A SANDBOX (cutbox-rows.mjs): the forced cells as the released guide's own fill.sh prints them over the translation 4425adf73a0556c7… (all of the seat's roots in one cut). By AI agents, Wed Nov 11 2026. No macro, syntax, notation, axiom, sorry.
-/
import Derived.Test.YtilnobfpkepdbaaChecked
import GoSem.Claim
import GoSem.ClaimJoined
import GoSem.ClaimMapViews
import Derived.JoinedTies
import Derived.KernelRfl
namespace Go.Proofs.Ytilnobfpkepdbaa
/- THE CELL 'sum', in the pinned program and in every row, IS THE sha256 OF THE DUMP (.gsa) THAT YtilnobfpkepdbaaProg.lean LOADS. Nothing in Lean hashes anything: it is a label: what it is worth is what the hold of that sum in a sandbox is worth. -/
noncomputable def Try.pinned : Pinned := { name := "ytilnobfpkepdbaa", sum := "4425adf73a0556c75d5d678224a20c87ba157a40b96208508e8aec4bf18c446a", checked := Try.checked }
namespace Rows
def none {H : Type} : Left H := { results := [], args := [] }

/-- 'thresherlaw3.KeyBytes': WHATEVER THE INPUT: true; the input reads as it did. -/
def keyBytesSpec : ChangeSpec := { name := "keyBytes", fn := fun _ => fun
  | [d] => { results := [.lit (.bool true)], args := [d] }
  | _ => none }
def keyBytesRow : OpenClaim := { program := "ytilnobfpkepdbaa", sum := "4425adf73a0556c75d5d678224a20c87ba157a40b96208508e8aec4bf18c446a", func := "thresher/thresherlaw3.KeyBytes", spec := "keyBytes", plainKeys := false, apart := false }
def KeyBytesSaid : Prop := keyBytesRow.holds Try.pinned (OpenSpec.ofChange keyBytesSpec)

/-- ITS FALSE NEIGHBOUR: 'it returns false'. Refute it at one input. -/
def keyBytesWrong : ChangeSpec := { name := "keyBytes", fn := fun _ => fun
  | [d] => { results := [.lit (.bool false)], args := [d] }
  | _ => none }
def KeyBytesWrongFalsely : Prop := keyBytesRow.holds Try.pinned (OpenSpec.ofChange keyBytesWrong)

/-- 'thresherlaw3.KeySorts': WHATEVER THE INPUT: true; the input reads as it did. -/
def keySortsSpec : ChangeSpec := { name := "keySorts", fn := fun _ => fun
  | [d] => { results := [.lit (.bool true)], args := [d] }
  | _ => none }
def keySortsRow : OpenClaim := { program := "ytilnobfpkepdbaa", sum := "4425adf73a0556c75d5d678224a20c87ba157a40b96208508e8aec4bf18c446a", func := "thresher/thresherlaw3.KeySorts", spec := "keySorts", unfollowed := true, recurses := true, plainKeys := false, apart := false }
def KeySortsSaid : Prop := keySortsRow.holds Try.pinned (OpenSpec.ofChange keySortsSpec)

/-- ITS FALSE NEIGHBOUR: 'it returns false'. Refute it at one input. -/
def keySortsWrong : ChangeSpec := { name := "keySorts", fn := fun _ => fun
  | [d] => { results := [.lit (.bool false)], args := [d] }
  | _ => none }
def KeySortsWrongFalsely : Prop := keySortsRow.holds Try.pinned (OpenSpec.ofChange keySortsWrong)

/-- 'thresherlaw3.KeyCounts': WHATEVER THE INPUT: true; the input reads as it did. -/
def keyCountsSpec : ChangeSpec := { name := "keyCounts", fn := fun _ => fun
  | [d] => { results := [.lit (.bool true)], args := [d] }
  | _ => none }
def keyCountsRow : OpenClaim := { program := "ytilnobfpkepdbaa", sum := "4425adf73a0556c75d5d678224a20c87ba157a40b96208508e8aec4bf18c446a", func := "thresher/thresherlaw3.KeyCounts", spec := "keyCounts", unfollowed := true, recurses := true, plainKeys := false, apart := false }
def KeyCountsSaid : Prop := keyCountsRow.holds Try.pinned (OpenSpec.ofChange keyCountsSpec)

/-- ITS FALSE NEIGHBOUR: 'it returns false'. Refute it at one input. -/
def keyCountsWrong : ChangeSpec := { name := "keyCounts", fn := fun _ => fun
  | [d] => { results := [.lit (.bool false)], args := [d] }
  | _ => none }
def KeyCountsWrongFalsely : Prop := keyCountsRow.holds Try.pinned (OpenSpec.ofChange keyCountsWrong)

/- THE SECOND FORM. 'bulk': how many values and letters a reading holds, each counted each time it is reached (what is shared counts as often as it is met; a slice's spare places count too). A statement '..UptoSaid' is the law's where the arguments, and the package variables that the reading takes, are together of bulk at most 1048576: NARROWER than '..Said'. Prove '..Said' where nothing that the law and all that it calls make is longer than what came in: it says more and counts as full. Else prove '..UptoSaid'. A law counts once. -/
mutual
def uptoBulk {H : Type} : DataW H → Nat
  | .lit (.string bytes) => bytes.length + 1
  | .lit _ => 1
  | .nil => 1
  | .ptr d => uptoBulk d + 1
  | .slice elems spare => uptoBulkAll elems + uptoBulkAll spare + 1
  | .agg parts => uptoBulkAll parts + 1
  | .iface _ d => uptoBulk d + 1
  | .map entries => uptoBulkEntries entries + 1
  | .held _ => 1
def uptoBulkAll {H : Type} : List (DataW H) → Nat
  | [] => 0
  | d :: r => uptoBulk d + uptoBulkAll r
def uptoBulkEntries {H : Type} : List (Lit × DataW H) → Nat
  | [] => 0
  | x :: r => uptoBulkEntry x + uptoBulkEntries r
def uptoBulkEntry {H : Type} : Lit × DataW H → Nat
  | (.string bytes, d) => bytes.length + uptoBulk d + 1
  | (_, d) => uptoBulk d + 1
 end
def uptoSmall : (H : Type) → List (DataW H) → Bool := fun _ ds => decide (uptoBulkAll ds ≤ 1048576)
def OpenSpec.upto (s : _root_.Go.ChangeSpec) : _root_.Go.OpenSpec := { _root_.Go.OpenSpec.ofChange s with cond := some uptoSmall }

/-- 'thresherlaw3.KeyBytes', WHERE WHAT IT READS IS OF BULK AT MOST 1048576: true; the input reads as it did. -/
def keyBytesUptoRow : OpenClaim := { program := "ytilnobfpkepdbaa", sum := "4425adf73a0556c75d5d678224a20c87ba157a40b96208508e8aec4bf18c446a", func := "thresher/thresherlaw3.KeyBytes", spec := "keyBytes", plainKeys := false, apart := false, narrowed := true }
def KeyBytesUptoSaid : Prop := keyBytesUptoRow.holds Try.pinned (OpenSpec.upto keyBytesSpec)

/-- 'thresherlaw3.KeySorts', WHERE WHAT IT READS IS OF BULK AT MOST 1048576: true; the input reads as it did. -/
def keySortsUptoRow : OpenClaim := { program := "ytilnobfpkepdbaa", sum := "4425adf73a0556c75d5d678224a20c87ba157a40b96208508e8aec4bf18c446a", func := "thresher/thresherlaw3.KeySorts", spec := "keySorts", unfollowed := true, recurses := true, plainKeys := false, apart := false, narrowed := true }
def KeySortsUptoSaid : Prop := keySortsUptoRow.holds Try.pinned (OpenSpec.upto keySortsSpec)

/-- 'thresherlaw3.KeyCounts', WHERE WHAT IT READS IS OF BULK AT MOST 1048576: true; the input reads as it did. -/
def keyCountsUptoRow : OpenClaim := { program := "ytilnobfpkepdbaa", sum := "4425adf73a0556c75d5d678224a20c87ba157a40b96208508e8aec4bf18c446a", func := "thresher/thresherlaw3.KeyCounts", spec := "keyCounts", unfollowed := true, recurses := true, plainKeys := false, apart := false, narrowed := true }
def KeyCountsUptoSaid : Prop := keyCountsUptoRow.holds Try.pinned (OpenSpec.upto keyCountsSpec)

end Rows
end Go.Proofs.Ytilnobfpkepdbaa
