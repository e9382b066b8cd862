/-
  No cell of these rows narrows 'for every input' (looked for: loops, veiled, ifaces, maps, wideKeys, modest, calm, conditions, laid).
  DERIVED. THE GIVEN ROWS OF THIS SEAT. 7 by the template 'for every input the law returns true; each argument reads behind the call as it read before'; 0 by the template 'total and deterministic' (their statements: YtfnajddkaapejaaTotals.lean).
  GIVEN WITH THE SEED: the statements are not yours to turn. If you find one false, say at which input.
  Laid BY PROGRAM, IN A SANDBOX (cutbox-rows.mjs): the forced cells as the released guide's own fill.sh prints them over the translation e12a9124031d3aa7… (all of the seat's roots in one cut). By AI agents, Wed Nov 11 2026. No macro, syntax, notation, axiom, sorry.
-/
import Derived.Test.YtfnajddkaapejaaChecked
import GoSem.Claim
import GoSem.ClaimJoined
import GoSem.ClaimMapViews
import Derived.JoinedTies
import Derived.KernelRfl
namespace Go.Proofs.Ytfnajddkaapejaa
/- THE CELL 'sum', in the pinned program and in every row, IS THE sha256 OF THE DUMP (.gsa) THAT YtfnajddkaapejaaProg.lean LOADS. Nothing in Lean hashes anything: it is a label: what it is worth is what the hold of that sum in a sandbox is worth. -/
noncomputable def Try.pinned : Pinned := { name := "ytfnajddkaapejaa", sum := "e12a9124031d3aa7386096901f4b996c68f62535f49ae0b55eb2f9b7f2bfd1a7", checked := Try.checked }
namespace Rows
def none {H : Type} : Left H := { results := [], args := [] }

/-- 'tempolaw03.MixSequence': WHATEVER THE INPUT: true; the input reads as it did. -/
def mixSequenceSpec : ChangeSpec := { name := "mixSequence", fn := fun _ => fun
  | [d1, d2] => { results := [.lit (.bool true)], args := [d1, d2] }
  | _ => none }
def mixSequenceRow : OpenClaim := { program := "ytfnajddkaapejaa", sum := "e12a9124031d3aa7386096901f4b996c68f62535f49ae0b55eb2f9b7f2bfd1a7", func := "tempo/tempolaw03.MixSequence", spec := "mixSequence", apart := false }
def MixSequenceSaid : Prop := mixSequenceRow.holds Try.pinned (OpenSpec.ofChange mixSequenceSpec)

/-- ITS FALSE NEIGHBOUR: 'it returns false'. Refute it at one input. -/
def mixSequenceWrong : ChangeSpec := { name := "mixSequence", fn := fun _ => fun
  | [d1, d2] => { results := [.lit (.bool false)], args := [d1, d2] }
  | _ => none }
def MixSequenceWrongFalsely : Prop := mixSequenceRow.holds Try.pinned (OpenSpec.ofChange mixSequenceWrong)

/-- 'tempolaw03.MixDifferent': WHATEVER THE INPUT: true; the input reads as it did. -/
def mixDifferentSpec : ChangeSpec := { name := "mixDifferent", fn := fun _ => fun
  | [d1, d2, d3, d4] => { results := [.lit (.bool true)], args := [d1, d2, d3, d4] }
  | _ => none }
def mixDifferentRow : OpenClaim := { program := "ytfnajddkaapejaa", sum := "e12a9124031d3aa7386096901f4b996c68f62535f49ae0b55eb2f9b7f2bfd1a7", func := "tempo/tempolaw03.MixDifferent", spec := "mixDifferent", apart := false }
def MixDifferentSaid : Prop := mixDifferentRow.holds Try.pinned (OpenSpec.ofChange mixDifferentSpec)

/-- ITS FALSE NEIGHBOUR: 'it returns false'. Refute it at one input. -/
def mixDifferentWrong : ChangeSpec := { name := "mixDifferent", fn := fun _ => fun
  | [d1, d2, d3, d4] => { results := [.lit (.bool false)], args := [d1, d2, d3, d4] }
  | _ => none }
def MixDifferentWrongFalsely : Prop := mixDifferentRow.holds Try.pinned (OpenSpec.ofChange mixDifferentWrong)

/-- 'tempolaw03.MixShift': WHATEVER THE INPUT: true; the input reads as it did. -/
def mixShiftSpec : ChangeSpec := { name := "mixShift", fn := fun _ => fun
  | [d1, d2, d3] => { results := [.lit (.bool true)], args := [d1, d2, d3] }
  | _ => none }
def mixShiftRow : OpenClaim := { program := "ytfnajddkaapejaa", sum := "e12a9124031d3aa7386096901f4b996c68f62535f49ae0b55eb2f9b7f2bfd1a7", func := "tempo/tempolaw03.MixShift", spec := "mixShift", apart := false }
def MixShiftSaid : Prop := mixShiftRow.holds Try.pinned (OpenSpec.ofChange mixShiftSpec)

/-- ITS FALSE NEIGHBOUR: 'it returns false'. Refute it at one input. -/
def mixShiftWrong : ChangeSpec := { name := "mixShift", fn := fun _ => fun
  | [d1, d2, d3] => { results := [.lit (.bool false)], args := [d1, d2, d3] }
  | _ => none }
def MixShiftWrongFalsely : Prop := mixShiftRow.holds Try.pinned (OpenSpec.ofChange mixShiftWrong)

/-- 'tempolaw03.MixPlays': WHATEVER THE INPUT: true; the input reads as it did. -/
def mixPlaysSpec : ChangeSpec := { name := "mixPlays", fn := fun _ => fun
  | [d1, d2, d3] => { results := [.lit (.bool true)], args := [d1, d2, d3] }
  | _ => none }
def mixPlaysRow : OpenClaim := { program := "ytfnajddkaapejaa", sum := "e12a9124031d3aa7386096901f4b996c68f62535f49ae0b55eb2f9b7f2bfd1a7", func := "tempo/tempolaw03.MixPlays", spec := "mixPlays", apart := false }
def MixPlaysSaid : Prop := mixPlaysRow.holds Try.pinned (OpenSpec.ofChange mixPlaysSpec)

/-- ITS FALSE NEIGHBOUR: 'it returns false'. Refute it at one input. -/
def mixPlaysWrong : ChangeSpec := { name := "mixPlays", fn := fun _ => fun
  | [d1, d2, d3] => { results := [.lit (.bool false)], args := [d1, d2, d3] }
  | _ => none }
def MixPlaysWrongFalsely : Prop := mixPlaysRow.holds Try.pinned (OpenSpec.ofChange mixPlaysWrong)

/-- 'tempolaw03.MixNil': WHATEVER THE INPUT: true; the input reads as it did. -/
def mixNilSpec : ChangeSpec := { name := "mixNil", fn := fun _ => fun
  | [d] => { results := [.lit (.bool true)], args := [d] }
  | _ => none }
def mixNilRow : OpenClaim := { program := "ytfnajddkaapejaa", sum := "e12a9124031d3aa7386096901f4b996c68f62535f49ae0b55eb2f9b7f2bfd1a7", func := "tempo/tempolaw03.MixNil", spec := "mixNil", apart := false }
def MixNilSaid : Prop := mixNilRow.holds Try.pinned (OpenSpec.ofChange mixNilSpec)

/-- ITS FALSE NEIGHBOUR: 'it returns false'. Refute it at one input. -/
def mixNilWrong : ChangeSpec := { name := "mixNil", fn := fun _ => fun
  | [d] => { results := [.lit (.bool false)], args := [d] }
  | _ => none }
def MixNilWrongFalsely : Prop := mixNilRow.holds Try.pinned (OpenSpec.ofChange mixNilWrong)

/-- 'tempolaw03.MixBelow': WHATEVER THE INPUT: true; the input reads as it did. -/
def mixBelowSpec : ChangeSpec := { name := "mixBelow", fn := fun _ => fun
  | [d1, d2, d3] => { results := [.lit (.bool true)], args := [d1, d2, d3] }
  | _ => none }
def mixBelowRow : OpenClaim := { program := "ytfnajddkaapejaa", sum := "e12a9124031d3aa7386096901f4b996c68f62535f49ae0b55eb2f9b7f2bfd1a7", func := "tempo/tempolaw03.MixBelow", spec := "mixBelow", apart := false }
def MixBelowSaid : Prop := mixBelowRow.holds Try.pinned (OpenSpec.ofChange mixBelowSpec)

/-- ITS FALSE NEIGHBOUR: 'it returns false'. Refute it at one input. -/
def mixBelowWrong : ChangeSpec := { name := "mixBelow", fn := fun _ => fun
  | [d1, d2, d3] => { results := [.lit (.bool false)], args := [d1, d2, d3] }
  | _ => none }
def MixBelowWrongFalsely : Prop := mixBelowRow.holds Try.pinned (OpenSpec.ofChange mixBelowWrong)

/-- 'tempolaw03.MixCopies': WHATEVER THE INPUT: true; the input reads as it did. -/
def mixCopiesSpec : ChangeSpec := { name := "mixCopies", fn := fun _ => fun
  | [d1, d2, d3] => { results := [.lit (.bool true)], args := [d1, d2, d3] }
  | _ => none }
def mixCopiesRow : OpenClaim := { program := "ytfnajddkaapejaa", sum := "e12a9124031d3aa7386096901f4b996c68f62535f49ae0b55eb2f9b7f2bfd1a7", func := "tempo/tempolaw03.MixCopies", spec := "mixCopies", apart := false }
def MixCopiesSaid : Prop := mixCopiesRow.holds Try.pinned (OpenSpec.ofChange mixCopiesSpec)

/-- ITS FALSE NEIGHBOUR: 'it returns false'. Refute it at one input. -/
def mixCopiesWrong : ChangeSpec := { name := "mixCopies", fn := fun _ => fun
  | [d1, d2, d3] => { results := [.lit (.bool false)], args := [d1, d2, d3] }
  | _ => none }
def MixCopiesWrongFalsely : Prop := mixCopiesRow.holds Try.pinned (OpenSpec.ofChange mixCopiesWrong)

/- THE SECOND FORM. 'bulk': how many values and letters a reading holds, each counted each time it is reached (what is shared counts as often as it is met; a slice's spare places count too). A statement '..UptoSaid' is the law's where the arguments, and the package variables that the reading takes, are together of bulk at most 1048576: NARROWER than '..Said'. Prove '..Said' where nothing that the law and all that it calls make is longer than what came in: it says more and counts as full. Else prove '..UptoSaid'. A law counts once. -/
mutual
def uptoBulk {H : Type} : DataW H → Nat
  | .lit (.string bytes) => bytes.length + 1
  | .lit _ => 1
  | .nil => 1
  | .ptr d => uptoBulk d + 1
  | .slice elems spare => uptoBulkAll elems + uptoBulkAll spare + 1
  | .agg parts => uptoBulkAll parts + 1
  | .iface _ d => uptoBulk d + 1
  | .map entries => uptoBulkEntries entries + 1
  | .held _ => 1
def uptoBulkAll {H : Type} : List (DataW H) → Nat
  | [] => 0
  | d :: r => uptoBulk d + uptoBulkAll r
def uptoBulkEntries {H : Type} : List (Lit × DataW H) → Nat
  | [] => 0
  | x :: r => uptoBulkEntry x + uptoBulkEntries r
def uptoBulkEntry {H : Type} : Lit × DataW H → Nat
  | (.string bytes, d) => bytes.length + uptoBulk d + 1
  | (_, d) => uptoBulk d + 1
 end
def uptoSmall : (H : Type) → List (DataW H) → Bool := fun _ ds => decide (uptoBulkAll ds ≤ 1048576)
def OpenSpec.upto (s : _root_.Go.ChangeSpec) : _root_.Go.OpenSpec := { _root_.Go.OpenSpec.ofChange s with cond := some uptoSmall }

/-- 'tempolaw03.MixSequence', WHERE WHAT IT READS IS OF BULK AT MOST 1048576: true; the input reads as it did. -/
def mixSequenceUptoRow : OpenClaim := { program := "ytfnajddkaapejaa", sum := "e12a9124031d3aa7386096901f4b996c68f62535f49ae0b55eb2f9b7f2bfd1a7", func := "tempo/tempolaw03.MixSequence", spec := "mixSequence", apart := false, narrowed := true }
def MixSequenceUptoSaid : Prop := mixSequenceUptoRow.holds Try.pinned (OpenSpec.upto mixSequenceSpec)

/-- 'tempolaw03.MixDifferent', WHERE WHAT IT READS IS OF BULK AT MOST 1048576: true; the input reads as it did. -/
def mixDifferentUptoRow : OpenClaim := { program := "ytfnajddkaapejaa", sum := "e12a9124031d3aa7386096901f4b996c68f62535f49ae0b55eb2f9b7f2bfd1a7", func := "tempo/tempolaw03.MixDifferent", spec := "mixDifferent", apart := false, narrowed := true }
def MixDifferentUptoSaid : Prop := mixDifferentUptoRow.holds Try.pinned (OpenSpec.upto mixDifferentSpec)

/-- 'tempolaw03.MixShift', WHERE WHAT IT READS IS OF BULK AT MOST 1048576: true; the input reads as it did. -/
def mixShiftUptoRow : OpenClaim := { program := "ytfnajddkaapejaa", sum := "e12a9124031d3aa7386096901f4b996c68f62535f49ae0b55eb2f9b7f2bfd1a7", func := "tempo/tempolaw03.MixShift", spec := "mixShift", apart := false, narrowed := true }
def MixShiftUptoSaid : Prop := mixShiftUptoRow.holds Try.pinned (OpenSpec.upto mixShiftSpec)

/-- 'tempolaw03.MixPlays', WHERE WHAT IT READS IS OF BULK AT MOST 1048576: true; the input reads as it did. -/
def mixPlaysUptoRow : OpenClaim := { program := "ytfnajddkaapejaa", sum := "e12a9124031d3aa7386096901f4b996c68f62535f49ae0b55eb2f9b7f2bfd1a7", func := "tempo/tempolaw03.MixPlays", spec := "mixPlays", apart := false, narrowed := true }
def MixPlaysUptoSaid : Prop := mixPlaysUptoRow.holds Try.pinned (OpenSpec.upto mixPlaysSpec)

/-- 'tempolaw03.MixNil', WHERE WHAT IT READS IS OF BULK AT MOST 1048576: true; the input reads as it did. -/
def mixNilUptoRow : OpenClaim := { program := "ytfnajddkaapejaa", sum := "e12a9124031d3aa7386096901f4b996c68f62535f49ae0b55eb2f9b7f2bfd1a7", func := "tempo/tempolaw03.MixNil", spec := "mixNil", apart := false, narrowed := true }
def MixNilUptoSaid : Prop := mixNilUptoRow.holds Try.pinned (OpenSpec.upto mixNilSpec)

/-- 'tempolaw03.MixBelow', WHERE WHAT IT READS IS OF BULK AT MOST 1048576: true; the input reads as it did. -/
def mixBelowUptoRow : OpenClaim := { program := "ytfnajddkaapejaa", sum := "e12a9124031d3aa7386096901f4b996c68f62535f49ae0b55eb2f9b7f2bfd1a7", func := "tempo/tempolaw03.MixBelow", spec := "mixBelow", apart := false, narrowed := true }
def MixBelowUptoSaid : Prop := mixBelowUptoRow.holds Try.pinned (OpenSpec.upto mixBelowSpec)

/-- 'tempolaw03.MixCopies', WHERE WHAT IT READS IS OF BULK AT MOST 1048576: true; the input reads as it did. -/
def mixCopiesUptoRow : OpenClaim := { program := "ytfnajddkaapejaa", sum := "e12a9124031d3aa7386096901f4b996c68f62535f49ae0b55eb2f9b7f2bfd1a7", func := "tempo/tempolaw03.MixCopies", spec := "mixCopies", apart := false, narrowed := true }
def MixCopiesUptoSaid : Prop := mixCopiesUptoRow.holds Try.pinned (OpenSpec.upto mixCopiesSpec)

end Rows
end Go.Proofs.Ytfnajddkaapejaa
