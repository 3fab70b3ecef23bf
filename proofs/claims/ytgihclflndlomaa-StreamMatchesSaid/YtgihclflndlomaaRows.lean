/-
  No cell of these rows narrows 'for every input' (looked for: loops, veiled, ifaces, maps, wideKeys, modest, calm, conditions, laid).
  DERIVED. THE GIVEN ROWS OF THIS SEAT. 7 by the template 'for every input the law returns true; each argument reads behind the call as it read before'; 0 by the template 'total and deterministic' (their statements: YtgihclflndlomaaTotals.lean).
  GIVEN WITH THE SEED: the statements are not yours to turn. If you find one false, say at which input.
  Laid BY PROGRAM, IN A SANDBOX (cutbox-rows.mjs): the forced cells as the released guide's own fill.sh prints them over the translation f9bdb3e5eb24c1f3… (all of the seat's roots in one cut). By AI agents, Wed Nov 11 2026. No macro, syntax, notation, axiom, sorry.
-/
import Derived.Test.YtgihclflndlomaaChecked
import GoSem.Claim
import GoSem.ClaimJoined
import GoSem.ClaimMapViews
import Derived.JoinedTies
import Derived.KernelRfl
namespace Go.Proofs.Ytgihclflndlomaa
/- THE CELL 'sum', in the pinned program and in every row, IS THE sha256 OF THE DUMP (.gsa) THAT YtgihclflndlomaaProg.lean LOADS. Nothing in Lean hashes anything: it is a label: what it is worth is what the hold of that sum in a sandbox is worth. -/
noncomputable def Try.pinned : Pinned := { name := "ytgihclflndlomaa", sum := "f9bdb3e5eb24c1f3adf32603c695d69e12c4983b9e4edde3d28a6ea698c36036", checked := Try.checked }
namespace Rows
def none {H : Type} : Left H := { results := [], args := [] }

/-- 'sorobanlaw20.StreamReads': WHATEVER THE INPUT: true; the input reads as it did. -/
def streamReadsSpec : ChangeSpec := { name := "streamReads", fn := fun _ => fun
  | [d1, d2, d3, d4] => { results := [.lit (.bool true)], args := [d1, d2, d3, d4] }
  | _ => none }
def streamReadsRow : OpenClaim := { program := "ytgihclflndlomaa", sum := "f9bdb3e5eb24c1f3adf32603c695d69e12c4983b9e4edde3d28a6ea698c36036", func := "soroban/sorobanlaw20.StreamReads", spec := "streamReads", unfollowed := true, recurses := true, apart := false }
def StreamReadsSaid : Prop := streamReadsRow.holds Try.pinned (OpenSpec.ofChange streamReadsSpec)

/-- ITS FALSE NEIGHBOUR: 'it returns false'. Refute it at one input. -/
def streamReadsWrong : ChangeSpec := { name := "streamReads", fn := fun _ => fun
  | [d1, d2, d3, d4] => { results := [.lit (.bool false)], args := [d1, d2, d3, d4] }
  | _ => none }
def StreamReadsWrongFalsely : Prop := streamReadsRow.holds Try.pinned (OpenSpec.ofChange streamReadsWrong)

/-- 'sorobanlaw20.StreamTorn': WHATEVER THE INPUT: true; the input reads as it did. -/
def streamTornSpec : ChangeSpec := { name := "streamTorn", fn := fun _ => fun
  | [d1, d2, d3, d4] => { results := [.lit (.bool true)], args := [d1, d2, d3, d4] }
  | _ => none }
def streamTornRow : OpenClaim := { program := "ytgihclflndlomaa", sum := "f9bdb3e5eb24c1f3adf32603c695d69e12c4983b9e4edde3d28a6ea698c36036", func := "soroban/sorobanlaw20.StreamTorn", spec := "streamTorn", unfollowed := true, recurses := true, apart := false }
def StreamTornSaid : Prop := streamTornRow.holds Try.pinned (OpenSpec.ofChange streamTornSpec)

/-- ITS FALSE NEIGHBOUR: 'it returns false'. Refute it at one input. -/
def streamTornWrong : ChangeSpec := { name := "streamTorn", fn := fun _ => fun
  | [d1, d2, d3, d4] => { results := [.lit (.bool false)], args := [d1, d2, d3, d4] }
  | _ => none }
def StreamTornWrongFalsely : Prop := streamTornRow.holds Try.pinned (OpenSpec.ofChange streamTornWrong)

/-- 'sorobanlaw20.StreamWrites': WHATEVER THE INPUT: true; the input reads as it did. -/
def streamWritesSpec : ChangeSpec := { name := "streamWrites", fn := fun _ => fun
  | [d1, d2, d3, d4, d5] => { results := [.lit (.bool true)], args := [d1, d2, d3, d4, d5] }
  | _ => none }
def streamWritesRow : OpenClaim := { program := "ytgihclflndlomaa", sum := "f9bdb3e5eb24c1f3adf32603c695d69e12c4983b9e4edde3d28a6ea698c36036", func := "soroban/sorobanlaw20.StreamWrites", spec := "streamWrites", unfollowed := true, recurses := true, apart := false }
def StreamWritesSaid : Prop := streamWritesRow.holds Try.pinned (OpenSpec.ofChange streamWritesSpec)

/-- ITS FALSE NEIGHBOUR: 'it returns false'. Refute it at one input. -/
def streamWritesWrong : ChangeSpec := { name := "streamWrites", fn := fun _ => fun
  | [d1, d2, d3, d4, d5] => { results := [.lit (.bool false)], args := [d1, d2, d3, d4, d5] }
  | _ => none }
def StreamWritesWrongFalsely : Prop := streamWritesRow.holds Try.pinned (OpenSpec.ofChange streamWritesWrong)

/-- 'sorobanlaw20.StreamMatches': WHATEVER THE INPUT: true; the input reads as it did. -/
def streamMatchesSpec : ChangeSpec := { name := "streamMatches", fn := fun _ => fun
  | [d1, d2, d3] => { results := [.lit (.bool true)], args := [d1, d2, d3] }
  | _ => none }
def streamMatchesRow : OpenClaim := { program := "ytgihclflndlomaa", sum := "f9bdb3e5eb24c1f3adf32603c695d69e12c4983b9e4edde3d28a6ea698c36036", func := "soroban/sorobanlaw20.StreamMatches", spec := "streamMatches", unfollowed := true, recurses := true, apart := false }
def StreamMatchesSaid : Prop := streamMatchesRow.holds Try.pinned (OpenSpec.ofChange streamMatchesSpec)

/-- ITS FALSE NEIGHBOUR: 'it returns false'. Refute it at one input. -/
def streamMatchesWrong : ChangeSpec := { name := "streamMatches", fn := fun _ => fun
  | [d1, d2, d3] => { results := [.lit (.bool false)], args := [d1, d2, d3] }
  | _ => none }
def StreamMatchesWrongFalsely : Prop := streamMatchesRow.holds Try.pinned (OpenSpec.ofChange streamMatchesWrong)

/-- 'sorobanlaw20.StreamNone': WHATEVER THE INPUT: true; the input reads as it did. -/
def streamNoneSpec : ChangeSpec := { name := "streamNone", fn := fun _ => fun
  | [d] => { results := [.lit (.bool true)], args := [d] }
  | _ => none }
def streamNoneRow : OpenClaim := { program := "ytgihclflndlomaa", sum := "f9bdb3e5eb24c1f3adf32603c695d69e12c4983b9e4edde3d28a6ea698c36036", func := "soroban/sorobanlaw20.StreamNone", spec := "streamNone", unfollowed := true, recurses := true, apart := false }
def StreamNoneSaid : Prop := streamNoneRow.holds Try.pinned (OpenSpec.ofChange streamNoneSpec)

/-- ITS FALSE NEIGHBOUR: 'it returns false'. Refute it at one input. -/
def streamNoneWrong : ChangeSpec := { name := "streamNone", fn := fun _ => fun
  | [d] => { results := [.lit (.bool false)], args := [d] }
  | _ => none }
def StreamNoneWrongFalsely : Prop := streamNoneRow.holds Try.pinned (OpenSpec.ofChange streamNoneWrong)

/-- 'sorobanlaw20.StreamBuffers': WHATEVER THE INPUT: true; the input reads as it did. -/
def streamBuffersSpec : ChangeSpec := { name := "streamBuffers", fn := fun _ => fun
  | [d1, d2, d3, d4, d5] => { results := [.lit (.bool true)], args := [d1, d2, d3, d4, d5] }
  | _ => none }
def streamBuffersRow : OpenClaim := { program := "ytgihclflndlomaa", sum := "f9bdb3e5eb24c1f3adf32603c695d69e12c4983b9e4edde3d28a6ea698c36036", func := "soroban/sorobanlaw20.StreamBuffers", spec := "streamBuffers", unfollowed := true, recurses := true, apart := false }
def StreamBuffersSaid : Prop := streamBuffersRow.holds Try.pinned (OpenSpec.ofChange streamBuffersSpec)

/-- ITS FALSE NEIGHBOUR: 'it returns false'. Refute it at one input. -/
def streamBuffersWrong : ChangeSpec := { name := "streamBuffers", fn := fun _ => fun
  | [d1, d2, d3, d4, d5] => { results := [.lit (.bool false)], args := [d1, d2, d3, d4, d5] }
  | _ => none }
def StreamBuffersWrongFalsely : Prop := streamBuffersRow.holds Try.pinned (OpenSpec.ofChange streamBuffersWrong)

/-- 'sorobanlaw20.StreamTells': WHATEVER THE INPUT: true; the input reads as it did. -/
def streamTellsSpec : ChangeSpec := { name := "streamTells", fn := fun _ => fun
  | [d1, d2, d3] => { results := [.lit (.bool true)], args := [d1, d2, d3] }
  | _ => none }
def streamTellsRow : OpenClaim := { program := "ytgihclflndlomaa", sum := "f9bdb3e5eb24c1f3adf32603c695d69e12c4983b9e4edde3d28a6ea698c36036", func := "soroban/sorobanlaw20.StreamTells", spec := "streamTells", unfollowed := true, recurses := true, apart := false }
def StreamTellsSaid : Prop := streamTellsRow.holds Try.pinned (OpenSpec.ofChange streamTellsSpec)

/-- ITS FALSE NEIGHBOUR: 'it returns false'. Refute it at one input. -/
def streamTellsWrong : ChangeSpec := { name := "streamTells", fn := fun _ => fun
  | [d1, d2, d3] => { results := [.lit (.bool false)], args := [d1, d2, d3] }
  | _ => none }
def StreamTellsWrongFalsely : Prop := streamTellsRow.holds Try.pinned (OpenSpec.ofChange streamTellsWrong)

/- THE SECOND FORM. 'bulk': how many values and letters a reading holds, each counted each time it is reached (what is shared counts as often as it is met; a slice's spare places count too). A statement '..UptoSaid' is the law's where the arguments, and the package variables that the reading takes, are together of bulk at most 1048576: NARROWER than '..Said'. Prove '..Said' where nothing that the law and all that it calls make is longer than what came in: it says more and counts as full. Else prove '..UptoSaid'. A law counts once. -/
mutual
def uptoBulk {H : Type} : DataW H → Nat
  | .lit (.string bytes) => bytes.length + 1
  | .lit _ => 1
  | .nil => 1
  | .ptr d => uptoBulk d + 1
  | .slice elems spare => uptoBulkAll elems + uptoBulkAll spare + 1
  | .agg parts => uptoBulkAll parts + 1
  | .iface _ d => uptoBulk d + 1
  | .map entries => uptoBulkEntries entries + 1
  | .held _ => 1
def uptoBulkAll {H : Type} : List (DataW H) → Nat
  | [] => 0
  | d :: r => uptoBulk d + uptoBulkAll r
def uptoBulkEntries {H : Type} : List (Lit × DataW H) → Nat
  | [] => 0
  | x :: r => uptoBulkEntry x + uptoBulkEntries r
def uptoBulkEntry {H : Type} : Lit × DataW H → Nat
  | (.string bytes, d) => bytes.length + uptoBulk d + 1
  | (_, d) => uptoBulk d + 1
 end
def uptoSmall : (H : Type) → List (DataW H) → Bool := fun _ ds => decide (uptoBulkAll ds ≤ 1048576)
def OpenSpec.upto (s : _root_.Go.ChangeSpec) : _root_.Go.OpenSpec := { _root_.Go.OpenSpec.ofChange s with cond := some uptoSmall }

/-- 'sorobanlaw20.StreamReads', WHERE WHAT IT READS IS OF BULK AT MOST 1048576: true; the input reads as it did. -/
def streamReadsUptoRow : OpenClaim := { program := "ytgihclflndlomaa", sum := "f9bdb3e5eb24c1f3adf32603c695d69e12c4983b9e4edde3d28a6ea698c36036", func := "soroban/sorobanlaw20.StreamReads", spec := "streamReads", unfollowed := true, recurses := true, apart := false, narrowed := true }
def StreamReadsUptoSaid : Prop := streamReadsUptoRow.holds Try.pinned (OpenSpec.upto streamReadsSpec)

/-- 'sorobanlaw20.StreamTorn', WHERE WHAT IT READS IS OF BULK AT MOST 1048576: true; the input reads as it did. -/
def streamTornUptoRow : OpenClaim := { program := "ytgihclflndlomaa", sum := "f9bdb3e5eb24c1f3adf32603c695d69e12c4983b9e4edde3d28a6ea698c36036", func := "soroban/sorobanlaw20.StreamTorn", spec := "streamTorn", unfollowed := true, recurses := true, apart := false, narrowed := true }
def StreamTornUptoSaid : Prop := streamTornUptoRow.holds Try.pinned (OpenSpec.upto streamTornSpec)

/-- 'sorobanlaw20.StreamWrites', WHERE WHAT IT READS IS OF BULK AT MOST 1048576: true; the input reads as it did. -/
def streamWritesUptoRow : OpenClaim := { program := "ytgihclflndlomaa", sum := "f9bdb3e5eb24c1f3adf32603c695d69e12c4983b9e4edde3d28a6ea698c36036", func := "soroban/sorobanlaw20.StreamWrites", spec := "streamWrites", unfollowed := true, recurses := true, apart := false, narrowed := true }
def StreamWritesUptoSaid : Prop := streamWritesUptoRow.holds Try.pinned (OpenSpec.upto streamWritesSpec)

/-- 'sorobanlaw20.StreamMatches', WHERE WHAT IT READS IS OF BULK AT MOST 1048576: true; the input reads as it did. -/
def streamMatchesUptoRow : OpenClaim := { program := "ytgihclflndlomaa", sum := "f9bdb3e5eb24c1f3adf32603c695d69e12c4983b9e4edde3d28a6ea698c36036", func := "soroban/sorobanlaw20.StreamMatches", spec := "streamMatches", unfollowed := true, recurses := true, apart := false, narrowed := true }
def StreamMatchesUptoSaid : Prop := streamMatchesUptoRow.holds Try.pinned (OpenSpec.upto streamMatchesSpec)

/-- 'sorobanlaw20.StreamNone', WHERE WHAT IT READS IS OF BULK AT MOST 1048576: true; the input reads as it did. -/
def streamNoneUptoRow : OpenClaim := { program := "ytgihclflndlomaa", sum := "f9bdb3e5eb24c1f3adf32603c695d69e12c4983b9e4edde3d28a6ea698c36036", func := "soroban/sorobanlaw20.StreamNone", spec := "streamNone", unfollowed := true, recurses := true, apart := false, narrowed := true }
def StreamNoneUptoSaid : Prop := streamNoneUptoRow.holds Try.pinned (OpenSpec.upto streamNoneSpec)

/-- 'sorobanlaw20.StreamBuffers', WHERE WHAT IT READS IS OF BULK AT MOST 1048576: true; the input reads as it did. -/
def streamBuffersUptoRow : OpenClaim := { program := "ytgihclflndlomaa", sum := "f9bdb3e5eb24c1f3adf32603c695d69e12c4983b9e4edde3d28a6ea698c36036", func := "soroban/sorobanlaw20.StreamBuffers", spec := "streamBuffers", unfollowed := true, recurses := true, apart := false, narrowed := true }
def StreamBuffersUptoSaid : Prop := streamBuffersUptoRow.holds Try.pinned (OpenSpec.upto streamBuffersSpec)

/-- 'sorobanlaw20.StreamTells', WHERE WHAT IT READS IS OF BULK AT MOST 1048576: true; the input reads as it did. -/
def streamTellsUptoRow : OpenClaim := { program := "ytgihclflndlomaa", sum := "f9bdb3e5eb24c1f3adf32603c695d69e12c4983b9e4edde3d28a6ea698c36036", func := "soroban/sorobanlaw20.StreamTells", spec := "streamTells", unfollowed := true, recurses := true, apart := false, narrowed := true }
def StreamTellsUptoSaid : Prop := streamTellsUptoRow.holds Try.pinned (OpenSpec.upto streamTellsSpec)

end Rows
end Go.Proofs.Ytgihclflndlomaa
