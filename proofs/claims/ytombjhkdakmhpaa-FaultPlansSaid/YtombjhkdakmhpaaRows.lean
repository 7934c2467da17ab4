/-
  No cell of these rows narrows 'for every input' (looked for: loops, veiled, ifaces, maps, wideKeys, modest, calm, conditions, laid).
  DERIVED. THE GIVEN ROWS OF THIS SEAT. 11 by the template 'for every input the law returns true; each argument reads behind the call as it read before'; 0 by the template 'total and deterministic' (their statements: YtombjhkdakmhpaaTotals.lean).
  GIVEN WITH THE SEED: the statements are not yours to turn. If you find one false, say at which input.
  Laid BY PROGRAM, IN A SANDBOX (cutbox-rows.mjs): the forced cells as the released guide's own fill.sh prints them over the translation 72fb49bbbeb9b186… (all of the seat's roots in one cut). By AI agents, Wed Nov 11 2026. No macro, syntax, notation, axiom, sorry.
-/
import Derived.Test.YtombjhkdakmhpaaChecked
import GoSem.Claim
import GoSem.ClaimJoined
import GoSem.ClaimMapViews
import Derived.JoinedTies
import Derived.KernelRfl
namespace Go.Proofs.Ytombjhkdakmhpaa
/- THE CELL 'sum', in the pinned program and in every row, IS THE sha256 OF THE DUMP (.gsa) THAT YtombjhkdakmhpaaProg.lean LOADS. Nothing in Lean hashes anything: it is a label: what it is worth is what the hold of that sum in a sandbox is worth. -/
noncomputable def Try.pinned : Pinned := { name := "ytombjhkdakmhpaa", sum := "72fb49bbbeb9b186f82b5fb22fd302ec33c511d3d34d3e8bdb3e3d4c4ad9e88f", checked := Try.checked }
namespace Rows
def none {H : Type} : Left H := { results := [], args := [] }

/-- 'nepenthelaw14.HeadBytes': WHATEVER THE INPUT: true; the input reads as it did. -/
def headBytesSpec : ChangeSpec := { name := "headBytes", fn := fun _ => fun
  | [d] => { results := [.lit (.bool true)], args := [d] }
  | _ => none }
def headBytesRow : OpenClaim := { program := "ytombjhkdakmhpaa", sum := "72fb49bbbeb9b186f82b5fb22fd302ec33c511d3d34d3e8bdb3e3d4c4ad9e88f", func := "nepenthe/nepenthelaw14.HeadBytes", spec := "headBytes", apart := false }
def HeadBytesSaid : Prop := headBytesRow.holds Try.pinned (OpenSpec.ofChange headBytesSpec)

/-- ITS FALSE NEIGHBOUR: 'it returns false'. Refute it at one input. -/
def headBytesWrong : ChangeSpec := { name := "headBytes", fn := fun _ => fun
  | [d] => { results := [.lit (.bool false)], args := [d] }
  | _ => none }
def HeadBytesWrongFalsely : Prop := headBytesRow.holds Try.pinned (OpenSpec.ofChange headBytesWrong)

/-- 'nepenthelaw12.FaultBits': WHATEVER THE INPUT: true; the input reads as it did. -/
def faultBitsSpec : ChangeSpec := { name := "faultBits", fn := fun _ => fun
  | [d1, d2] => { results := [.lit (.bool true)], args := [d1, d2] }
  | _ => none }
def faultBitsRow : OpenClaim := { program := "ytombjhkdakmhpaa", sum := "72fb49bbbeb9b186f82b5fb22fd302ec33c511d3d34d3e8bdb3e3d4c4ad9e88f", func := "nepenthe/nepenthelaw12.FaultBits", spec := "faultBits", unfollowed := true, recurses := true, apart := false }
def FaultBitsSaid : Prop := faultBitsRow.holds Try.pinned (OpenSpec.ofChange faultBitsSpec)

/-- ITS FALSE NEIGHBOUR: 'it returns false'. Refute it at one input. -/
def faultBitsWrong : ChangeSpec := { name := "faultBits", fn := fun _ => fun
  | [d1, d2] => { results := [.lit (.bool false)], args := [d1, d2] }
  | _ => none }
def FaultBitsWrongFalsely : Prop := faultBitsRow.holds Try.pinned (OpenSpec.ofChange faultBitsWrong)

/-- 'nepenthelaw14.HeadLess': WHATEVER THE INPUT: true; the input reads as it did. -/
def headLessSpec : ChangeSpec := { name := "headLess", fn := fun _ => fun
  | [d1, d2] => { results := [.lit (.bool true)], args := [d1, d2] }
  | _ => none }
def headLessRow : OpenClaim := { program := "ytombjhkdakmhpaa", sum := "72fb49bbbeb9b186f82b5fb22fd302ec33c511d3d34d3e8bdb3e3d4c4ad9e88f", func := "nepenthe/nepenthelaw14.HeadLess", spec := "headLess", apart := false }
def HeadLessSaid : Prop := headLessRow.holds Try.pinned (OpenSpec.ofChange headLessSpec)

/-- ITS FALSE NEIGHBOUR: 'it returns false'. Refute it at one input. -/
def headLessWrong : ChangeSpec := { name := "headLess", fn := fun _ => fun
  | [d1, d2] => { results := [.lit (.bool false)], args := [d1, d2] }
  | _ => none }
def HeadLessWrongFalsely : Prop := headLessRow.holds Try.pinned (OpenSpec.ofChange headLessWrong)

/-- 'nepenthelaw12.FaultClears': WHATEVER THE INPUT: true; the input reads as it did. -/
def faultClearsSpec : ChangeSpec := { name := "faultClears", fn := fun _ => fun
  | [d1, d2, d3] => { results := [.lit (.bool true)], args := [d1, d2, d3] }
  | _ => none }
def faultClearsRow : OpenClaim := { program := "ytombjhkdakmhpaa", sum := "72fb49bbbeb9b186f82b5fb22fd302ec33c511d3d34d3e8bdb3e3d4c4ad9e88f", func := "nepenthe/nepenthelaw12.FaultClears", spec := "faultClears", unfollowed := true, recurses := true, apart := false }
def FaultClearsSaid : Prop := faultClearsRow.holds Try.pinned (OpenSpec.ofChange faultClearsSpec)

/-- ITS FALSE NEIGHBOUR: 'it returns false'. Refute it at one input. -/
def faultClearsWrong : ChangeSpec := { name := "faultClears", fn := fun _ => fun
  | [d1, d2, d3] => { results := [.lit (.bool false)], args := [d1, d2, d3] }
  | _ => none }
def FaultClearsWrongFalsely : Prop := faultClearsRow.holds Try.pinned (OpenSpec.ofChange faultClearsWrong)

/-- 'nepenthelaw12.FaultWhole': WHATEVER THE INPUT: true; the input reads as it did. -/
def faultWholeSpec : ChangeSpec := { name := "faultWhole", fn := fun _ => fun
  | [d1, d2, d3] => { results := [.lit (.bool true)], args := [d1, d2, d3] }
  | _ => none }
def faultWholeRow : OpenClaim := { program := "ytombjhkdakmhpaa", sum := "72fb49bbbeb9b186f82b5fb22fd302ec33c511d3d34d3e8bdb3e3d4c4ad9e88f", func := "nepenthe/nepenthelaw12.FaultWhole", spec := "faultWhole", unfollowed := true, recurses := true, apart := false }
def FaultWholeSaid : Prop := faultWholeRow.holds Try.pinned (OpenSpec.ofChange faultWholeSpec)

/-- ITS FALSE NEIGHBOUR: 'it returns false'. Refute it at one input. -/
def faultWholeWrong : ChangeSpec := { name := "faultWhole", fn := fun _ => fun
  | [d1, d2, d3] => { results := [.lit (.bool false)], args := [d1, d2, d3] }
  | _ => none }
def FaultWholeWrongFalsely : Prop := faultWholeRow.holds Try.pinned (OpenSpec.ofChange faultWholeWrong)

/-- 'nepenthelaw12.FaultSets': WHATEVER THE INPUT: true; the input reads as it did. -/
def faultSetsSpec : ChangeSpec := { name := "faultSets", fn := fun _ => fun
  | [d1, d2] => { results := [.lit (.bool true)], args := [d1, d2] }
  | _ => none }
def faultSetsRow : OpenClaim := { program := "ytombjhkdakmhpaa", sum := "72fb49bbbeb9b186f82b5fb22fd302ec33c511d3d34d3e8bdb3e3d4c4ad9e88f", func := "nepenthe/nepenthelaw12.FaultSets", spec := "faultSets", unfollowed := true, recurses := true, apart := false }
def FaultSetsSaid : Prop := faultSetsRow.holds Try.pinned (OpenSpec.ofChange faultSetsSpec)

/-- ITS FALSE NEIGHBOUR: 'it returns false'. Refute it at one input. -/
def faultSetsWrong : ChangeSpec := { name := "faultSets", fn := fun _ => fun
  | [d1, d2] => { results := [.lit (.bool false)], args := [d1, d2] }
  | _ => none }
def FaultSetsWrongFalsely : Prop := faultSetsRow.holds Try.pinned (OpenSpec.ofChange faultSetsWrong)

/-- 'nepenthelaw12.FaultPlans': WHATEVER THE INPUT: true; the input reads as it did. -/
def faultPlansSpec : ChangeSpec := { name := "faultPlans", fn := fun _ => fun
  | [d1, d2] => { results := [.lit (.bool true)], args := [d1, d2] }
  | _ => none }
def faultPlansRow : OpenClaim := { program := "ytombjhkdakmhpaa", sum := "72fb49bbbeb9b186f82b5fb22fd302ec33c511d3d34d3e8bdb3e3d4c4ad9e88f", func := "nepenthe/nepenthelaw12.FaultPlans", spec := "faultPlans", unfollowed := true, recurses := true, apart := false }
def FaultPlansSaid : Prop := faultPlansRow.holds Try.pinned (OpenSpec.ofChange faultPlansSpec)

/-- ITS FALSE NEIGHBOUR: 'it returns false'. Refute it at one input. -/
def faultPlansWrong : ChangeSpec := { name := "faultPlans", fn := fun _ => fun
  | [d1, d2] => { results := [.lit (.bool false)], args := [d1, d2] }
  | _ => none }
def FaultPlansWrongFalsely : Prop := faultPlansRow.holds Try.pinned (OpenSpec.ofChange faultPlansWrong)

/-- 'nepenthelaw14.HeadReads': WHATEVER THE INPUT: true; the input reads as it did. -/
def headReadsSpec : ChangeSpec := { name := "headReads", fn := fun _ => fun
  | [d] => { results := [.lit (.bool true)], args := [d] }
  | _ => none }
def headReadsRow : OpenClaim := { program := "ytombjhkdakmhpaa", sum := "72fb49bbbeb9b186f82b5fb22fd302ec33c511d3d34d3e8bdb3e3d4c4ad9e88f", func := "nepenthe/nepenthelaw14.HeadReads", spec := "headReads", apart := false }
def HeadReadsSaid : Prop := headReadsRow.holds Try.pinned (OpenSpec.ofChange headReadsSpec)

/-- ITS FALSE NEIGHBOUR: 'it returns false'. Refute it at one input. -/
def headReadsWrong : ChangeSpec := { name := "headReads", fn := fun _ => fun
  | [d] => { results := [.lit (.bool false)], args := [d] }
  | _ => none }
def HeadReadsWrongFalsely : Prop := headReadsRow.holds Try.pinned (OpenSpec.ofChange headReadsWrong)

/-- 'nepenthelaw14.HeadBits': WHATEVER THE INPUT: true; the input reads as it did. -/
def headBitsSpec : ChangeSpec := { name := "headBits", fn := fun _ => fun
  | [d1, d2, d3] => { results := [.lit (.bool true)], args := [d1, d2, d3] }
  | _ => none }
def headBitsRow : OpenClaim := { program := "ytombjhkdakmhpaa", sum := "72fb49bbbeb9b186f82b5fb22fd302ec33c511d3d34d3e8bdb3e3d4c4ad9e88f", func := "nepenthe/nepenthelaw14.HeadBits", spec := "headBits", apart := false }
def HeadBitsSaid : Prop := headBitsRow.holds Try.pinned (OpenSpec.ofChange headBitsSpec)

/-- ITS FALSE NEIGHBOUR: 'it returns false'. Refute it at one input. -/
def headBitsWrong : ChangeSpec := { name := "headBits", fn := fun _ => fun
  | [d1, d2, d3] => { results := [.lit (.bool false)], args := [d1, d2, d3] }
  | _ => none }
def HeadBitsWrongFalsely : Prop := headBitsRow.holds Try.pinned (OpenSpec.ofChange headBitsWrong)

/-- 'nepenthelaw14.HeadEnds': WHATEVER THE INPUT: true; the input reads as it did. -/
def headEndsSpec : ChangeSpec := { name := "headEnds", fn := fun _ => fun
  | [d1, d2] => { results := [.lit (.bool true)], args := [d1, d2] }
  | _ => none }
def headEndsRow : OpenClaim := { program := "ytombjhkdakmhpaa", sum := "72fb49bbbeb9b186f82b5fb22fd302ec33c511d3d34d3e8bdb3e3d4c4ad9e88f", func := "nepenthe/nepenthelaw14.HeadEnds", spec := "headEnds", apart := false }
def HeadEndsSaid : Prop := headEndsRow.holds Try.pinned (OpenSpec.ofChange headEndsSpec)

/-- ITS FALSE NEIGHBOUR: 'it returns false'. Refute it at one input. -/
def headEndsWrong : ChangeSpec := { name := "headEnds", fn := fun _ => fun
  | [d1, d2] => { results := [.lit (.bool false)], args := [d1, d2] }
  | _ => none }
def HeadEndsWrongFalsely : Prop := headEndsRow.holds Try.pinned (OpenSpec.ofChange headEndsWrong)

/-- 'nepenthelaw14.HeadMarks': WHATEVER THE INPUT: true; the input reads as it did. -/
def headMarksSpec : ChangeSpec := { name := "headMarks", fn := fun _ => fun
  | [d1, d2, d3] => { results := [.lit (.bool true)], args := [d1, d2, d3] }
  | _ => none }
def headMarksRow : OpenClaim := { program := "ytombjhkdakmhpaa", sum := "72fb49bbbeb9b186f82b5fb22fd302ec33c511d3d34d3e8bdb3e3d4c4ad9e88f", func := "nepenthe/nepenthelaw14.HeadMarks", spec := "headMarks", apart := false }
def HeadMarksSaid : Prop := headMarksRow.holds Try.pinned (OpenSpec.ofChange headMarksSpec)

/-- ITS FALSE NEIGHBOUR: 'it returns false'. Refute it at one input. -/
def headMarksWrong : ChangeSpec := { name := "headMarks", fn := fun _ => fun
  | [d1, d2, d3] => { results := [.lit (.bool false)], args := [d1, d2, d3] }
  | _ => none }
def HeadMarksWrongFalsely : Prop := headMarksRow.holds Try.pinned (OpenSpec.ofChange headMarksWrong)

/- THE SECOND FORM. 'bulk': how many values and letters a reading holds, each counted each time it is reached (what is shared counts as often as it is met; a slice's spare places count too). A statement '..UptoSaid' is the law's where the arguments, and the package variables that the reading takes, are together of bulk at most 1048576: NARROWER than '..Said'. Prove '..Said' where nothing that the law and all that it calls make is longer than what came in: it says more and counts as full. Else prove '..UptoSaid'. A law counts once. -/
mutual
def uptoBulk {H : Type} : DataW H → Nat
  | .lit (.string bytes) => bytes.length + 1
  | .lit _ => 1
  | .nil => 1
  | .ptr d => uptoBulk d + 1
  | .slice elems spare => uptoBulkAll elems + uptoBulkAll spare + 1
  | .agg parts => uptoBulkAll parts + 1
  | .iface _ d => uptoBulk d + 1
  | .map entries => uptoBulkEntries entries + 1
  | .held _ => 1
def uptoBulkAll {H : Type} : List (DataW H) → Nat
  | [] => 0
  | d :: r => uptoBulk d + uptoBulkAll r
def uptoBulkEntries {H : Type} : List (Lit × DataW H) → Nat
  | [] => 0
  | x :: r => uptoBulkEntry x + uptoBulkEntries r
def uptoBulkEntry {H : Type} : Lit × DataW H → Nat
  | (.string bytes, d) => bytes.length + uptoBulk d + 1
  | (_, d) => uptoBulk d + 1
 end
def uptoSmall : (H : Type) → List (DataW H) → Bool := fun _ ds => decide (uptoBulkAll ds ≤ 1048576)
def OpenSpec.upto (s : _root_.Go.ChangeSpec) : _root_.Go.OpenSpec := { _root_.Go.OpenSpec.ofChange s with cond := some uptoSmall }

/-- 'nepenthelaw14.HeadBytes', WHERE WHAT IT READS IS OF BULK AT MOST 1048576: true; the input reads as it did. -/
def headBytesUptoRow : OpenClaim := { program := "ytombjhkdakmhpaa", sum := "72fb49bbbeb9b186f82b5fb22fd302ec33c511d3d34d3e8bdb3e3d4c4ad9e88f", func := "nepenthe/nepenthelaw14.HeadBytes", spec := "headBytes", apart := false, narrowed := true }
def HeadBytesUptoSaid : Prop := headBytesUptoRow.holds Try.pinned (OpenSpec.upto headBytesSpec)

/-- 'nepenthelaw12.FaultBits', WHERE WHAT IT READS IS OF BULK AT MOST 1048576: true; the input reads as it did. -/
def faultBitsUptoRow : OpenClaim := { program := "ytombjhkdakmhpaa", sum := "72fb49bbbeb9b186f82b5fb22fd302ec33c511d3d34d3e8bdb3e3d4c4ad9e88f", func := "nepenthe/nepenthelaw12.FaultBits", spec := "faultBits", unfollowed := true, recurses := true, apart := false, narrowed := true }
def FaultBitsUptoSaid : Prop := faultBitsUptoRow.holds Try.pinned (OpenSpec.upto faultBitsSpec)

/-- 'nepenthelaw14.HeadLess', WHERE WHAT IT READS IS OF BULK AT MOST 1048576: true; the input reads as it did. -/
def headLessUptoRow : OpenClaim := { program := "ytombjhkdakmhpaa", sum := "72fb49bbbeb9b186f82b5fb22fd302ec33c511d3d34d3e8bdb3e3d4c4ad9e88f", func := "nepenthe/nepenthelaw14.HeadLess", spec := "headLess", apart := false, narrowed := true }
def HeadLessUptoSaid : Prop := headLessUptoRow.holds Try.pinned (OpenSpec.upto headLessSpec)

/-- 'nepenthelaw12.FaultClears', WHERE WHAT IT READS IS OF BULK AT MOST 1048576: true; the input reads as it did. -/
def faultClearsUptoRow : OpenClaim := { program := "ytombjhkdakmhpaa", sum := "72fb49bbbeb9b186f82b5fb22fd302ec33c511d3d34d3e8bdb3e3d4c4ad9e88f", func := "nepenthe/nepenthelaw12.FaultClears", spec := "faultClears", unfollowed := true, recurses := true, apart := false, narrowed := true }
def FaultClearsUptoSaid : Prop := faultClearsUptoRow.holds Try.pinned (OpenSpec.upto faultClearsSpec)

/-- 'nepenthelaw12.FaultWhole', WHERE WHAT IT READS IS OF BULK AT MOST 1048576: true; the input reads as it did. -/
def faultWholeUptoRow : OpenClaim := { program := "ytombjhkdakmhpaa", sum := "72fb49bbbeb9b186f82b5fb22fd302ec33c511d3d34d3e8bdb3e3d4c4ad9e88f", func := "nepenthe/nepenthelaw12.FaultWhole", spec := "faultWhole", unfollowed := true, recurses := true, apart := false, narrowed := true }
def FaultWholeUptoSaid : Prop := faultWholeUptoRow.holds Try.pinned (OpenSpec.upto faultWholeSpec)

/-- 'nepenthelaw12.FaultSets', WHERE WHAT IT READS IS OF BULK AT MOST 1048576: true; the input reads as it did. -/
def faultSetsUptoRow : OpenClaim := { program := "ytombjhkdakmhpaa", sum := "72fb49bbbeb9b186f82b5fb22fd302ec33c511d3d34d3e8bdb3e3d4c4ad9e88f", func := "nepenthe/nepenthelaw12.FaultSets", spec := "faultSets", unfollowed := true, recurses := true, apart := false, narrowed := true }
def FaultSetsUptoSaid : Prop := faultSetsUptoRow.holds Try.pinned (OpenSpec.upto faultSetsSpec)

/-- 'nepenthelaw12.FaultPlans', WHERE WHAT IT READS IS OF BULK AT MOST 1048576: true; the input reads as it did. -/
def faultPlansUptoRow : OpenClaim := { program := "ytombjhkdakmhpaa", sum := "72fb49bbbeb9b186f82b5fb22fd302ec33c511d3d34d3e8bdb3e3d4c4ad9e88f", func := "nepenthe/nepenthelaw12.FaultPlans", spec := "faultPlans", unfollowed := true, recurses := true, apart := false, narrowed := true }
def FaultPlansUptoSaid : Prop := faultPlansUptoRow.holds Try.pinned (OpenSpec.upto faultPlansSpec)

/-- 'nepenthelaw14.HeadReads', WHERE WHAT IT READS IS OF BULK AT MOST 1048576: true; the input reads as it did. -/
def headReadsUptoRow : OpenClaim := { program := "ytombjhkdakmhpaa", sum := "72fb49bbbeb9b186f82b5fb22fd302ec33c511d3d34d3e8bdb3e3d4c4ad9e88f", func := "nepenthe/nepenthelaw14.HeadReads", spec := "headReads", apart := false, narrowed := true }
def HeadReadsUptoSaid : Prop := headReadsUptoRow.holds Try.pinned (OpenSpec.upto headReadsSpec)

/-- 'nepenthelaw14.HeadBits', WHERE WHAT IT READS IS OF BULK AT MOST 1048576: true; the input reads as it did. -/
def headBitsUptoRow : OpenClaim := { program := "ytombjhkdakmhpaa", sum := "72fb49bbbeb9b186f82b5fb22fd302ec33c511d3d34d3e8bdb3e3d4c4ad9e88f", func := "nepenthe/nepenthelaw14.HeadBits", spec := "headBits", apart := false, narrowed := true }
def HeadBitsUptoSaid : Prop := headBitsUptoRow.holds Try.pinned (OpenSpec.upto headBitsSpec)

/-- 'nepenthelaw14.HeadEnds', WHERE WHAT IT READS IS OF BULK AT MOST 1048576: true; the input reads as it did. -/
def headEndsUptoRow : OpenClaim := { program := "ytombjhkdakmhpaa", sum := "72fb49bbbeb9b186f82b5fb22fd302ec33c511d3d34d3e8bdb3e3d4c4ad9e88f", func := "nepenthe/nepenthelaw14.HeadEnds", spec := "headEnds", apart := false, narrowed := true }
def HeadEndsUptoSaid : Prop := headEndsUptoRow.holds Try.pinned (OpenSpec.upto headEndsSpec)

/-- 'nepenthelaw14.HeadMarks', WHERE WHAT IT READS IS OF BULK AT MOST 1048576: true; the input reads as it did. -/
def headMarksUptoRow : OpenClaim := { program := "ytombjhkdakmhpaa", sum := "72fb49bbbeb9b186f82b5fb22fd302ec33c511d3d34d3e8bdb3e3d4c4ad9e88f", func := "nepenthe/nepenthelaw14.HeadMarks", spec := "headMarks", apart := false, narrowed := true }
def HeadMarksUptoSaid : Prop := headMarksUptoRow.holds Try.pinned (OpenSpec.upto headMarksSpec)

end Rows
end Go.Proofs.Ytombjhkdakmhpaa
