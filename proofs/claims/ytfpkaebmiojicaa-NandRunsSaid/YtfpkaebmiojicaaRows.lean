/-
  No cell of these rows narrows 'for every input' (looked for: loops, veiled, ifaces, maps, wideKeys, modest, calm, conditions, laid).
  DERIVED. THE GIVEN ROWS OF THIS SEAT. 12 by the template 'for every input the law returns true; each argument reads behind the call as it read before'; 0 by the template 'total and deterministic' (their statements: YtfpkaebmiojicaaTotals.lean).
  GIVEN WITH THE SEED: the statements are not yours to turn. If you find one false, say at which input.
  Laid BY PROGRAM, IN A SANDBOX (cutbox-rows.mjs): the forced cells as the released guide's own fill.sh prints them over the translation ebe4c516f65e3595… (all of the seat's roots in one cut). By AI agents, Wed Nov 11 2026. No macro, syntax, notation, axiom, sorry.
-/
import Derived.Test.YtfpkaebmiojicaaChecked
import GoSem.Claim
import GoSem.ClaimJoined
import GoSem.ClaimMapViews
import Derived.JoinedTies
import Derived.KernelRfl
namespace Go.Proofs.Ytfpkaebmiojicaa
/- THE CELL 'sum', in the pinned program and in every row, IS THE sha256 OF THE DUMP (.gsa) THAT YtfpkaebmiojicaaProg.lean LOADS. Nothing in Lean hashes anything: it is a label: what it is worth is what the hold of that sum in a sandbox is worth. -/
noncomputable def Try.pinned : Pinned := { name := "ytfpkaebmiojicaa", sum := "ebe4c516f65e3595c302ce69af4e71ca371d11aa5c6572d16f91abb00e678cd7", checked := Try.checked }
namespace Rows
def none {H : Type} : Left H := { results := [], args := [] }

/-- 'nepenthelaw15.PageMakes': WHATEVER THE INPUT: true; the input reads as it did. -/
def pageMakesSpec : ChangeSpec := { name := "pageMakes", fn := fun _ => fun
  | [d1, d2, d3] => { results := [.lit (.bool true)], args := [d1, d2, d3] }
  | _ => none }
def pageMakesRow : OpenClaim := { program := "ytfpkaebmiojicaa", sum := "ebe4c516f65e3595c302ce69af4e71ca371d11aa5c6572d16f91abb00e678cd7", func := "nepenthe/nepenthelaw15.PageMakes", spec := "pageMakes", unfollowed := true, recurses := true, apart := false }
def PageMakesSaid : Prop := pageMakesRow.holds Try.pinned (OpenSpec.ofChange pageMakesSpec)

/-- ITS FALSE NEIGHBOUR: 'it returns false'. Refute it at one input. -/
def pageMakesWrong : ChangeSpec := { name := "pageMakes", fn := fun _ => fun
  | [d1, d2, d3] => { results := [.lit (.bool false)], args := [d1, d2, d3] }
  | _ => none }
def PageMakesWrongFalsely : Prop := pageMakesRow.holds Try.pinned (OpenSpec.ofChange pageMakesWrong)

/-- 'nepenthelaw15.PageReads': WHATEVER THE INPUT: true; the input reads as it did. -/
def pageReadsSpec : ChangeSpec := { name := "pageReads", fn := fun _ => fun
  | [d1, d2, d3] => { results := [.lit (.bool true)], args := [d1, d2, d3] }
  | _ => none }
def pageReadsRow : OpenClaim := { program := "ytfpkaebmiojicaa", sum := "ebe4c516f65e3595c302ce69af4e71ca371d11aa5c6572d16f91abb00e678cd7", func := "nepenthe/nepenthelaw15.PageReads", spec := "pageReads", unfollowed := true, recurses := true, apart := false }
def PageReadsSaid : Prop := pageReadsRow.holds Try.pinned (OpenSpec.ofChange pageReadsSpec)

/-- ITS FALSE NEIGHBOUR: 'it returns false'. Refute it at one input. -/
def pageReadsWrong : ChangeSpec := { name := "pageReads", fn := fun _ => fun
  | [d1, d2, d3] => { results := [.lit (.bool false)], args := [d1, d2, d3] }
  | _ => none }
def PageReadsWrongFalsely : Prop := pageReadsRow.holds Try.pinned (OpenSpec.ofChange pageReadsWrong)

/-- 'nepenthelaw15.PageBlank': WHATEVER THE INPUT: true; the input reads as it did. -/
def pageBlankSpec : ChangeSpec := { name := "pageBlank", fn := fun _ => fun
  | [d1, d2] => { results := [.lit (.bool true)], args := [d1, d2] }
  | _ => none }
def pageBlankRow : OpenClaim := { program := "ytfpkaebmiojicaa", sum := "ebe4c516f65e3595c302ce69af4e71ca371d11aa5c6572d16f91abb00e678cd7", func := "nepenthe/nepenthelaw15.PageBlank", spec := "pageBlank", unfollowed := true, recurses := true, apart := false }
def PageBlankSaid : Prop := pageBlankRow.holds Try.pinned (OpenSpec.ofChange pageBlankSpec)

/-- ITS FALSE NEIGHBOUR: 'it returns false'. Refute it at one input. -/
def pageBlankWrong : ChangeSpec := { name := "pageBlank", fn := fun _ => fun
  | [d1, d2] => { results := [.lit (.bool false)], args := [d1, d2] }
  | _ => none }
def PageBlankWrongFalsely : Prop := pageBlankRow.holds Try.pinned (OpenSpec.ofChange pageBlankWrong)

/-- 'nepenthelaw15.PageBack': WHATEVER THE INPUT: true; the input reads as it did. -/
def pageBackSpec : ChangeSpec := { name := "pageBack", fn := fun _ => fun
  | [d1, d2, d3] => { results := [.lit (.bool true)], args := [d1, d2, d3] }
  | _ => none }
def pageBackRow : OpenClaim := { program := "ytfpkaebmiojicaa", sum := "ebe4c516f65e3595c302ce69af4e71ca371d11aa5c6572d16f91abb00e678cd7", func := "nepenthe/nepenthelaw15.PageBack", spec := "pageBack", unfollowed := true, recurses := true, apart := false }
def PageBackSaid : Prop := pageBackRow.holds Try.pinned (OpenSpec.ofChange pageBackSpec)

/-- ITS FALSE NEIGHBOUR: 'it returns false'. Refute it at one input. -/
def pageBackWrong : ChangeSpec := { name := "pageBack", fn := fun _ => fun
  | [d1, d2, d3] => { results := [.lit (.bool false)], args := [d1, d2, d3] }
  | _ => none }
def PageBackWrongFalsely : Prop := pageBackRow.holds Try.pinned (OpenSpec.ofChange pageBackWrong)

/-- 'nepenthelaw19.ChunkPages': WHATEVER THE INPUT: true; the input reads as it did. -/
def chunkPagesSpec : ChangeSpec := { name := "chunkPages", fn := fun _ => fun
  | [d1, d2, d3] => { results := [.lit (.bool true)], args := [d1, d2, d3] }
  | _ => none }
def chunkPagesRow : OpenClaim := { program := "ytfpkaebmiojicaa", sum := "ebe4c516f65e3595c302ce69af4e71ca371d11aa5c6572d16f91abb00e678cd7", func := "nepenthe/nepenthelaw19.ChunkPages", spec := "chunkPages", unfollowed := true, recurses := true, apart := false }
def ChunkPagesSaid : Prop := chunkPagesRow.holds Try.pinned (OpenSpec.ofChange chunkPagesSpec)

/-- ITS FALSE NEIGHBOUR: 'it returns false'. Refute it at one input. -/
def chunkPagesWrong : ChangeSpec := { name := "chunkPages", fn := fun _ => fun
  | [d1, d2, d3] => { results := [.lit (.bool false)], args := [d1, d2, d3] }
  | _ => none }
def ChunkPagesWrongFalsely : Prop := chunkPagesRow.holds Try.pinned (OpenSpec.ofChange chunkPagesWrong)

/-- 'nepenthelaw19.ChunkHolds': WHATEVER THE INPUT: true; the input reads as it did. -/
def chunkHoldsSpec : ChangeSpec := { name := "chunkHolds", fn := fun _ => fun
  | [d1, d2] => { results := [.lit (.bool true)], args := [d1, d2] }
  | _ => none }
def chunkHoldsRow : OpenClaim := { program := "ytfpkaebmiojicaa", sum := "ebe4c516f65e3595c302ce69af4e71ca371d11aa5c6572d16f91abb00e678cd7", func := "nepenthe/nepenthelaw19.ChunkHolds", spec := "chunkHolds", unfollowed := true, recurses := true, apart := false }
def ChunkHoldsSaid : Prop := chunkHoldsRow.holds Try.pinned (OpenSpec.ofChange chunkHoldsSpec)

/-- ITS FALSE NEIGHBOUR: 'it returns false'. Refute it at one input. -/
def chunkHoldsWrong : ChangeSpec := { name := "chunkHolds", fn := fun _ => fun
  | [d1, d2] => { results := [.lit (.bool false)], args := [d1, d2] }
  | _ => none }
def ChunkHoldsWrongFalsely : Prop := chunkHoldsRow.holds Try.pinned (OpenSpec.ofChange chunkHoldsWrong)

/-- 'nepenthelaw19.ChunkCurrents': WHATEVER THE INPUT: true; the input reads as it did. -/
def chunkCurrentsSpec : ChangeSpec := { name := "chunkCurrents", fn := fun _ => fun
  | [d1, d2] => { results := [.lit (.bool true)], args := [d1, d2] }
  | _ => none }
def chunkCurrentsRow : OpenClaim := { program := "ytfpkaebmiojicaa", sum := "ebe4c516f65e3595c302ce69af4e71ca371d11aa5c6572d16f91abb00e678cd7", func := "nepenthe/nepenthelaw19.ChunkCurrents", spec := "chunkCurrents", unfollowed := true, recurses := true, apart := false }
def ChunkCurrentsSaid : Prop := chunkCurrentsRow.holds Try.pinned (OpenSpec.ofChange chunkCurrentsSpec)

/-- ITS FALSE NEIGHBOUR: 'it returns false'. Refute it at one input. -/
def chunkCurrentsWrong : ChangeSpec := { name := "chunkCurrents", fn := fun _ => fun
  | [d1, d2] => { results := [.lit (.bool false)], args := [d1, d2] }
  | _ => none }
def ChunkCurrentsWrongFalsely : Prop := chunkCurrentsRow.holds Try.pinned (OpenSpec.ofChange chunkCurrentsWrong)

/-- 'nepenthelaw19.ChunkBack': WHATEVER THE INPUT: true; the input reads as it did. -/
def chunkBackSpec : ChangeSpec := { name := "chunkBack", fn := fun _ => fun
  | [d1, d2, d3] => { results := [.lit (.bool true)], args := [d1, d2, d3] }
  | _ => none }
def chunkBackRow : OpenClaim := { program := "ytfpkaebmiojicaa", sum := "ebe4c516f65e3595c302ce69af4e71ca371d11aa5c6572d16f91abb00e678cd7", func := "nepenthe/nepenthelaw19.ChunkBack", spec := "chunkBack", unfollowed := true, recurses := true, apart := false }
def ChunkBackSaid : Prop := chunkBackRow.holds Try.pinned (OpenSpec.ofChange chunkBackSpec)

/-- ITS FALSE NEIGHBOUR: 'it returns false'. Refute it at one input. -/
def chunkBackWrong : ChangeSpec := { name := "chunkBack", fn := fun _ => fun
  | [d1, d2, d3] => { results := [.lit (.bool false)], args := [d1, d2, d3] }
  | _ => none }
def ChunkBackWrongFalsely : Prop := chunkBackRow.holds Try.pinned (OpenSpec.ofChange chunkBackWrong)

/-- 'nepenthelaw13.NandReads': WHATEVER THE INPUT: true; the input reads as it did. -/
def nandReadsSpec : ChangeSpec := { name := "nandReads", fn := fun _ => fun
  | [d1, d2] => { results := [.lit (.bool true)], args := [d1, d2] }
  | _ => none }
def nandReadsRow : OpenClaim := { program := "ytfpkaebmiojicaa", sum := "ebe4c516f65e3595c302ce69af4e71ca371d11aa5c6572d16f91abb00e678cd7", func := "nepenthe/nepenthelaw13.NandReads", spec := "nandReads", unfollowed := true, recurses := true, apart := false }
def NandReadsSaid : Prop := nandReadsRow.holds Try.pinned (OpenSpec.ofChange nandReadsSpec)

/-- ITS FALSE NEIGHBOUR: 'it returns false'. Refute it at one input. -/
def nandReadsWrong : ChangeSpec := { name := "nandReads", fn := fun _ => fun
  | [d1, d2] => { results := [.lit (.bool false)], args := [d1, d2] }
  | _ => none }
def NandReadsWrongFalsely : Prop := nandReadsRow.holds Try.pinned (OpenSpec.ofChange nandReadsWrong)

/-- 'nepenthelaw13.NandClears': WHATEVER THE INPUT: true; the input reads as it did. -/
def nandClearsSpec : ChangeSpec := { name := "nandClears", fn := fun _ => fun
  | [d] => { results := [.lit (.bool true)], args := [d] }
  | _ => none }
def nandClearsRow : OpenClaim := { program := "ytfpkaebmiojicaa", sum := "ebe4c516f65e3595c302ce69af4e71ca371d11aa5c6572d16f91abb00e678cd7", func := "nepenthe/nepenthelaw13.NandClears", spec := "nandClears", unfollowed := true, recurses := true, apart := false }
def NandClearsSaid : Prop := nandClearsRow.holds Try.pinned (OpenSpec.ofChange nandClearsSpec)

/-- ITS FALSE NEIGHBOUR: 'it returns false'. Refute it at one input. -/
def nandClearsWrong : ChangeSpec := { name := "nandClears", fn := fun _ => fun
  | [d] => { results := [.lit (.bool false)], args := [d] }
  | _ => none }
def NandClearsWrongFalsely : Prop := nandClearsRow.holds Try.pinned (OpenSpec.ofChange nandClearsWrong)

/-- 'nepenthelaw13.NandTraces': WHATEVER THE INPUT: true; the input reads as it did. -/
def nandTracesSpec : ChangeSpec := { name := "nandTraces", fn := fun _ => fun
  | [d] => { results := [.lit (.bool true)], args := [d] }
  | _ => none }
def nandTracesRow : OpenClaim := { program := "ytfpkaebmiojicaa", sum := "ebe4c516f65e3595c302ce69af4e71ca371d11aa5c6572d16f91abb00e678cd7", func := "nepenthe/nepenthelaw13.NandTraces", spec := "nandTraces", unfollowed := true, recurses := true, apart := false }
def NandTracesSaid : Prop := nandTracesRow.holds Try.pinned (OpenSpec.ofChange nandTracesSpec)

/-- ITS FALSE NEIGHBOUR: 'it returns false'. Refute it at one input. -/
def nandTracesWrong : ChangeSpec := { name := "nandTraces", fn := fun _ => fun
  | [d] => { results := [.lit (.bool false)], args := [d] }
  | _ => none }
def NandTracesWrongFalsely : Prop := nandTracesRow.holds Try.pinned (OpenSpec.ofChange nandTracesWrong)

/-- 'nepenthelaw13.NandRuns': WHATEVER THE INPUT: true; the input reads as it did. -/
def nandRunsSpec : ChangeSpec := { name := "nandRuns", fn := fun _ => fun
  | [d] => { results := [.lit (.bool true)], args := [d] }
  | _ => none }
def nandRunsRow : OpenClaim := { program := "ytfpkaebmiojicaa", sum := "ebe4c516f65e3595c302ce69af4e71ca371d11aa5c6572d16f91abb00e678cd7", func := "nepenthe/nepenthelaw13.NandRuns", spec := "nandRuns", unfollowed := true, recurses := true, apart := false }
def NandRunsSaid : Prop := nandRunsRow.holds Try.pinned (OpenSpec.ofChange nandRunsSpec)

/-- ITS FALSE NEIGHBOUR: 'it returns false'. Refute it at one input. -/
def nandRunsWrong : ChangeSpec := { name := "nandRuns", fn := fun _ => fun
  | [d] => { results := [.lit (.bool false)], args := [d] }
  | _ => none }
def NandRunsWrongFalsely : Prop := nandRunsRow.holds Try.pinned (OpenSpec.ofChange nandRunsWrong)

/- THE SECOND FORM. 'bulk': how many values and letters a reading holds, each counted each time it is reached (what is shared counts as often as it is met; a slice's spare places count too). A statement '..UptoSaid' is the law's where the arguments, and the package variables that the reading takes, are together of bulk at most 1048576: NARROWER than '..Said'. Prove '..Said' where nothing that the law and all that it calls make is longer than what came in: it says more and counts as full. Else prove '..UptoSaid'. A law counts once. -/
mutual
def uptoBulk {H : Type} : DataW H → Nat
  | .lit (.string bytes) => bytes.length + 1
  | .lit _ => 1
  | .nil => 1
  | .ptr d => uptoBulk d + 1
  | .slice elems spare => uptoBulkAll elems + uptoBulkAll spare + 1
  | .agg parts => uptoBulkAll parts + 1
  | .iface _ d => uptoBulk d + 1
  | .map entries => uptoBulkEntries entries + 1
  | .held _ => 1
def uptoBulkAll {H : Type} : List (DataW H) → Nat
  | [] => 0
  | d :: r => uptoBulk d + uptoBulkAll r
def uptoBulkEntries {H : Type} : List (Lit × DataW H) → Nat
  | [] => 0
  | x :: r => uptoBulkEntry x + uptoBulkEntries r
def uptoBulkEntry {H : Type} : Lit × DataW H → Nat
  | (.string bytes, d) => bytes.length + uptoBulk d + 1
  | (_, d) => uptoBulk d + 1
 end
def uptoSmall : (H : Type) → List (DataW H) → Bool := fun _ ds => decide (uptoBulkAll ds ≤ 1048576)
def OpenSpec.upto (s : _root_.Go.ChangeSpec) : _root_.Go.OpenSpec := { _root_.Go.OpenSpec.ofChange s with cond := some uptoSmall }

/-- 'nepenthelaw15.PageMakes', WHERE WHAT IT READS IS OF BULK AT MOST 1048576: true; the input reads as it did. -/
def pageMakesUptoRow : OpenClaim := { program := "ytfpkaebmiojicaa", sum := "ebe4c516f65e3595c302ce69af4e71ca371d11aa5c6572d16f91abb00e678cd7", func := "nepenthe/nepenthelaw15.PageMakes", spec := "pageMakes", unfollowed := true, recurses := true, apart := false, narrowed := true }
def PageMakesUptoSaid : Prop := pageMakesUptoRow.holds Try.pinned (OpenSpec.upto pageMakesSpec)

/-- 'nepenthelaw15.PageReads', WHERE WHAT IT READS IS OF BULK AT MOST 1048576: true; the input reads as it did. -/
def pageReadsUptoRow : OpenClaim := { program := "ytfpkaebmiojicaa", sum := "ebe4c516f65e3595c302ce69af4e71ca371d11aa5c6572d16f91abb00e678cd7", func := "nepenthe/nepenthelaw15.PageReads", spec := "pageReads", unfollowed := true, recurses := true, apart := false, narrowed := true }
def PageReadsUptoSaid : Prop := pageReadsUptoRow.holds Try.pinned (OpenSpec.upto pageReadsSpec)

/-- 'nepenthelaw15.PageBlank', WHERE WHAT IT READS IS OF BULK AT MOST 1048576: true; the input reads as it did. -/
def pageBlankUptoRow : OpenClaim := { program := "ytfpkaebmiojicaa", sum := "ebe4c516f65e3595c302ce69af4e71ca371d11aa5c6572d16f91abb00e678cd7", func := "nepenthe/nepenthelaw15.PageBlank", spec := "pageBlank", unfollowed := true, recurses := true, apart := false, narrowed := true }
def PageBlankUptoSaid : Prop := pageBlankUptoRow.holds Try.pinned (OpenSpec.upto pageBlankSpec)

/-- 'nepenthelaw15.PageBack', WHERE WHAT IT READS IS OF BULK AT MOST 1048576: true; the input reads as it did. -/
def pageBackUptoRow : OpenClaim := { program := "ytfpkaebmiojicaa", sum := "ebe4c516f65e3595c302ce69af4e71ca371d11aa5c6572d16f91abb00e678cd7", func := "nepenthe/nepenthelaw15.PageBack", spec := "pageBack", unfollowed := true, recurses := true, apart := false, narrowed := true }
def PageBackUptoSaid : Prop := pageBackUptoRow.holds Try.pinned (OpenSpec.upto pageBackSpec)

/-- 'nepenthelaw19.ChunkPages', WHERE WHAT IT READS IS OF BULK AT MOST 1048576: true; the input reads as it did. -/
def chunkPagesUptoRow : OpenClaim := { program := "ytfpkaebmiojicaa", sum := "ebe4c516f65e3595c302ce69af4e71ca371d11aa5c6572d16f91abb00e678cd7", func := "nepenthe/nepenthelaw19.ChunkPages", spec := "chunkPages", unfollowed := true, recurses := true, apart := false, narrowed := true }
def ChunkPagesUptoSaid : Prop := chunkPagesUptoRow.holds Try.pinned (OpenSpec.upto chunkPagesSpec)

/-- 'nepenthelaw19.ChunkHolds', WHERE WHAT IT READS IS OF BULK AT MOST 1048576: true; the input reads as it did. -/
def chunkHoldsUptoRow : OpenClaim := { program := "ytfpkaebmiojicaa", sum := "ebe4c516f65e3595c302ce69af4e71ca371d11aa5c6572d16f91abb00e678cd7", func := "nepenthe/nepenthelaw19.ChunkHolds", spec := "chunkHolds", unfollowed := true, recurses := true, apart := false, narrowed := true }
def ChunkHoldsUptoSaid : Prop := chunkHoldsUptoRow.holds Try.pinned (OpenSpec.upto chunkHoldsSpec)

/-- 'nepenthelaw19.ChunkCurrents', WHERE WHAT IT READS IS OF BULK AT MOST 1048576: true; the input reads as it did. -/
def chunkCurrentsUptoRow : OpenClaim := { program := "ytfpkaebmiojicaa", sum := "ebe4c516f65e3595c302ce69af4e71ca371d11aa5c6572d16f91abb00e678cd7", func := "nepenthe/nepenthelaw19.ChunkCurrents", spec := "chunkCurrents", unfollowed := true, recurses := true, apart := false, narrowed := true }
def ChunkCurrentsUptoSaid : Prop := chunkCurrentsUptoRow.holds Try.pinned (OpenSpec.upto chunkCurrentsSpec)

/-- 'nepenthelaw19.ChunkBack', WHERE WHAT IT READS IS OF BULK AT MOST 1048576: true; the input reads as it did. -/
def chunkBackUptoRow : OpenClaim := { program := "ytfpkaebmiojicaa", sum := "ebe4c516f65e3595c302ce69af4e71ca371d11aa5c6572d16f91abb00e678cd7", func := "nepenthe/nepenthelaw19.ChunkBack", spec := "chunkBack", unfollowed := true, recurses := true, apart := false, narrowed := true }
def ChunkBackUptoSaid : Prop := chunkBackUptoRow.holds Try.pinned (OpenSpec.upto chunkBackSpec)

/-- 'nepenthelaw13.NandReads', WHERE WHAT IT READS IS OF BULK AT MOST 1048576: true; the input reads as it did. -/
def nandReadsUptoRow : OpenClaim := { program := "ytfpkaebmiojicaa", sum := "ebe4c516f65e3595c302ce69af4e71ca371d11aa5c6572d16f91abb00e678cd7", func := "nepenthe/nepenthelaw13.NandReads", spec := "nandReads", unfollowed := true, recurses := true, apart := false, narrowed := true }
def NandReadsUptoSaid : Prop := nandReadsUptoRow.holds Try.pinned (OpenSpec.upto nandReadsSpec)

/-- 'nepenthelaw13.NandClears', WHERE WHAT IT READS IS OF BULK AT MOST 1048576: true; the input reads as it did. -/
def nandClearsUptoRow : OpenClaim := { program := "ytfpkaebmiojicaa", sum := "ebe4c516f65e3595c302ce69af4e71ca371d11aa5c6572d16f91abb00e678cd7", func := "nepenthe/nepenthelaw13.NandClears", spec := "nandClears", unfollowed := true, recurses := true, apart := false, narrowed := true }
def NandClearsUptoSaid : Prop := nandClearsUptoRow.holds Try.pinned (OpenSpec.upto nandClearsSpec)

/-- 'nepenthelaw13.NandTraces', WHERE WHAT IT READS IS OF BULK AT MOST 1048576: true; the input reads as it did. -/
def nandTracesUptoRow : OpenClaim := { program := "ytfpkaebmiojicaa", sum := "ebe4c516f65e3595c302ce69af4e71ca371d11aa5c6572d16f91abb00e678cd7", func := "nepenthe/nepenthelaw13.NandTraces", spec := "nandTraces", unfollowed := true, recurses := true, apart := false, narrowed := true }
def NandTracesUptoSaid : Prop := nandTracesUptoRow.holds Try.pinned (OpenSpec.upto nandTracesSpec)

/-- 'nepenthelaw13.NandRuns', WHERE WHAT IT READS IS OF BULK AT MOST 1048576: true; the input reads as it did. -/
def nandRunsUptoRow : OpenClaim := { program := "ytfpkaebmiojicaa", sum := "ebe4c516f65e3595c302ce69af4e71ca371d11aa5c6572d16f91abb00e678cd7", func := "nepenthe/nepenthelaw13.NandRuns", spec := "nandRuns", unfollowed := true, recurses := true, apart := false, narrowed := true }
def NandRunsUptoSaid : Prop := nandRunsUptoRow.holds Try.pinned (OpenSpec.upto nandRunsSpec)

end Rows
end Go.Proofs.Ytfpkaebmiojicaa
