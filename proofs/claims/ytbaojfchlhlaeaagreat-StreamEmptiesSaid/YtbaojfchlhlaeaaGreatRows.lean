/-
  No cell of these rows narrows 'for every input' (looked for: loops, veiled, ifaces, maps, wideKeys, modest, calm, conditions, laid).
  DERIVED. THE GIVEN ROWS OF THIS SEAT. 12 by the template 'for every input the law returns true; each argument reads behind the call as it read before'; 0 by the template 'total and deterministic' (their statements: YtbaojfchlhlaeaaGreatTotals.lean).
  GIVEN WITH THE SEED: the statements are not yours to turn. If you find one false, say at which input.
  Laid BY PROGRAM, IN A SANDBOX (cutbox-rows.mjs): the forced cells as the released guide's own fill.sh prints them over the translation fd85341b04e16f96… (all of the seat's roots in one cut). By AI agents, Wed Nov 11 2026. No macro, syntax, notation, axiom, sorry.
-/
import Derived.Test.YtbaojfchlhlaeaaGreatChecked
import GoSem.Claim
import GoSem.ClaimJoined
import GoSem.ClaimMapViews
import Derived.JoinedTies
import Derived.KernelRfl
namespace Go.Proofs.YtbaojfchlhlaeaaGreat
/- THE CELL 'sum', in the pinned program and in every row, IS THE sha256 OF THE DUMP (.gsa) THAT YtbaojfchlhlaeaaGreatProg.lean LOADS. Nothing in Lean hashes anything: it is a label: what it is worth is what the hold of that sum in a sandbox is worth. -/
noncomputable def Tryz.pinned : Pinned := { name := "ytbaojfchlhlaeaagreat", sum := "fd85341b04e16f96f7a381779909e0596930b2e88ed0847ab5d39338d92ea80c", checked := Tryz.checked }
namespace Rows
def none {H : Type} : Left H := { results := [], args := [] }

/-- 'nepenthelaw27.SanitiseForgets': WHATEVER THE INPUT: true; the input reads as it did. -/
def sanitiseForgetsSpec : ChangeSpec := { name := "sanitiseForgets", fn := fun _ => fun
  | [d1, d2] => { results := [.lit (.bool true)], args := [d1, d2] }
  | _ => none }
def sanitiseForgetsRow : OpenClaim := { program := "ytbaojfchlhlaeaagreat", sum := "fd85341b04e16f96f7a381779909e0596930b2e88ed0847ab5d39338d92ea80c", func := "nepenthe/nepenthelaw27.SanitiseForgets", spec := "sanitiseForgets", unfollowed := true, recurses := true, plainKeys := false, apart := false }
def SanitiseForgetsSaid : Prop := sanitiseForgetsRow.holds Tryz.pinned (OpenSpec.ofChange sanitiseForgetsSpec)

/-- ITS FALSE NEIGHBOUR: 'it returns false'. Refute it at one input. -/
def sanitiseForgetsWrong : ChangeSpec := { name := "sanitiseForgets", fn := fun _ => fun
  | [d1, d2] => { results := [.lit (.bool false)], args := [d1, d2] }
  | _ => none }
def SanitiseForgetsWrongFalsely : Prop := sanitiseForgetsRow.holds Tryz.pinned (OpenSpec.ofChange sanitiseForgetsWrong)

/-- 'nepenthelaw25.StreamScans': WHATEVER THE INPUT: true; the input reads as it did. -/
def streamScansSpec : ChangeSpec := { name := "streamScans", fn := fun _ => fun
  | [d] => { results := [.lit (.bool true)], args := [d] }
  | _ => none }
def streamScansRow : OpenClaim := { program := "ytbaojfchlhlaeaagreat", sum := "fd85341b04e16f96f7a381779909e0596930b2e88ed0847ab5d39338d92ea80c", func := "nepenthe/nepenthelaw25.StreamScans", spec := "streamScans", unfollowed := true, recurses := true, plainKeys := false, apart := false }
def StreamScansSaid : Prop := streamScansRow.holds Tryz.pinned (OpenSpec.ofChange streamScansSpec)

/-- ITS FALSE NEIGHBOUR: 'it returns false'. Refute it at one input. -/
def streamScansWrong : ChangeSpec := { name := "streamScans", fn := fun _ => fun
  | [d] => { results := [.lit (.bool false)], args := [d] }
  | _ => none }
def StreamScansWrongFalsely : Prop := streamScansRow.holds Tryz.pinned (OpenSpec.ofChange streamScansWrong)

/-- 'nepenthelaw25.StreamCounts': WHATEVER THE INPUT: true; the input reads as it did. -/
def streamCountsSpec : ChangeSpec := { name := "streamCounts", fn := fun _ => fun
  | [d] => { results := [.lit (.bool true)], args := [d] }
  | _ => none }
def streamCountsRow : OpenClaim := { program := "ytbaojfchlhlaeaagreat", sum := "fd85341b04e16f96f7a381779909e0596930b2e88ed0847ab5d39338d92ea80c", func := "nepenthe/nepenthelaw25.StreamCounts", spec := "streamCounts", unfollowed := true, recurses := true, plainKeys := false, apart := false }
def StreamCountsSaid : Prop := streamCountsRow.holds Tryz.pinned (OpenSpec.ofChange streamCountsSpec)

/-- ITS FALSE NEIGHBOUR: 'it returns false'. Refute it at one input. -/
def streamCountsWrong : ChangeSpec := { name := "streamCounts", fn := fun _ => fun
  | [d] => { results := [.lit (.bool false)], args := [d] }
  | _ => none }
def StreamCountsWrongFalsely : Prop := streamCountsRow.holds Tryz.pinned (OpenSpec.ofChange streamCountsWrong)

/-- 'nepenthelaw25.StreamNil': WHATEVER THE INPUT: true; the input reads as it did. -/
def streamNilSpec : ChangeSpec := { name := "streamNil", fn := fun _ => fun
  | [d1, d2] => { results := [.lit (.bool true)], args := [d1, d2] }
  | _ => none }
def streamNilRow : OpenClaim := { program := "ytbaojfchlhlaeaagreat", sum := "fd85341b04e16f96f7a381779909e0596930b2e88ed0847ab5d39338d92ea80c", func := "nepenthe/nepenthelaw25.StreamNil", spec := "streamNil", unfollowed := true, recurses := true, plainKeys := false, apart := false }
def StreamNilSaid : Prop := streamNilRow.holds Tryz.pinned (OpenSpec.ofChange streamNilSpec)

/-- ITS FALSE NEIGHBOUR: 'it returns false'. Refute it at one input. -/
def streamNilWrong : ChangeSpec := { name := "streamNil", fn := fun _ => fun
  | [d1, d2] => { results := [.lit (.bool false)], args := [d1, d2] }
  | _ => none }
def StreamNilWrongFalsely : Prop := streamNilRow.holds Tryz.pinned (OpenSpec.ofChange streamNilWrong)

/-- 'nepenthelaw25.StreamEmpties': WHATEVER THE INPUT: true; the input reads as it did. -/
def streamEmptiesSpec : ChangeSpec := { name := "streamEmpties", fn := fun _ => fun
  | [d1, d2] => { results := [.lit (.bool true)], args := [d1, d2] }
  | _ => none }
def streamEmptiesRow : OpenClaim := { program := "ytbaojfchlhlaeaagreat", sum := "fd85341b04e16f96f7a381779909e0596930b2e88ed0847ab5d39338d92ea80c", func := "nepenthe/nepenthelaw25.StreamEmpties", spec := "streamEmpties", unfollowed := true, recurses := true, plainKeys := false, apart := false }
def StreamEmptiesSaid : Prop := streamEmptiesRow.holds Tryz.pinned (OpenSpec.ofChange streamEmptiesSpec)

/-- ITS FALSE NEIGHBOUR: 'it returns false'. Refute it at one input. -/
def streamEmptiesWrong : ChangeSpec := { name := "streamEmpties", fn := fun _ => fun
  | [d1, d2] => { results := [.lit (.bool false)], args := [d1, d2] }
  | _ => none }
def StreamEmptiesWrongFalsely : Prop := streamEmptiesRow.holds Tryz.pinned (OpenSpec.ofChange streamEmptiesWrong)

/-- 'nepenthelaw26.ReclaimTells': WHATEVER THE INPUT: true; the input reads as it did. -/
def reclaimTellsSpec : ChangeSpec := { name := "reclaimTells", fn := fun _ => fun
  | [d1, d2] => { results := [.lit (.bool true)], args := [d1, d2] }
  | _ => none }
def reclaimTellsRow : OpenClaim := { program := "ytbaojfchlhlaeaagreat", sum := "fd85341b04e16f96f7a381779909e0596930b2e88ed0847ab5d39338d92ea80c", func := "nepenthe/nepenthelaw26.ReclaimTells", spec := "reclaimTells", unfollowed := true, recurses := true, plainKeys := false, apart := false }
def ReclaimTellsSaid : Prop := reclaimTellsRow.holds Tryz.pinned (OpenSpec.ofChange reclaimTellsSpec)

/-- ITS FALSE NEIGHBOUR: 'it returns false'. Refute it at one input. -/
def reclaimTellsWrong : ChangeSpec := { name := "reclaimTells", fn := fun _ => fun
  | [d1, d2] => { results := [.lit (.bool false)], args := [d1, d2] }
  | _ => none }
def ReclaimTellsWrongFalsely : Prop := reclaimTellsRow.holds Tryz.pinned (OpenSpec.ofChange reclaimTellsWrong)

/-- 'nepenthelaw26.ReclaimLevels': WHATEVER THE INPUT: true; the input reads as it did. -/
def reclaimLevelsSpec : ChangeSpec := { name := "reclaimLevels", fn := fun _ => fun
  | [d1, d2] => { results := [.lit (.bool true)], args := [d1, d2] }
  | _ => none }
def reclaimLevelsRow : OpenClaim := { program := "ytbaojfchlhlaeaagreat", sum := "fd85341b04e16f96f7a381779909e0596930b2e88ed0847ab5d39338d92ea80c", func := "nepenthe/nepenthelaw26.ReclaimLevels", spec := "reclaimLevels", unfollowed := true, recurses := true, plainKeys := false, apart := false }
def ReclaimLevelsSaid : Prop := reclaimLevelsRow.holds Tryz.pinned (OpenSpec.ofChange reclaimLevelsSpec)

/-- ITS FALSE NEIGHBOUR: 'it returns false'. Refute it at one input. -/
def reclaimLevelsWrong : ChangeSpec := { name := "reclaimLevels", fn := fun _ => fun
  | [d1, d2] => { results := [.lit (.bool false)], args := [d1, d2] }
  | _ => none }
def ReclaimLevelsWrongFalsely : Prop := reclaimLevelsRow.holds Tryz.pinned (OpenSpec.ofChange reclaimLevelsWrong)

/-- 'nepenthelaw26.ReclaimFaults': WHATEVER THE INPUT: true; the input reads as it did. -/
def reclaimFaultsSpec : ChangeSpec := { name := "reclaimFaults", fn := fun _ => fun
  | [d1, d2] => { results := [.lit (.bool true)], args := [d1, d2] }
  | _ => none }
def reclaimFaultsRow : OpenClaim := { program := "ytbaojfchlhlaeaagreat", sum := "fd85341b04e16f96f7a381779909e0596930b2e88ed0847ab5d39338d92ea80c", func := "nepenthe/nepenthelaw26.ReclaimFaults", spec := "reclaimFaults", unfollowed := true, recurses := true, plainKeys := false, apart := false }
def ReclaimFaultsSaid : Prop := reclaimFaultsRow.holds Tryz.pinned (OpenSpec.ofChange reclaimFaultsSpec)

/-- ITS FALSE NEIGHBOUR: 'it returns false'. Refute it at one input. -/
def reclaimFaultsWrong : ChangeSpec := { name := "reclaimFaults", fn := fun _ => fun
  | [d1, d2] => { results := [.lit (.bool false)], args := [d1, d2] }
  | _ => none }
def ReclaimFaultsWrongFalsely : Prop := reclaimFaultsRow.holds Tryz.pinned (OpenSpec.ofChange reclaimFaultsWrong)

/-- 'nepenthelaw27.SanitiseTwins': WHATEVER THE INPUT: true; the input reads as it did. -/
def sanitiseTwinsSpec : ChangeSpec := { name := "sanitiseTwins", fn := fun _ => fun
  | [d1, d2] => { results := [.lit (.bool true)], args := [d1, d2] }
  | _ => none }
def sanitiseTwinsRow : OpenClaim := { program := "ytbaojfchlhlaeaagreat", sum := "fd85341b04e16f96f7a381779909e0596930b2e88ed0847ab5d39338d92ea80c", func := "nepenthe/nepenthelaw27.SanitiseTwins", spec := "sanitiseTwins", unfollowed := true, recurses := true, plainKeys := false, apart := false }
def SanitiseTwinsSaid : Prop := sanitiseTwinsRow.holds Tryz.pinned (OpenSpec.ofChange sanitiseTwinsSpec)

/-- ITS FALSE NEIGHBOUR: 'it returns false'. Refute it at one input. -/
def sanitiseTwinsWrong : ChangeSpec := { name := "sanitiseTwins", fn := fun _ => fun
  | [d1, d2] => { results := [.lit (.bool false)], args := [d1, d2] }
  | _ => none }
def SanitiseTwinsWrongFalsely : Prop := sanitiseTwinsRow.holds Tryz.pinned (OpenSpec.ofChange sanitiseTwinsWrong)

/-- 'nepenthelaw27.SanitiseDrains': WHATEVER THE INPUT: true; the input reads as it did. -/
def sanitiseDrainsSpec : ChangeSpec := { name := "sanitiseDrains", fn := fun _ => fun
  | [d] => { results := [.lit (.bool true)], args := [d] }
  | _ => none }
def sanitiseDrainsRow : OpenClaim := { program := "ytbaojfchlhlaeaagreat", sum := "fd85341b04e16f96f7a381779909e0596930b2e88ed0847ab5d39338d92ea80c", func := "nepenthe/nepenthelaw27.SanitiseDrains", spec := "sanitiseDrains", unfollowed := true, recurses := true, plainKeys := false, apart := false }
def SanitiseDrainsSaid : Prop := sanitiseDrainsRow.holds Tryz.pinned (OpenSpec.ofChange sanitiseDrainsSpec)

/-- ITS FALSE NEIGHBOUR: 'it returns false'. Refute it at one input. -/
def sanitiseDrainsWrong : ChangeSpec := { name := "sanitiseDrains", fn := fun _ => fun
  | [d] => { results := [.lit (.bool false)], args := [d] }
  | _ => none }
def SanitiseDrainsWrongFalsely : Prop := sanitiseDrainsRow.holds Tryz.pinned (OpenSpec.ofChange sanitiseDrainsWrong)

/-- 'nepenthelaw27.SanitiseSome': WHATEVER THE INPUT: true; the input reads as it did. -/
def sanitiseSomeSpec : ChangeSpec := { name := "sanitiseSome", fn := fun _ => fun
  | [d1, d2] => { results := [.lit (.bool true)], args := [d1, d2] }
  | _ => none }
def sanitiseSomeRow : OpenClaim := { program := "ytbaojfchlhlaeaagreat", sum := "fd85341b04e16f96f7a381779909e0596930b2e88ed0847ab5d39338d92ea80c", func := "nepenthe/nepenthelaw27.SanitiseSome", spec := "sanitiseSome", unfollowed := true, recurses := true, plainKeys := false, apart := false }
def SanitiseSomeSaid : Prop := sanitiseSomeRow.holds Tryz.pinned (OpenSpec.ofChange sanitiseSomeSpec)

/-- ITS FALSE NEIGHBOUR: 'it returns false'. Refute it at one input. -/
def sanitiseSomeWrong : ChangeSpec := { name := "sanitiseSome", fn := fun _ => fun
  | [d1, d2] => { results := [.lit (.bool false)], args := [d1, d2] }
  | _ => none }
def SanitiseSomeWrongFalsely : Prop := sanitiseSomeRow.holds Tryz.pinned (OpenSpec.ofChange sanitiseSomeWrong)

/-- 'nepenthelaw27.SanitisePurged': WHATEVER THE INPUT: true; the input reads as it did. -/
def sanitisePurgedSpec : ChangeSpec := { name := "sanitisePurged", fn := fun _ => fun
  | [d1, d2, d3] => { results := [.lit (.bool true)], args := [d1, d2, d3] }
  | _ => none }
def sanitisePurgedRow : OpenClaim := { program := "ytbaojfchlhlaeaagreat", sum := "fd85341b04e16f96f7a381779909e0596930b2e88ed0847ab5d39338d92ea80c", func := "nepenthe/nepenthelaw27.SanitisePurged", spec := "sanitisePurged", unfollowed := true, recurses := true, plainKeys := false, apart := false }
def SanitisePurgedSaid : Prop := sanitisePurgedRow.holds Tryz.pinned (OpenSpec.ofChange sanitisePurgedSpec)

/-- ITS FALSE NEIGHBOUR: 'it returns false'. Refute it at one input. -/
def sanitisePurgedWrong : ChangeSpec := { name := "sanitisePurged", fn := fun _ => fun
  | [d1, d2, d3] => { results := [.lit (.bool false)], args := [d1, d2, d3] }
  | _ => none }
def SanitisePurgedWrongFalsely : Prop := sanitisePurgedRow.holds Tryz.pinned (OpenSpec.ofChange sanitisePurgedWrong)

/- THE SECOND FORM. 'bulk': how many values and letters a reading holds, each counted each time it is reached (what is shared counts as often as it is met; a slice's spare places count too). A statement '..UptoSaid' is the law's where the arguments, and the package variables that the reading takes, are together of bulk at most 1048576: NARROWER than '..Said'. Prove '..Said' where nothing that the law and all that it calls make is longer than what came in: it says more and counts as full. Else prove '..UptoSaid'. A law counts once. -/
mutual
def uptoBulk {H : Type} : DataW H → Nat
  | .lit (.string bytes) => bytes.length + 1
  | .lit _ => 1
  | .nil => 1
  | .ptr d => uptoBulk d + 1
  | .slice elems spare => uptoBulkAll elems + uptoBulkAll spare + 1
  | .agg parts => uptoBulkAll parts + 1
  | .iface _ d => uptoBulk d + 1
  | .map entries => uptoBulkEntries entries + 1
  | .held _ => 1
def uptoBulkAll {H : Type} : List (DataW H) → Nat
  | [] => 0
  | d :: r => uptoBulk d + uptoBulkAll r
def uptoBulkEntries {H : Type} : List (Lit × DataW H) → Nat
  | [] => 0
  | x :: r => uptoBulkEntry x + uptoBulkEntries r
def uptoBulkEntry {H : Type} : Lit × DataW H → Nat
  | (.string bytes, d) => bytes.length + uptoBulk d + 1
  | (_, d) => uptoBulk d + 1
 end
def uptoSmall : (H : Type) → List (DataW H) → Bool := fun _ ds => decide (uptoBulkAll ds ≤ 1048576)
def OpenSpec.upto (s : _root_.Go.ChangeSpec) : _root_.Go.OpenSpec := { _root_.Go.OpenSpec.ofChange s with cond := some uptoSmall }

/-- 'nepenthelaw27.SanitiseForgets', WHERE WHAT IT READS IS OF BULK AT MOST 1048576: true; the input reads as it did. -/
def sanitiseForgetsUptoRow : OpenClaim := { program := "ytbaojfchlhlaeaagreat", sum := "fd85341b04e16f96f7a381779909e0596930b2e88ed0847ab5d39338d92ea80c", func := "nepenthe/nepenthelaw27.SanitiseForgets", spec := "sanitiseForgets", unfollowed := true, recurses := true, plainKeys := false, apart := false, narrowed := true }
def SanitiseForgetsUptoSaid : Prop := sanitiseForgetsUptoRow.holds Tryz.pinned (OpenSpec.upto sanitiseForgetsSpec)

/-- 'nepenthelaw25.StreamScans', WHERE WHAT IT READS IS OF BULK AT MOST 1048576: true; the input reads as it did. -/
def streamScansUptoRow : OpenClaim := { program := "ytbaojfchlhlaeaagreat", sum := "fd85341b04e16f96f7a381779909e0596930b2e88ed0847ab5d39338d92ea80c", func := "nepenthe/nepenthelaw25.StreamScans", spec := "streamScans", unfollowed := true, recurses := true, plainKeys := false, apart := false, narrowed := true }
def StreamScansUptoSaid : Prop := streamScansUptoRow.holds Tryz.pinned (OpenSpec.upto streamScansSpec)

/-- 'nepenthelaw25.StreamCounts', WHERE WHAT IT READS IS OF BULK AT MOST 1048576: true; the input reads as it did. -/
def streamCountsUptoRow : OpenClaim := { program := "ytbaojfchlhlaeaagreat", sum := "fd85341b04e16f96f7a381779909e0596930b2e88ed0847ab5d39338d92ea80c", func := "nepenthe/nepenthelaw25.StreamCounts", spec := "streamCounts", unfollowed := true, recurses := true, plainKeys := false, apart := false, narrowed := true }
def StreamCountsUptoSaid : Prop := streamCountsUptoRow.holds Tryz.pinned (OpenSpec.upto streamCountsSpec)

/-- 'nepenthelaw25.StreamNil', WHERE WHAT IT READS IS OF BULK AT MOST 1048576: true; the input reads as it did. -/
def streamNilUptoRow : OpenClaim := { program := "ytbaojfchlhlaeaagreat", sum := "fd85341b04e16f96f7a381779909e0596930b2e88ed0847ab5d39338d92ea80c", func := "nepenthe/nepenthelaw25.StreamNil", spec := "streamNil", unfollowed := true, recurses := true, plainKeys := false, apart := false, narrowed := true }
def StreamNilUptoSaid : Prop := streamNilUptoRow.holds Tryz.pinned (OpenSpec.upto streamNilSpec)

/-- 'nepenthelaw25.StreamEmpties', WHERE WHAT IT READS IS OF BULK AT MOST 1048576: true; the input reads as it did. -/
def streamEmptiesUptoRow : OpenClaim := { program := "ytbaojfchlhlaeaagreat", sum := "fd85341b04e16f96f7a381779909e0596930b2e88ed0847ab5d39338d92ea80c", func := "nepenthe/nepenthelaw25.StreamEmpties", spec := "streamEmpties", unfollowed := true, recurses := true, plainKeys := false, apart := false, narrowed := true }
def StreamEmptiesUptoSaid : Prop := streamEmptiesUptoRow.holds Tryz.pinned (OpenSpec.upto streamEmptiesSpec)

/-- 'nepenthelaw26.ReclaimTells', WHERE WHAT IT READS IS OF BULK AT MOST 1048576: true; the input reads as it did. -/
def reclaimTellsUptoRow : OpenClaim := { program := "ytbaojfchlhlaeaagreat", sum := "fd85341b04e16f96f7a381779909e0596930b2e88ed0847ab5d39338d92ea80c", func := "nepenthe/nepenthelaw26.ReclaimTells", spec := "reclaimTells", unfollowed := true, recurses := true, plainKeys := false, apart := false, narrowed := true }
def ReclaimTellsUptoSaid : Prop := reclaimTellsUptoRow.holds Tryz.pinned (OpenSpec.upto reclaimTellsSpec)

/-- 'nepenthelaw26.ReclaimLevels', WHERE WHAT IT READS IS OF BULK AT MOST 1048576: true; the input reads as it did. -/
def reclaimLevelsUptoRow : OpenClaim := { program := "ytbaojfchlhlaeaagreat", sum := "fd85341b04e16f96f7a381779909e0596930b2e88ed0847ab5d39338d92ea80c", func := "nepenthe/nepenthelaw26.ReclaimLevels", spec := "reclaimLevels", unfollowed := true, recurses := true, plainKeys := false, apart := false, narrowed := true }
def ReclaimLevelsUptoSaid : Prop := reclaimLevelsUptoRow.holds Tryz.pinned (OpenSpec.upto reclaimLevelsSpec)

/-- 'nepenthelaw26.ReclaimFaults', WHERE WHAT IT READS IS OF BULK AT MOST 1048576: true; the input reads as it did. -/
def reclaimFaultsUptoRow : OpenClaim := { program := "ytbaojfchlhlaeaagreat", sum := "fd85341b04e16f96f7a381779909e0596930b2e88ed0847ab5d39338d92ea80c", func := "nepenthe/nepenthelaw26.ReclaimFaults", spec := "reclaimFaults", unfollowed := true, recurses := true, plainKeys := false, apart := false, narrowed := true }
def ReclaimFaultsUptoSaid : Prop := reclaimFaultsUptoRow.holds Tryz.pinned (OpenSpec.upto reclaimFaultsSpec)

/-- 'nepenthelaw27.SanitiseTwins', WHERE WHAT IT READS IS OF BULK AT MOST 1048576: true; the input reads as it did. -/
def sanitiseTwinsUptoRow : OpenClaim := { program := "ytbaojfchlhlaeaagreat", sum := "fd85341b04e16f96f7a381779909e0596930b2e88ed0847ab5d39338d92ea80c", func := "nepenthe/nepenthelaw27.SanitiseTwins", spec := "sanitiseTwins", unfollowed := true, recurses := true, plainKeys := false, apart := false, narrowed := true }
def SanitiseTwinsUptoSaid : Prop := sanitiseTwinsUptoRow.holds Tryz.pinned (OpenSpec.upto sanitiseTwinsSpec)

/-- 'nepenthelaw27.SanitiseDrains', WHERE WHAT IT READS IS OF BULK AT MOST 1048576: true; the input reads as it did. -/
def sanitiseDrainsUptoRow : OpenClaim := { program := "ytbaojfchlhlaeaagreat", sum := "fd85341b04e16f96f7a381779909e0596930b2e88ed0847ab5d39338d92ea80c", func := "nepenthe/nepenthelaw27.SanitiseDrains", spec := "sanitiseDrains", unfollowed := true, recurses := true, plainKeys := false, apart := false, narrowed := true }
def SanitiseDrainsUptoSaid : Prop := sanitiseDrainsUptoRow.holds Tryz.pinned (OpenSpec.upto sanitiseDrainsSpec)

/-- 'nepenthelaw27.SanitiseSome', WHERE WHAT IT READS IS OF BULK AT MOST 1048576: true; the input reads as it did. -/
def sanitiseSomeUptoRow : OpenClaim := { program := "ytbaojfchlhlaeaagreat", sum := "fd85341b04e16f96f7a381779909e0596930b2e88ed0847ab5d39338d92ea80c", func := "nepenthe/nepenthelaw27.SanitiseSome", spec := "sanitiseSome", unfollowed := true, recurses := true, plainKeys := false, apart := false, narrowed := true }
def SanitiseSomeUptoSaid : Prop := sanitiseSomeUptoRow.holds Tryz.pinned (OpenSpec.upto sanitiseSomeSpec)

/-- 'nepenthelaw27.SanitisePurged', WHERE WHAT IT READS IS OF BULK AT MOST 1048576: true; the input reads as it did. -/
def sanitisePurgedUptoRow : OpenClaim := { program := "ytbaojfchlhlaeaagreat", sum := "fd85341b04e16f96f7a381779909e0596930b2e88ed0847ab5d39338d92ea80c", func := "nepenthe/nepenthelaw27.SanitisePurged", spec := "sanitisePurged", unfollowed := true, recurses := true, plainKeys := false, apart := false, narrowed := true }
def SanitisePurgedUptoSaid : Prop := sanitisePurgedUptoRow.holds Tryz.pinned (OpenSpec.upto sanitisePurgedSpec)

end Rows
end Go.Proofs.YtbaojfchlhlaeaaGreat
