/-
  No cell of these rows narrows 'for every input' (looked for: loops, veiled, ifaces, maps, wideKeys, modest, calm, conditions, laid).
  DERIVED. THE GIVEN ROWS OF THIS SEAT. 9 by the template 'for every input the law returns true; each argument reads behind the call as it read before'; 0 by the template 'total and deterministic' (their statements: YtimbomieepefcaaTotals.lean).
  GIVEN WITH THE SEED: the statements are not yours to turn. If you find one false, say at which input.
  Laid BY PROGRAM, IN A SANDBOX (cutbox-rows.mjs): the forced cells as the released guide's own fill.sh prints them over the translation a255bb2542fb73c7… (all of the seat's roots in one cut). By AI agents, Wed Nov 11 2026. No macro, syntax, notation, axiom, sorry.
-/
import Derived.Test.YtimbomieepefcaaChecked
import GoSem.Claim
import GoSem.ClaimJoined
import GoSem.ClaimMapViews
import Derived.JoinedTies
import Derived.KernelRfl
namespace Go.Proofs.Ytimbomieepefcaa
/- THE CELL 'sum', in the pinned program and in every row, IS THE sha256 OF THE DUMP (.gsa) THAT YtimbomieepefcaaProg.lean LOADS. Nothing in Lean hashes anything: it is a label: what it is worth is what the hold of that sum in a sandbox is worth. -/
noncomputable def Try.pinned : Pinned := { name := "ytimbomieepefcaa", sum := "a255bb2542fb73c7cebd7222f43f3a8471a17d76cbbe68456ea9c23cd3a60b66", checked := Try.checked }
namespace Rows
def none {H : Type} : Left H := { results := [], args := [] }

/-- 'nepenthelaw01.OctetFills': WHATEVER THE INPUT: true; the input reads as it did. -/
def octetFillsSpec : ChangeSpec := { name := "octetFills", fn := fun _ => fun
  | [d1, d2] => { results := [.lit (.bool true)], args := [d1, d2] }
  | _ => none }
def octetFillsRow : OpenClaim := { program := "ytimbomieepefcaa", sum := "a255bb2542fb73c7cebd7222f43f3a8471a17d76cbbe68456ea9c23cd3a60b66", func := "nepenthe/nepenthelaw01.OctetFills", spec := "octetFills", apart := false }
def OctetFillsSaid : Prop := octetFillsRow.holds Try.pinned (OpenSpec.ofChange octetFillsSpec)

/-- ITS FALSE NEIGHBOUR: 'it returns false'. Refute it at one input. -/
def octetFillsWrong : ChangeSpec := { name := "octetFills", fn := fun _ => fun
  | [d1, d2] => { results := [.lit (.bool false)], args := [d1, d2] }
  | _ => none }
def OctetFillsWrongFalsely : Prop := octetFillsRow.holds Try.pinned (OpenSpec.ofChange octetFillsWrong)

/-- 'nepenthelaw11.GeometryChecks': WHATEVER THE INPUT: true; the input reads as it did. -/
def geometryChecksSpec : ChangeSpec := { name := "geometryChecks", fn := fun _ => fun
  | [d] => { results := [.lit (.bool true)], args := [d] }
  | _ => none }
def geometryChecksRow : OpenClaim := { program := "ytimbomieepefcaa", sum := "a255bb2542fb73c7cebd7222f43f3a8471a17d76cbbe68456ea9c23cd3a60b66", func := "nepenthe/nepenthelaw11.GeometryChecks", spec := "geometryChecks", unfollowed := true, recurses := true, apart := false }
def GeometryChecksSaid : Prop := geometryChecksRow.holds Try.pinned (OpenSpec.ofChange geometryChecksSpec)

/-- ITS FALSE NEIGHBOUR: 'it returns false'. Refute it at one input. -/
def geometryChecksWrong : ChangeSpec := { name := "geometryChecks", fn := fun _ => fun
  | [d] => { results := [.lit (.bool false)], args := [d] }
  | _ => none }
def GeometryChecksWrongFalsely : Prop := geometryChecksRow.holds Try.pinned (OpenSpec.ofChange geometryChecksWrong)

/-- 'nepenthelaw11.GeometryIndexes': WHATEVER THE INPUT: true; the input reads as it did. -/
def geometryIndexesSpec : ChangeSpec := { name := "geometryIndexes", fn := fun _ => fun
  | [d1, d2] => { results := [.lit (.bool true)], args := [d1, d2] }
  | _ => none }
def geometryIndexesRow : OpenClaim := { program := "ytimbomieepefcaa", sum := "a255bb2542fb73c7cebd7222f43f3a8471a17d76cbbe68456ea9c23cd3a60b66", func := "nepenthe/nepenthelaw11.GeometryIndexes", spec := "geometryIndexes", unfollowed := true, recurses := true, apart := false }
def GeometryIndexesSaid : Prop := geometryIndexesRow.holds Try.pinned (OpenSpec.ofChange geometryIndexesSpec)

/-- ITS FALSE NEIGHBOUR: 'it returns false'. Refute it at one input. -/
def geometryIndexesWrong : ChangeSpec := { name := "geometryIndexes", fn := fun _ => fun
  | [d1, d2] => { results := [.lit (.bool false)], args := [d1, d2] }
  | _ => none }
def GeometryIndexesWrongFalsely : Prop := geometryIndexesRow.holds Try.pinned (OpenSpec.ofChange geometryIndexesWrong)

/-- 'nepenthelaw11.GeometryQuotas': WHATEVER THE INPUT: true; the input reads as it did. -/
def geometryQuotasSpec : ChangeSpec := { name := "geometryQuotas", fn := fun _ => fun
  | [d1, d2] => { results := [.lit (.bool true)], args := [d1, d2] }
  | _ => none }
def geometryQuotasRow : OpenClaim := { program := "ytimbomieepefcaa", sum := "a255bb2542fb73c7cebd7222f43f3a8471a17d76cbbe68456ea9c23cd3a60b66", func := "nepenthe/nepenthelaw11.GeometryQuotas", spec := "geometryQuotas", unfollowed := true, recurses := true, apart := false }
def GeometryQuotasSaid : Prop := geometryQuotasRow.holds Try.pinned (OpenSpec.ofChange geometryQuotasSpec)

/-- ITS FALSE NEIGHBOUR: 'it returns false'. Refute it at one input. -/
def geometryQuotasWrong : ChangeSpec := { name := "geometryQuotas", fn := fun _ => fun
  | [d1, d2] => { results := [.lit (.bool false)], args := [d1, d2] }
  | _ => none }
def GeometryQuotasWrongFalsely : Prop := geometryQuotasRow.holds Try.pinned (OpenSpec.ofChange geometryQuotasWrong)

/-- 'nepenthelaw01.OctetNumbers': WHATEVER THE INPUT: true; the input reads as it did. -/
def octetNumbersSpec : ChangeSpec := { name := "octetNumbers", fn := fun _ => fun
  | [d1, d2, d3] => { results := [.lit (.bool true)], args := [d1, d2, d3] }
  | _ => none }
def octetNumbersRow : OpenClaim := { program := "ytimbomieepefcaa", sum := "a255bb2542fb73c7cebd7222f43f3a8471a17d76cbbe68456ea9c23cd3a60b66", func := "nepenthe/nepenthelaw01.OctetNumbers", spec := "octetNumbers", apart := false }
def OctetNumbersSaid : Prop := octetNumbersRow.holds Try.pinned (OpenSpec.ofChange octetNumbersSpec)

/-- ITS FALSE NEIGHBOUR: 'it returns false'. Refute it at one input. -/
def octetNumbersWrong : ChangeSpec := { name := "octetNumbers", fn := fun _ => fun
  | [d1, d2, d3] => { results := [.lit (.bool false)], args := [d1, d2, d3] }
  | _ => none }
def OctetNumbersWrongFalsely : Prop := octetNumbersRow.holds Try.pinned (OpenSpec.ofChange octetNumbersWrong)

/-- 'nepenthelaw01.OctetHexes': WHATEVER THE INPUT: true; the input reads as it did. -/
def octetHexesSpec : ChangeSpec := { name := "octetHexes", fn := fun _ => fun
  | [d1, d2] => { results := [.lit (.bool true)], args := [d1, d2] }
  | _ => none }
def octetHexesRow : OpenClaim := { program := "ytimbomieepefcaa", sum := "a255bb2542fb73c7cebd7222f43f3a8471a17d76cbbe68456ea9c23cd3a60b66", func := "nepenthe/nepenthelaw01.OctetHexes", spec := "octetHexes", apart := false }
def OctetHexesSaid : Prop := octetHexesRow.holds Try.pinned (OpenSpec.ofChange octetHexesSpec)

/-- ITS FALSE NEIGHBOUR: 'it returns false'. Refute it at one input. -/
def octetHexesWrong : ChangeSpec := { name := "octetHexes", fn := fun _ => fun
  | [d1, d2] => { results := [.lit (.bool false)], args := [d1, d2] }
  | _ => none }
def OctetHexesWrongFalsely : Prop := octetHexesRow.holds Try.pinned (OpenSpec.ofChange octetHexesWrong)

/-- 'nepenthelaw01.OctetXors': WHATEVER THE INPUT: true; the input reads as it did. -/
def octetXorsSpec : ChangeSpec := { name := "octetXors", fn := fun _ => fun
  | [d1, d2] => { results := [.lit (.bool true)], args := [d1, d2] }
  | _ => none }
def octetXorsRow : OpenClaim := { program := "ytimbomieepefcaa", sum := "a255bb2542fb73c7cebd7222f43f3a8471a17d76cbbe68456ea9c23cd3a60b66", func := "nepenthe/nepenthelaw01.OctetXors", spec := "octetXors", apart := false }
def OctetXorsSaid : Prop := octetXorsRow.holds Try.pinned (OpenSpec.ofChange octetXorsSpec)

/-- ITS FALSE NEIGHBOUR: 'it returns false'. Refute it at one input. -/
def octetXorsWrong : ChangeSpec := { name := "octetXors", fn := fun _ => fun
  | [d1, d2] => { results := [.lit (.bool false)], args := [d1, d2] }
  | _ => none }
def OctetXorsWrongFalsely : Prop := octetXorsRow.holds Try.pinned (OpenSpec.ofChange octetXorsWrong)

/-- 'nepenthelaw11.GeometryFewer': WHATEVER THE INPUT: true; the input reads as it did. -/
def geometryFewerSpec : ChangeSpec := { name := "geometryFewer", fn := fun _ => fun
  | [d1, d2, d3] => { results := [.lit (.bool true)], args := [d1, d2, d3] }
  | _ => none }
def geometryFewerRow : OpenClaim := { program := "ytimbomieepefcaa", sum := "a255bb2542fb73c7cebd7222f43f3a8471a17d76cbbe68456ea9c23cd3a60b66", func := "nepenthe/nepenthelaw11.GeometryFewer", spec := "geometryFewer", unfollowed := true, recurses := true, apart := false }
def GeometryFewerSaid : Prop := geometryFewerRow.holds Try.pinned (OpenSpec.ofChange geometryFewerSpec)

/-- ITS FALSE NEIGHBOUR: 'it returns false'. Refute it at one input. -/
def geometryFewerWrong : ChangeSpec := { name := "geometryFewer", fn := fun _ => fun
  | [d1, d2, d3] => { results := [.lit (.bool false)], args := [d1, d2, d3] }
  | _ => none }
def GeometryFewerWrongFalsely : Prop := geometryFewerRow.holds Try.pinned (OpenSpec.ofChange geometryFewerWrong)

/-- 'nepenthelaw11.GeometryFits': WHATEVER THE INPUT: true; the input reads as it did. -/
def geometryFitsSpec : ChangeSpec := { name := "geometryFits", fn := fun _ => fun
  | [d1, d2] => { results := [.lit (.bool true)], args := [d1, d2] }
  | _ => none }
def geometryFitsRow : OpenClaim := { program := "ytimbomieepefcaa", sum := "a255bb2542fb73c7cebd7222f43f3a8471a17d76cbbe68456ea9c23cd3a60b66", func := "nepenthe/nepenthelaw11.GeometryFits", spec := "geometryFits", unfollowed := true, recurses := true, apart := false }
def GeometryFitsSaid : Prop := geometryFitsRow.holds Try.pinned (OpenSpec.ofChange geometryFitsSpec)

/-- ITS FALSE NEIGHBOUR: 'it returns false'. Refute it at one input. -/
def geometryFitsWrong : ChangeSpec := { name := "geometryFits", fn := fun _ => fun
  | [d1, d2] => { results := [.lit (.bool false)], args := [d1, d2] }
  | _ => none }
def GeometryFitsWrongFalsely : Prop := geometryFitsRow.holds Try.pinned (OpenSpec.ofChange geometryFitsWrong)

/- THE SECOND FORM. 'bulk': how many values and letters a reading holds, each counted each time it is reached (what is shared counts as often as it is met; a slice's spare places count too). A statement '..UptoSaid' is the law's where the arguments, and the package variables that the reading takes, are together of bulk at most 1048576: NARROWER than '..Said'. Prove '..Said' where nothing that the law and all that it calls make is longer than what came in: it says more and counts as full. Else prove '..UptoSaid'. A law counts once. -/
mutual
def uptoBulk {H : Type} : DataW H → Nat
  | .lit (.string bytes) => bytes.length + 1
  | .lit _ => 1
  | .nil => 1
  | .ptr d => uptoBulk d + 1
  | .slice elems spare => uptoBulkAll elems + uptoBulkAll spare + 1
  | .agg parts => uptoBulkAll parts + 1
  | .iface _ d => uptoBulk d + 1
  | .map entries => uptoBulkEntries entries + 1
  | .held _ => 1
def uptoBulkAll {H : Type} : List (DataW H) → Nat
  | [] => 0
  | d :: r => uptoBulk d + uptoBulkAll r
def uptoBulkEntries {H : Type} : List (Lit × DataW H) → Nat
  | [] => 0
  | x :: r => uptoBulkEntry x + uptoBulkEntries r
def uptoBulkEntry {H : Type} : Lit × DataW H → Nat
  | (.string bytes, d) => bytes.length + uptoBulk d + 1
  | (_, d) => uptoBulk d + 1
 end
def uptoSmall : (H : Type) → List (DataW H) → Bool := fun _ ds => decide (uptoBulkAll ds ≤ 1048576)
def OpenSpec.upto (s : _root_.Go.ChangeSpec) : _root_.Go.OpenSpec := { _root_.Go.OpenSpec.ofChange s with cond := some uptoSmall }

/-- 'nepenthelaw01.OctetFills', WHERE WHAT IT READS IS OF BULK AT MOST 1048576: true; the input reads as it did. -/
def octetFillsUptoRow : OpenClaim := { program := "ytimbomieepefcaa", sum := "a255bb2542fb73c7cebd7222f43f3a8471a17d76cbbe68456ea9c23cd3a60b66", func := "nepenthe/nepenthelaw01.OctetFills", spec := "octetFills", apart := false, narrowed := true }
def OctetFillsUptoSaid : Prop := octetFillsUptoRow.holds Try.pinned (OpenSpec.upto octetFillsSpec)

/-- 'nepenthelaw11.GeometryChecks', WHERE WHAT IT READS IS OF BULK AT MOST 1048576: true; the input reads as it did. -/
def geometryChecksUptoRow : OpenClaim := { program := "ytimbomieepefcaa", sum := "a255bb2542fb73c7cebd7222f43f3a8471a17d76cbbe68456ea9c23cd3a60b66", func := "nepenthe/nepenthelaw11.GeometryChecks", spec := "geometryChecks", unfollowed := true, recurses := true, apart := false, narrowed := true }
def GeometryChecksUptoSaid : Prop := geometryChecksUptoRow.holds Try.pinned (OpenSpec.upto geometryChecksSpec)

/-- 'nepenthelaw11.GeometryIndexes', WHERE WHAT IT READS IS OF BULK AT MOST 1048576: true; the input reads as it did. -/
def geometryIndexesUptoRow : OpenClaim := { program := "ytimbomieepefcaa", sum := "a255bb2542fb73c7cebd7222f43f3a8471a17d76cbbe68456ea9c23cd3a60b66", func := "nepenthe/nepenthelaw11.GeometryIndexes", spec := "geometryIndexes", unfollowed := true, recurses := true, apart := false, narrowed := true }
def GeometryIndexesUptoSaid : Prop := geometryIndexesUptoRow.holds Try.pinned (OpenSpec.upto geometryIndexesSpec)

/-- 'nepenthelaw11.GeometryQuotas', WHERE WHAT IT READS IS OF BULK AT MOST 1048576: true; the input reads as it did. -/
def geometryQuotasUptoRow : OpenClaim := { program := "ytimbomieepefcaa", sum := "a255bb2542fb73c7cebd7222f43f3a8471a17d76cbbe68456ea9c23cd3a60b66", func := "nepenthe/nepenthelaw11.GeometryQuotas", spec := "geometryQuotas", unfollowed := true, recurses := true, apart := false, narrowed := true }
def GeometryQuotasUptoSaid : Prop := geometryQuotasUptoRow.holds Try.pinned (OpenSpec.upto geometryQuotasSpec)

/-- 'nepenthelaw01.OctetNumbers', WHERE WHAT IT READS IS OF BULK AT MOST 1048576: true; the input reads as it did. -/
def octetNumbersUptoRow : OpenClaim := { program := "ytimbomieepefcaa", sum := "a255bb2542fb73c7cebd7222f43f3a8471a17d76cbbe68456ea9c23cd3a60b66", func := "nepenthe/nepenthelaw01.OctetNumbers", spec := "octetNumbers", apart := false, narrowed := true }
def OctetNumbersUptoSaid : Prop := octetNumbersUptoRow.holds Try.pinned (OpenSpec.upto octetNumbersSpec)

/-- 'nepenthelaw01.OctetHexes', WHERE WHAT IT READS IS OF BULK AT MOST 1048576: true; the input reads as it did. -/
def octetHexesUptoRow : OpenClaim := { program := "ytimbomieepefcaa", sum := "a255bb2542fb73c7cebd7222f43f3a8471a17d76cbbe68456ea9c23cd3a60b66", func := "nepenthe/nepenthelaw01.OctetHexes", spec := "octetHexes", apart := false, narrowed := true }
def OctetHexesUptoSaid : Prop := octetHexesUptoRow.holds Try.pinned (OpenSpec.upto octetHexesSpec)

/-- 'nepenthelaw01.OctetXors', WHERE WHAT IT READS IS OF BULK AT MOST 1048576: true; the input reads as it did. -/
def octetXorsUptoRow : OpenClaim := { program := "ytimbomieepefcaa", sum := "a255bb2542fb73c7cebd7222f43f3a8471a17d76cbbe68456ea9c23cd3a60b66", func := "nepenthe/nepenthelaw01.OctetXors", spec := "octetXors", apart := false, narrowed := true }
def OctetXorsUptoSaid : Prop := octetXorsUptoRow.holds Try.pinned (OpenSpec.upto octetXorsSpec)

/-- 'nepenthelaw11.GeometryFewer', WHERE WHAT IT READS IS OF BULK AT MOST 1048576: true; the input reads as it did. -/
def geometryFewerUptoRow : OpenClaim := { program := "ytimbomieepefcaa", sum := "a255bb2542fb73c7cebd7222f43f3a8471a17d76cbbe68456ea9c23cd3a60b66", func := "nepenthe/nepenthelaw11.GeometryFewer", spec := "geometryFewer", unfollowed := true, recurses := true, apart := false, narrowed := true }
def GeometryFewerUptoSaid : Prop := geometryFewerUptoRow.holds Try.pinned (OpenSpec.upto geometryFewerSpec)

/-- 'nepenthelaw11.GeometryFits', WHERE WHAT IT READS IS OF BULK AT MOST 1048576: true; the input reads as it did. -/
def geometryFitsUptoRow : OpenClaim := { program := "ytimbomieepefcaa", sum := "a255bb2542fb73c7cebd7222f43f3a8471a17d76cbbe68456ea9c23cd3a60b66", func := "nepenthe/nepenthelaw11.GeometryFits", spec := "geometryFits", unfollowed := true, recurses := true, apart := false, narrowed := true }
def GeometryFitsUptoSaid : Prop := geometryFitsUptoRow.holds Try.pinned (OpenSpec.upto geometryFitsSpec)

end Rows
end Go.Proofs.Ytimbomieepefcaa
