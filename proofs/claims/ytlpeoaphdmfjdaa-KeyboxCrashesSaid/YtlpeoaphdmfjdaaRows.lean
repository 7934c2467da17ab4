/-
  No cell of these rows narrows 'for every input' (looked for: loops, veiled, ifaces, maps, wideKeys, modest, calm, conditions, laid).
  DERIVED. THE GIVEN ROWS OF THIS SEAT. 4 by the template 'for every input the law returns true; each argument reads behind the call as it read before'; 0 by the template 'total and deterministic' (their statements: YtlpeoaphdmfjdaaTotals.lean).
  GIVEN WITH THE SEED: the statements are not yours to turn. If you find one false, say at which input.
  Laid BY PROGRAM, IN A SANDBOX (cutbox-rows.mjs): the forced cells as the released guide's own fill.sh prints them over the translation a67574ae1a7bfff2… (all of the seat's roots in one cut). By AI agents, Wed Nov 11 2026. No macro, syntax, notation, axiom, sorry.
-/
import Derived.Test.YtlpeoaphdmfjdaaChecked
import GoSem.Claim
import GoSem.ClaimJoined
import GoSem.ClaimMapViews
import Derived.JoinedTies
import Derived.KernelRfl
namespace Go.Proofs.Ytlpeoaphdmfjdaa
/- THE CELL 'sum', in the pinned program and in every row, IS THE sha256 OF THE DUMP (.gsa) THAT YtlpeoaphdmfjdaaProg.lean LOADS. Nothing in Lean hashes anything: it is a label: what it is worth is what the hold of that sum in a sandbox is worth. -/
noncomputable def Try.pinned : Pinned := { name := "ytlpeoaphdmfjdaa", sum := "a67574ae1a7bfff2a47a0f140876ef4db3118b70cc58b77bdb941609c246d280", checked := Try.checked }
namespace Rows
def none {H : Type} : Left H := { results := [], args := [] }

/-- 'nepenthelaw24.PoolNews': WHATEVER THE INPUT: true; the input reads as it did. -/
def poolNewsSpec : ChangeSpec := { name := "poolNews", fn := fun _ => fun
  | [d1, d2, d3] => { results := [.lit (.bool true)], args := [d1, d2, d3] }
  | _ => none }
def poolNewsRow : OpenClaim := { program := "ytlpeoaphdmfjdaa", sum := "a67574ae1a7bfff2a47a0f140876ef4db3118b70cc58b77bdb941609c246d280", func := "nepenthe/nepenthelaw24.PoolNews", spec := "poolNews", unfollowed := true, recurses := true, apart := false }
def PoolNewsSaid : Prop := poolNewsRow.holds Try.pinned (OpenSpec.ofChange poolNewsSpec)

/-- ITS FALSE NEIGHBOUR: 'it returns false'. Refute it at one input. -/
def poolNewsWrong : ChangeSpec := { name := "poolNews", fn := fun _ => fun
  | [d1, d2, d3] => { results := [.lit (.bool false)], args := [d1, d2, d3] }
  | _ => none }
def PoolNewsWrongFalsely : Prop := poolNewsRow.holds Try.pinned (OpenSpec.ofChange poolNewsWrong)

/-- 'nepenthelaw20.KeyboxNil': WHATEVER THE INPUT: true; the input reads as it did. -/
def keyboxNilSpec : ChangeSpec := { name := "keyboxNil", fn := fun _ => fun
  | [d1, d2] => { results := [.lit (.bool true)], args := [d1, d2] }
  | _ => none }
def keyboxNilRow : OpenClaim := { program := "ytlpeoaphdmfjdaa", sum := "a67574ae1a7bfff2a47a0f140876ef4db3118b70cc58b77bdb941609c246d280", func := "nepenthe/nepenthelaw20.KeyboxNil", spec := "keyboxNil", unfollowed := true, recurses := true, apart := false }
def KeyboxNilSaid : Prop := keyboxNilRow.holds Try.pinned (OpenSpec.ofChange keyboxNilSpec)

/-- ITS FALSE NEIGHBOUR: 'it returns false'. Refute it at one input. -/
def keyboxNilWrong : ChangeSpec := { name := "keyboxNil", fn := fun _ => fun
  | [d1, d2] => { results := [.lit (.bool false)], args := [d1, d2] }
  | _ => none }
def KeyboxNilWrongFalsely : Prop := keyboxNilRow.holds Try.pinned (OpenSpec.ofChange keyboxNilWrong)

/-- 'nepenthelaw20.KeyboxGone': WHATEVER THE INPUT: true; the input reads as it did. -/
def keyboxGoneSpec : ChangeSpec := { name := "keyboxGone", fn := fun _ => fun
  | [d] => { results := [.lit (.bool true)], args := [d] }
  | _ => none }
def keyboxGoneRow : OpenClaim := { program := "ytlpeoaphdmfjdaa", sum := "a67574ae1a7bfff2a47a0f140876ef4db3118b70cc58b77bdb941609c246d280", func := "nepenthe/nepenthelaw20.KeyboxGone", spec := "keyboxGone", unfollowed := true, recurses := true, apart := false }
def KeyboxGoneSaid : Prop := keyboxGoneRow.holds Try.pinned (OpenSpec.ofChange keyboxGoneSpec)

/-- ITS FALSE NEIGHBOUR: 'it returns false'. Refute it at one input. -/
def keyboxGoneWrong : ChangeSpec := { name := "keyboxGone", fn := fun _ => fun
  | [d] => { results := [.lit (.bool false)], args := [d] }
  | _ => none }
def KeyboxGoneWrongFalsely : Prop := keyboxGoneRow.holds Try.pinned (OpenSpec.ofChange keyboxGoneWrong)

/-- 'nepenthelaw20.KeyboxCrashes': WHATEVER THE INPUT: true; the input reads as it did. -/
def keyboxCrashesSpec : ChangeSpec := { name := "keyboxCrashes", fn := fun _ => fun
  | [d1, d2, d3] => { results := [.lit (.bool true)], args := [d1, d2, d3] }
  | _ => none }
def keyboxCrashesRow : OpenClaim := { program := "ytlpeoaphdmfjdaa", sum := "a67574ae1a7bfff2a47a0f140876ef4db3118b70cc58b77bdb941609c246d280", func := "nepenthe/nepenthelaw20.KeyboxCrashes", spec := "keyboxCrashes", unfollowed := true, recurses := true, apart := false }
def KeyboxCrashesSaid : Prop := keyboxCrashesRow.holds Try.pinned (OpenSpec.ofChange keyboxCrashesSpec)

/-- ITS FALSE NEIGHBOUR: 'it returns false'. Refute it at one input. -/
def keyboxCrashesWrong : ChangeSpec := { name := "keyboxCrashes", fn := fun _ => fun
  | [d1, d2, d3] => { results := [.lit (.bool false)], args := [d1, d2, d3] }
  | _ => none }
def KeyboxCrashesWrongFalsely : Prop := keyboxCrashesRow.holds Try.pinned (OpenSpec.ofChange keyboxCrashesWrong)

/- THE SECOND FORM. 'bulk': how many values and letters a reading holds, each counted each time it is reached (what is shared counts as often as it is met; a slice's spare places count too). A statement '..UptoSaid' is the law's where the arguments, and the package variables that the reading takes, are together of bulk at most 1048576: NARROWER than '..Said'. Prove '..Said' where nothing that the law and all that it calls make is longer than what came in: it says more and counts as full. Else prove '..UptoSaid'. A law counts once. -/
mutual
def uptoBulk {H : Type} : DataW H → Nat
  | .lit (.string bytes) => bytes.length + 1
  | .lit _ => 1
  | .nil => 1
  | .ptr d => uptoBulk d + 1
  | .slice elems spare => uptoBulkAll elems + uptoBulkAll spare + 1
  | .agg parts => uptoBulkAll parts + 1
  | .iface _ d => uptoBulk d + 1
  | .map entries => uptoBulkEntries entries + 1
  | .held _ => 1
def uptoBulkAll {H : Type} : List (DataW H) → Nat
  | [] => 0
  | d :: r => uptoBulk d + uptoBulkAll r
def uptoBulkEntries {H : Type} : List (Lit × DataW H) → Nat
  | [] => 0
  | x :: r => uptoBulkEntry x + uptoBulkEntries r
def uptoBulkEntry {H : Type} : Lit × DataW H → Nat
  | (.string bytes, d) => bytes.length + uptoBulk d + 1
  | (_, d) => uptoBulk d + 1
 end
def uptoSmall : (H : Type) → List (DataW H) → Bool := fun _ ds => decide (uptoBulkAll ds ≤ 1048576)
def OpenSpec.upto (s : _root_.Go.ChangeSpec) : _root_.Go.OpenSpec := { _root_.Go.OpenSpec.ofChange s with cond := some uptoSmall }

/-- 'nepenthelaw24.PoolNews', WHERE WHAT IT READS IS OF BULK AT MOST 1048576: true; the input reads as it did. -/
def poolNewsUptoRow : OpenClaim := { program := "ytlpeoaphdmfjdaa", sum := "a67574ae1a7bfff2a47a0f140876ef4db3118b70cc58b77bdb941609c246d280", func := "nepenthe/nepenthelaw24.PoolNews", spec := "poolNews", unfollowed := true, recurses := true, apart := false, narrowed := true }
def PoolNewsUptoSaid : Prop := poolNewsUptoRow.holds Try.pinned (OpenSpec.upto poolNewsSpec)

/-- 'nepenthelaw20.KeyboxNil', WHERE WHAT IT READS IS OF BULK AT MOST 1048576: true; the input reads as it did. -/
def keyboxNilUptoRow : OpenClaim := { program := "ytlpeoaphdmfjdaa", sum := "a67574ae1a7bfff2a47a0f140876ef4db3118b70cc58b77bdb941609c246d280", func := "nepenthe/nepenthelaw20.KeyboxNil", spec := "keyboxNil", unfollowed := true, recurses := true, apart := false, narrowed := true }
def KeyboxNilUptoSaid : Prop := keyboxNilUptoRow.holds Try.pinned (OpenSpec.upto keyboxNilSpec)

/-- 'nepenthelaw20.KeyboxGone', WHERE WHAT IT READS IS OF BULK AT MOST 1048576: true; the input reads as it did. -/
def keyboxGoneUptoRow : OpenClaim := { program := "ytlpeoaphdmfjdaa", sum := "a67574ae1a7bfff2a47a0f140876ef4db3118b70cc58b77bdb941609c246d280", func := "nepenthe/nepenthelaw20.KeyboxGone", spec := "keyboxGone", unfollowed := true, recurses := true, apart := false, narrowed := true }
def KeyboxGoneUptoSaid : Prop := keyboxGoneUptoRow.holds Try.pinned (OpenSpec.upto keyboxGoneSpec)

/-- 'nepenthelaw20.KeyboxCrashes', WHERE WHAT IT READS IS OF BULK AT MOST 1048576: true; the input reads as it did. -/
def keyboxCrashesUptoRow : OpenClaim := { program := "ytlpeoaphdmfjdaa", sum := "a67574ae1a7bfff2a47a0f140876ef4db3118b70cc58b77bdb941609c246d280", func := "nepenthe/nepenthelaw20.KeyboxCrashes", spec := "keyboxCrashes", unfollowed := true, recurses := true, apart := false, narrowed := true }
def KeyboxCrashesUptoSaid : Prop := keyboxCrashesUptoRow.holds Try.pinned (OpenSpec.upto keyboxCrashesSpec)

end Rows
end Go.Proofs.Ytlpeoaphdmfjdaa
