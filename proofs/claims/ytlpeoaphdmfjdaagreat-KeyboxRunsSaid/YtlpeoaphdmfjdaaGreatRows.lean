/-
  No cell of these rows narrows 'for every input' (looked for: loops, veiled, ifaces, maps, wideKeys, modest, calm, conditions, laid).
  DERIVED. THE GIVEN ROWS OF THIS SEAT. 3 by the template 'for every input the law returns true; each argument reads behind the call as it read before'; 0 by the template 'total and deterministic' (their statements: YtlpeoaphdmfjdaaGreatTotals.lean).
  GIVEN WITH THE SEED: the statements are not yours to turn. If you find one false, say at which input.
  Laid BY PROGRAM, IN A SANDBOX (cutbox-rows.mjs): the forced cells as the released guide's own fill.sh prints them over the translation 628bfb96ab0e479b… (all of the seat's roots in one cut). By AI agents, Wed Nov 11 2026. No macro, syntax, notation, axiom, sorry.
-/
import Derived.Test.YtlpeoaphdmfjdaaGreatChecked
import GoSem.Claim
import GoSem.ClaimJoined
import GoSem.ClaimMapViews
import Derived.JoinedTies
import Derived.KernelRfl
namespace Go.Proofs.YtlpeoaphdmfjdaaGreat
/- THE CELL 'sum', in the pinned program and in every row, IS THE sha256 OF THE DUMP (.gsa) THAT YtlpeoaphdmfjdaaGreatProg.lean LOADS. Nothing in Lean hashes anything: it is a label: what it is worth is what the hold of that sum in a sandbox is worth. -/
noncomputable def Tryz.pinned : Pinned := { name := "ytlpeoaphdmfjdaagreat", sum := "628bfb96ab0e479ba339e242f66ef535463599d40285c00517a061476f284a44", checked := Tryz.checked }
namespace Rows
def none {H : Type} : Left H := { results := [], args := [] }

/-- 'nepenthelaw24.PoolDestroys': WHATEVER THE INPUT: true; the input reads as it did. -/
def poolDestroysSpec : ChangeSpec := { name := "poolDestroys", fn := fun _ => fun
  | [d1, d2] => { results := [.lit (.bool true)], args := [d1, d2] }
  | _ => none }
def poolDestroysRow : OpenClaim := { program := "ytlpeoaphdmfjdaagreat", sum := "628bfb96ab0e479ba339e242f66ef535463599d40285c00517a061476f284a44", func := "nepenthe/nepenthelaw24.PoolDestroys", spec := "poolDestroys", unfollowed := true, recurses := true, apart := false }
def PoolDestroysSaid : Prop := poolDestroysRow.holds Tryz.pinned (OpenSpec.ofChange poolDestroysSpec)

/-- ITS FALSE NEIGHBOUR: 'it returns false'. Refute it at one input. -/
def poolDestroysWrong : ChangeSpec := { name := "poolDestroys", fn := fun _ => fun
  | [d1, d2] => { results := [.lit (.bool false)], args := [d1, d2] }
  | _ => none }
def PoolDestroysWrongFalsely : Prop := poolDestroysRow.holds Tryz.pinned (OpenSpec.ofChange poolDestroysWrong)

/-- 'nepenthelaw24.PoolOpens': WHATEVER THE INPUT: true; the input reads as it did. -/
def poolOpensSpec : ChangeSpec := { name := "poolOpens", fn := fun _ => fun
  | [d1, d2, d3] => { results := [.lit (.bool true)], args := [d1, d2, d3] }
  | _ => none }
def poolOpensRow : OpenClaim := { program := "ytlpeoaphdmfjdaagreat", sum := "628bfb96ab0e479ba339e242f66ef535463599d40285c00517a061476f284a44", func := "nepenthe/nepenthelaw24.PoolOpens", spec := "poolOpens", unfollowed := true, recurses := true, apart := false }
def PoolOpensSaid : Prop := poolOpensRow.holds Tryz.pinned (OpenSpec.ofChange poolOpensSpec)

/-- ITS FALSE NEIGHBOUR: 'it returns false'. Refute it at one input. -/
def poolOpensWrong : ChangeSpec := { name := "poolOpens", fn := fun _ => fun
  | [d1, d2, d3] => { results := [.lit (.bool false)], args := [d1, d2, d3] }
  | _ => none }
def PoolOpensWrongFalsely : Prop := poolOpensRow.holds Tryz.pinned (OpenSpec.ofChange poolOpensWrong)

/-- 'nepenthelaw20.KeyboxRuns': WHATEVER THE INPUT: true; the input reads as it did. -/
def keyboxRunsSpec : ChangeSpec := { name := "keyboxRuns", fn := fun _ => fun
  | [d] => { results := [.lit (.bool true)], args := [d] }
  | _ => none }
def keyboxRunsRow : OpenClaim := { program := "ytlpeoaphdmfjdaagreat", sum := "628bfb96ab0e479ba339e242f66ef535463599d40285c00517a061476f284a44", func := "nepenthe/nepenthelaw20.KeyboxRuns", spec := "keyboxRuns", unfollowed := true, recurses := true, apart := false }
def KeyboxRunsSaid : Prop := keyboxRunsRow.holds Tryz.pinned (OpenSpec.ofChange keyboxRunsSpec)

/-- ITS FALSE NEIGHBOUR: 'it returns false'. Refute it at one input. -/
def keyboxRunsWrong : ChangeSpec := { name := "keyboxRuns", fn := fun _ => fun
  | [d] => { results := [.lit (.bool false)], args := [d] }
  | _ => none }
def KeyboxRunsWrongFalsely : Prop := keyboxRunsRow.holds Tryz.pinned (OpenSpec.ofChange keyboxRunsWrong)

/- THE SECOND FORM. 'bulk': how many values and letters a reading holds, each counted each time it is reached (what is shared counts as often as it is met; a slice's spare places count too). A statement '..UptoSaid' is the law's where the arguments, and the package variables that the reading takes, are together of bulk at most 1048576: NARROWER than '..Said'. Prove '..Said' where nothing that the law and all that it calls make is longer than what came in: it says more and counts as full. Else prove '..UptoSaid'. A law counts once. -/
mutual
def uptoBulk {H : Type} : DataW H → Nat
  | .lit (.string bytes) => bytes.length + 1
  | .lit _ => 1
  | .nil => 1
  | .ptr d => uptoBulk d + 1
  | .slice elems spare => uptoBulkAll elems + uptoBulkAll spare + 1
  | .agg parts => uptoBulkAll parts + 1
  | .iface _ d => uptoBulk d + 1
  | .map entries => uptoBulkEntries entries + 1
  | .held _ => 1
def uptoBulkAll {H : Type} : List (DataW H) → Nat
  | [] => 0
  | d :: r => uptoBulk d + uptoBulkAll r
def uptoBulkEntries {H : Type} : List (Lit × DataW H) → Nat
  | [] => 0
  | x :: r => uptoBulkEntry x + uptoBulkEntries r
def uptoBulkEntry {H : Type} : Lit × DataW H → Nat
  | (.string bytes, d) => bytes.length + uptoBulk d + 1
  | (_, d) => uptoBulk d + 1
 end
def uptoSmall : (H : Type) → List (DataW H) → Bool := fun _ ds => decide (uptoBulkAll ds ≤ 1048576)
def OpenSpec.upto (s : _root_.Go.ChangeSpec) : _root_.Go.OpenSpec := { _root_.Go.OpenSpec.ofChange s with cond := some uptoSmall }

/-- 'nepenthelaw24.PoolDestroys', WHERE WHAT IT READS IS OF BULK AT MOST 1048576: true; the input reads as it did. -/
def poolDestroysUptoRow : OpenClaim := { program := "ytlpeoaphdmfjdaagreat", sum := "628bfb96ab0e479ba339e242f66ef535463599d40285c00517a061476f284a44", func := "nepenthe/nepenthelaw24.PoolDestroys", spec := "poolDestroys", unfollowed := true, recurses := true, apart := false, narrowed := true }
def PoolDestroysUptoSaid : Prop := poolDestroysUptoRow.holds Tryz.pinned (OpenSpec.upto poolDestroysSpec)

/-- 'nepenthelaw24.PoolOpens', WHERE WHAT IT READS IS OF BULK AT MOST 1048576: true; the input reads as it did. -/
def poolOpensUptoRow : OpenClaim := { program := "ytlpeoaphdmfjdaagreat", sum := "628bfb96ab0e479ba339e242f66ef535463599d40285c00517a061476f284a44", func := "nepenthe/nepenthelaw24.PoolOpens", spec := "poolOpens", unfollowed := true, recurses := true, apart := false, narrowed := true }
def PoolOpensUptoSaid : Prop := poolOpensUptoRow.holds Tryz.pinned (OpenSpec.upto poolOpensSpec)

/-- 'nepenthelaw20.KeyboxRuns', WHERE WHAT IT READS IS OF BULK AT MOST 1048576: true; the input reads as it did. -/
def keyboxRunsUptoRow : OpenClaim := { program := "ytlpeoaphdmfjdaagreat", sum := "628bfb96ab0e479ba339e242f66ef535463599d40285c00517a061476f284a44", func := "nepenthe/nepenthelaw20.KeyboxRuns", spec := "keyboxRuns", unfollowed := true, recurses := true, apart := false, narrowed := true }
def KeyboxRunsUptoSaid : Prop := keyboxRunsUptoRow.holds Tryz.pinned (OpenSpec.upto keyboxRunsSpec)

end Rows
end Go.Proofs.YtlpeoaphdmfjdaaGreat
