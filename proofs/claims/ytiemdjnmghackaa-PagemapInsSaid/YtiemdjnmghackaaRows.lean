/-
  No cell of these rows narrows 'for every input' (looked for: loops, veiled, ifaces, maps, wideKeys, modest, calm, conditions, laid).
  DERIVED. THE GIVEN ROWS OF THIS SEAT. 7 by the template 'for every input the law returns true; each argument reads behind the call as it read before'; 0 by the template 'total and deterministic' (their statements: YtiemdjnmghackaaTotals.lean).
  GIVEN WITH THE SEED: the statements are not yours to turn. If you find one false, say at which input.
  Laid BY PROGRAM, IN A SANDBOX (cutbox-rows.mjs): the forced cells as the released guide's own fill.sh prints them over the translation feac8242587b636f… (all of the seat's roots in one cut). By AI agents, Wed Nov 11 2026. No macro, syntax, notation, axiom, sorry.
-/
import Derived.Test.YtiemdjnmghackaaChecked
import GoSem.Claim
import GoSem.ClaimJoined
import GoSem.ClaimMapViews
import Derived.JoinedTies
import Derived.KernelRfl
namespace Go.Proofs.Ytiemdjnmghackaa
/- THE CELL 'sum', in the pinned program and in every row, IS THE sha256 OF THE DUMP (.gsa) THAT YtiemdjnmghackaaProg.lean LOADS. Nothing in Lean hashes anything: it is a label: what it is worth is what the hold of that sum in a sandbox is worth. -/
noncomputable def Try.pinned : Pinned := { name := "ytiemdjnmghackaa", sum := "feac8242587b636f5492dc13f889b2b5fafb2b11995dcb59627289d09f9a7eaa", checked := Try.checked }
namespace Rows
def none {H : Type} : Left H := { results := [], args := [] }

/-- 'nepenthelaw21.LedgerTells': WHATEVER THE INPUT: true; the input reads as it did. -/
def ledgerTellsSpec : ChangeSpec := { name := "ledgerTells", fn := fun _ => fun
  | [d1, d2, d3] => { results := [.lit (.bool true)], args := [d1, d2, d3] }
  | _ => none }
def ledgerTellsRow : OpenClaim := { program := "ytiemdjnmghackaa", sum := "feac8242587b636f5492dc13f889b2b5fafb2b11995dcb59627289d09f9a7eaa", func := "nepenthe/nepenthelaw21.LedgerTells", spec := "ledgerTells", unfollowed := true, recurses := true, plainKeys := false, apart := false }
def LedgerTellsSaid : Prop := ledgerTellsRow.holds Try.pinned (OpenSpec.ofChange ledgerTellsSpec)

/-- ITS FALSE NEIGHBOUR: 'it returns false'. Refute it at one input. -/
def ledgerTellsWrong : ChangeSpec := { name := "ledgerTells", fn := fun _ => fun
  | [d1, d2, d3] => { results := [.lit (.bool false)], args := [d1, d2, d3] }
  | _ => none }
def LedgerTellsWrongFalsely : Prop := ledgerTellsRow.holds Try.pinned (OpenSpec.ofChange ledgerTellsWrong)

/-- 'nepenthelaw21.LedgerNil': WHATEVER THE INPUT: true; the input reads as it did. -/
def ledgerNilSpec : ChangeSpec := { name := "ledgerNil", fn := fun _ => fun
  | [d1, d2] => { results := [.lit (.bool true)], args := [d1, d2] }
  | _ => none }
def ledgerNilRow : OpenClaim := { program := "ytiemdjnmghackaa", sum := "feac8242587b636f5492dc13f889b2b5fafb2b11995dcb59627289d09f9a7eaa", func := "nepenthe/nepenthelaw21.LedgerNil", spec := "ledgerNil", unfollowed := true, recurses := true, plainKeys := false, apart := false }
def LedgerNilSaid : Prop := ledgerNilRow.holds Try.pinned (OpenSpec.ofChange ledgerNilSpec)

/-- ITS FALSE NEIGHBOUR: 'it returns false'. Refute it at one input. -/
def ledgerNilWrong : ChangeSpec := { name := "ledgerNil", fn := fun _ => fun
  | [d1, d2] => { results := [.lit (.bool false)], args := [d1, d2] }
  | _ => none }
def LedgerNilWrongFalsely : Prop := ledgerNilRow.holds Try.pinned (OpenSpec.ofChange ledgerNilWrong)

/-- 'nepenthelaw22.PagemapNewers': WHATEVER THE INPUT: true; the input reads as it did. -/
def pagemapNewersSpec : ChangeSpec := { name := "pagemapNewers", fn := fun _ => fun
  | [d1, d2] => { results := [.lit (.bool true)], args := [d1, d2] }
  | _ => none }
def pagemapNewersRow : OpenClaim := { program := "ytiemdjnmghackaa", sum := "feac8242587b636f5492dc13f889b2b5fafb2b11995dcb59627289d09f9a7eaa", func := "nepenthe/nepenthelaw22.PagemapNewers", spec := "pagemapNewers", unfollowed := true, recurses := true, plainKeys := false, apart := false }
def PagemapNewersSaid : Prop := pagemapNewersRow.holds Try.pinned (OpenSpec.ofChange pagemapNewersSpec)

/-- ITS FALSE NEIGHBOUR: 'it returns false'. Refute it at one input. -/
def pagemapNewersWrong : ChangeSpec := { name := "pagemapNewers", fn := fun _ => fun
  | [d1, d2] => { results := [.lit (.bool false)], args := [d1, d2] }
  | _ => none }
def PagemapNewersWrongFalsely : Prop := pagemapNewersRow.holds Try.pinned (OpenSpec.ofChange pagemapNewersWrong)

/-- 'nepenthelaw22.PagemapOrders': WHATEVER THE INPUT: true; the input reads as it did. -/
def pagemapOrdersSpec : ChangeSpec := { name := "pagemapOrders", fn := fun _ => fun
  | [d1, d2, d3] => { results := [.lit (.bool true)], args := [d1, d2, d3] }
  | _ => none }
def pagemapOrdersRow : OpenClaim := { program := "ytiemdjnmghackaa", sum := "feac8242587b636f5492dc13f889b2b5fafb2b11995dcb59627289d09f9a7eaa", func := "nepenthe/nepenthelaw22.PagemapOrders", spec := "pagemapOrders", unfollowed := true, recurses := true, plainKeys := false, apart := false }
def PagemapOrdersSaid : Prop := pagemapOrdersRow.holds Try.pinned (OpenSpec.ofChange pagemapOrdersSpec)

/-- ITS FALSE NEIGHBOUR: 'it returns false'. Refute it at one input. -/
def pagemapOrdersWrong : ChangeSpec := { name := "pagemapOrders", fn := fun _ => fun
  | [d1, d2, d3] => { results := [.lit (.bool false)], args := [d1, d2, d3] }
  | _ => none }
def PagemapOrdersWrongFalsely : Prop := pagemapOrdersRow.holds Try.pinned (OpenSpec.ofChange pagemapOrdersWrong)

/-- 'nepenthelaw22.PagemapRuns': WHATEVER THE INPUT: true; the input reads as it did. -/
def pagemapRunsSpec : ChangeSpec := { name := "pagemapRuns", fn := fun _ => fun
  | [d] => { results := [.lit (.bool true)], args := [d] }
  | _ => none }
def pagemapRunsRow : OpenClaim := { program := "ytiemdjnmghackaa", sum := "feac8242587b636f5492dc13f889b2b5fafb2b11995dcb59627289d09f9a7eaa", func := "nepenthe/nepenthelaw22.PagemapRuns", spec := "pagemapRuns", unfollowed := true, recurses := true, plainKeys := false, apart := false }
def PagemapRunsSaid : Prop := pagemapRunsRow.holds Try.pinned (OpenSpec.ofChange pagemapRunsSpec)

/-- ITS FALSE NEIGHBOUR: 'it returns false'. Refute it at one input. -/
def pagemapRunsWrong : ChangeSpec := { name := "pagemapRuns", fn := fun _ => fun
  | [d] => { results := [.lit (.bool false)], args := [d] }
  | _ => none }
def PagemapRunsWrongFalsely : Prop := pagemapRunsRow.holds Try.pinned (OpenSpec.ofChange pagemapRunsWrong)

/-- 'nepenthelaw22.PagemapIns': WHATEVER THE INPUT: true; the input reads as it did. -/
def pagemapInsSpec : ChangeSpec := { name := "pagemapIns", fn := fun _ => fun
  | [d1, d2] => { results := [.lit (.bool true)], args := [d1, d2] }
  | _ => none }
def pagemapInsRow : OpenClaim := { program := "ytiemdjnmghackaa", sum := "feac8242587b636f5492dc13f889b2b5fafb2b11995dcb59627289d09f9a7eaa", func := "nepenthe/nepenthelaw22.PagemapIns", spec := "pagemapIns", unfollowed := true, recurses := true, plainKeys := false, apart := false }
def PagemapInsSaid : Prop := pagemapInsRow.holds Try.pinned (OpenSpec.ofChange pagemapInsSpec)

/-- ITS FALSE NEIGHBOUR: 'it returns false'. Refute it at one input. -/
def pagemapInsWrong : ChangeSpec := { name := "pagemapIns", fn := fun _ => fun
  | [d1, d2] => { results := [.lit (.bool false)], args := [d1, d2] }
  | _ => none }
def PagemapInsWrongFalsely : Prop := pagemapInsRow.holds Try.pinned (OpenSpec.ofChange pagemapInsWrong)

/-- 'nepenthelaw22.PagemapNil': WHATEVER THE INPUT: true; the input reads as it did. -/
def pagemapNilSpec : ChangeSpec := { name := "pagemapNil", fn := fun _ => fun
  | [d] => { results := [.lit (.bool true)], args := [d] }
  | _ => none }
def pagemapNilRow : OpenClaim := { program := "ytiemdjnmghackaa", sum := "feac8242587b636f5492dc13f889b2b5fafb2b11995dcb59627289d09f9a7eaa", func := "nepenthe/nepenthelaw22.PagemapNil", spec := "pagemapNil", unfollowed := true, recurses := true, plainKeys := false, apart := false }
def PagemapNilSaid : Prop := pagemapNilRow.holds Try.pinned (OpenSpec.ofChange pagemapNilSpec)

/-- ITS FALSE NEIGHBOUR: 'it returns false'. Refute it at one input. -/
def pagemapNilWrong : ChangeSpec := { name := "pagemapNil", fn := fun _ => fun
  | [d] => { results := [.lit (.bool false)], args := [d] }
  | _ => none }
def PagemapNilWrongFalsely : Prop := pagemapNilRow.holds Try.pinned (OpenSpec.ofChange pagemapNilWrong)

/- THE SECOND FORM. 'bulk': how many values and letters a reading holds, each counted each time it is reached (what is shared counts as often as it is met; a slice's spare places count too). A statement '..UptoSaid' is the law's where the arguments, and the package variables that the reading takes, are together of bulk at most 1048576: NARROWER than '..Said'. Prove '..Said' where nothing that the law and all that it calls make is longer than what came in: it says more and counts as full. Else prove '..UptoSaid'. A law counts once. -/
mutual
def uptoBulk {H : Type} : DataW H → Nat
  | .lit (.string bytes) => bytes.length + 1
  | .lit _ => 1
  | .nil => 1
  | .ptr d => uptoBulk d + 1
  | .slice elems spare => uptoBulkAll elems + uptoBulkAll spare + 1
  | .agg parts => uptoBulkAll parts + 1
  | .iface _ d => uptoBulk d + 1
  | .map entries => uptoBulkEntries entries + 1
  | .held _ => 1
def uptoBulkAll {H : Type} : List (DataW H) → Nat
  | [] => 0
  | d :: r => uptoBulk d + uptoBulkAll r
def uptoBulkEntries {H : Type} : List (Lit × DataW H) → Nat
  | [] => 0
  | x :: r => uptoBulkEntry x + uptoBulkEntries r
def uptoBulkEntry {H : Type} : Lit × DataW H → Nat
  | (.string bytes, d) => bytes.length + uptoBulk d + 1
  | (_, d) => uptoBulk d + 1
 end
def uptoSmall : (H : Type) → List (DataW H) → Bool := fun _ ds => decide (uptoBulkAll ds ≤ 1048576)
def OpenSpec.upto (s : _root_.Go.ChangeSpec) : _root_.Go.OpenSpec := { _root_.Go.OpenSpec.ofChange s with cond := some uptoSmall }

/-- 'nepenthelaw21.LedgerTells', WHERE WHAT IT READS IS OF BULK AT MOST 1048576: true; the input reads as it did. -/
def ledgerTellsUptoRow : OpenClaim := { program := "ytiemdjnmghackaa", sum := "feac8242587b636f5492dc13f889b2b5fafb2b11995dcb59627289d09f9a7eaa", func := "nepenthe/nepenthelaw21.LedgerTells", spec := "ledgerTells", unfollowed := true, recurses := true, plainKeys := false, apart := false, narrowed := true }
def LedgerTellsUptoSaid : Prop := ledgerTellsUptoRow.holds Try.pinned (OpenSpec.upto ledgerTellsSpec)

/-- 'nepenthelaw21.LedgerNil', WHERE WHAT IT READS IS OF BULK AT MOST 1048576: true; the input reads as it did. -/
def ledgerNilUptoRow : OpenClaim := { program := "ytiemdjnmghackaa", sum := "feac8242587b636f5492dc13f889b2b5fafb2b11995dcb59627289d09f9a7eaa", func := "nepenthe/nepenthelaw21.LedgerNil", spec := "ledgerNil", unfollowed := true, recurses := true, plainKeys := false, apart := false, narrowed := true }
def LedgerNilUptoSaid : Prop := ledgerNilUptoRow.holds Try.pinned (OpenSpec.upto ledgerNilSpec)

/-- 'nepenthelaw22.PagemapNewers', WHERE WHAT IT READS IS OF BULK AT MOST 1048576: true; the input reads as it did. -/
def pagemapNewersUptoRow : OpenClaim := { program := "ytiemdjnmghackaa", sum := "feac8242587b636f5492dc13f889b2b5fafb2b11995dcb59627289d09f9a7eaa", func := "nepenthe/nepenthelaw22.PagemapNewers", spec := "pagemapNewers", unfollowed := true, recurses := true, plainKeys := false, apart := false, narrowed := true }
def PagemapNewersUptoSaid : Prop := pagemapNewersUptoRow.holds Try.pinned (OpenSpec.upto pagemapNewersSpec)

/-- 'nepenthelaw22.PagemapOrders', WHERE WHAT IT READS IS OF BULK AT MOST 1048576: true; the input reads as it did. -/
def pagemapOrdersUptoRow : OpenClaim := { program := "ytiemdjnmghackaa", sum := "feac8242587b636f5492dc13f889b2b5fafb2b11995dcb59627289d09f9a7eaa", func := "nepenthe/nepenthelaw22.PagemapOrders", spec := "pagemapOrders", unfollowed := true, recurses := true, plainKeys := false, apart := false, narrowed := true }
def PagemapOrdersUptoSaid : Prop := pagemapOrdersUptoRow.holds Try.pinned (OpenSpec.upto pagemapOrdersSpec)

/-- 'nepenthelaw22.PagemapRuns', WHERE WHAT IT READS IS OF BULK AT MOST 1048576: true; the input reads as it did. -/
def pagemapRunsUptoRow : OpenClaim := { program := "ytiemdjnmghackaa", sum := "feac8242587b636f5492dc13f889b2b5fafb2b11995dcb59627289d09f9a7eaa", func := "nepenthe/nepenthelaw22.PagemapRuns", spec := "pagemapRuns", unfollowed := true, recurses := true, plainKeys := false, apart := false, narrowed := true }
def PagemapRunsUptoSaid : Prop := pagemapRunsUptoRow.holds Try.pinned (OpenSpec.upto pagemapRunsSpec)

/-- 'nepenthelaw22.PagemapIns', WHERE WHAT IT READS IS OF BULK AT MOST 1048576: true; the input reads as it did. -/
def pagemapInsUptoRow : OpenClaim := { program := "ytiemdjnmghackaa", sum := "feac8242587b636f5492dc13f889b2b5fafb2b11995dcb59627289d09f9a7eaa", func := "nepenthe/nepenthelaw22.PagemapIns", spec := "pagemapIns", unfollowed := true, recurses := true, plainKeys := false, apart := false, narrowed := true }
def PagemapInsUptoSaid : Prop := pagemapInsUptoRow.holds Try.pinned (OpenSpec.upto pagemapInsSpec)

/-- 'nepenthelaw22.PagemapNil', WHERE WHAT IT READS IS OF BULK AT MOST 1048576: true; the input reads as it did. -/
def pagemapNilUptoRow : OpenClaim := { program := "ytiemdjnmghackaa", sum := "feac8242587b636f5492dc13f889b2b5fafb2b11995dcb59627289d09f9a7eaa", func := "nepenthe/nepenthelaw22.PagemapNil", spec := "pagemapNil", unfollowed := true, recurses := true, plainKeys := false, apart := false, narrowed := true }
def PagemapNilUptoSaid : Prop := pagemapNilUptoRow.holds Try.pinned (OpenSpec.upto pagemapNilSpec)

end Rows
end Go.Proofs.Ytiemdjnmghackaa
