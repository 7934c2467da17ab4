/- Texts in one: The plans of functions as plain statements, printed by wip/tools/vcgen.py; the kernel holds each to the code. The contracts of layer 22 (pagemap): what is newer. What the parameters of a law are known to be, out of the row's input: whole numbers in their range, slices of whole numbers as cells. What any parameter of a law is known to be, out of the row's input: structs, arrays and slices of whole numbers, texts, and of each other. Values that are read, of any shape: where they lie (in which blocks), what data they are, and that they stay while their blocks stay. The contracts of layer 22 (pagemap): the map's parts, and what only reads them. Calls and open orders that own the first parts. The contracts of layer 22 (pagemap): a new map, a namespace more, the sectors of which a spot speaks, a spot lost. The contract of slices.SortFunc, laid at this program by the library's own command, in plain words. The contracts of layer 22 (pagemap): places, sorted. Plain laws of layer 22 (pagemap): what a map holds, and how often each place is a spot's. Plain laws of layer 22 (pagemap): what a put leaves, and which places it tells. Some cells of an element of one's own slice are written. The contracts of the document's map of layer 22: what it tells. The contracts of the document's map of layer 22: which places are live no more. The contracts of the document's map of layer 22: what changes it. -/
import Derived.SizedLaws
import Derived.ChangeSlices
import Derived.ChangeShapes
import Derived.ShutString
import Derived.ChangeArms
import Derived.DataReads
import Derived.OpenShut
import Derived.Shelf.SlSortCmp.NoneTotal
import Derived.Test.YtiemdjnmghackaaChecked
import Derived.Test.YtiemdjnmghackaaZPagemapInsb

/-! The plans of functions as plain statements, printed by wip/tools/vcgen.py; the kernel holds each to the code. -/
namespace Go.Proofs.Ytiemdjnmghackaa.Vc
open Go Go.Eng
set_option linter.unusedVariables false

/-! ### nepenthe/nepentheref22.less: function 76 -/
def ref22_less.A : Ann := .no
def ref22_less.P (p0_0 : Int) (p0_1 : Int) (p0_2 : Int) (p0_3 : Int) (p0_4 : Int) (p0_5 : Int) (p1_0 : Int) (p1_1 : Int) (p1_2 : Int) (p1_3 : Int) (p1_4 : Int) (p1_5 : Int) (w : World) (K : Bool × Unit → World → Prop) : Prop :=
  NewV #[.int .i64 p0_0, .int .i64 p0_1, .int .i64 p0_2, .int .u32 p0_3, .int .u64 p0_4, .int .u64 p0_5] 59 w fun b1 w2 =>
  NewV #[.int .i64 p1_0, .int .i64 p1_1, .int .i64 p1_2, .int .u32 p1_3, .int .u64 p1_4, .int .u64 p1_5] 59 w2 fun b3 w4 =>
  LoadS w4 ⟨b1, 4, none⟩ (.int .u64) fun (x5 : Int) =>
  LoadS w4 ⟨b3, 4, none⟩ (.int .u64) fun (x6 : Int) =>
  cond (decide (x5 < x6))
  (K (true, ()) w4)
  (LoadS w4 ⟨b1, 4, none⟩ (.int .u64) fun (x7 : Int) =>
  LoadS w4 ⟨b3, 4, none⟩ (.int .u64) fun (x8 : Int) =>
  cond (x7 == x8)
  (LoadS w4 ⟨b1, 5, none⟩ (.int .u64) fun (x9 : Int) =>
  LoadS w4 ⟨b3, 5, none⟩ (.int .u64) fun (x10 : Int) =>
  K (decide (x9 < x10), ()) w4)
  (K (false, ()) w4))
theorem ref22_less.vc (p0_0 : Int) (p0_1 : Int) (p0_2 : Int) (p0_3 : Int) (p0_4 : Int) (p0_5 : Int) (p1_0 : Int) (p1_1 : Int) (p1_2 : Int) (p1_3 : Int) (p1_4 : Int) (p1_5 : Int) (w : World) (K : Bool × Unit → World → Prop) (h : ref22_less.P p0_0 p0_1 p0_2 p0_3 p0_4 p0_5 p1_0 p1_1 p1_2 p1_3 p1_4 p1_5 w K) : CallV Try.prog 76 #[.agg #[.int .i64 p0_0, .int .i64 p0_1, .int .i64 p0_2, .int .u32 p0_3, .int .u64 p0_4, .int .u64 p0_5], .agg #[.int .i64 p1_0, .int .i64 p1_1, .int .i64 p1_2, .int .u32 p1_3, .int .u64 p1_4, .int .u64 p1_5]] w [.one .bool] K := by
  have e : vcFun Try.prog okf false Try.f76 ref22_less.A #[.agg #[.int .i64 p0_0, .int .i64 p0_1, .int .i64 p0_2, .int .u32 p0_3, .int .u64 p0_4, .int .u64 p0_5], .agg #[.int .i64 p1_0, .int .i64 p1_1, .int .i64 p1_2, .int .u32 p1_3, .int .u64 p1_4, .int .u64 p1_5]] w [.one .bool] K = ref22_less.P p0_0 p0_1 p0_2 p0_3 p0_4 p0_5 p1_0 p1_1 p1_2 p1_3 p1_4 p1_5 w K := by kernel_rfl
  exact vcFun.calls okf_ok follows Try.func76 (e.symm ▸ h)

/-! ### nepenthe/nepentheref22.Newer: function 34 -/
def ref22_Newer.A : Ann := .no
def ref22_Newer.P (p0_0 : Int) (p0_1 : Int) (p0_2 : Int) (p0_3 : Int) (p0_4 : Int) (p0_5 : Int) (p0_6 : Int) (p0_7 : Int) (p0_8 : Int) (p0_9 : Int) (p0_10 : Int) (p0_11 : Int) (p0_12 : Int) (p0_13 : Int) (p1_0 : Int) (p1_1 : Int) (p1_2 : Int) (p1_3 : Int) (p1_4 : Int) (p1_5 : Int) (p1_6 : Int) (p1_7 : Int) (p1_8 : Int) (p1_9 : Int) (p1_10 : Int) (p1_11 : Int) (p1_12 : Int) (p1_13 : Int) (w : World) (K : Bool × Unit → World → Prop) : Prop :=
  NewV #[.int .i64 p0_0, .int .i64 p0_1, .int .i64 p0_2, .int .i64 p0_3, .int .i64 p0_4, .int .u32 p0_5, .int .u64 p0_6, .int .u64 p0_7, .int .i64 p0_8, .int .i64 p0_9, .int .i64 p0_10, .int .u32 p0_11, .int .u64 p0_12, .int .u64 p0_13] 64 w fun b1 w2 =>
  NewV #[.int .i64 p1_0, .int .i64 p1_1, .int .i64 p1_2, .int .i64 p1_3, .int .i64 p1_4, .int .u32 p1_5, .int .u64 p1_6, .int .u64 p1_7, .int .i64 p1_8, .int .i64 p1_9, .int .i64 p1_10, .int .u32 p1_11, .int .u64 p1_12, .int .u64 p1_13] 64 w2 fun b3 w4 =>
  LoadA w4 ⟨b3, 2, none⟩ [.int .i64, .int .i64, .int .i64, .int .u32, .int .u64, .int .u64] fun (x5 : Int × Int × Int × Int × Int × Int × Unit) =>
  LoadA w4 ⟨b1, 2, none⟩ [.int .i64, .int .i64, .int .i64, .int .u32, .int .u64, .int .u64] fun (x6 : Int × Int × Int × Int × Int × Int × Unit) =>
  CallV Try.prog 76 #[.agg #[.int .i64 x5.1, .int .i64 x5.2.1, .int .i64 x5.2.2.1, .int .u32 x5.2.2.2.1, .int .u64 x5.2.2.2.2.1, .int .u64 x5.2.2.2.2.2.1], .agg #[.int .i64 x6.1, .int .i64 x6.2.1, .int .i64 x6.2.2.1, .int .u32 x6.2.2.2.1, .int .u64 x6.2.2.2.2.1, .int .u64 x6.2.2.2.2.2.1]] w4 [.one .bool] fun (r7 : Bool × Unit) w8 =>
  cond r7.1
  (K (true, ()) w8)
  (LoadA w8 ⟨b1, 2, none⟩ [.int .i64, .int .i64, .int .i64, .int .u32, .int .u64, .int .u64] fun (x9 : Int × Int × Int × Int × Int × Int × Unit) =>
  LoadA w8 ⟨b3, 2, none⟩ [.int .i64, .int .i64, .int .i64, .int .u32, .int .u64, .int .u64] fun (x10 : Int × Int × Int × Int × Int × Int × Unit) =>
  CallV Try.prog 76 #[.agg #[.int .i64 x9.1, .int .i64 x9.2.1, .int .i64 x9.2.2.1, .int .u32 x9.2.2.2.1, .int .u64 x9.2.2.2.2.1, .int .u64 x9.2.2.2.2.2.1], .agg #[.int .i64 x10.1, .int .i64 x10.2.1, .int .i64 x10.2.2.1, .int .u32 x10.2.2.2.1, .int .u64 x10.2.2.2.2.1, .int .u64 x10.2.2.2.2.2.1]] w8 [.one .bool] fun (r11 : Bool × Unit) w12 =>
  cond (!r11.1)
  (LoadA w12 ⟨b3, 8, none⟩ [.int .i64, .int .i64, .int .i64, .int .u32, .int .u64, .int .u64] fun (x13 : Int × Int × Int × Int × Int × Int × Unit) =>
  LoadA w12 ⟨b1, 8, none⟩ [.int .i64, .int .i64, .int .i64, .int .u32, .int .u64, .int .u64] fun (x14 : Int × Int × Int × Int × Int × Int × Unit) =>
  CallV Try.prog 76 #[.agg #[.int .i64 x13.1, .int .i64 x13.2.1, .int .i64 x13.2.2.1, .int .u32 x13.2.2.2.1, .int .u64 x13.2.2.2.2.1, .int .u64 x13.2.2.2.2.2.1], .agg #[.int .i64 x14.1, .int .i64 x14.2.1, .int .i64 x14.2.2.1, .int .u32 x14.2.2.2.1, .int .u64 x14.2.2.2.2.1, .int .u64 x14.2.2.2.2.2.1]] w12 [.one .bool] fun (r15 : Bool × Unit) w16 =>
  K (r15.1, ()) w16)
  (K (false, ()) w12))
theorem ref22_Newer.vc (p0_0 : Int) (p0_1 : Int) (p0_2 : Int) (p0_3 : Int) (p0_4 : Int) (p0_5 : Int) (p0_6 : Int) (p0_7 : Int) (p0_8 : Int) (p0_9 : Int) (p0_10 : Int) (p0_11 : Int) (p0_12 : Int) (p0_13 : Int) (p1_0 : Int) (p1_1 : Int) (p1_2 : Int) (p1_3 : Int) (p1_4 : Int) (p1_5 : Int) (p1_6 : Int) (p1_7 : Int) (p1_8 : Int) (p1_9 : Int) (p1_10 : Int) (p1_11 : Int) (p1_12 : Int) (p1_13 : Int) (w : World) (K : Bool × Unit → World → Prop) (h : ref22_Newer.P p0_0 p0_1 p0_2 p0_3 p0_4 p0_5 p0_6 p0_7 p0_8 p0_9 p0_10 p0_11 p0_12 p0_13 p1_0 p1_1 p1_2 p1_3 p1_4 p1_5 p1_6 p1_7 p1_8 p1_9 p1_10 p1_11 p1_12 p1_13 w K) : CallV Try.prog 34 #[.agg #[.int .i64 p0_0, .int .i64 p0_1, .int .i64 p0_2, .int .i64 p0_3, .int .i64 p0_4, .int .u32 p0_5, .int .u64 p0_6, .int .u64 p0_7, .int .i64 p0_8, .int .i64 p0_9, .int .i64 p0_10, .int .u32 p0_11, .int .u64 p0_12, .int .u64 p0_13], .agg #[.int .i64 p1_0, .int .i64 p1_1, .int .i64 p1_2, .int .i64 p1_3, .int .i64 p1_4, .int .u32 p1_5, .int .u64 p1_6, .int .u64 p1_7, .int .i64 p1_8, .int .i64 p1_9, .int .i64 p1_10, .int .u32 p1_11, .int .u64 p1_12, .int .u64 p1_13]] w [.one .bool] K := by
  have e : vcFun Try.prog okf false Try.f34 ref22_Newer.A #[.agg #[.int .i64 p0_0, .int .i64 p0_1, .int .i64 p0_2, .int .i64 p0_3, .int .i64 p0_4, .int .u32 p0_5, .int .u64 p0_6, .int .u64 p0_7, .int .i64 p0_8, .int .i64 p0_9, .int .i64 p0_10, .int .u32 p0_11, .int .u64 p0_12, .int .u64 p0_13], .agg #[.int .i64 p1_0, .int .i64 p1_1, .int .i64 p1_2, .int .i64 p1_3, .int .i64 p1_4, .int .u32 p1_5, .int .u64 p1_6, .int .u64 p1_7, .int .i64 p1_8, .int .i64 p1_9, .int .i64 p1_10, .int .u32 p1_11, .int .u64 p1_12, .int .u64 p1_13]] w [.one .bool] K = ref22_Newer.P p0_0 p0_1 p0_2 p0_3 p0_4 p0_5 p0_6 p0_7 p0_8 p0_9 p0_10 p0_11 p0_12 p0_13 p1_0 p1_1 p1_2 p1_3 p1_4 p1_5 p1_6 p1_7 p1_8 p1_9 p1_10 p1_11 p1_12 p1_13 w K := by kernel_rfl
  exact vcFun.calls okf_ok follows Try.func34 (e.symm ▸ h)

/-! ### nepenthe/nepentheref22.Place: function 88 -/
-- loop 0 carries 7: .one (.int .i64)
def ref22_Place.A : Ann := .two .no (.two (.two .no (.one (.loop [6, 7, 8, 9, 10, 11, 12, 13, 14, 15, 16, 17, 18, 19, 20, 21, 22, 23, 24, 25, 26, 27, 28, 29, 30, 31, 32, 33] [(7, .one (.int .i64))] .no))) .no)
def ref22_Place.P (p0_0 : Int) (p0_1 : Int) (p0_2 : Int) (p0_3 : Int) (a0_4 : Option Addr) (n0_4 c0_4 : Nat) (p1 : Int) (p2 : Int) (w : World) (K : Int × Unit → World → Prop) : Prop :=
  NewV #[.int .i64 p0_0, .int .i64 p0_1, .int .i64 p0_2, .int .i64 p0_3, .slice a0_4 n0_4 c0_4] 81 w fun b1 w2 =>
  LoopV [.one (.int .i64)] ((0 : Int), ()) w2 fun (z3 : Int × Unit) w4 (K5 : Int × Unit → World → Prop) =>
  LoadS w4 ⟨b1, 4, none⟩ .sl fun (x6 : SlV) =>
  cond (decide (z3.1 < ((x6.n : Nat) : Int)))
  (LoadS w4 ⟨b1, 4, none⟩ .sl fun (x7 : SlV) =>
  (0 ≤ z3.1 ∧ z3.1 < ((x7.n : Nat) : Int)) ∧ ∃ q8 : Addr, x7.a = some q8 ∧
  LoadS w4 (q8.add (z3.1.toNat * 16)) (.int .i64) fun (x9 : Int) =>
  cond (x9 == p1)
  (LoadS w4 ⟨b1, 4, none⟩ .sl fun (x10 : SlV) =>
  (0 ≤ z3.1 ∧ z3.1 < ((x10.n : Nat) : Int)) ∧ ∃ q11 : Addr, x10.a = some q11 ∧
  LoadS w4 ((q11.add (z3.1.toNat * 16)).add 1) (.int .i64) fun (x12 : Int) =>
  cond (x12 == p2)
  (K (z3.1, ()) w4)
  (Rng .i64 (z3.1 + 1) ∧
  K5 (z3.1 + 1, ()) w4))
  (Rng .i64 (z3.1 + 1) ∧
  K5 (z3.1 + 1, ()) w4))
  (K (((-1) : Int), ()) w4)
theorem ref22_Place.vc (p0_0 : Int) (p0_1 : Int) (p0_2 : Int) (p0_3 : Int) (a0_4 : Option Addr) (n0_4 c0_4 : Nat) (p1 : Int) (p2 : Int) (w : World) (K : Int × Unit → World → Prop) (h : ref22_Place.P p0_0 p0_1 p0_2 p0_3 a0_4 n0_4 c0_4 p1 p2 w K) : CallV Try.prog 88 #[.agg #[.int .i64 p0_0, .int .i64 p0_1, .int .i64 p0_2, .int .i64 p0_3, .slice a0_4 n0_4 c0_4], .int .i64 p1, .int .i64 p2] w [.one (.int .i64)] K := by
  have e : vcFun Try.prog okf false Try.f88 ref22_Place.A #[.agg #[.int .i64 p0_0, .int .i64 p0_1, .int .i64 p0_2, .int .i64 p0_3, .slice a0_4 n0_4 c0_4], .int .i64 p1, .int .i64 p2] w [.one (.int .i64)] K = ref22_Place.P p0_0 p0_1 p0_2 p0_3 a0_4 n0_4 c0_4 p1 p2 w K := by kernel_rfl
  exact vcFun.calls okf_ok follows Try.func88 (e.symm ▸ h)

/-! ### nepenthe/nepentheref22.Refs: function 44 -/
-- loop 0 carries 5: .one (.int .i64), 6: .one (.int .i64)
def ref22_Refs.A : Ann := .two .no (.two .no (.two (.two .no (.one (.loop [5, 6, 7, 8, 9, 10, 11, 12, 13, 14, 15, 16, 17, 18, 19, 20, 21, 22, 23, 24] [(5, .one (.int .i64)), (6, .one (.int .i64))] (.two .no (.two (.one (.two (.draw (.take 0 (.take 1 (.take 2 (.take 3 (.take 4 (.take 5 (.take 6 (.take 7 (.take 8 (.done))))))))))) .no)) .no))))) .no))
def ref22_Refs.P (p0_0 : Int) (p0_1 : Int) (p0_2 : Int) (p0_3 : Int) (a0_4 : Option Addr) (n0_4 c0_4 : Nat) (p1_0 : Int) (p1_1 : Int) (w : World) (K : Int × Unit → World → Prop) : Prop :=
  NewV #[.int .i64 p0_0, .int .i64 p0_1, .int .i64 p0_2, .int .i64 p0_3, .slice a0_4 n0_4 c0_4] 81 w fun b1 w2 =>
  NewV #[.int .i64 p1_0, .int .i64 p1_1] 55 w2 fun b3 w4 =>
  LoopV [.one (.int .i64), .one (.int .i64)] ((0 : Int), (0 : Int), ()) w4 fun (z5 : Int × Int × Unit) w6 (K7 : Int × Int × Unit → World → Prop) =>
  LoadS w6 ⟨b1, 4, none⟩ .sl fun (x8 : SlV) =>
  cond (decide (z5.2.1 < ((x8.n : Nat) : Int)))
  (DrawV fun D9 =>
  (D9 b1 ∧ LoadS w6.drew ⟨b1, 4, none⟩ .sl fun (x10 : SlV) =>
  (0 ≤ z5.2.1 ∧ z5.2.1 < ((x10.n : Nat) : Int)) ∧ ∃ q11 : Addr, x10.a = some q11 ∧
  (D9 ((q11.add (z5.2.1.toNat * 16)).add 2).block ∧ LoadA w6.drew ((q11.add (z5.2.1.toNat * 16)).add 2) [.int .i64, .int .i64] fun (x12 : Int × Int × Unit) =>
  (D9 b3 ∧ LoadA w6.drew ⟨b3, 0, none⟩ [.int .i64, .int .i64] fun (x13 : Int × Int × Unit) =>
  AggEq Try.prog 55 #[.int .i64 x12.1, .int .i64 x12.2.1] #[.int .i64 x13.1, .int .i64 x13.2.1] fun e14 =>
  cond e14
  (Rng .i64 (z5.1 + 1) ∧
  Rng .i64 (z5.2.1 + 1) ∧
  K7 (z5.1 + 1, z5.2.1 + 1, ()) w6.drew)
  (Rng .i64 (z5.2.1 + 1) ∧
  K7 (z5.1, z5.2.1 + 1, ()) w6.drew)))))
  (K (z5.1, ()) w6)
theorem ref22_Refs.vc (p0_0 : Int) (p0_1 : Int) (p0_2 : Int) (p0_3 : Int) (a0_4 : Option Addr) (n0_4 c0_4 : Nat) (p1_0 : Int) (p1_1 : Int) (w : World) (K : Int × Unit → World → Prop) (h : ref22_Refs.P p0_0 p0_1 p0_2 p0_3 a0_4 n0_4 c0_4 p1_0 p1_1 w K) : CallV Try.prog 44 #[.agg #[.int .i64 p0_0, .int .i64 p0_1, .int .i64 p0_2, .int .i64 p0_3, .slice a0_4 n0_4 c0_4], .agg #[.int .i64 p1_0, .int .i64 p1_1]] w [.one (.int .i64)] K := by
  have e : vcFun Try.prog okf false Try.f44 ref22_Refs.A #[.agg #[.int .i64 p0_0, .int .i64 p0_1, .int .i64 p0_2, .int .i64 p0_3, .slice a0_4 n0_4 c0_4], .agg #[.int .i64 p1_0, .int .i64 p1_1]] w [.one (.int .i64)] K = ref22_Refs.P p0_0 p0_1 p0_2 p0_3 a0_4 n0_4 c0_4 p1_0 p1_1 w K := by kernel_rfl
  exact vcFun.calls okf_ok follows Try.func44 (e.symm ▸ h)

/-! ### nepenthe/nepentheref22.ahead: function 104 -/
def ref22_ahead.A : Ann := .no
def ref22_ahead.P (p0_0 : Int) (p0_1 : Int) (p1_0 : Int) (p1_1 : Int) (w : World) (K : Bool × Unit → World → Prop) : Prop :=
  NewV #[.int .i64 p0_0, .int .i64 p0_1] 55 w fun b1 w2 =>
  NewV #[.int .i64 p1_0, .int .i64 p1_1] 55 w2 fun b3 w4 =>
  LoadS w4 ⟨b1, 0, none⟩ (.int .i64) fun (x5 : Int) =>
  LoadS w4 ⟨b3, 0, none⟩ (.int .i64) fun (x6 : Int) =>
  cond (decide (x5 < x6))
  (K (true, ()) w4)
  (LoadS w4 ⟨b1, 0, none⟩ (.int .i64) fun (x7 : Int) =>
  LoadS w4 ⟨b3, 0, none⟩ (.int .i64) fun (x8 : Int) =>
  cond (x7 == x8)
  (LoadS w4 ⟨b1, 1, none⟩ (.int .i64) fun (x9 : Int) =>
  LoadS w4 ⟨b3, 1, none⟩ (.int .i64) fun (x10 : Int) =>
  K (decide (x9 < x10), ()) w4)
  (K (false, ()) w4))
theorem ref22_ahead.vc (p0_0 : Int) (p0_1 : Int) (p1_0 : Int) (p1_1 : Int) (w : World) (K : Bool × Unit → World → Prop) (h : ref22_ahead.P p0_0 p0_1 p1_0 p1_1 w K) : CallV Try.prog 104 #[.agg #[.int .i64 p0_0, .int .i64 p0_1], .agg #[.int .i64 p1_0, .int .i64 p1_1]] w [.one .bool] K := by
  have e : vcFun Try.prog okf false Try.f104 ref22_ahead.A #[.agg #[.int .i64 p0_0, .int .i64 p0_1], .agg #[.int .i64 p1_0, .int .i64 p1_1]] w [.one .bool] K = ref22_ahead.P p0_0 p0_1 p1_0 p1_1 w K := by kernel_rfl
  exact vcFun.calls okf_ok follows Try.func104 (e.symm ▸ h)

/-! ### nepenthe/nepentheref22.gone: function 100 -/
-- loop 0 carries 10: .one (.int .i64)
-- loop 1 carries 8: .one .bool, 9: .one (.int .i64)
-- loop 2 carries 5: .one .sl, 6: .one (.int .i64)
def ref22_gone.A : Ann := .two .no (.two .no (.two (.two .no (.one (.loop [5, 6, 7, 8, 9, 10, 11, 13, 14, 15, 16, 17, 18, 19, 20, 21, 22, 23, 24, 25, 26, 27, 28, 29, 30, 31, 32, 33, 34, 35, 36, 37, 38, 39, 40, 41, 42, 43, 44, 45, 46, 47, 48, 49, 50, 51, 52, 53, 54, 55, 56, 57, 58, 59, 60, 61, 62, 63, 64, 65, 66, 67, 68, 69, 70, 71, 72, 73] [(5, .one .sl), (6, .one (.int .i64))] (.two .no (.two (.one (.two .no (.two .no (.two (.two .no (.one (.loop [8, 9, 31, 32, 33, 34, 35, 36, 37, 38, 39, 40, 41, 42, 43, 44, 45] [(8, .one .bool), (9, .one (.int .i64))] (.two .no (.two (.one (.draw (.take 0 (.take 1 (.take 2 (.take 3 (.take 4 (.take 5 (.take 6 (.take 7 (.take 8 (.take 9 (.done))))))))))))) .no))))) (.two .no (.two .no (.two (.one (.loop [10, 47, 48, 49, 50, 51, 52, 53, 54, 55, 56, 57, 58, 59, 60] [(10, .one (.int .i64))] (.two (.two (.draw (.take 0 (.take 1 (.take 2 (.take 3 (.take 4 (.take 5 (.take 6 (.take 7 (.take 8 (.take 9 (.eff 10 (.take 11 (.done)))))))))))))) .no) .no))) (.two (.draw (.take 0 (.take 2 (.take 3 (.take 4 (.eff 1 (.eff 5 (.take 6 (.done))))))))) .no)))))))) .no))))) .no))
def ref22_gone.P (p0_0 : Int) (p0_1 : Int) (p0_2 : Int) (p0_3 : Int) (a0_4 : Option Addr) (n0_4 c0_4 : Nat) (p1_0 : Int) (p1_1 : Int) (p1_2 : Int) (p1_3 : Int) (a1_4 : Option Addr) (n1_4 c1_4 : Nat) (w : World) (K : SlV × Unit → World → Prop) : Prop :=
  NewV #[.int .i64 p0_0, .int .i64 p0_1, .int .i64 p0_2, .int .i64 p0_3, .slice a0_4 n0_4 c0_4] 81 w fun b1 w2 =>
  NewV #[.int .i64 p1_0, .int .i64 p1_1, .int .i64 p1_2, .int .i64 p1_3, .slice a1_4 n1_4 c1_4] 81 w2 fun b3 w4 =>
  NewV #[] 55 w4 fun b5 w6 =>
  LoopV [.one .sl, .one (.int .i64)] ((⟨(some ⟨b5, 0, none⟩), 0, 0⟩ : SlV), (0 : Int), ()) w6 fun (z7 : SlV × Int × Unit) w8 (K9 : SlV × Int × Unit → World → Prop) =>
  LoadS w8 ⟨b1, 4, none⟩ .sl fun (x10 : SlV) =>
  cond (decide (z7.2.1 < ((x10.n : Nat) : Int)))
  (LoadS w8 ⟨b1, 4, none⟩ .sl fun (x11 : SlV) =>
  (0 ≤ z7.2.1 ∧ z7.2.1 < ((x11.n : Nat) : Int)) ∧ ∃ q12 : Addr, x11.a = some q12 ∧
  LoadA w8 ((q12.add (z7.2.1.toNat * 16)).add 2) [.int .i64, .int .i64] fun (x13 : Int × Int × Unit) =>
  NewV #[.int .i64 0, .int .i64 0] 55 w8 fun b14 w15 =>
  StoreV w15 ⟨b14, 0, none⟩ [.int .i64 x13.1, .int .i64 x13.2.1] fun w16 =>
  LoadA w16 ⟨b3, 0, none⟩ [.int .i64, .int .i64, .int .i64, .int .i64, .sl] fun (x17 : Int × Int × Int × Int × SlV × Unit) =>
  LoadA w16 ⟨b14, 0, none⟩ [.int .i64, .int .i64] fun (x18 : Int × Int × Unit) =>
  CallV Try.prog 44 #[.agg #[.int .i64 x17.1, .int .i64 x17.2.1, .int .i64 x17.2.2.1, .int .i64 x17.2.2.2.1, .slice x17.2.2.2.2.1.a x17.2.2.2.2.1.n x17.2.2.2.2.1.c], .agg #[.int .i64 x18.1, .int .i64 x18.2.1]] w16 [.one (.int .i64)] fun (r19 : Int × Unit) w20 =>
  LoopV [.one .bool, .one (.int .i64)] (decide (r19.1 > 0), (0 : Int), ()) w20 fun (z21 : Bool × Int × Unit) w22 (K23 : Bool × Int × Unit → World → Prop) =>
  cond (decide (z21.2.1 < ((z7.1.n : Nat) : Int)))
  (DrawV fun D24 =>
  cond z21.1
  (Rng .i64 (z21.2.1 + 1) ∧
  K23 (true, z21.2.1 + 1, ()) w22.drew)
  ((0 ≤ z21.2.1 ∧ z21.2.1 < ((z7.1.n : Nat) : Int)) ∧ ∃ q25 : Addr, z7.1.a = some q25 ∧
  (D24 (q25.add (z21.2.1.toNat * 2)).block ∧ LoadA w22.drew (q25.add (z21.2.1.toNat * 2)) [.int .i64, .int .i64] fun (x26 : Int × Int × Unit) =>
  (D24 b14 ∧ LoadA w22.drew ⟨b14, 0, none⟩ [.int .i64, .int .i64] fun (x27 : Int × Int × Unit) =>
  AggEq Try.prog 55 #[.int .i64 x26.1, .int .i64 x26.2.1] #[.int .i64 x27.1, .int .i64 x27.2.1] fun e28 =>
  Rng .i64 (z21.2.1 + 1) ∧
  K23 (e28, z21.2.1 + 1, ()) w22.drew))))
  (cond z21.1
  (Rng .i64 (z7.2.1 + 1) ∧
  K9 (z7.1, z7.2.1 + 1, ()) w22)
  (LoopV [.one (.int .i64)] ((0 : Int), ()) w22 fun (z29 : Int × Unit) w30 (K31 : Int × Unit → World → Prop) =>
  DrawV fun D32 =>
  cond (decide (z29.1 < ((z7.1.n : Nat) : Int)))
  ((0 ≤ z29.1 ∧ z29.1 < ((z7.1.n : Nat) : Int)) ∧ ∃ q33 : Addr, z7.1.a = some q33 ∧
  (D32 (q33.add (z29.1.toNat * 2)).block ∧ LoadA w30.drew (q33.add (z29.1.toNat * 2)) [.int .i64, .int .i64] fun (x34 : Int × Int × Unit) =>
  (D32 b14 ∧ LoadA w30.drew ⟨b14, 0, none⟩ [.int .i64, .int .i64] fun (x35 : Int × Int × Unit) =>
  CallV Try.prog 104 #[.agg #[.int .i64 x34.1, .int .i64 x34.2.1], .agg #[.int .i64 x35.1, .int .i64 x35.2.1]] w30.drew [.one .bool] fun (r36 : Bool × Unit) w37 =>
  KeepOn D32 w30.drew w37 ∧
  cond r36.1
  (Rng .i64 (z29.1 + 1) ∧
  K31 (z29.1 + 1, ()) w37)
  (DrawV fun D38 =>
  (D38 b14 ∧ LoadA w37.drew ⟨b14, 0, none⟩ [.int .i64, .int .i64] fun (x39 : Int × Int × Unit) =>
  ((0 : Int) ≤ z29.1 ∧ z29.1 ≤ ((z7.1.n : Nat) : Int)) ∧
  SubK z7.1.a z29.1.toNat z7.1.c 2 fun a40 =>
  NewV #[.int .i64 x39.1, .int .i64 x39.2.1] 55 w37.drew fun b41 w42 =>
  KeepOn D38 w37.drew w42 ∧
  AppS w42 a40 (z7.1.n - z29.1.toNat) 2 fun ns47 =>
  AppV w42 55 2 16 (some ⟨b41, 0, none⟩) 1 1 ns47 (z7.1.n - z29.1.toNat) fun a43 n44 c45 w46 =>
  KeepOn D38 w37.drew w46 ∧
  NewV #[] 55 w46 fun b48 w49 =>
  ((0 : Int) ≤ z29.1 ∧ z29.1 ≤ ((z7.1.c : Nat) : Int)) ∧
  SubK z7.1.a 0 z7.1.c 2 fun a50 =>
  AppS w49 a50 (z29.1.toNat - 0) 2 fun ns55 =>
  AppV w49 55 2 16 (some ⟨b48, 0, none⟩) 0 0 ns55 (z29.1.toNat - 0) fun a51 n52 c53 w54 =>
  AppS w54 a43 n44 2 fun ns60 =>
  AppV w54 55 2 16 a51 n52 c53 ns60 n44 fun a56 n57 c58 w59 =>
  Rng .i64 (z7.2.1 + 1) ∧
  K9 ((⟨a56, n57, c58⟩ : SlV), z7.2.1 + 1, ()) w59)))))
  (DrawV fun D61 =>
  (D61 b14 ∧ LoadA w30.drew.drew ⟨b14, 0, none⟩ [.int .i64, .int .i64] fun (x62 : Int × Int × Unit) =>
  ((0 : Int) ≤ z29.1 ∧ z29.1 ≤ ((z7.1.n : Nat) : Int)) ∧
  SubK z7.1.a z29.1.toNat z7.1.c 2 fun a63 =>
  NewV #[.int .i64 x62.1, .int .i64 x62.2.1] 55 w30.drew.drew fun b64 w65 =>
  KeepOn D61 w30.drew.drew w65 ∧
  AppS w65 a63 (z7.1.n - z29.1.toNat) 2 fun ns70 =>
  AppV w65 55 2 16 (some ⟨b64, 0, none⟩) 1 1 ns70 (z7.1.n - z29.1.toNat) fun a66 n67 c68 w69 =>
  KeepOn D61 w30.drew.drew w69 ∧
  NewV #[] 55 w69 fun b71 w72 =>
  ((0 : Int) ≤ z29.1 ∧ z29.1 ≤ ((z7.1.c : Nat) : Int)) ∧
  SubK z7.1.a 0 z7.1.c 2 fun a73 =>
  AppS w72 a73 (z29.1.toNat - 0) 2 fun ns78 =>
  AppV w72 55 2 16 (some ⟨b71, 0, none⟩) 0 0 ns78 (z29.1.toNat - 0) fun a74 n75 c76 w77 =>
  AppS w77 a66 n67 2 fun ns83 =>
  AppV w77 55 2 16 a74 n75 c76 ns83 n67 fun a79 n80 c81 w82 =>
  Rng .i64 (z7.2.1 + 1) ∧
  K9 ((⟨a79, n80, c81⟩ : SlV), z7.2.1 + 1, ()) w82)))))
  (K (z7.1, ()) w8)
theorem ref22_gone.vc (p0_0 : Int) (p0_1 : Int) (p0_2 : Int) (p0_3 : Int) (a0_4 : Option Addr) (n0_4 c0_4 : Nat) (p1_0 : Int) (p1_1 : Int) (p1_2 : Int) (p1_3 : Int) (a1_4 : Option Addr) (n1_4 c1_4 : Nat) (w : World) (K : SlV × Unit → World → Prop) (h : ref22_gone.P p0_0 p0_1 p0_2 p0_3 a0_4 n0_4 c0_4 p1_0 p1_1 p1_2 p1_3 a1_4 n1_4 c1_4 w K) : CallV Try.prog 100 #[.agg #[.int .i64 p0_0, .int .i64 p0_1, .int .i64 p0_2, .int .i64 p0_3, .slice a0_4 n0_4 c0_4], .agg #[.int .i64 p1_0, .int .i64 p1_1, .int .i64 p1_2, .int .i64 p1_3, .slice a1_4 n1_4 c1_4]] w [.one .sl] K := by
  have e : vcFun Try.prog okf false Try.f100 ref22_gone.A #[.agg #[.int .i64 p0_0, .int .i64 p0_1, .int .i64 p0_2, .int .i64 p0_3, .slice a0_4 n0_4 c0_4], .agg #[.int .i64 p1_0, .int .i64 p1_1, .int .i64 p1_2, .int .i64 p1_3, .slice a1_4 n1_4 c1_4]] w [.one .sl] K = ref22_gone.P p0_0 p0_1 p0_2 p0_3 a0_4 n0_4 c0_4 p1_0 p1_1 p1_2 p1_3 a1_4 n1_4 c1_4 w K := by kernel_rfl
  exact vcFun.calls okf_ok follows Try.func100 (e.symm ▸ h)

/-! ### nepenthe/nepentheref22.Right: function 84 -/
def ref22_Right.A : Ann := .two .no (.two .no (.two (.two (.draw (.take 0 (.take 1 (.take 2 (.take 3 (.take 4 (.take 5 (.take 6 (.take 7 (.take 8 (.take 9 (.take 10 (.take 11 (.take 12 (.take 13 (.take 14 (.take 15 (.take 16 (.take 17 (.take 18 (.take 19 (.take 20 (.take 21 (.take 22 (.take 23 (.take 24 (.take 25 (.take 26 (.take 27 (.take 28 (.take 29 (.take 30 (.take 31 (.take 32 (.done))))))))))))))))))))))))))))))))))) .no) (.two (.draw (.take 0 (.take 1 (.take 2 (.take 3 (.take 4 (.take 5 (.take 6 (.take 7 (.take 8 (.take 9 (.take 10 (.take 11 (.take 12 (.done))))))))))))))) .no)))
def ref22_Right.P (p0_0 : Int) (p0_1 : Int) (p0_2 : Int) (p0_3 : Int) (a0_4 : Option Addr) (n0_4 c0_4 : Nat) (p1_0 : Int) (p1_1 : Int) (p1_2 : Int) (p1_3 : Int) (p1_4 : Int) (p1_5 : Int) (p1_6 : Int) (p1_7 : Int) (p1_8 : Int) (p1_9 : Int) (p1_10 : Int) (p1_11 : Int) (p1_12 : Int) (p1_13 : Int) (w : World) (K : Bool × Unit → World → Prop) : Prop :=
  NewV #[.int .i64 p0_0, .int .i64 p0_1, .int .i64 p0_2, .int .i64 p0_3, .slice a0_4 n0_4 c0_4] 81 w fun b1 w2 =>
  NewV #[.int .i64 p1_0, .int .i64 p1_1, .int .i64 p1_2, .int .i64 p1_3, .int .i64 p1_4, .int .u32 p1_5, .int .u64 p1_6, .int .u64 p1_7, .int .i64 p1_8, .int .i64 p1_9, .int .i64 p1_10, .int .u32 p1_11, .int .u64 p1_12, .int .u64 p1_13] 64 w2 fun b3 w4 =>
  LoadA w4 ⟨b3, 2, none⟩ [.int .i64, .int .i64, .int .i64, .int .u32, .int .u64, .int .u64] fun (x5 : Int × Int × Int × Int × Int × Int × Unit) =>
  NewV #[.int .i64 0, .int .i64 0, .int .i64 0, .int .u32 0, .int .u64 0, .int .u64 0] 59 w4 fun b6 w7 =>
  StoreV w7 ⟨b6, 0, none⟩ [.int .i64 x5.1, .int .i64 x5.2.1, .int .i64 x5.2.2.1, .int .u32 x5.2.2.2.1, .int .u64 x5.2.2.2.2.1, .int .u64 x5.2.2.2.2.2.1] fun w8 =>
  DrawV fun D9 =>
  (D9 b6 ∧ LoadS w8.drew ⟨b6, 1, none⟩ (.int .i64) fun (x10 : Int) =>
  cond (decide (x10 < 0))
  (K (false, ()) w8.drew)
  ((D9 b6 ∧ LoadS w8.drew ⟨b6, 1, none⟩ (.int .i64) fun (x11 : Int) =>
  cond (decide (x11 > 3))
  (K (false, ()) w8.drew)
  ((D9 b6 ∧ LoadS w8.drew ⟨b6, 0, none⟩ (.int .i64) fun (x12 : Int) =>
  cond (x12 != 1)
  ((D9 b6 ∧ LoadS w8.drew ⟨b6, 0, none⟩ (.int .i64) fun (x13 : Int) =>
  cond (x13 != 2)
  (K (false, ()) w8.drew)
  ((D9 b6 ∧ LoadS w8.drew ⟨b6, 2, none⟩ (.int .i64) fun (x14 : Int) =>
  cond (decide (x14 < 1))
  (K (false, ()) w8.drew)
  ((D9 b6 ∧ LoadS w8.drew ⟨b6, 2, none⟩ (.int .i64) fun (x15 : Int) =>
  (D9 b6 ∧ LoadS w8.drew ⟨b6, 1, none⟩ (.int .i64) fun (x16 : Int) =>
  (0 ≤ x16 ∧ x16 < (4 : Int)) ∧
  (D9 ((⟨b1, 0, none⟩ : Addr).add (x16.toNat * 1)).block ∧ LoadS w8.drew ((⟨b1, 0, none⟩ : Addr).add (x16.toNat * 1)) (.int .i64) fun (x17 : Int) =>
  cond (decide (x15 > x17))
  (K (false, ()) w8.drew)
  (DrawV fun D18 =>
  (D18 b6 ∧ LoadS w8.drew.drew ⟨b6, 3, none⟩ (.int .u32) fun (x19 : Int) =>
  (D18 b6 ∧ LoadS w8.drew.drew ⟨b6, 1, none⟩ (.int .i64) fun (x20 : Int) =>
  (0 ≤ x20 ∧ x20 < (4 : Int)) ∧
  (D18 ((⟨b1, 0, none⟩ : Addr).add (x20.toNat * 1)).block ∧ LoadS w8.drew.drew ((⟨b1, 0, none⟩ : Addr).add (x20.toNat * 1)) (.int .i64) fun (x21 : Int) =>
  (D18 b6 ∧ LoadS w8.drew.drew ⟨b6, 2, none⟩ (.int .i64) fun (x22 : Int) =>
  Rng .i64 (x21 - x22) ∧
  K (decide ((IntKind.i64.wrap x19) ≤ (x21 - x22)), ()) w8.drew.drew)))))))))))))
  ((D9 b6 ∧ LoadS w8.drew ⟨b6, 2, none⟩ (.int .i64) fun (x23 : Int) =>
  cond (decide (x23 < 1))
  (K (false, ()) w8.drew)
  ((D9 b6 ∧ LoadS w8.drew ⟨b6, 2, none⟩ (.int .i64) fun (x24 : Int) =>
  (D9 b6 ∧ LoadS w8.drew ⟨b6, 1, none⟩ (.int .i64) fun (x25 : Int) =>
  (0 ≤ x25 ∧ x25 < (4 : Int)) ∧
  (D9 ((⟨b1, 0, none⟩ : Addr).add (x25.toNat * 1)).block ∧ LoadS w8.drew ((⟨b1, 0, none⟩ : Addr).add (x25.toNat * 1)) (.int .i64) fun (x26 : Int) =>
  cond (decide (x24 > x26))
  (K (false, ()) w8.drew)
  (DrawV fun D27 =>
  (D27 b6 ∧ LoadS w8.drew.drew ⟨b6, 3, none⟩ (.int .u32) fun (x28 : Int) =>
  (D27 b6 ∧ LoadS w8.drew.drew ⟨b6, 1, none⟩ (.int .i64) fun (x29 : Int) =>
  (0 ≤ x29 ∧ x29 < (4 : Int)) ∧
  (D27 ((⟨b1, 0, none⟩ : Addr).add (x29.toNat * 1)).block ∧ LoadS w8.drew.drew ((⟨b1, 0, none⟩ : Addr).add (x29.toNat * 1)) (.int .i64) fun (x30 : Int) =>
  (D27 b6 ∧ LoadS w8.drew.drew ⟨b6, 2, none⟩ (.int .i64) fun (x31 : Int) =>
  Rng .i64 (x30 - x31) ∧
  K (decide ((IntKind.i64.wrap x28) ≤ (x30 - x31)), ()) w8.drew.drew))))))))))))))))
theorem ref22_Right.vc (p0_0 : Int) (p0_1 : Int) (p0_2 : Int) (p0_3 : Int) (a0_4 : Option Addr) (n0_4 c0_4 : Nat) (p1_0 : Int) (p1_1 : Int) (p1_2 : Int) (p1_3 : Int) (p1_4 : Int) (p1_5 : Int) (p1_6 : Int) (p1_7 : Int) (p1_8 : Int) (p1_9 : Int) (p1_10 : Int) (p1_11 : Int) (p1_12 : Int) (p1_13 : Int) (w : World) (K : Bool × Unit → World → Prop) (h : ref22_Right.P p0_0 p0_1 p0_2 p0_3 a0_4 n0_4 c0_4 p1_0 p1_1 p1_2 p1_3 p1_4 p1_5 p1_6 p1_7 p1_8 p1_9 p1_10 p1_11 p1_12 p1_13 w K) : CallV Try.prog 84 #[.agg #[.int .i64 p0_0, .int .i64 p0_1, .int .i64 p0_2, .int .i64 p0_3, .slice a0_4 n0_4 c0_4], .agg #[.int .i64 p1_0, .int .i64 p1_1, .int .i64 p1_2, .int .i64 p1_3, .int .i64 p1_4, .int .u32 p1_5, .int .u64 p1_6, .int .u64 p1_7, .int .i64 p1_8, .int .i64 p1_9, .int .i64 p1_10, .int .u32 p1_11, .int .u64 p1_12, .int .u64 p1_13]] w [.one .bool] K := by
  have e : vcFun Try.prog okf false Try.f84 ref22_Right.A #[.agg #[.int .i64 p0_0, .int .i64 p0_1, .int .i64 p0_2, .int .i64 p0_3, .slice a0_4 n0_4 c0_4], .agg #[.int .i64 p1_0, .int .i64 p1_1, .int .i64 p1_2, .int .i64 p1_3, .int .i64 p1_4, .int .u32 p1_5, .int .u64 p1_6, .int .u64 p1_7, .int .i64 p1_8, .int .i64 p1_9, .int .i64 p1_10, .int .u32 p1_11, .int .u64 p1_12, .int .u64 p1_13]] w [.one .bool] K = ref22_Right.P p0_0 p0_1 p0_2 p0_3 a0_4 n0_4 c0_4 p1_0 p1_1 p1_2 p1_3 p1_4 p1_5 p1_6 p1_7 p1_8 p1_9 p1_10 p1_11 p1_12 p1_13 w K := by kernel_rfl
  exact vcFun.calls okf_ok follows Try.func84 (e.symm ▸ h)

/-! ### nepenthe/nepentheref22.Put: function 85 -/
-- loop 0 carries 10: .one (.int .i64)
-- loop 1 carries 7: .one (.int .i64)
def ref22_Put.A : Ann := .two .no (.two .no (.two (.two .no (.one (.loop [7, 8, 9, 14, 15, 16, 17, 18, 19, 20, 21, 22, 23, 24, 25, 26, 27, 28, 29, 30, 31, 32, 33, 34, 35, 36, 37, 38, 39, 40, 41, 42, 43, 44, 45, 46, 47, 48, 49, 50, 51, 52, 53, 54, 55, 56, 57, 58, 59, 60, 61, 62, 63, 64, 65, 66, 67, 68] [(7, .one (.int .i64))] (.two .no (.two (.one (.two .no (.join [9, 26, 27, 28, 29, 30, 31, 32, 33, 34, 35, 36, 37, 38, 39, 40, 41, 42, 43, 44, 45, 46, 47, 48, 49, 50, 51, 52, 53] [(9, .one .bool), (33, .one .any), (35, .one .any), (36, .one .any), (42, .one .any), (44, .one .any), (45, .one .any), (48, .one .any), (49, .one .any)] .no .no))) .no))))) (.two (.two .no (.one (.loop [10, 73, 74, 75, 76, 77, 78, 79, 80, 81, 82, 83, 84, 85, 86, 87, 88, 89, 90, 91, 92, 93, 94, 95, 96, 97, 98, 99, 100, 101, 102] [(10, .one (.int .i64))] .no))) (.two (.draw (.take 0 (.take 1 (.take 2 (.eff 3 (.eff 4 (.take 5 (.done)))))))) .no))))
def ref22_Put.P (p0_0 : Int) (p0_1 : Int) (p0_2 : Int) (p0_3 : Int) (a0_4 : Option Addr) (n0_4 c0_4 : Nat) (p1_0 : Int) (p1_1 : Int) (p1_2 : Int) (p1_3 : Int) (p1_4 : Int) (p1_5 : Int) (p1_6 : Int) (p1_7 : Int) (p1_8 : Int) (p1_9 : Int) (p1_10 : Int) (p1_11 : Int) (p1_12 : Int) (p1_13 : Int) (w : World) (K : (Int × Int × Int × Int × SlV × Unit) × SlV × Unit → World → Prop) : Prop :=
  NewV #[.int .i64 p0_0, .int .i64 p0_1, .int .i64 p0_2, .int .i64 p0_3, .slice a0_4 n0_4 c0_4] 81 w fun b1 w2 =>
  NewV #[.int .i64 p1_0, .int .i64 p1_1, .int .i64 p1_2, .int .i64 p1_3, .int .i64 p1_4, .int .u32 p1_5, .int .u64 p1_6, .int .u64 p1_7, .int .i64 p1_8, .int .i64 p1_9, .int .i64 p1_10, .int .u32 p1_11, .int .u64 p1_12, .int .u64 p1_13] 64 w2 fun b3 w4 =>
  NewV #[.int .i64 0, .int .i64 0, .int .i64 0, .int .i64 0, .slice none 0 0] 81 w4 fun b5 w6 =>
  LoadA w6 ⟨b1, 0, none⟩ [.int .i64, .int .i64, .int .i64, .int .i64] fun (x7 : Int × Int × Int × Int × Unit) =>
  NewV #[.int .i64 0, .int .i64 0, .int .i64 0, .int .i64 0, .slice none 0 0] 81 w6 fun b8 w9 =>
  StoreV w9 ⟨b8, 0, none⟩ [.int .i64 x7.1, .int .i64 x7.2.1, .int .i64 x7.2.2.1, .int .i64 x7.2.2.2.1, .slice none 0 0] fun w10 =>
  LoopV [.one (.int .i64)] ((0 : Int), ()) w10 fun (z11 : Int × Unit) w12 (K13 : Int × Unit → World → Prop) =>
  LoadS w12 ⟨b1, 4, none⟩ .sl fun (x14 : SlV) =>
  cond (decide (z11.1 < ((x14.n : Nat) : Int)))
  (LoadS w12 ⟨b1, 4, none⟩ .sl fun (x15 : SlV) =>
  (0 ≤ z11.1 ∧ z11.1 < ((x15.n : Nat) : Int)) ∧ ∃ q16 : Addr, x15.a = some q16 ∧
  LoadA w12 (q16.add (z11.1.toNat * 16)) [.int .i64, .int .i64, .int .i64, .int .i64, .int .i64, .int .i64, .int .i64, .int .u32, .int .u64, .int .u64, .int .i64, .int .i64, .int .i64, .int .u32, .int .u64, .int .u64] fun (x17 : Int × Int × Int × Int × Int × Int × Int × Int × Int × Int × Int × Int × Int × Int × Int × Int × Unit) =>
  NewV #[.int .i64 0, .int .i64 0, .int .i64 0, .int .i64 0, .int .i64 0, .int .i64 0, .int .i64 0, .int .u32 0, .int .u64 0, .int .u64 0, .int .i64 0, .int .i64 0, .int .i64 0, .int .u32 0, .int .u64 0, .int .u64 0] 93 w12 fun b18 w19 =>
  StoreV w19 ⟨b18, 0, none⟩ [.int .i64 x17.1, .int .i64 x17.2.1, .int .i64 x17.2.2.1, .int .i64 x17.2.2.2.1, .int .i64 x17.2.2.2.2.1, .int .i64 x17.2.2.2.2.2.1, .int .i64 x17.2.2.2.2.2.2.1, .int .u32 x17.2.2.2.2.2.2.2.1, .int .u64 x17.2.2.2.2.2.2.2.2.1, .int .u64 x17.2.2.2.2.2.2.2.2.2.1, .int .i64 x17.2.2.2.2.2.2.2.2.2.2.1, .int .i64 x17.2.2.2.2.2.2.2.2.2.2.2.1, .int .i64 x17.2.2.2.2.2.2.2.2.2.2.2.2.1, .int .u32 x17.2.2.2.2.2.2.2.2.2.2.2.2.2.1, .int .u64 x17.2.2.2.2.2.2.2.2.2.2.2.2.2.2.1, .int .u64 x17.2.2.2.2.2.2.2.2.2.2.2.2.2.2.2.1] fun w20 =>
  JoinV [.one .bool, .one .any, .one .any, .one .any, .one .any, .one .any, .one .any, .one .any, .one .any] (fun (v22 : Bool × Value × Value × Value × Value × Value × Value × Value × Value × Unit) w23 =>
  cond v22.1
  (LoadA w23 ⟨b3, 0, none⟩ [.int .i64, .int .i64, .int .i64, .int .i64, .int .i64, .int .u32, .int .u64, .int .u64, .int .i64, .int .i64, .int .i64, .int .u32, .int .u64, .int .u64] fun (x24 : Int × Int × Int × Int × Int × Int × Int × Int × Int × Int × Int × Int × Int × Int × Unit) =>
  LoadA w23 ⟨b18, 2, none⟩ [.int .i64, .int .i64, .int .i64, .int .i64, .int .i64, .int .u32, .int .u64, .int .u64, .int .i64, .int .i64, .int .i64, .int .u32, .int .u64, .int .u64] fun (x25 : Int × Int × Int × Int × Int × Int × Int × Int × Int × Int × Int × Int × Int × Int × Unit) =>
  CallV Try.prog 34 #[.agg #[.int .i64 x24.1, .int .i64 x24.2.1, .int .i64 x24.2.2.1, .int .i64 x24.2.2.2.1, .int .i64 x24.2.2.2.2.1, .int .u32 x24.2.2.2.2.2.1, .int .u64 x24.2.2.2.2.2.2.1, .int .u64 x24.2.2.2.2.2.2.2.1, .int .i64 x24.2.2.2.2.2.2.2.2.1, .int .i64 x24.2.2.2.2.2.2.2.2.2.1, .int .i64 x24.2.2.2.2.2.2.2.2.2.2.1, .int .u32 x24.2.2.2.2.2.2.2.2.2.2.2.1, .int .u64 x24.2.2.2.2.2.2.2.2.2.2.2.2.1, .int .u64 x24.2.2.2.2.2.2.2.2.2.2.2.2.2.1], .agg #[.int .i64 x25.1, .int .i64 x25.2.1, .int .i64 x25.2.2.1, .int .i64 x25.2.2.2.1, .int .i64 x25.2.2.2.2.1, .int .u32 x25.2.2.2.2.2.1, .int .u64 x25.2.2.2.2.2.2.1, .int .u64 x25.2.2.2.2.2.2.2.1, .int .i64 x25.2.2.2.2.2.2.2.2.1, .int .i64 x25.2.2.2.2.2.2.2.2.2.1, .int .i64 x25.2.2.2.2.2.2.2.2.2.2.1, .int .u32 x25.2.2.2.2.2.2.2.2.2.2.2.1, .int .u64 x25.2.2.2.2.2.2.2.2.2.2.2.2.1, .int .u64 x25.2.2.2.2.2.2.2.2.2.2.2.2.2.1]] w23 [.one .bool] fun (r26 : Bool × Unit) w27 =>
  cond r26.1
  (LoadA w27 ⟨b3, 0, none⟩ [.int .i64, .int .i64, .int .i64, .int .i64, .int .i64, .int .u32, .int .u64, .int .u64, .int .i64, .int .i64, .int .i64, .int .u32, .int .u64, .int .u64] fun (x28 : Int × Int × Int × Int × Int × Int × Int × Int × Int × Int × Int × Int × Int × Int × Unit) =>
  StoreV w27 ⟨b18, 2, none⟩ [.int .i64 x28.1, .int .i64 x28.2.1, .int .i64 x28.2.2.1, .int .i64 x28.2.2.2.1, .int .i64 x28.2.2.2.2.1, .int .u32 x28.2.2.2.2.2.1, .int .u64 x28.2.2.2.2.2.2.1, .int .u64 x28.2.2.2.2.2.2.2.1, .int .i64 x28.2.2.2.2.2.2.2.2.1, .int .i64 x28.2.2.2.2.2.2.2.2.2.1, .int .i64 x28.2.2.2.2.2.2.2.2.2.2.1, .int .u32 x28.2.2.2.2.2.2.2.2.2.2.2.1, .int .u64 x28.2.2.2.2.2.2.2.2.2.2.2.2.1, .int .u64 x28.2.2.2.2.2.2.2.2.2.2.2.2.2.1] fun w29 =>
  LoadS w29 ⟨b8, 4, none⟩ .sl fun (x30 : SlV) =>
  LoadA w29 ⟨b18, 0, none⟩ [.int .i64, .int .i64, .int .i64, .int .i64, .int .i64, .int .i64, .int .i64, .int .u32, .int .u64, .int .u64, .int .i64, .int .i64, .int .i64, .int .u32, .int .u64, .int .u64] fun (x31 : Int × Int × Int × Int × Int × Int × Int × Int × Int × Int × Int × Int × Int × Int × Int × Int × Unit) =>
  NewV #[.int .i64 x31.1, .int .i64 x31.2.1, .int .i64 x31.2.2.1, .int .i64 x31.2.2.2.1, .int .i64 x31.2.2.2.2.1, .int .i64 x31.2.2.2.2.2.1, .int .i64 x31.2.2.2.2.2.2.1, .int .u32 x31.2.2.2.2.2.2.2.1, .int .u64 x31.2.2.2.2.2.2.2.2.1, .int .u64 x31.2.2.2.2.2.2.2.2.2.1, .int .i64 x31.2.2.2.2.2.2.2.2.2.2.1, .int .i64 x31.2.2.2.2.2.2.2.2.2.2.2.1, .int .i64 x31.2.2.2.2.2.2.2.2.2.2.2.2.1, .int .u32 x31.2.2.2.2.2.2.2.2.2.2.2.2.2.1, .int .u64 x31.2.2.2.2.2.2.2.2.2.2.2.2.2.2.1, .int .u64 x31.2.2.2.2.2.2.2.2.2.2.2.2.2.2.2.1] 93 w29 fun b32 w33 =>
  AppS w33 (some ⟨b32, 0, none⟩) 1 16 fun ns38 =>
  AppV w33 93 16 128 x30.a x30.n x30.c ns38 1 fun a34 n35 c36 w37 =>
  StoreV w37 ⟨b8, 4, none⟩ [.slice a34 n35 c36] fun w39 =>
  Rng .i64 (z11.1 + 1) ∧
  K13 (z11.1 + 1, ()) w39)
  (LoadS w27 ⟨b8, 4, none⟩ .sl fun (x40 : SlV) =>
  LoadA w27 ⟨b18, 0, none⟩ [.int .i64, .int .i64, .int .i64, .int .i64, .int .i64, .int .i64, .int .i64, .int .u32, .int .u64, .int .u64, .int .i64, .int .i64, .int .i64, .int .u32, .int .u64, .int .u64] fun (x41 : Int × Int × Int × Int × Int × Int × Int × Int × Int × Int × Int × Int × Int × Int × Int × Int × Unit) =>
  NewV #[.int .i64 x41.1, .int .i64 x41.2.1, .int .i64 x41.2.2.1, .int .i64 x41.2.2.2.1, .int .i64 x41.2.2.2.2.1, .int .i64 x41.2.2.2.2.2.1, .int .i64 x41.2.2.2.2.2.2.1, .int .u32 x41.2.2.2.2.2.2.2.1, .int .u64 x41.2.2.2.2.2.2.2.2.1, .int .u64 x41.2.2.2.2.2.2.2.2.2.1, .int .i64 x41.2.2.2.2.2.2.2.2.2.2.1, .int .i64 x41.2.2.2.2.2.2.2.2.2.2.2.1, .int .i64 x41.2.2.2.2.2.2.2.2.2.2.2.2.1, .int .u32 x41.2.2.2.2.2.2.2.2.2.2.2.2.2.1, .int .u64 x41.2.2.2.2.2.2.2.2.2.2.2.2.2.2.1, .int .u64 x41.2.2.2.2.2.2.2.2.2.2.2.2.2.2.2.1] 93 w27 fun b42 w43 =>
  AppS w43 (some ⟨b42, 0, none⟩) 1 16 fun ns48 =>
  AppV w43 93 16 128 x40.a x40.n x40.c ns48 1 fun a44 n45 c46 w47 =>
  StoreV w47 ⟨b8, 4, none⟩ [.slice a44 n45 c46] fun w49 =>
  Rng .i64 (z11.1 + 1) ∧
  K13 (z11.1 + 1, ()) w49))
  (LoadS w23 ⟨b8, 4, none⟩ .sl fun (x50 : SlV) =>
  LoadA w23 ⟨b18, 0, none⟩ [.int .i64, .int .i64, .int .i64, .int .i64, .int .i64, .int .i64, .int .i64, .int .u32, .int .u64, .int .u64, .int .i64, .int .i64, .int .i64, .int .u32, .int .u64, .int .u64] fun (x51 : Int × Int × Int × Int × Int × Int × Int × Int × Int × Int × Int × Int × Int × Int × Int × Int × Unit) =>
  NewV #[.int .i64 x51.1, .int .i64 x51.2.1, .int .i64 x51.2.2.1, .int .i64 x51.2.2.2.1, .int .i64 x51.2.2.2.2.1, .int .i64 x51.2.2.2.2.2.1, .int .i64 x51.2.2.2.2.2.2.1, .int .u32 x51.2.2.2.2.2.2.2.1, .int .u64 x51.2.2.2.2.2.2.2.2.1, .int .u64 x51.2.2.2.2.2.2.2.2.2.1, .int .i64 x51.2.2.2.2.2.2.2.2.2.2.1, .int .i64 x51.2.2.2.2.2.2.2.2.2.2.2.1, .int .i64 x51.2.2.2.2.2.2.2.2.2.2.2.2.1, .int .u32 x51.2.2.2.2.2.2.2.2.2.2.2.2.2.1, .int .u64 x51.2.2.2.2.2.2.2.2.2.2.2.2.2.2.1, .int .u64 x51.2.2.2.2.2.2.2.2.2.2.2.2.2.2.2.1] 93 w23 fun b52 w53 =>
  AppS w53 (some ⟨b52, 0, none⟩) 1 16 fun ns58 =>
  AppV w53 93 16 128 x50.a x50.n x50.c ns58 1 fun a54 n55 c56 w57 =>
  StoreV w57 ⟨b8, 4, none⟩ [.slice a54 n55 c56] fun w59 =>
  Rng .i64 (z11.1 + 1) ∧
  K13 (z11.1 + 1, ()) w59)) fun (J21 : Bool × Value × Value × Value × Value × Value × Value × Value × Value × Unit → World → Prop) =>
  LoadS w20 ⟨b18, 0, none⟩ (.int .i64) fun (x60 : Int) =>
  LoadS w20 ⟨b3, 3, none⟩ (.int .i64) fun (x61 : Int) =>
  cond (x60 == x61)
  (LoadS w20 ⟨b18, 1, none⟩ (.int .i64) fun (x62 : Int) =>
  LoadS w20 ⟨b3, 5, none⟩ (.int .u32) fun (x63 : Int) =>
  cond (decide (x62 ≥ (IntKind.i64.wrap x63)))
  (LoadS w20 ⟨b18, 1, none⟩ (.int .i64) fun (x64 : Int) =>
  LoadS w20 ⟨b3, 5, none⟩ (.int .u32) fun (x65 : Int) =>
  LoadS w20 ⟨b3, 4, none⟩ (.int .i64) fun (x66 : Int) =>
  Rng .i64 ((IntKind.i64.wrap x65) + x66) ∧
  J21 (decide (x64 < ((IntKind.i64.wrap x65) + x66)), (.pointer (some ⟨b18, 1, none⟩) : Value), (.pointer (some ⟨b3, 2, none⟩) : Value), (.pointer (some ⟨b3, 5, none⟩) : Value), (.pointer (some ⟨b18, 1, none⟩) : Value), (.pointer (some ⟨b3, 2, none⟩) : Value), (.pointer (some ⟨b3, 5, none⟩) : Value), (.pointer (some ⟨b3, 2, none⟩) : Value), (.pointer (some ⟨b3, 4, none⟩) : Value), ()) w20)
  (J21 (false, (.pointer (some ⟨b18, 1, none⟩) : Value), (.pointer (some ⟨b3, 2, none⟩) : Value), (.pointer (some ⟨b3, 5, none⟩) : Value), (.tuple #[] : Value), (.tuple #[] : Value), (.tuple #[] : Value), (.tuple #[] : Value), (.tuple #[] : Value), ()) w20))
  (J21 (false, (.tuple #[] : Value), (.tuple #[] : Value), (.tuple #[] : Value), (.tuple #[] : Value), (.tuple #[] : Value), (.tuple #[] : Value), (.tuple #[] : Value), (.tuple #[] : Value), ()) w20))
  (LoadS w12 ⟨b3, 5, none⟩ (.int .u32) fun (x67 : Int) =>
  LoopV [.one (.int .i64)] (IntKind.i64.wrap x67, ()) w12 fun (z68 : Int × Unit) w69 (K70 : Int × Unit → World → Prop) =>
  LoadS w69 ⟨b3, 5, none⟩ (.int .u32) fun (x71 : Int) =>
  LoadS w69 ⟨b3, 4, none⟩ (.int .i64) fun (x72 : Int) =>
  Rng .i64 ((IntKind.i64.wrap x71) + x72) ∧
  cond (decide (z68.1 < ((IntKind.i64.wrap x71) + x72)))
  (LoadA w69 ⟨b1, 0, none⟩ [.int .i64, .int .i64, .int .i64, .int .i64, .sl] fun (x73 : Int × Int × Int × Int × SlV × Unit) =>
  LoadS w69 ⟨b3, 3, none⟩ (.int .i64) fun (x74 : Int) =>
  CallV Try.prog 88 #[.agg #[.int .i64 x73.1, .int .i64 x73.2.1, .int .i64 x73.2.2.1, .int .i64 x73.2.2.2.1, .slice x73.2.2.2.2.1.a x73.2.2.2.2.1.n x73.2.2.2.2.1.c], .int .i64 x74, .int .i64 z68.1] w69 [.one (.int .i64)] fun (r75 : Int × Unit) w76 =>
  cond (decide (r75.1 < 0))
  (LoadS w76 ⟨b8, 4, none⟩ .sl fun (x77 : SlV) =>
  LoadS w76 ⟨b3, 3, none⟩ (.int .i64) fun (x78 : Int) =>
  LoadA w76 ⟨b3, 0, none⟩ [.int .i64, .int .i64, .int .i64, .int .i64, .int .i64, .int .u32, .int .u64, .int .u64, .int .i64, .int .i64, .int .i64, .int .u32, .int .u64, .int .u64] fun (x79 : Int × Int × Int × Int × Int × Int × Int × Int × Int × Int × Int × Int × Int × Int × Unit) =>
  NewV #[.int .i64 x78, .int .i64 z68.1, .int .i64 x79.1, .int .i64 x79.2.1, .int .i64 x79.2.2.1, .int .i64 x79.2.2.2.1, .int .i64 x79.2.2.2.2.1, .int .u32 x79.2.2.2.2.2.1, .int .u64 x79.2.2.2.2.2.2.1, .int .u64 x79.2.2.2.2.2.2.2.1, .int .i64 x79.2.2.2.2.2.2.2.2.1, .int .i64 x79.2.2.2.2.2.2.2.2.2.1, .int .i64 x79.2.2.2.2.2.2.2.2.2.2.1, .int .u32 x79.2.2.2.2.2.2.2.2.2.2.2.1, .int .u64 x79.2.2.2.2.2.2.2.2.2.2.2.2.1, .int .u64 x79.2.2.2.2.2.2.2.2.2.2.2.2.2.1] 93 w76 fun b80 w81 =>
  AppS w81 (some ⟨b80, 0, none⟩) 1 16 fun ns86 =>
  AppV w81 93 16 128 x77.a x77.n x77.c ns86 1 fun a82 n83 c84 w85 =>
  StoreV w85 ⟨b8, 4, none⟩ [.slice a82 n83 c84] fun w87 =>
  Rng .i64 (z68.1 + 1) ∧
  K70 (z68.1 + 1, ()) w87)
  (Rng .i64 (z68.1 + 1) ∧
  K70 (z68.1 + 1, ()) w76))
  (DrawV fun D88 =>
  (D88 b8 ∧ LoadA w69.drew ⟨b8, 0, none⟩ [.int .i64, .int .i64, .int .i64, .int .i64, .sl] fun (x89 : Int × Int × Int × Int × SlV × Unit) =>
  (D88 b1 ∧ LoadA w69.drew ⟨b1, 0, none⟩ [.int .i64, .int .i64, .int .i64, .int .i64, .sl] fun (x90 : Int × Int × Int × Int × SlV × Unit) =>
  (D88 b8 ∧ LoadA w69.drew ⟨b8, 0, none⟩ [.int .i64, .int .i64, .int .i64, .int .i64, .sl] fun (x91 : Int × Int × Int × Int × SlV × Unit) =>
  CallV Try.prog 100 #[.agg #[.int .i64 x90.1, .int .i64 x90.2.1, .int .i64 x90.2.2.1, .int .i64 x90.2.2.2.1, .slice x90.2.2.2.2.1.a x90.2.2.2.2.1.n x90.2.2.2.2.1.c], .agg #[.int .i64 x91.1, .int .i64 x91.2.1, .int .i64 x91.2.2.1, .int .i64 x91.2.2.2.1, .slice x91.2.2.2.2.1.a x91.2.2.2.2.1.n x91.2.2.2.2.1.c]] w69.drew [.one .sl] fun (r92 : SlV × Unit) w93 =>
  KeepOn D88 w69.drew w93 ∧
  StoreV w93 ⟨b5, 0, none⟩ [.int .i64 x89.1, .int .i64 x89.2.1, .int .i64 x89.2.2.1, .int .i64 x89.2.2.2.1, .slice x89.2.2.2.2.1.a x89.2.2.2.2.1.n x89.2.2.2.2.1.c] fun w94 =>
  KeepOn D88 w69.drew w94 ∧
  LoadA w94 ⟨b5, 0, none⟩ [.int .i64, .int .i64, .int .i64, .int .i64, .sl] fun (x95 : Int × Int × Int × Int × SlV × Unit) =>
  K ((x95.1, x95.2.1, x95.2.2.1, x95.2.2.2.1, x95.2.2.2.2.1, ()), r92.1, ()) w94)))))
theorem ref22_Put.vc (p0_0 : Int) (p0_1 : Int) (p0_2 : Int) (p0_3 : Int) (a0_4 : Option Addr) (n0_4 c0_4 : Nat) (p1_0 : Int) (p1_1 : Int) (p1_2 : Int) (p1_3 : Int) (p1_4 : Int) (p1_5 : Int) (p1_6 : Int) (p1_7 : Int) (p1_8 : Int) (p1_9 : Int) (p1_10 : Int) (p1_11 : Int) (p1_12 : Int) (p1_13 : Int) (w : World) (K : (Int × Int × Int × Int × SlV × Unit) × SlV × Unit → World → Prop) (h : ref22_Put.P p0_0 p0_1 p0_2 p0_3 a0_4 n0_4 c0_4 p1_0 p1_1 p1_2 p1_3 p1_4 p1_5 p1_6 p1_7 p1_8 p1_9 p1_10 p1_11 p1_12 p1_13 w K) : CallV Try.prog 85 #[.agg #[.int .i64 p0_0, .int .i64 p0_1, .int .i64 p0_2, .int .i64 p0_3, .slice a0_4 n0_4 c0_4], .agg #[.int .i64 p1_0, .int .i64 p1_1, .int .i64 p1_2, .int .i64 p1_3, .int .i64 p1_4, .int .u32 p1_5, .int .u64 p1_6, .int .u64 p1_7, .int .i64 p1_8, .int .i64 p1_9, .int .i64 p1_10, .int .u32 p1_11, .int .u64 p1_12, .int .u64 p1_13]] w [.agg [.int .i64, .int .i64, .int .i64, .int .i64, .sl], .one .sl] K := by
  have e : vcFun Try.prog okf false Try.f85 ref22_Put.A #[.agg #[.int .i64 p0_0, .int .i64 p0_1, .int .i64 p0_2, .int .i64 p0_3, .slice a0_4 n0_4 c0_4], .agg #[.int .i64 p1_0, .int .i64 p1_1, .int .i64 p1_2, .int .i64 p1_3, .int .i64 p1_4, .int .u32 p1_5, .int .u64 p1_6, .int .u64 p1_7, .int .i64 p1_8, .int .i64 p1_9, .int .i64 p1_10, .int .u32 p1_11, .int .u64 p1_12, .int .u64 p1_13]] w [.agg [.int .i64, .int .i64, .int .i64, .int .i64, .sl], .one .sl] K = ref22_Put.P p0_0 p0_1 p0_2 p0_3 a0_4 n0_4 c0_4 p1_0 p1_1 p1_2 p1_3 p1_4 p1_5 p1_6 p1_7 p1_8 p1_9 p1_10 p1_11 p1_12 p1_13 w K := by kernel_rfl
  exact vcFun.calls okf_ok follows Try.func85 (e.symm ▸ h)

/-! ### nepenthe/nepentheref22.Drop: function 82 -/
-- loop 0 carries 7: .one (.int .i64)
def ref22_Drop.A : Ann := .two .no (.two .no (.two .no (.two (.two .no (.one (.loop [7, 14, 15, 16, 17, 18, 19, 20, 21, 22, 23, 24, 25, 26, 27, 28, 29, 30, 31, 32, 33, 34, 35, 36, 37, 38] [(7, .one (.int .i64))] (.two .no (.two (.one (.two .no (.two (.draw (.take 0 (.take 2 (.take 3 (.take 4 (.take 5 (.take 6 (.both 1 (.eff 7 (.eff 8 (.take 9 (.eff 10 (.done))))) 7 (.eff 1 (.eff 8 (.take 9 (.eff 10 (.done))))))))))))) .no))) .no))))) (.two (.draw (.take 0 (.take 1 (.take 2 (.eff 3 (.eff 4 (.take 5 (.done)))))))) .no))))
def ref22_Drop.P (p0_0 : Int) (p0_1 : Int) (p0_2 : Int) (p0_3 : Int) (a0_4 : Option Addr) (n0_4 c0_4 : Nat) (p1 : Int) (w : World) (K : (Int × Int × Int × Int × SlV × Unit) × SlV × Unit → World → Prop) : Prop :=
  NewV #[.int .i64 p0_0, .int .i64 p0_1, .int .i64 p0_2, .int .i64 p0_3, .slice a0_4 n0_4 c0_4] 81 w fun b1 w2 =>
  NewV #[.int .i64 0, .int .i64 0, .int .i64 0, .int .i64 0, .slice none 0 0] 81 w2 fun b3 w4 =>
  LoadA w4 ⟨b1, 0, none⟩ [.int .i64, .int .i64, .int .i64, .int .i64] fun (x5 : Int × Int × Int × Int × Unit) =>
  NewV #[.int .i64 0, .int .i64 0, .int .i64 0, .int .i64 0, .slice none 0 0] 81 w4 fun b6 w7 =>
  StoreV w7 ⟨b6, 0, none⟩ [.int .i64 x5.1, .int .i64 x5.2.1, .int .i64 x5.2.2.1, .int .i64 x5.2.2.2.1, .slice none 0 0] fun w8 =>
  (0 ≤ p1 ∧ p1 < (4 : Int)) ∧
  StoreV w8 ((⟨b6, 0, none⟩ : Addr).add (p1.toNat * 1)) [.int .i64 0] fun w9 =>
  LoopV [.one (.int .i64)] ((0 : Int), ()) w9 fun (z10 : Int × Unit) w11 (K12 : Int × Unit → World → Prop) =>
  LoadS w11 ⟨b1, 4, none⟩ .sl fun (x13 : SlV) =>
  cond (decide (z10.1 < ((x13.n : Nat) : Int)))
  (LoadS w11 ⟨b1, 4, none⟩ .sl fun (x14 : SlV) =>
  (0 ≤ z10.1 ∧ z10.1 < ((x14.n : Nat) : Int)) ∧ ∃ q15 : Addr, x14.a = some q15 ∧
  LoadS w11 (q15.add (z10.1.toNat * 16)) (.int .i64) fun (x16 : Int) =>
  cond (x16 != p1)
  (DrawV fun D17 =>
  (D17 b1 ∧ LoadS w11.drew ⟨b1, 4, none⟩ .sl fun (x18 : SlV) =>
  (0 ≤ z10.1 ∧ z10.1 < ((x18.n : Nat) : Int)) ∧ ∃ q19 : Addr, x18.a = some q19 ∧
  (D17 (q19.add (z10.1.toNat * 16)).block ∧ LoadA w11.drew (q19.add (z10.1.toNat * 16)) [.int .i64, .int .i64, .int .i64, .int .i64, .int .i64, .int .i64, .int .i64, .int .u32, .int .u64, .int .u64, .int .i64, .int .i64, .int .i64, .int .u32, .int .u64, .int .u64] fun (x20 : Int × Int × Int × Int × Int × Int × Int × Int × Int × Int × Int × Int × Int × Int × Int × Int × Unit) =>
  ((LoadS w11.drew ⟨b6, 4, none⟩ .sl fun (x21 : SlV) =>
  KeepOn D17 w11.drew w11.drew ∧
  NewV #[.int .i64 x20.1, .int .i64 x20.2.1, .int .i64 x20.2.2.1, .int .i64 x20.2.2.2.1, .int .i64 x20.2.2.2.2.1, .int .i64 x20.2.2.2.2.2.1, .int .i64 x20.2.2.2.2.2.2.1, .int .u32 x20.2.2.2.2.2.2.2.1, .int .u64 x20.2.2.2.2.2.2.2.2.1, .int .u64 x20.2.2.2.2.2.2.2.2.2.1, .int .i64 x20.2.2.2.2.2.2.2.2.2.2.1, .int .i64 x20.2.2.2.2.2.2.2.2.2.2.2.1, .int .i64 x20.2.2.2.2.2.2.2.2.2.2.2.2.1, .int .u32 x20.2.2.2.2.2.2.2.2.2.2.2.2.2.1, .int .u64 x20.2.2.2.2.2.2.2.2.2.2.2.2.2.2.1, .int .u64 x20.2.2.2.2.2.2.2.2.2.2.2.2.2.2.2.1] 93 w11.drew fun b22 w23 =>
  KeepOn D17 w11.drew w23 ∧
  AppS w23 (some ⟨b22, 0, none⟩) 1 16 fun ns28 =>
  AppV w23 93 16 128 x21.a x21.n x21.c ns28 1 fun a24 n25 c26 w27 =>
  KeepOn D17 w11.drew w27 ∧
  StoreV w27 ⟨b6, 4, none⟩ [.slice a24 n25 c26] fun w29 =>
  KeepOn D17 w11.drew w29 ∧
  Rng .i64 (z10.1 + 1) ∧
  K12 (z10.1 + 1, ()) w29) ∧
  (NewV #[.int .i64 x20.1, .int .i64 x20.2.1, .int .i64 x20.2.2.1, .int .i64 x20.2.2.2.1, .int .i64 x20.2.2.2.2.1, .int .i64 x20.2.2.2.2.2.1, .int .i64 x20.2.2.2.2.2.2.1, .int .u32 x20.2.2.2.2.2.2.2.1, .int .u64 x20.2.2.2.2.2.2.2.2.1, .int .u64 x20.2.2.2.2.2.2.2.2.2.1, .int .i64 x20.2.2.2.2.2.2.2.2.2.2.1, .int .i64 x20.2.2.2.2.2.2.2.2.2.2.2.1, .int .i64 x20.2.2.2.2.2.2.2.2.2.2.2.2.1, .int .u32 x20.2.2.2.2.2.2.2.2.2.2.2.2.2.1, .int .u64 x20.2.2.2.2.2.2.2.2.2.2.2.2.2.2.1, .int .u64 x20.2.2.2.2.2.2.2.2.2.2.2.2.2.2.2.1] 93 w11.drew fun b30 w31 =>
  KeepOn D17 w11.drew w31 ∧
  LoadS w31 ⟨b6, 4, none⟩ .sl fun (x32 : SlV) =>
  KeepOn D17 w11.drew w31 ∧
  AppS w31 (some ⟨b30, 0, none⟩) 1 16 fun ns37 =>
  AppV w31 93 16 128 x32.a x32.n x32.c ns37 1 fun a33 n34 c35 w36 =>
  KeepOn D17 w11.drew w36 ∧
  StoreV w36 ⟨b6, 4, none⟩ [.slice a33 n34 c35] fun w38 =>
  KeepOn D17 w11.drew w38 ∧
  Rng .i64 (z10.1 + 1) ∧
  K12 (z10.1 + 1, ()) w38)))))
  (Rng .i64 (z10.1 + 1) ∧
  K12 (z10.1 + 1, ()) w11))
  (DrawV fun D39 =>
  (D39 b6 ∧ LoadA w11.drew ⟨b6, 0, none⟩ [.int .i64, .int .i64, .int .i64, .int .i64, .sl] fun (x40 : Int × Int × Int × Int × SlV × Unit) =>
  (D39 b1 ∧ LoadA w11.drew ⟨b1, 0, none⟩ [.int .i64, .int .i64, .int .i64, .int .i64, .sl] fun (x41 : Int × Int × Int × Int × SlV × Unit) =>
  (D39 b6 ∧ LoadA w11.drew ⟨b6, 0, none⟩ [.int .i64, .int .i64, .int .i64, .int .i64, .sl] fun (x42 : Int × Int × Int × Int × SlV × Unit) =>
  CallV Try.prog 100 #[.agg #[.int .i64 x41.1, .int .i64 x41.2.1, .int .i64 x41.2.2.1, .int .i64 x41.2.2.2.1, .slice x41.2.2.2.2.1.a x41.2.2.2.2.1.n x41.2.2.2.2.1.c], .agg #[.int .i64 x42.1, .int .i64 x42.2.1, .int .i64 x42.2.2.1, .int .i64 x42.2.2.2.1, .slice x42.2.2.2.2.1.a x42.2.2.2.2.1.n x42.2.2.2.2.1.c]] w11.drew [.one .sl] fun (r43 : SlV × Unit) w44 =>
  KeepOn D39 w11.drew w44 ∧
  StoreV w44 ⟨b3, 0, none⟩ [.int .i64 x40.1, .int .i64 x40.2.1, .int .i64 x40.2.2.1, .int .i64 x40.2.2.2.1, .slice x40.2.2.2.2.1.a x40.2.2.2.2.1.n x40.2.2.2.2.1.c] fun w45 =>
  KeepOn D39 w11.drew w45 ∧
  LoadA w45 ⟨b3, 0, none⟩ [.int .i64, .int .i64, .int .i64, .int .i64, .sl] fun (x46 : Int × Int × Int × Int × SlV × Unit) =>
  K ((x46.1, x46.2.1, x46.2.2.1, x46.2.2.2.1, x46.2.2.2.2.1, ()), r43.1, ()) w45))))
theorem ref22_Drop.vc (p0_0 : Int) (p0_1 : Int) (p0_2 : Int) (p0_3 : Int) (a0_4 : Option Addr) (n0_4 c0_4 : Nat) (p1 : Int) (w : World) (K : (Int × Int × Int × Int × SlV × Unit) × SlV × Unit → World → Prop) (h : ref22_Drop.P p0_0 p0_1 p0_2 p0_3 a0_4 n0_4 c0_4 p1 w K) : CallV Try.prog 82 #[.agg #[.int .i64 p0_0, .int .i64 p0_1, .int .i64 p0_2, .int .i64 p0_3, .slice a0_4 n0_4 c0_4], .int .i64 p1] w [.agg [.int .i64, .int .i64, .int .i64, .int .i64, .sl], .one .sl] K := by
  have e : vcFun Try.prog okf false Try.f82 ref22_Drop.A #[.agg #[.int .i64 p0_0, .int .i64 p0_1, .int .i64 p0_2, .int .i64 p0_3, .slice a0_4 n0_4 c0_4], .int .i64 p1] w [.agg [.int .i64, .int .i64, .int .i64, .int .i64, .sl], .one .sl] K = ref22_Drop.P p0_0 p0_1 p0_2 p0_3 a0_4 n0_4 c0_4 p1 w K := by kernel_rfl
  exact vcFun.calls okf_ok follows Try.func82 (e.symm ▸ h)

/-! ### nepenthe/nepentheref22.Move: function 86 -/
-- loop 0 carries 10: .one (.int .i64)
def ref22_Move.A : Ann := .two .no (.two .no (.two (.two .no (.one (.loop [10, 11, 15, 16, 17, 18, 19, 20, 21, 22, 23, 24, 25, 26, 27, 28, 29, 30, 31, 32, 33, 34, 35, 36, 37, 38, 39, 40, 41, 42, 43] [(10, .one (.int .i64))] .no))) .no))
def ref22_Move.P (p0_0 : Int) (p0_1 : Int) (p0_2 : Int) (p0_3 : Int) (a0_4 : Option Addr) (n0_4 c0_4 : Nat) (p1_0 : Int) (p1_1 : Int) (p2_0 : Int) (p2_1 : Int) (p3_0 : Int) (p3_1 : Int) (p3_2 : Int) (p3_3 : Int) (p3_4 : Int) (p3_5 : Int) (w : World) (K : (Int × Int × Int × Int × SlV × Unit) × Unit → World → Prop) : Prop :=
  NewV #[.int .i64 p0_0, .int .i64 p0_1, .int .i64 p0_2, .int .i64 p0_3, .slice a0_4 n0_4 c0_4] 81 w fun b1 w2 =>
  NewV #[.int .i64 p1_0, .int .i64 p1_1] 55 w2 fun b3 w4 =>
  NewV #[.int .i64 p2_0, .int .i64 p2_1] 55 w4 fun b5 w6 =>
  NewV #[.int .i64 p3_0, .int .i64 p3_1, .int .i64 p3_2, .int .u32 p3_3, .int .u64 p3_4, .int .u64 p3_5] 59 w6 fun b7 w8 =>
  NewV #[.int .i64 0, .int .i64 0, .int .i64 0, .int .i64 0, .slice none 0 0] 81 w8 fun b9 w10 =>
  LoadA w10 ⟨b1, 0, none⟩ [.int .i64, .int .i64, .int .i64, .int .i64] fun (x11 : Int × Int × Int × Int × Unit) =>
  NewV #[.int .i64 0, .int .i64 0, .int .i64 0, .int .i64 0, .slice none 0 0] 81 w10 fun b12 w13 =>
  StoreV w13 ⟨b12, 0, none⟩ [.int .i64 x11.1, .int .i64 x11.2.1, .int .i64 x11.2.2.1, .int .i64 x11.2.2.2.1, .slice none 0 0] fun w14 =>
  LoopV [.one (.int .i64)] ((0 : Int), ()) w14 fun (z15 : Int × Unit) w16 (K17 : Int × Unit → World → Prop) =>
  LoadS w16 ⟨b1, 4, none⟩ .sl fun (x18 : SlV) =>
  cond (decide (z15.1 < ((x18.n : Nat) : Int)))
  (LoadS w16 ⟨b1, 4, none⟩ .sl fun (x19 : SlV) =>
  (0 ≤ z15.1 ∧ z15.1 < ((x19.n : Nat) : Int)) ∧ ∃ q20 : Addr, x19.a = some q20 ∧
  LoadA w16 (q20.add (z15.1.toNat * 16)) [.int .i64, .int .i64, .int .i64, .int .i64, .int .i64, .int .i64, .int .i64, .int .u32, .int .u64, .int .u64, .int .i64, .int .i64, .int .i64, .int .u32, .int .u64, .int .u64] fun (x21 : Int × Int × Int × Int × Int × Int × Int × Int × Int × Int × Int × Int × Int × Int × Int × Int × Unit) =>
  NewV #[.int .i64 0, .int .i64 0, .int .i64 0, .int .i64 0, .int .i64 0, .int .i64 0, .int .i64 0, .int .u32 0, .int .u64 0, .int .u64 0, .int .i64 0, .int .i64 0, .int .i64 0, .int .u32 0, .int .u64 0, .int .u64 0] 93 w16 fun b22 w23 =>
  StoreV w23 ⟨b22, 0, none⟩ [.int .i64 x21.1, .int .i64 x21.2.1, .int .i64 x21.2.2.1, .int .i64 x21.2.2.2.1, .int .i64 x21.2.2.2.2.1, .int .i64 x21.2.2.2.2.2.1, .int .i64 x21.2.2.2.2.2.2.1, .int .u32 x21.2.2.2.2.2.2.2.1, .int .u64 x21.2.2.2.2.2.2.2.2.1, .int .u64 x21.2.2.2.2.2.2.2.2.2.1, .int .i64 x21.2.2.2.2.2.2.2.2.2.2.1, .int .i64 x21.2.2.2.2.2.2.2.2.2.2.2.1, .int .i64 x21.2.2.2.2.2.2.2.2.2.2.2.2.1, .int .u32 x21.2.2.2.2.2.2.2.2.2.2.2.2.2.1, .int .u64 x21.2.2.2.2.2.2.2.2.2.2.2.2.2.2.1, .int .u64 x21.2.2.2.2.2.2.2.2.2.2.2.2.2.2.2.1] fun w24 =>
  LoadA w24 ⟨b22, 2, none⟩ [.int .i64, .int .i64] fun (x25 : Int × Int × Unit) =>
  LoadA w24 ⟨b3, 0, none⟩ [.int .i64, .int .i64] fun (x26 : Int × Int × Unit) =>
  AggEq Try.prog 55 #[.int .i64 x25.1, .int .i64 x25.2.1] #[.int .i64 x26.1, .int .i64 x26.2.1] fun e27 =>
  cond e27
  (LoadA w24 ⟨b5, 0, none⟩ [.int .i64, .int .i64] fun (x28 : Int × Int × Unit) =>
  StoreV w24 ⟨b22, 2, none⟩ [.int .i64 x28.1, .int .i64 x28.2.1] fun w29 =>
  LoadA w29 ⟨b7, 0, none⟩ [.int .i64, .int .i64, .int .i64, .int .u32, .int .u64, .int .u64] fun (x30 : Int × Int × Int × Int × Int × Int × Unit) =>
  StoreV w29 ⟨b22, 10, none⟩ [.int .i64 x30.1, .int .i64 x30.2.1, .int .i64 x30.2.2.1, .int .u32 x30.2.2.2.1, .int .u64 x30.2.2.2.2.1, .int .u64 x30.2.2.2.2.2.1] fun w31 =>
  LoadS w31 ⟨b12, 4, none⟩ .sl fun (x32 : SlV) =>
  LoadA w31 ⟨b22, 0, none⟩ [.int .i64, .int .i64, .int .i64, .int .i64, .int .i64, .int .i64, .int .i64, .int .u32, .int .u64, .int .u64, .int .i64, .int .i64, .int .i64, .int .u32, .int .u64, .int .u64] fun (x33 : Int × Int × Int × Int × Int × Int × Int × Int × Int × Int × Int × Int × Int × Int × Int × Int × Unit) =>
  NewV #[.int .i64 x33.1, .int .i64 x33.2.1, .int .i64 x33.2.2.1, .int .i64 x33.2.2.2.1, .int .i64 x33.2.2.2.2.1, .int .i64 x33.2.2.2.2.2.1, .int .i64 x33.2.2.2.2.2.2.1, .int .u32 x33.2.2.2.2.2.2.2.1, .int .u64 x33.2.2.2.2.2.2.2.2.1, .int .u64 x33.2.2.2.2.2.2.2.2.2.1, .int .i64 x33.2.2.2.2.2.2.2.2.2.2.1, .int .i64 x33.2.2.2.2.2.2.2.2.2.2.2.1, .int .i64 x33.2.2.2.2.2.2.2.2.2.2.2.2.1, .int .u32 x33.2.2.2.2.2.2.2.2.2.2.2.2.2.1, .int .u64 x33.2.2.2.2.2.2.2.2.2.2.2.2.2.2.1, .int .u64 x33.2.2.2.2.2.2.2.2.2.2.2.2.2.2.2.1] 93 w31 fun b34 w35 =>
  AppS w35 (some ⟨b34, 0, none⟩) 1 16 fun ns40 =>
  AppV w35 93 16 128 x32.a x32.n x32.c ns40 1 fun a36 n37 c38 w39 =>
  StoreV w39 ⟨b12, 4, none⟩ [.slice a36 n37 c38] fun w41 =>
  Rng .i64 (z15.1 + 1) ∧
  K17 (z15.1 + 1, ()) w41)
  (LoadS w24 ⟨b12, 4, none⟩ .sl fun (x42 : SlV) =>
  LoadA w24 ⟨b22, 0, none⟩ [.int .i64, .int .i64, .int .i64, .int .i64, .int .i64, .int .i64, .int .i64, .int .u32, .int .u64, .int .u64, .int .i64, .int .i64, .int .i64, .int .u32, .int .u64, .int .u64] fun (x43 : Int × Int × Int × Int × Int × Int × Int × Int × Int × Int × Int × Int × Int × Int × Int × Int × Unit) =>
  NewV #[.int .i64 x43.1, .int .i64 x43.2.1, .int .i64 x43.2.2.1, .int .i64 x43.2.2.2.1, .int .i64 x43.2.2.2.2.1, .int .i64 x43.2.2.2.2.2.1, .int .i64 x43.2.2.2.2.2.2.1, .int .u32 x43.2.2.2.2.2.2.2.1, .int .u64 x43.2.2.2.2.2.2.2.2.1, .int .u64 x43.2.2.2.2.2.2.2.2.2.1, .int .i64 x43.2.2.2.2.2.2.2.2.2.2.1, .int .i64 x43.2.2.2.2.2.2.2.2.2.2.2.1, .int .i64 x43.2.2.2.2.2.2.2.2.2.2.2.2.1, .int .u32 x43.2.2.2.2.2.2.2.2.2.2.2.2.2.1, .int .u64 x43.2.2.2.2.2.2.2.2.2.2.2.2.2.2.1, .int .u64 x43.2.2.2.2.2.2.2.2.2.2.2.2.2.2.2.1] 93 w24 fun b44 w45 =>
  AppS w45 (some ⟨b44, 0, none⟩) 1 16 fun ns50 =>
  AppV w45 93 16 128 x42.a x42.n x42.c ns50 1 fun a46 n47 c48 w49 =>
  StoreV w49 ⟨b12, 4, none⟩ [.slice a46 n47 c48] fun w51 =>
  Rng .i64 (z15.1 + 1) ∧
  K17 (z15.1 + 1, ()) w51))
  (LoadA w16 ⟨b12, 0, none⟩ [.int .i64, .int .i64, .int .i64, .int .i64, .sl] fun (x52 : Int × Int × Int × Int × SlV × Unit) =>
  StoreV w16 ⟨b9, 0, none⟩ [.int .i64 x52.1, .int .i64 x52.2.1, .int .i64 x52.2.2.1, .int .i64 x52.2.2.2.1, .slice x52.2.2.2.2.1.a x52.2.2.2.2.1.n x52.2.2.2.2.1.c] fun w53 =>
  LoadA w53 ⟨b9, 0, none⟩ [.int .i64, .int .i64, .int .i64, .int .i64, .sl] fun (x54 : Int × Int × Int × Int × SlV × Unit) =>
  K ((x54.1, x54.2.1, x54.2.2.1, x54.2.2.2.1, x54.2.2.2.2.1, ()), ()) w53)
theorem ref22_Move.vc (p0_0 : Int) (p0_1 : Int) (p0_2 : Int) (p0_3 : Int) (a0_4 : Option Addr) (n0_4 c0_4 : Nat) (p1_0 : Int) (p1_1 : Int) (p2_0 : Int) (p2_1 : Int) (p3_0 : Int) (p3_1 : Int) (p3_2 : Int) (p3_3 : Int) (p3_4 : Int) (p3_5 : Int) (w : World) (K : (Int × Int × Int × Int × SlV × Unit) × Unit → World → Prop) (h : ref22_Move.P p0_0 p0_1 p0_2 p0_3 a0_4 n0_4 c0_4 p1_0 p1_1 p2_0 p2_1 p3_0 p3_1 p3_2 p3_3 p3_4 p3_5 w K) : CallV Try.prog 86 #[.agg #[.int .i64 p0_0, .int .i64 p0_1, .int .i64 p0_2, .int .i64 p0_3, .slice a0_4 n0_4 c0_4], .agg #[.int .i64 p1_0, .int .i64 p1_1], .agg #[.int .i64 p2_0, .int .i64 p2_1], .agg #[.int .i64 p3_0, .int .i64 p3_1, .int .i64 p3_2, .int .u32 p3_3, .int .u64 p3_4, .int .u64 p3_5]] w [.agg [.int .i64, .int .i64, .int .i64, .int .i64, .sl]] K := by
  have e : vcFun Try.prog okf false Try.f86 ref22_Move.A #[.agg #[.int .i64 p0_0, .int .i64 p0_1, .int .i64 p0_2, .int .i64 p0_3, .slice a0_4 n0_4 c0_4], .agg #[.int .i64 p1_0, .int .i64 p1_1], .agg #[.int .i64 p2_0, .int .i64 p2_1], .agg #[.int .i64 p3_0, .int .i64 p3_1, .int .i64 p3_2, .int .u32 p3_3, .int .u64 p3_4, .int .u64 p3_5]] w [.agg [.int .i64, .int .i64, .int .i64, .int .i64, .sl]] K = ref22_Move.P p0_0 p0_1 p0_2 p0_3 a0_4 n0_4 c0_4 p1_0 p1_1 p2_0 p2_1 p3_0 p3_1 p3_2 p3_3 p3_4 p3_5 w K := by kernel_rfl
  exact vcFun.calls okf_ok follows Try.func86 (e.symm ▸ h)

/-! ### nepenthe/nepentheref22.Data: function 87 -/
-- loop 0 carries 5: .one (.int .i64), 6: .one (.int .i64)
def ref22_Data.A : Ann := .two .no (.two .no (.two (.two .no (.one (.loop [5, 6, 7, 8, 9, 10, 11, 12, 13, 14, 15, 16, 17, 18, 19, 20, 21, 22, 23, 24, 25, 26, 27, 28, 29, 30, 31, 32, 33, 34] [(5, .one (.int .i64)), (6, .one (.int .i64))] .no))) .no))
def ref22_Data.P (p0_0 : Int) (p0_1 : Int) (p0_2 : Int) (p0_3 : Int) (a0_4 : Option Addr) (n0_4 c0_4 : Nat) (p1 : Int) (w : World) (K : Int × Unit → World → Prop) : Prop :=
  NewV #[.int .i64 p0_0, .int .i64 p0_1, .int .i64 p0_2, .int .i64 p0_3, .slice a0_4 n0_4 c0_4] 81 w fun b1 w2 =>
  LoopV [.one (.int .i64), .one (.int .i64)] ((0 : Int), (0 : Int), ()) w2 fun (z3 : Int × Int × Unit) w4 (K5 : Int × Int × Unit → World → Prop) =>
  LoadS w4 ⟨b1, 4, none⟩ .sl fun (x6 : SlV) =>
  cond (decide (z3.2.1 < ((x6.n : Nat) : Int)))
  (LoadS w4 ⟨b1, 4, none⟩ .sl fun (x7 : SlV) =>
  (0 ≤ z3.2.1 ∧ z3.2.1 < ((x7.n : Nat) : Int)) ∧ ∃ q8 : Addr, x7.a = some q8 ∧
  LoadS w4 (q8.add (z3.2.1.toNat * 16)) (.int .i64) fun (x9 : Int) =>
  cond (x9 == p1)
  (LoadS w4 ⟨b1, 4, none⟩ .sl fun (x10 : SlV) =>
  (0 ≤ z3.2.1 ∧ z3.2.1 < ((x10.n : Nat) : Int)) ∧ ∃ q11 : Addr, x10.a = some q11 ∧
  LoadS w4 (((q11.add (z3.2.1.toNat * 16)).add 2).add 2) (.int .i64) fun (x12 : Int) =>
  cond (x12 == 1)
  (Rng .i64 (z3.1 + 1) ∧
  Rng .i64 (z3.2.1 + 1) ∧
  K5 (z3.1 + 1, z3.2.1 + 1, ()) w4)
  (Rng .i64 (z3.2.1 + 1) ∧
  K5 (z3.1, z3.2.1 + 1, ()) w4))
  (Rng .i64 (z3.2.1 + 1) ∧
  K5 (z3.1, z3.2.1 + 1, ()) w4))
  (K (z3.1, ()) w4)
theorem ref22_Data.vc (p0_0 : Int) (p0_1 : Int) (p0_2 : Int) (p0_3 : Int) (a0_4 : Option Addr) (n0_4 c0_4 : Nat) (p1 : Int) (w : World) (K : Int × Unit → World → Prop) (h : ref22_Data.P p0_0 p0_1 p0_2 p0_3 a0_4 n0_4 c0_4 p1 w K) : CallV Try.prog 87 #[.agg #[.int .i64 p0_0, .int .i64 p0_1, .int .i64 p0_2, .int .i64 p0_3, .slice a0_4 n0_4 c0_4], .int .i64 p1] w [.one (.int .i64)] K := by
  have e : vcFun Try.prog okf false Try.f87 ref22_Data.A #[.agg #[.int .i64 p0_0, .int .i64 p0_1, .int .i64 p0_2, .int .i64 p0_3, .slice a0_4 n0_4 c0_4], .int .i64 p1] w [.one (.int .i64)] K = ref22_Data.P p0_0 p0_1 p0_2 p0_3 a0_4 n0_4 c0_4 p1 w K := by kernel_rfl
  exact vcFun.calls okf_ok follows Try.func87 (e.symm ▸ h)

/-! ### nepenthe/nepenthelaw22.of: function 35 -/
def law22_of.A : Ann := .no
def law22_of.P (p0_0 : Int) (p0_1 : Int) (p0_2 : Int) (p0_3 : Int) (p0_4 : Int) (p0_5 : Int) (p0_6 : Int) (p0_7 : Int) (p0_8 : Int) (p0_9 : Int) (p0_10 : Int) (p0_11 : Int) (p0_12 : Int) (p0_13 : Int) (w : World) (K : (Int × Int × Int × Int × Int × Int × Int × Int × Int × Int × Int × Int × Int × Int × Unit) × Unit → World → Prop) : Prop :=
  NewV #[.int .i64 p0_0, .int .i64 p0_1, .int .i64 p0_2, .int .i64 p0_3, .int .i64 p0_4, .int .u32 p0_5, .int .u64 p0_6, .int .u64 p0_7, .int .i64 p0_8, .int .i64 p0_9, .int .i64 p0_10, .int .u32 p0_11, .int .u64 p0_12, .int .u64 p0_13] 61 w fun b1 w2 =>
  NewV #[.int .i64 0, .int .i64 0, .int .i64 0, .int .i64 0, .int .i64 0, .int .u32 0, .int .u64 0, .int .u64 0, .int .i64 0, .int .i64 0, .int .i64 0, .int .u32 0, .int .u64 0, .int .u64 0] 64 w2 fun b3 w4 =>
  LoadA w4 ⟨b1, 0, none⟩ [.int .i64, .int .i64] fun (x5 : Int × Int × Unit) =>
  LoadA w4 ⟨b1, 2, none⟩ [.int .i64, .int .i64, .int .i64, .int .u32, .int .u64, .int .u64] fun (x6 : Int × Int × Int × Int × Int × Int × Unit) =>
  LoadA w4 ⟨b1, 8, none⟩ [.int .i64, .int .i64, .int .i64, .int .u32, .int .u64, .int .u64] fun (x7 : Int × Int × Int × Int × Int × Int × Unit) =>
  StoreV w4 ⟨b3, 0, none⟩ [.int .i64 x5.1, .int .i64 x5.2.1, .int .i64 x6.1, .int .i64 x6.2.1, .int .i64 x6.2.2.1, .int .u32 x6.2.2.2.1, .int .u64 x6.2.2.2.2.1, .int .u64 x6.2.2.2.2.2.1, .int .i64 x7.1, .int .i64 x7.2.1, .int .i64 x7.2.2.1, .int .u32 x7.2.2.2.1, .int .u64 x7.2.2.2.2.1, .int .u64 x7.2.2.2.2.2.1] fun w8 =>
  LoadA w8 ⟨b3, 0, none⟩ [.int .i64, .int .i64, .int .i64, .int .i64, .int .i64, .int .u32, .int .u64, .int .u64, .int .i64, .int .i64, .int .i64, .int .u32, .int .u64, .int .u64] fun (x9 : Int × Int × Int × Int × Int × Int × Int × Int × Int × Int × Int × Int × Int × Int × Unit) =>
  K ((x9.1, x9.2.1, x9.2.2.1, x9.2.2.2.1, x9.2.2.2.2.1, x9.2.2.2.2.2.1, x9.2.2.2.2.2.2.1, x9.2.2.2.2.2.2.2.1, x9.2.2.2.2.2.2.2.2.1, x9.2.2.2.2.2.2.2.2.2.1, x9.2.2.2.2.2.2.2.2.2.2.1, x9.2.2.2.2.2.2.2.2.2.2.2.1, x9.2.2.2.2.2.2.2.2.2.2.2.2.1, x9.2.2.2.2.2.2.2.2.2.2.2.2.2.1, ()), ()) w8
theorem law22_of.vc (p0_0 : Int) (p0_1 : Int) (p0_2 : Int) (p0_3 : Int) (p0_4 : Int) (p0_5 : Int) (p0_6 : Int) (p0_7 : Int) (p0_8 : Int) (p0_9 : Int) (p0_10 : Int) (p0_11 : Int) (p0_12 : Int) (p0_13 : Int) (w : World) (K : (Int × Int × Int × Int × Int × Int × Int × Int × Int × Int × Int × Int × Int × Int × Unit) × Unit → World → Prop) (h : law22_of.P p0_0 p0_1 p0_2 p0_3 p0_4 p0_5 p0_6 p0_7 p0_8 p0_9 p0_10 p0_11 p0_12 p0_13 w K) : CallV Try.prog 35 #[.agg #[.int .i64 p0_0, .int .i64 p0_1, .int .i64 p0_2, .int .i64 p0_3, .int .i64 p0_4, .int .u32 p0_5, .int .u64 p0_6, .int .u64 p0_7, .int .i64 p0_8, .int .i64 p0_9, .int .i64 p0_10, .int .u32 p0_11, .int .u64 p0_12, .int .u64 p0_13]] w [.agg [.int .i64, .int .i64, .int .i64, .int .i64, .int .i64, .int .u32, .int .u64, .int .u64, .int .i64, .int .i64, .int .i64, .int .u32, .int .u64, .int .u64]] K := by
  have e : vcFun Try.prog okf false Try.f35 law22_of.A #[.agg #[.int .i64 p0_0, .int .i64 p0_1, .int .i64 p0_2, .int .i64 p0_3, .int .i64 p0_4, .int .u32 p0_5, .int .u64 p0_6, .int .u64 p0_7, .int .i64 p0_8, .int .i64 p0_9, .int .i64 p0_10, .int .u32 p0_11, .int .u64 p0_12, .int .u64 p0_13]] w [.agg [.int .i64, .int .i64, .int .i64, .int .i64, .int .i64, .int .u32, .int .u64, .int .u64, .int .i64, .int .i64, .int .i64, .int .u32, .int .u64, .int .u64]] K = law22_of.P p0_0 p0_1 p0_2 p0_3 p0_4 p0_5 p0_6 p0_7 p0_8 p0_9 p0_10 p0_11 p0_12 p0_13 w K := by kernel_rfl
  exact vcFun.calls okf_ok follows Try.func35 (e.symm ▸ h)

/-! ### nepenthe/nepenthelaw22.awake: function 36 -/
def law22_awake.A : Ann := .no
def law22_awake.P  (w : World) (K : Bool × Unit → World → Prop) : Prop :=
  CallV Try.prog 37 #[] w [.one .ptr] fun (r1 : (Option Addr) × Unit) w2 =>
  CallV Try.prog 38 #[.pointer r1.1, .int .i64 1, .int .i64 5] w2 [.one (.int .i64)] fun (r3 : Int × Unit) w4 =>
  CallV Try.prog 39 #[.pointer r1.1, .agg #[.int .i64 0, .int .i64 0, .int .i64 1, .int .i64 1, .int .i64 1, .int .u32 3, .int .u64 0, .int .u64 0, .int .i64 0, .int .i64 0, .int .i64 0, .int .u32 0, .int .u64 0, .int .u64 0]] w4 [.one .sl, .one (.int .i64)] fun (r5 : SlV × Int × Unit) w6 =>
  CallV Try.prog 40 #[.pointer r1.1, .int .i64 1, .int .i64 3] w6 [.agg [.int .i64, .int .i64, .int .i64, .int .i64, .int .i64, .int .u32, .int .u64, .int .u64, .int .i64, .int .i64, .int .i64, .int .u32, .int .u64, .int .u64], .one .bool] fun (r7 : (Int × Int × Int × Int × Int × Int × Int × Int × Int × Int × Int × Int × Int × Int × Unit) × Bool × Unit) w8 =>
  NewV #[.int .i64 0, .int .i64 0, .int .i64 0, .int .i64 0, .int .i64 0, .int .u32 0, .int .u64 0, .int .u64 0, .int .i64 0, .int .i64 0, .int .i64 0, .int .u32 0, .int .u64 0, .int .u64 0] 61 w8 fun b9 w10 =>
  StoreV w10 ⟨b9, 0, none⟩ [.int .i64 r7.1.1, .int .i64 r7.1.2.1, .int .i64 r7.1.2.2.1, .int .i64 r7.1.2.2.2.1, .int .i64 r7.1.2.2.2.2.1, .int .u32 r7.1.2.2.2.2.2.1, .int .u64 r7.1.2.2.2.2.2.2.1, .int .u64 r7.1.2.2.2.2.2.2.2.1, .int .i64 r7.1.2.2.2.2.2.2.2.2.1, .int .i64 r7.1.2.2.2.2.2.2.2.2.2.1, .int .i64 r7.1.2.2.2.2.2.2.2.2.2.2.1, .int .u32 r7.1.2.2.2.2.2.2.2.2.2.2.2.1, .int .u64 r7.1.2.2.2.2.2.2.2.2.2.2.2.2.1, .int .u64 r7.1.2.2.2.2.2.2.2.2.2.2.2.2.2.1] fun w11 =>
  cond (r3.1 == 0)
  (cond (r5.2.1 == 0)
  (cond r7.2.1
  (CallV Try.prog 48 #[.pointer r1.1, .int .i64 1] w11 [.one (.int .i64)] fun (r12 : Int × Unit) w13 =>
  K ((r12.1 == 5), ()) w13)
  (K (false, ()) w11))
  (K (false, ()) w11))
  (K (false, ()) w11)
theorem law22_awake.vc  (w : World) (K : Bool × Unit → World → Prop) (h : law22_awake.P  w K) : CallV Try.prog 36 #[] w [.one .bool] K := by
  have e : vcFun Try.prog okf false Try.f36 law22_awake.A #[] w [.one .bool] K = law22_awake.P  w K := by kernel_rfl
  exact vcFun.calls okf_ok follows Try.func36 (e.symm ▸ h)

end Go.Proofs.Ytiemdjnmghackaa.Vc

/-! The contracts of layer 22 (pagemap): what is newer. -/
namespace Go.Proofs.Ytiemdjnmghackaa.Vc
open Go Go.Eng Go.RowKit
set_option linter.unusedVariables false
set_option linter.unusedSimpArgs false

structure Hh where
  k : Int
  n : Int
  c : Int
  l : Int
  e : Int
  t : Int
abbrev Hh.vs (h : Hh) : List Value := [.int .i64 h.k, .int .i64 h.n, .int .i64 h.c, .int .u32 h.l, .int .u64 h.e, .int .u64 h.t]
abbrev Hh.val (h : Hh) : Value := .agg #[.int .i64 h.k, .int .i64 h.n, .int .i64 h.c, .int .u32 h.l, .int .u64 h.e, .int .u64 h.t]
/-- A page, as it speaks of sectors. -/
structure Sp where
  b : Int
  p : Int
  h : Hh
  o : Hh
abbrev Sp.vs (s : Sp) : List Value := [.int .i64 s.b, .int .i64 s.p, .int .i64 s.h.k, .int .i64 s.h.n, .int .i64 s.h.c, .int .u32 s.h.l, .int .u64 s.h.e, .int .u64 s.h.t, .int .i64 s.o.k, .int .i64 s.o.n, .int .i64 s.o.c, .int .u32 s.o.l, .int .u64 s.o.e, .int .u64 s.o.t]
abbrev Sp.val (s : Sp) : Value := .agg #[.int .i64 s.b, .int .i64 s.p, .int .i64 s.h.k, .int .i64 s.h.n, .int .i64 s.h.c, .int .u32 s.h.l, .int .u64 s.h.e, .int .u64 s.h.t, .int .i64 s.o.k, .int .i64 s.o.n, .int .i64 s.o.c, .int .u32 s.o.l, .int .u64 s.o.e, .int .u64 s.o.t]
abbrev Sp.tup (s : Sp) : Int × Int × Int × Int × Int × Int × Int × Int × Int × Int × Int × Int × Int × Int × Unit := (s.b, s.p, s.h.k, s.h.n, s.h.c, s.h.l, s.h.e, s.h.t, s.o.k, s.o.n, s.o.c, s.o.l, s.o.e, s.o.t, ())
abbrev SH14 : List SS := [.int .i64, .int .i64, .int .i64, .int .i64, .int .i64, .int .u32, .int .u64, .int .u64, .int .i64, .int .i64, .int .i64, .int .u32, .int .u64, .int .u64]
def Hh0 : Hh := ⟨0, 0, 0, 0, 0, 0⟩
def Sp0 : Sp := ⟨0, 0, Hh0, Hh0⟩
def lesH (a b : Hh) : Prop := a.e < b.e ∨ a.e = b.e ∧ a.t < b.t
instance (a b : Hh) : Decidable (lesH a b) := by unfold lesH; infer_instance
def newH (a b : Sp) : Prop := lesH b.h a.h ∨ ¬ lesH a.h b.h ∧ lesH b.o a.o
instance (a b : Sp) : Decidable (newH a b) := by unfold newH; infer_instance

section
variable {w : World}
theorem Less22_c {a b : Hh} : CallV Try.prog 75 #[a.val, b.val] w [.one .bool] fun r w' => r.1 = decide (lesH a b) ∧ Ext w w' := by
  apply head_Less.vc
  unfold head_Less.P
  have S := Sep.start NoB w
  refine S.newB fun b1 _ S _ _ => ?_
  refine S.newB fun b3 _ S _ _ => ?_
  unfold lesH
  refine S.ld1 (j := 4) rfl rfl (S.ld0 (j := 4) rfl rfl (cond_ne (fun h => ?_) (fun h => ?_)))
  · refine S.ld1 (j := 4) rfl rfl (S.ld0 (j := 4) rfl rfl ⟨decide_eq_decide.2 ⟨fun k => .inl k, fun k => k.elim id fun k => absurd k.1 h⟩, S.ext⟩)
  · refine S.ld1 (j := 5) rfl rfl (S.ld0 (j := 5) rfl rfl ⟨decide_eq_decide.2 ⟨fun k => .inr ⟨h, k⟩, fun k => k.elim (fun k => by omega) fun k => k.2⟩, S.ext⟩)
theorem rLess22_c {a b : Hh} : CallV Try.prog 76 #[a.val, b.val] w [.one .bool] fun r w' => r.1 = decide (lesH a b) ∧ Ext w w' := by
  apply ref22_less.vc
  unfold ref22_less.P
  have S := Sep.start NoB w
  refine S.newB fun b1 _ S _ _ => ?_
  refine S.newB fun b3 _ S _ _ => ?_
  unfold lesH
  refine S.ld1 (j := 4) rfl rfl (S.ld0 (j := 4) rfl rfl (cond_d (fun h => ⟨(decide_eq_true (.inl h)).symm, S.ext⟩) (fun h => ?_)))
  refine S.ld1 (j := 4) rfl rfl (S.ld0 (j := 4) rfl rfl (cond_eq (fun h2 => ?_) (fun h2 => ⟨(decide_eq_false (fun k => k.elim h fun k => h2 k.1)).symm, S.ext⟩)))
  exact S.ld1 (j := 5) rfl rfl (S.ld0 (j := 5) rfl rfl ⟨decide_eq_decide.2 ⟨fun k => .inr ⟨h2, k⟩, fun k => k.elim (fun k => absurd k h) fun k => k.2⟩, S.ext⟩)
theorem Newer22_c {a b : Sp} : CallV Try.prog 33 #[a.val, b.val] w [.one .bool] fun r w' => r.1 = decide (newH a b) ∧ Ext w w' := by
  apply pagemap_Newer.vc
  unfold pagemap_Newer.P
  have S := Sep.start NoB w
  refine S.newB fun b1 _ S _ _ => ?_
  refine S.newB fun b3 _ S _ _ => ?_
  refine S.lb0 (o := 2) rfl (S.lb1 (o := 2) rfl ?_)
  refine (Less22_c (a := b.h) (b := a.h)).mono ?_
  rintro ⟨(r : Bool), ⟨⟩⟩ w2 ⟨h2, x2⟩
  dsimp only at h2 ⊢
  subst h2
  have S := S.stepE x2
  unfold newH
  refine cond_d (fun h => ⟨(decide_eq_true (.inl h)).symm, S.ext⟩) (fun h => ?_)
  refine S.lb1 (o := 2) rfl (S.lb0 (o := 2) rfl ?_)
  refine (Less22_c (a := a.h) (b := b.h)).mono ?_
  rintro ⟨(r : Bool), ⟨⟩⟩ w3 ⟨h3, x3⟩
  dsimp only at h3 ⊢
  subst h3
  have S := S.stepE x3
  refine cond_d (fun h2 => ⟨(decide_eq_false (fun k => k.elim h fun k => k.1 h2)).symm, S.ext⟩) (fun h2 => ?_)
  refine S.lb0 (o := 8) rfl (S.lb1 (o := 8) rfl ?_)
  refine (Less22_c (a := b.o) (b := a.o)).mono ?_
  rintro ⟨(r : Bool), ⟨⟩⟩ w4 ⟨h4, x4⟩
  dsimp only at h4 ⊢
  subst h4
  exact ⟨decide_eq_decide.2 ⟨fun k => .inr ⟨h2, k⟩, fun k => k.elim (fun k => absurd k h) fun k => k.2⟩, (S.stepE x4).ext⟩
theorem rNewer22_c {a b : Sp} : CallV Try.prog 34 #[a.val, b.val] w [.one .bool] fun r w' => r.1 = decide (newH a b) ∧ Ext w w' := by
  apply ref22_Newer.vc
  unfold ref22_Newer.P
  have S := Sep.start NoB w
  refine S.newB fun b1 _ S _ _ => ?_
  refine S.newB fun b3 _ S _ _ => ?_
  refine S.lb0 (o := 2) rfl (S.lb1 (o := 2) rfl ?_)
  refine (rLess22_c (a := b.h) (b := a.h)).mono ?_
  rintro ⟨(r : Bool), ⟨⟩⟩ w2 ⟨h2, x2⟩
  dsimp only at h2 ⊢
  subst h2
  have S := S.stepE x2
  unfold newH
  refine cond_d (fun h => ⟨(decide_eq_true (.inl h)).symm, S.ext⟩) (fun h => ?_)
  refine S.lb1 (o := 2) rfl (S.lb0 (o := 2) rfl ?_)
  refine (rLess22_c (a := a.h) (b := b.h)).mono ?_
  rintro ⟨(r : Bool), ⟨⟩⟩ w3 ⟨h3, x3⟩
  dsimp only at h3 ⊢
  subst h3
  have S := S.stepE x3
  by_cases h2 : lesH a.h b.h
  · exact cond_f (by rw [decide_eq_true h2]; rfl) ⟨(decide_eq_false (fun k => k.elim h fun k => k.1 h2)).symm, S.ext⟩
  refine cond_t (by rw [decide_eq_false h2]; rfl) ?_
  refine S.lb0 (o := 8) rfl (S.lb1 (o := 8) rfl ?_)
  refine (rLess22_c (a := b.o) (b := a.o)).mono ?_
  rintro ⟨(r : Bool), ⟨⟩⟩ w4 ⟨h4, x4⟩
  dsimp only at h4 ⊢
  subst h4
  exact ⟨decide_eq_decide.2 ⟨fun k => .inr ⟨h2, k⟩, fun k => k.elim (fun k => absurd k h) fun k => k.2⟩, (S.stepE x4).ext⟩
theorem of22_c {a : Sp} : CallV Try.prog 35 #[a.val] w [.agg SH14] fun r w' => r.1 = a.tup ∧ Ext w w' := by
  apply law22_of.vc
  unfold law22_of.P
  have S := Sep.start NoB w
  refine S.newB fun b1 _ S _ _ => ?_
  refine S.newB fun b3 _ S _ _ => ?_
  refine S.lb1 (o := 0) rfl (S.lb1 (o := 2) rfl (S.lb1 (o := 8) rfl (S.st0 (by rfl) fun _ S _ => S.la0 rfl ⟨rfl, S.ext⟩)))
end
end Go.Proofs.Ytiemdjnmghackaa.Vc

/-! What the parameters of a law are known to be, out of the row's input: whole numbers in their range, slices of whole numbers as cells. -/
namespace Go.Proofs.Ytiemdjnmghackaa.Vc
open Go Go.Eng Go.RowKit Go.ChangeShapes
set_option linter.unusedVariables false
set_option linter.unusedSimpArgs false

theorem wfRng {k : IntKind} {n : Int} (h : (Lit.int k n).wf = true) : Rng k n := by
  simpa [Lit.wf, Rng] using h

/-- A parameter that is a slice of whole numbers. -/
structure SlI (W : World) (k : IntKind) (a : Option Addr) (n c : Nat) (l : List Int) (b : Nat) : Prop where
  ints : Ints W k a n c l
  rng : ∀ x ∈ l, Rng k x
  size : n * b ≤ 140737488351232

theorem openInts {H : Type} {enc : TypeId × Value → H} {P : Program} {W : World} {t e : TypeId} {k : IntKind} (ht : P.underlying t = some (.slice e)) (he : P.underlying e = some (.int k)) (hc : P.cellsOf e = 1)
    {ts : List TypeId} {ds : List (DataW H)} {j : Nat} {d : DataW H} (htj : ts[j]? = some t) (hdj : ds[j]? = some d) (hsz : (DataW.weightsEach P ts ds).all (· ≤ reachBytes) = true)
    {a : Option Addr} {n c : Nat} {ps : List MemPlace} (h : DataW.Trod enc P W 0 (fun _ => true) true t (.slice a n c) d ps) : ∃ l, SlI W k a n c l (P.bytesOf e) := by
  obtain ⟨fuel, hf⟩ := h
  rcases open_ints ht he hc hf with ⟨hcs, hx⟩ | ⟨x, len, cap, zs, hcs, _, hl, hm, hz, hx, hcell, hwz⟩
  · simp [Value.cells] at hcs
    obtain ⟨rfl, rfl, rfl⟩ := hcs
    exact ⟨[], ⟨rfl, Nat.le_refl _, by omega, .inl ⟨rfl, rfl⟩⟩, by simp, by simp⟩
  · simp [Value.cells] at hcs
    obtain ⟨rfl, rfl, rfl⟩ := hcs
    simp only [if_true] at hz
    have hdd : d = .slice (lits k (zs.take n)) (lits k (zs.drop n)) := congrArg Prod.fst hx
    subst hdd
    have hb := sized_slice hsz htj hdj ht
    rw [show (lits k (zs.take n) : List (DataW H)).length + (lits k (zs.drop n) : List (DataW H)).length = c by simp [lits]; omega] at hb
    have hml : maxLen = 9223372036854775807 := by decide
    have hll : (zs.take n).length = n := by simp; omega
    refine ⟨zs.take n, ⟨hll, hl, by omega, .inr ⟨x, rfl, fun i v hv => ?_⟩⟩, fun y hy => wfRng (hwz y (List.mem_of_mem_take hy)), ?_⟩
    · obtain ⟨hi, rfl⟩ := List.getElem?_eq_some_iff.1 hv
      rw [List.length_map, hll] at hi
      rw [hcell i (by omega), List.getElem_map, List.getElem_take, List.getD_eq_getElem?_getD, List.getElem?_eq_getElem (by omega), Option.getD_some]
    · refine Nat.le_trans (Nat.mul_le_mul_right _ hl) ?_
      exact hb

theorem SlI.byt {W : World} {a : Option Addr} {n c : Nat} {l : List Int} {b : Nat} (h : SlI W .u8 a n c l b) : ∀ x ∈ l, 0 ≤ x ∧ x < 256 := fun x hx => by
  have := h.rng x hx
  unfold Rng at this
  have e1 : IntKind.u8.min = 0 := by decide
  have e2 : IntKind.u8.max = 255 := by decide
  omega
theorem rng_u64 {x : Int} (h : Rng .u64 x) : 0 ≤ x ∧ x < 18446744073709551616 := by
  unfold Rng at h
  have e1 : IntKind.u64.min = 0 := by decide
  have e2 : IntKind.u64.max = 18446744073709551615 := by decide
  omega
theorem rng_u8 {x : Int} (h : Rng .u8 x) : 0 ≤ x ∧ x < 256 := by
  unfold Rng at h
  have e1 : IntKind.u8.min = 0 := by decide
  have e2 : IntKind.u8.max = 255 := by decide
  omega
theorem rng_i64 {x : Int} (h : Rng .i64 x) : -9223372036854775808 ≤ x ∧ x ≤ 9223372036854775807 := by
  unfold Rng at h
  have e1 : IntKind.i64.min = -9223372036854775808 := by decide
  have e2 : IntKind.i64.max = 9223372036854775807 := by decide
  omega

end Go.Proofs.Ytiemdjnmghackaa.Vc

/-! What any parameter of a law is known to be, out of the row's input: structs, arrays and slices of whole numbers, texts, and of each other. -/
namespace Go.Proofs.Ytiemdjnmghackaa.Vc
open Go Go.Eng Go.RowKit Go.ChangeShapes
set_option linter.unusedVariables false
set_option linter.unusedSimpArgs false

/-- The kinds of parameters; a struct or an array is a chain of its parts. -/
inductive Ty where
  | int (k : IntKind)
  | bool
  | str
  | sl (e : Ty)
  | nil
  | cons (a r : Ty)
/-- A slice that is read. -/
structure SlP (α : Type) where
  a : Option Addr
  n : Nat
  c : Nat
  l : List α
@[reducible] def Ty.T : Ty → Type
  | .int _ => Int
  | .bool => Bool
  | .str => ByteArray
  | .sl e => SlP e.T
  | .nil => Unit
  | .cons a r => a.T × r.T
def Ty.vs : (t : Ty) → t.T → List Value
  | .int k, (x : Int) => [.int k x]
  | .bool, (x : Bool) => [.bool x]
  | .str, (x : ByteArray) => [.string x]
  | .sl e, (x : SlP e.T) => [.slice x.a x.n x.c]
  | .nil, _ => []
  | .cons a r, (x : a.T × r.T) => a.vs x.1 ++ r.vs x.2
def Ty.ok (w : World) : (t : Ty) → t.T → Prop
  | .int k, (x : Int) => Rng k x
  | .bool, _ => True
  | .str, (x : ByteArray) => x.size ≤ maxLen
  | .sl e, (x : SlP e.T) => x.l.length = x.n ∧ x.n ≤ x.c ∧ x.c ≤ maxLen ∧ RdC w x.a (x.l.flatMap e.vs) ∧ ∀ y ∈ x.l, e.ok w y
  | .nil, _ => True
  | .cons a r, (x : a.T × r.T) => a.ok w x.1 ∧ r.ok w x.2
def Ty.n : Ty → Nat
  | .nil => 0
  | .cons a r => a.n + r.n
  | _ => 1
theorem Ty.vs_length : ∀ (t : Ty) (x : t.T), (t.vs x).length = t.n
  | .int k, x => rfl
  | .bool, x => rfl
  | .str, x => rfl
  | .sl e, x => rfl
  | .nil, x => rfl
  | .cons a r, x => by
    show (a.vs x.1 ++ r.vs x.2).length = _
    rw [List.length_append, Ty.vs_length a, Ty.vs_length r]; rfl

/-- A kind's form as fields from a place on. -/
def confF (P : Program) (cf : Ty → TypeId → Bool) : Ty → List Field → Nat → Bool
  | .nil, [], _ => true
  | .cons a r, f :: fs, o => f.offset == o && cf a f.type && P.cellsOf f.type == a.n && confF P cf r fs (o + a.n)
  | _, _, _ => false
def confA (P : Program) (cf : Ty → TypeId → Bool) (e : TypeId) : Ty → Nat → Bool
  | .nil, 0 => true
  | .cons a r, n + 1 => cf a e && P.cellsOf e == a.n && confA P cf e r n
  | _, _ => false
def conf (P : Program) : Nat → Ty → TypeId → Bool
  | 0, _, _ => false
  | d + 1, t, i =>
    match P.underlying i, t with
    | some (.int k), .int k' => decide (k = k')
    | some .bool, .bool => true
    | some .string, .str => true
    | some (.slice e), .sl t => conf P d t e && P.cellsOf e == t.n
    | some (.struct fs), t => confF P (conf P d) t fs.toList 0 && P.cellsOf i == t.n
    | some (.array n e), t => confA P (conf P d) e t n && P.cellsOf i == t.n
    | _, _ => false

theorem CellsAt.append' {w : World} {p : Addr} {xs ys : List Value} (h : CellsAt w p xs) (h' : CellsAt w (p.add xs.length) ys) : CellsAt w p (xs ++ ys) := by
  intro j v hv
  by_cases hj : j < xs.length
  · rw [List.getElem?_append_left hj] at hv; exact h j v hv
  · rw [List.getElem?_append_right (by omega)] at hv
    have := h' _ v hv
    rwa [add_add, show xs.length + (j - xs.length) = j by omega] at this

section
variable {H : Type} {enc : TypeId × Value → H} {P : Program} {w : World}

def Opens (enc : TypeId × Value → H) (P : Program) (w : World) (d : Nat) : Prop :=
  ∀ (ty : Ty) (t : TypeId) (fuel : Nat) (cs : List Value) (x : DataW H × List MemPlace), conf P d ty t = true → DataW.trod enc P w 0 (fun _ => true) true fuel t cs = some x → ∃ v : ty.T, cs = ty.vs v ∧ ty.ok w v

theorem openF {d : Nat} (ih : Opens enc P w d) {n : Nat} {cs : List Value} : ∀ (ty : Ty) (fs : List Field) (o : Nat), confF P (conf P d) ty fs o = true → cs.length = o + ty.n →
    (∀ f ∈ fs, ∃ y, DataW.trod enc P w 0 (fun _ => true) true n f.type ((cs.drop f.offset).take (P.cellsOf f.type)) = some y) → ∃ v : ty.T, cs.drop o = ty.vs v ∧ ty.ok w v
  | .nil, [], o, hc, hl, hf => ⟨(), by simp [Ty.vs, hl, Ty.n], trivial⟩
  | .cons a r, f :: fs, o, hc, hl, hf => by
    simp only [confF, Bool.and_eq_true, beq_iff_eq] at hc
    obtain ⟨⟨⟨h1, h2⟩, h3⟩, h4⟩ := hc
    obtain ⟨y, hy⟩ := hf f (List.mem_cons_self ..)
    obtain ⟨v1, e1, o1⟩ := ih a f.type n _ y h2 hy
    obtain ⟨v2, e2, o2⟩ := openF ih r fs (o + a.n) h4 (by rw [hl]; simp [Ty.n]; omega) (fun f' hf' => hf f' (List.mem_cons_of_mem _ hf'))
    refine ⟨(v1, v2), ?_, o1, o2⟩
    show _ = a.vs v1 ++ r.vs v2
    rw [← e1, ← e2, h1, h3, ← List.drop_drop, List.take_append_drop]
  | .int _, [], _, hc, _, _ => by simp [confF] at hc
  | .int _, _ :: _, _, hc, _, _ => by simp [confF] at hc
  | .bool, [], _, hc, _, _ => by simp [confF] at hc
  | .bool, _ :: _, _, hc, _, _ => by simp [confF] at hc
  | .str, [], _, hc, _, _ => by simp [confF] at hc
  | .str, _ :: _, _, hc, _, _ => by simp [confF] at hc
  | .sl _, [], _, hc, _, _ => by simp [confF] at hc
  | .sl _, _ :: _, _, hc, _, _ => by simp [confF] at hc
  | .nil, _ :: _, _, hc, _, _ => by simp [confF] at hc
  | .cons _ _, [], _, hc, _, _ => by simp [confF] at hc

theorem openA {d : Nat} (ih : Opens enc P w d) {n : Nat} {cs : List Value} {e : TypeId} : ∀ (ty : Ty) (m : Nat) (i : Nat), confA P (conf P d) e ty m = true → cs.length = i * P.cellsOf e + ty.n →
    (∀ j, j < i + m → ∃ y, DataW.trod enc P w 0 (fun _ => true) true n e ((cs.drop (j * P.cellsOf e)).take (P.cellsOf e)) = some y) → ∃ v : ty.T, cs.drop (i * P.cellsOf e) = ty.vs v ∧ ty.ok w v
  | .nil, 0, i, hc, hl, hf => ⟨(), by simp [Ty.vs, hl, Ty.n], trivial⟩
  | .cons a r, m + 1, i, hc, hl, hf => by
    simp only [confA, Bool.and_eq_true, beq_iff_eq] at hc
    obtain ⟨⟨h2, h3⟩, h4⟩ := hc
    obtain ⟨y, hy⟩ := hf i (by omega)
    obtain ⟨v1, e1, o1⟩ := ih a e n _ y h2 hy
    obtain ⟨v2, e2, o2⟩ := openA ih r m (i + 1) h4 (by rw [hl, Nat.add_mul, h3]; simp [Ty.n]; omega) (fun j hj => hf j (by omega))
    refine ⟨(v1, v2), ?_, o1, o2⟩
    show _ = a.vs v1 ++ r.vs v2
    rw [← e1, ← e2, Nat.add_mul, Nat.one_mul, ← List.drop_drop, List.take_append_drop]
  | .int _, 0, _, hc, _, _ => by simp [confA] at hc
  | .int _, _ + 1, _, hc, _, _ => by simp [confA] at hc
  | .bool, 0, _, hc, _, _ => by simp [confA] at hc
  | .bool, _ + 1, _, hc, _, _ => by simp [confA] at hc
  | .str, 0, _, hc, _, _ => by simp [confA] at hc
  | .str, _ + 1, _, hc, _, _ => by simp [confA] at hc
  | .sl _, 0, _, hc, _, _ => by simp [confA] at hc
  | .sl _, _ + 1, _, hc, _, _ => by simp [confA] at hc
  | .nil, _ + 1, _, hc, _, _ => by simp [confA] at hc
  | .cons _ _, 0, _, hc, _, _ => by simp [confA] at hc

theorem openS {d : Nat} (ih : Opens enc P w d) {ty : Ty} {e : TypeId} (hc : conf P d ty e = true) (hn : P.cellsOf e = ty.n) {a : Addr} {len m : Nat}
    (h : ∀ i, i < len → ∃ y, (w.cells? 0 (a.add (i * P.cellsOf e)) (P.cellsOf e)).bind (DataW.trod enc P w 0 (fun _ => true) true m e) = some y) :
    ∃ l : List ty.T, l.length = len ∧ CellsAt w a (l.flatMap ty.vs) ∧ ∀ y ∈ l, ty.ok w y := by
  induction len with
  | zero => exact ⟨[], rfl, fun j v hv => by simp at hv, fun y hy => (List.not_mem_nil hy).elim⟩
  | succ k ih2 =>
    obtain ⟨l, hl, hcl, hol⟩ := ih2 fun i hi => h i (by omega)
    obtain ⟨y, hy⟩ := h k (by omega)
    obtain ⟨c, hcs, ht⟩ := Option.bind_eq_some_iff.1 hy
    obtain ⟨v, e1, o1⟩ := ih ty e m c y hc ht
    obtain ⟨_, hlen, hcell⟩ := World.cells?_some hcs
    refine ⟨l ++ [v], by simp [hl], ?_, ?_⟩
    · rw [List.flatMap_append, List.flatMap_singleton]
      refine CellsAt.append' hcl ?_
      have : (l.flatMap ty.vs).length = k * P.cellsOf e := by
        rw [hn, ← hl]
        clear hcl hol hl
        induction l with
        | nil => simp
        | cons z l ih3 => rw [List.flatMap_cons, List.length_append, Ty.vs_length, ih3, List.length_cons, Nat.add_mul]; omega
      rw [this]
      intro j u hu
      rw [← e1] at hu
      have hj : j < P.cellsOf e := by rw [← hlen]; exact (List.getElem?_eq_some_iff.1 hu).1
      rw [hcell j hj, hu]
    · intro y hy
      rcases List.mem_append.1 hy with h1 | h1
      · exact hol y h1
      · rw [List.mem_singleton.1 h1]; exact o1

theorem opens : ∀ d : Nat, Opens enc P w d
  | 0 => fun ty t fuel cs x hc => by simp [conf] at hc
  | d + 1 => by
    have ih := opens d
    intro ty t fuel cs x hc h
    unfold conf at hc
    split at hc
    · rename_i k k' ht
      obtain ⟨n, rfl, _, hw⟩ := DataW.trod_int ht h
      have := of_decide_eq_true hc
      subst this
      exact ⟨n, rfl, wfRng hw⟩
    · rename_i ht
      obtain ⟨b, rfl, _⟩ := DataW.trod_bool ht h
      exact ⟨b, rfl, trivial⟩
    · rename_i ht
      obtain ⟨s, rfl, _, hs⟩ := DataW.trod_string ht h
      exact ⟨s, rfl, hs⟩
    · rename_i e t' ht
      simp only [Bool.and_eq_true, beq_iff_eq] at hc
      obtain ⟨hc1, hc2⟩ := hc
      rcases DataW.trod_slice ht h with ⟨rfl, _⟩ | ⟨a, len, cap, elems, rest, n, _, rfl, rfl, hb, hl, hm, hlen, hel, _⟩
      · exact ⟨⟨none, 0, 0, []⟩, rfl, rfl, Nat.le_refl _, Nat.zero_le _, .inl ⟨rfl, rfl⟩, fun y hy => (List.not_mem_nil hy).elim⟩
      · obtain ⟨l, h1, h2, h3⟩ := openS ih hc1 hc2 (a := a) (len := len) (m := n) fun i hi => ⟨elems[i]'(by omega), by rw [hel i hi, List.getElem?_eq_getElem (by omega)]⟩
        exact ⟨⟨some a, len, cap, l⟩, rfl, h1, hl, hm, .inr ⟨a, rfl, h2⟩, h3⟩
    · rename_i ty _ _ fs ht
      simp only [Bool.and_eq_true, beq_iff_eq] at hc
      obtain ⟨xs, n, _, _, hl, hlen, hf⟩ := DataW.trod_struct ht h
      have := openF ih (n := n) (cs := cs) ty fs.toList 0 hc.1 (by rw [hl, hc.2]; omega) fun f hmem => by
        obtain ⟨i, hi, rfl⟩ := List.mem_iff_getElem.1 hmem
        have := hf i fs.toList[i] (by simp at hi ⊢)
        refine ⟨xs[i]'(by simp at hi; omega), ?_⟩
        rw [this, List.getElem?_eq_getElem (by simp at hi; omega)]
      simpa using this
    · rename_i ty _ _ n e ht
      simp only [Bool.and_eq_true, beq_iff_eq] at hc
      obtain ⟨xs, m, _, _, hl, hlen, hf⟩ := DataW.trod_array ht h
      have := openA ih (n := m) (cs := cs) ty n 0 hc.1 (by rw [hl, hc.2]; omega) fun j hj => ⟨xs[j]'(by omega), by rw [hf j (by omega), List.getElem?_eq_getElem (by omega)]⟩
      simpa using this
    · cases hc

/-- A parameter that is a struct or an array. -/
theorem openAgg {ty : Ty} {t : TypeId} {cs : Array Value} {d : Nat} {x : DataW H} {ps : List MemPlace} (hc : conf P d ty t = true) (h : DataW.Trod enc P w 0 (fun _ => true) true t (.agg cs) x ps) : ∃ v : ty.T, Value.agg cs = .agg (ty.vs v).toArray ∧ ty.ok w v := by
  obtain ⟨fuel, hf⟩ := h
  obtain ⟨v, e, o⟩ := opens d ty t fuel _ _ hc hf
  refine ⟨v, ?_, o⟩
  rw [← e]
  simp [Value.cells]
/-- A parameter that is a slice. -/
theorem openSl {ty : Ty} {t : TypeId} {a : Option Addr} {n c : Nat} {d : Nat} {x : DataW H} {ps : List MemPlace} (hc : conf P d (.sl ty) t = true) (h : DataW.Trod enc P w 0 (fun _ => true) true t (.slice a n c) x ps) :
    ∃ l : List ty.T, (Ty.sl ty).ok w ⟨a, n, c, l⟩ := by
  obtain ⟨fuel, hf⟩ := h
  obtain ⟨v, e, o⟩ := opens d (.sl ty) t fuel _ _ hc hf
  simp [Value.cells, Ty.vs] at e
  obtain ⟨h1, h2, h3⟩ := e
  refine ⟨v.l, ?_⟩
  subst h1; subst h2; subst h3
  exact o
theorem okWide_array {r : Reach} {b : Nat} {t : TypeId} {v : Value} {n : Nat} {e : TypeId} (ht : P.underlying t = some (.array n e)) (h : Value.okWide P w r b t v) : ∃ cs, v = .agg cs ∧ cs.size = P.cellsOf t := by
  simp only [Value.okWide, ht] at h
  obtain ⟨cs, h1, h2, _⟩ := h
  exact ⟨cs, h1, h2⟩
end

end Go.Proofs.Ytiemdjnmghackaa.Vc

/-! Values that are read, of any shape: where they lie (in which blocks), what data they are, and that they stay while their blocks stay. -/
namespace Go.Proofs.Ytiemdjnmghackaa.Vc
open Go Go.Eng Go.RowKit
set_option linter.unusedVariables false
set_option linter.unusedSimpArgs false

/-- Blocks of a set are as they were. -/
def Kp (G : Nat → Prop) (w w' : World) : Prop := ∀ k, G k → k < w.heap.size → w'.heap[k]? = w.heap[k]?
abbrev All : Nat → Prop := fun _ => True
theorem Ext_kp {w w' : World} (e : Ext w w') (G : Nat → Prop) : Kp G w w' := fun k _ hk => e.block k hk
theorem Kp.mono {G G' : Nat → Prop} {w w' : World} (h : Kp G w w') (hg : ∀ k, G' k → G k) : Kp G' w w' := fun k hk hl => h k (hg k hk) hl

theorem cells_kp {w w' : World} {p : Addr} {vs : List Value} (hc : CellsAt w p vs) (h : vs ≠ [] → w'.heap[p.block]? = w.heap[p.block]?) : CellsAt w' p vs := by
  cases vs with
  | nil => exact CellsAt.nil
  | cons v vs => exact cells_same (h (by simp)) hc

/-- Cells that are read, in blocks of a set. -/
def RdG (w : World) (G : Nat → Prop) (a : Option Addr) (vs : List Value) : Prop := (a = none ∧ vs = []) ∨ ∃ p, a = some p ∧ CellsAt w p vs ∧ (vs ≠ [] → G p.block)
theorem RdG.rdc {w : World} {G : Nat → Prop} {a : Option Addr} {vs : List Value} (h : RdG w G a vs) : RdC w a vs := h.imp id fun ⟨p, h1, h2, _⟩ => ⟨p, h1, h2⟩
theorem RdG.of {w : World} {a : Option Addr} {vs : List Value} (h : RdC w a vs) : RdG w All a vs := h.imp id fun ⟨p, h1, h2⟩ => ⟨p, h1, h2, fun _ => trivial⟩
theorem RdG.kp {w w' : World} {G : Nat → Prop} {a : Option Addr} {vs : List Value} (h : RdG w G a vs) (k : Kp G w w') : RdG w' G a vs := by
  rcases h with h | ⟨p, h1, h2, h3⟩
  · exact .inl h
  · refine .inr ⟨p, h1, cells_kp h2 fun hne => ?_, h3⟩
    cases vs with
    | nil => exact absurd rfl hne
    | cons v vs => exact k _ (h3 hne) (cells_lt h2)
theorem RdG.mono {w : World} {G G' : Nat → Prop} {a : Option Addr} {vs : List Value} (h : RdG w G a vs) (hg : ∀ k, G k → k < w.heap.size → G' k) : RdG w G' a vs := by
  rcases h with h | ⟨p, h1, h2, h3⟩
  · exact .inl h
  · refine .inr ⟨p, h1, h2, fun hne => ?_⟩
    cases vs with
    | nil => exact absurd rfl hne
    | cons v vs => exact hg _ (h3 hne) (cells_lt h2)

def Ty.rd (w : World) (G : Nat → Prop) : (t : Ty) → t.T → Prop
  | .int k, (x : Int) => Rng k x
  | .bool, _ => True
  | .str, (x : ByteArray) => x.size ≤ maxLen
  | .sl e, (x : SlP e.T) => x.l.length = x.n ∧ x.n ≤ x.c ∧ x.n ≤ maxLen ∧ RdG w G x.a (x.l.flatMap e.vs) ∧ ∀ y ∈ x.l, e.rd w G y
  | .nil, _ => True
  | .cons a r, (x : a.T × r.T) => a.rd w G x.1 ∧ r.rd w G x.2
@[reducible] def Ty.D : Ty → Type
  | .int _ => Int
  | .bool => Bool
  | .str => ByteArray
  | .sl e => List e.D
  | .nil => Unit
  | .cons a r => a.D × r.D
def Ty.dat : (t : Ty) → t.T → t.D
  | .int _, (x : Int) => x
  | .bool, (x : Bool) => x
  | .str, (x : ByteArray) => x
  | .sl e, (x : SlP e.T) => x.l.map e.dat
  | .nil, _ => ()
  | .cons a r, (x : a.T × r.T) => (a.dat x.1, r.dat x.2)

theorem Ty.rd_of {w : World} : ∀ (t : Ty) {x : t.T}, t.ok w x → t.rd w All x
  | .int _, _, h => h
  | .bool, _, _ => trivial
  | .str, _, h => h
  | .sl e, x, h => ⟨h.1, h.2.1, Nat.le_trans h.2.1 h.2.2.1, .of h.2.2.2.1, fun y hy => e.rd_of (h.2.2.2.2 y hy)⟩
  | .nil, _, _ => trivial
  | .cons a r, x, h => ⟨a.rd_of h.1, r.rd_of h.2⟩
theorem Ty.rd_kp {w w' : World} {G : Nat → Prop} (k : Kp G w w') : ∀ (t : Ty) {x : t.T}, t.rd w G x → t.rd w' G x
  | .int _, _, h => h
  | .bool, _, _ => trivial
  | .str, _, h => h
  | .sl e, x, h => ⟨h.1, h.2.1, h.2.2.1, h.2.2.2.1.kp k, fun y hy => e.rd_kp k (h.2.2.2.2 y hy)⟩
  | .nil, _, _ => trivial
  | .cons a r, x, h => ⟨a.rd_kp k h.1, r.rd_kp k h.2⟩
theorem Ty.rd_mono {w : World} {G G' : Nat → Prop} (hg : ∀ k, G k → k < w.heap.size → G' k) : ∀ (t : Ty) {x : t.T}, t.rd w G x → t.rd w G' x
  | .int _, _, h => h
  | .bool, _, _ => trivial
  | .str, _, h => h
  | .sl e, x, h => ⟨h.1, h.2.1, h.2.2.1, h.2.2.2.1.mono hg, fun y hy => e.rd_mono hg (h.2.2.2.2 y hy)⟩
  | .nil, _, _ => trivial
  | .cons a r, x, h => ⟨a.rd_mono hg h.1, r.rd_mono hg h.2⟩
theorem Ty.rd_ext {w w' : World} {G : Nat → Prop} (e : Ext w w') (t : Ty) {x : t.T} (h : t.rd w G x) : t.rd w' G x := t.rd_kp (Ext_kp e G) h

/-! ### Slices of anything -/
theorem flat_len {α : Type} {f : α → List Value} {m : Nat} (hm : ∀ x, (f x).length = m) : ∀ (l : List α), (l.flatMap f).length = l.length * m
  | [] => by simp
  | x :: l => by rw [List.flatMap_cons, List.length_append, hm, flat_len hm l, List.length_cons, Nat.add_mul]; omega
theorem flat_get {α : Type} {f : α → List Value} {m : Nat} (hm : ∀ x, (f x).length = m) : ∀ {l : List α} {i : Nat} {y : α}, l[i]? = some y → ∀ {j : Nat} {v : Value}, (f y)[j]? = some v → (l.flatMap f)[i * m + j]? = some v
  | [], i, y, h, j, v, hv => by simp at h
  | x :: l, 0, y, h, j, v, hv => by
    simp at h; subst h
    rw [List.flatMap_cons, Nat.zero_mul, Nat.zero_add, List.getElem?_append_left (List.getElem?_eq_some_iff.1 hv).1]
    exact hv
  | x :: l, i + 1, y, h, j, v, hv => by
    rw [List.getElem?_cons_succ] at h
    rw [List.flatMap_cons, List.getElem?_append_right (by rw [hm, Nat.add_mul]; omega), hm, show (i + 1) * m + j - m = i * m + j by rw [Nat.add_mul]; omega]
    exact flat_get hm h hv
theorem CellsAt.nth {w : World} {p : Addr} {α : Type} {f : α → List Value} {m : Nat} (hm : ∀ x, (f x).length = m) {l : List α} (h : CellsAt w p (l.flatMap f)) {i : Nat} {y : α} (hy : l[i]? = some y) : CellsAt w (p.add (i * m)) (f y) := by
  intro j v hv
  rw [add_add]
  exact h _ _ (flat_get hm hy hv)

/-- An element of a slice that is read. -/
theorem Ty.nth {w : World} {G : Nat → Prop} {e : Ty} {x : SlP e.T} (h : (Ty.sl e).rd w G x) {i : Int} (h0 : 0 ≤ i) (h1 : i < (x.n : Int)) (he : 0 < e.n) :
    ∃ q y, x.a = some q ∧ x.l[i.toNat]? = some y ∧ CellsAt w (q.add (i.toNat * e.n)) (e.vs y) ∧ e.rd w G y ∧ G q.block ∧ q.block < w.heap.size := by
  obtain ⟨hl, _, _, hr, hy⟩ := h
  have hi : i.toNat < x.l.length := by omega
  have hget : x.l[i.toNat]? = some x.l[i.toNat] := List.getElem?_eq_getElem hi
  rcases hr with ⟨_, h2⟩ | ⟨q, hq, hc, hG⟩
  · have := flat_len (fun z => e.vs_length z) x.l
    have h3 := Nat.mul_pos (show 0 < x.l.length by omega) he
    rw [h2, List.length_nil] at this
    omega
  · have hne : x.l.flatMap e.vs ≠ [] := by
      intro hh
      have := flat_len (fun z => e.vs_length z) x.l
      have h3 := Nat.mul_pos (show 0 < x.l.length by omega) he
      rw [hh, List.length_nil] at this
      omega
    refine ⟨q, x.l[i.toNat], hq, hget, CellsAt.nth (fun z => e.vs_length z) hc hget, hy _ (List.getElem_mem hi), hG hne, ?_⟩
    cases hf : x.l.flatMap e.vs with
    | nil => exact absurd hf hne
    | cons v vs => rw [hf] at hc; exact cells_lt hc

/-- Slices of whole numbers. -/
theorem flat_ints (k : IntKind) (l : List Int) : l.flatMap (Ty.int k).vs = l.map (Value.int k) := by
  induction l with
  | nil => rfl
  | cons x l ih => rw [List.flatMap_cons, ih]; rfl
theorem Ty.ints {w : World} {G : Nat → Prop} {k : IntKind} {x : SlP Int} (h : (Ty.sl (.int k)).rd w G x) : Ints w k x.a x.n x.c x.l := by
  obtain ⟨hl, hc, hm, hr, _⟩ := h
  have hml : maxLen = 9223372036854775807 := by decide
  refine ⟨hl, hc, by omega, ?_⟩
  have := hr.rdc
  rw [show x.l.flatMap (Ty.int k).vs = x.l.map (Value.int k) from flat_ints k x.l] at this
  exact this
theorem Ty.byt {w : World} {G : Nat → Prop} {x : SlP Int} (h : (Ty.sl (.int .u8)).rd w G x) : Byt x.l := fun y hy => rng_u8 (h.2.2.2.2 y hy)
theorem dat_ints {k : IntKind} (l : List Int) : l.map (Ty.int k).dat = l := by
  induction l with
  | nil => rfl
  | cons x l ih => rw [List.map_cons, ih]; rfl

end Go.Proofs.Ytiemdjnmghackaa.Vc

/-! The contracts of layer 22 (pagemap): the map's parts, and what only reads them. -/
namespace Go.Proofs.Ytiemdjnmghackaa.Vc
open Go Go.Eng Go.RowKit
set_option linter.unusedVariables false
set_option linter.unusedSimpArgs false

/-- A sector's spot, or none. -/
structure Ce where
  has : Bool
  s : Sp
abbrev Ce.vs (x : Ce) : List Value := .bool x.has :: x.s.vs
abbrev Ce.val (x : Ce) : Value := .agg #[.bool x.has, .int .i64 x.s.b, .int .i64 x.s.p, .int .i64 x.s.h.k, .int .i64 x.s.h.n, .int .i64 x.s.h.c, .int .u32 x.s.h.l, .int .u64 x.s.h.e, .int .u64 x.s.h.t, .int .i64 x.s.o.k, .int .i64 x.s.o.n, .int .i64 x.s.o.c, .int .u32 x.s.o.l, .int .u64 x.s.o.e, .int .u64 x.s.o.t]
abbrev Ce.tup (x : Ce) : Bool × Int × Int × Int × Int × Int × Int × Int × Int × Int × Int × Int × Int × Int × Int × Unit := (x.has, x.s.b, x.s.p, x.s.h.k, x.s.h.n, x.s.h.c, x.s.h.l, x.s.h.e, x.s.h.t, x.s.o.k, x.s.o.n, x.s.o.c, x.s.o.l, x.s.o.e, x.s.o.t, ())
theorem Ce_len (x : Ce) : x.vs.length = 15 := rfl
theorem Ce_one (x : Ce) : oneAll x.vs := fun u hu => by
  simp only [List.mem_cons, List.not_mem_nil, or_false] at hu
  rcases hu with rfl | rfl | rfl | rfl | rfl | rfl | rfl | rfl | rfl | rfl | rfl | rfl | rfl | rfl | rfl <;> rfl
def Ce0 : Ce := ⟨false, Sp0⟩
abbrev slC (x : SlP Ce) : Value := .slice x.a x.n x.c
abbrev ownC (x : SlP Ce) : Asr := OwnA 120 15 x.a x.n x.c (x.l.flatMap Ce.vs)
/-- A map of one's own: its namespaces' sectors X (four lists), and how often each place is a spot's. -/
abbrev PmQ (p r : Nat) (X : List (SlP Ce)) (m : Int × Int → Int) (Rs : List Asr) : List Asr := BoxA p 117 (X.map slC ++ [.map (some r)]) :: MapF r m :: (X.map ownC ++ Rs)
def noC : SlP Ce := ⟨none, 0, 0, []⟩
def getX (X : List (SlP Ce)) (ns : Int) : SlP Ce := if 0 ≤ ns ∧ ns < 4 then X.getD ns.toNat noC else noC

section
variable {E : Nat → Prop} {w0 w : World} {p r : Nat} {X : List (SlP Ce)} {m : Int × Int → Int} {Rs : List Asr}
theorem PmQ_own (hX : X.length = 4) {ns : Int} (hn : 0 ≤ ns ∧ ns < 4) : (PmQ p r X m Rs)[ns.toNat + 2]? = some (ownC (getX X ns)) := by
  show (X.map ownC ++ Rs)[ns.toNat]? = _
  have hl : ns.toNat < X.length := by omega
  rw [List.getElem?_append_left (by rw [List.length_map]; exact hl), List.getElem?_map, List.getElem?_eq_getElem hl]
  unfold getX
  rw [if_pos hn, List.getD_eq_getElem?_getD, List.getElem?_eq_getElem hl]
  rfl
theorem getX_len (hX : X.length = 4) (S : Sep E w0 w (PmQ p r X m Rs)) (ns : Int) : (getX X ns).l.length = (getX X ns).n ∧ (getX X ns).n ≤ (getX X ns).c := by
  by_cases hn : 0 ≤ ns ∧ ns < 4
  · have ho := S.own (ns.toNat + 2) (PmQ_own hX hn)
    have hl := ho.len
    rw [flatF_len (f := Ce.vs) (m := 15) Ce_len] at hl
    exact ⟨Nat.eq_of_mul_eq_mul_right (by omega) hl, ho.cap⟩
  · unfold getX; rw [if_neg hn]; exact ⟨rfl, Nat.le_refl _⟩
theorem slot_c (hX : X.length = 4) (S : Sep E w0 w (PmQ p r X m Rs)) {ns : Int} (hn : 0 ≤ ns ∧ ns < 4) {K : SlV → Prop} (hk : K ⟨(getX X ns).a, (getX X ns).n, (getX X ns).c⟩) : LoadS w ((⟨p, 0, none⟩ : Addr).add (ns.toNat * 1)) .sl K := by
  have hl : ns.toNat < X.length := by omega
  rw [Nat.mul_one, show (⟨p, 0, none⟩ : Addr).add ns.toNat = ⟨p, ns.toNat, none⟩ by simp [Addr.add_lit]]
  refine S.ld0 (j := ns.toNat) (h := .sl) (v := slC (getX X ns)) (x := ⟨(getX X ns).a, (getX X ns).n, (getX X ns).c⟩) ?_ rfl hk
  rw [List.getElem?_append_left (by rw [List.length_map]; exact hl), List.getElem?_map, List.getElem?_eq_getElem hl]
  unfold getX
  rw [if_pos hn, List.getD_eq_getElem?_getD, List.getElem?_eq_getElem hl]
  rfl
theorem refs_c (hX : X.length = 4) (S : Sep E w0 w (PmQ p r X m Rs)) {K : Option Nat → Prop} (hk : K (some r)) : LoadS w ((⟨p, 0, none⟩ : Addr).add 4) .map K := by
  rw [show (⟨p, 0, none⟩ : Addr).add 4 = ⟨p, 4, none⟩ by simp [Addr.add_lit]]
  refine S.ld0 (j := 4) (h := .map) (v := .map (some r)) (x := some r) ?_ rfl hk
  rw [List.getElem?_append_right (by rw [List.length_map, hX]; omega), List.length_map, hX]
  rfl
theorem own22_c {ns : Int} (hX : X.length = 4) (S : Sep E w0 w (PmQ p r X m Rs)) : CallV Try.prog 80 #[.pointer (some ⟨p, 0, none⟩), .int .i64 ns] w [.one .sl] fun r w' => r.1 = (⟨(getX X ns).a, (getX X ns).n, (getX X ns).c⟩ : SlV) ∧ w' = w := by
  apply pagemap_Map_own.vc
  unfold pagemap_Map_own.P
  have no : ¬ (0 ≤ ns ∧ ns < 4) → (⟨none, 0, 0⟩ : SlV) = ⟨(getX X ns).a, (getX X ns).n, (getX X ns).c⟩ := fun h => by unfold getX; rw [if_neg h]; rfl
  refine cond_d (fun h => ⟨no (by omega), rfl⟩) fun h0 => cond_d (fun h => ⟨no (by omega), rfl⟩) fun h4 => ?_
  exact ⟨⟨by omega, by omega⟩, slot_c hX S ⟨by omega, by omega⟩ ⟨rfl, rfl⟩⟩
theorem Size22_c {ns : Int} (hX : X.length = 4) (S : Sep E w0 w (PmQ p r X m Rs)) : CallV Try.prog 48 #[.pointer (some ⟨p, 0, none⟩), .int .i64 ns] w [.one (.int .i64)] fun r w' => r.1 = (((getX X ns).n : Nat) : Int) ∧ w' = w := by
  apply pagemap_Map_Size.vc
  unfold pagemap_Map_Size.P
  refine (own22_c (ns := ns) hX S).mono ?_
  rintro ⟨⟨a, n, c⟩, ⟨⟩⟩ w1 ⟨h1, rfl⟩
  cases h1
  exact ⟨rfl, rfl⟩
/-- A cell that is read. -/
theorem cell_c (hX : X.length = 4) (S : Sep E w0 w (PmQ p r X m Rs)) {ns i : Int} (h0 : 0 ≤ i) (h1 : i < ((getX X ns).n : Int)) :
    ∃ q x, (getX X ns).a = some q ∧ (getX X ns).l[i.toNat]? = some x ∧ CellsAt w (q.add (i.toNat * 15)) x.vs := by
  by_cases hn : 0 ≤ ns ∧ ns < 4
  · exact S.nthF (f := Ce.vs) (m := 15) (ns.toNat + 2) (PmQ_own hX hn) Ce_len (by decide) h0 h1
  · have : (getX X ns).n = 0 := by unfold getX; rw [if_neg hn]; rfl
    omega
def getC (X : List (SlP Ce)) (ns i : Int) : Ce := if 0 ≤ i ∧ i < ((getX X ns).n : Int) then (getX X ns).l.getD i.toNat Ce0 else Ce0
theorem Get22_c {ns i : Int} (hX : X.length = 4) (S : Sep E w0 w (PmQ p r X m Rs)) : CallV Try.prog 40 #[.pointer (some ⟨p, 0, none⟩), .int .i64 ns, .int .i64 i] w [.agg SH14, .one .bool] fun r w' => r.1 = (if (getC X ns i).has then (getC X ns i).s else Sp0).tup ∧ r.2.1 = (getC X ns i).has ∧ Ext w w' := by
  apply pagemap_Map_Get.vc
  unfold pagemap_Map_Get.P
  have T := Sep.start NoB w
  refine T.newB fun b1 w1 T f1 _ => ?_
  have S := S.stepE T.ext
  refine (own22_c (ns := ns) hX S).mono ?_
  rintro ⟨⟨a, n, c⟩, ⟨⟩⟩ w2 ⟨h2, rfl⟩
  dsimp only at h2
  have no : getC X ns i = Ce0 → _ := fun h => T.st0 (by rfl) fun w3 T f3 => T.la0 (l := SH14) (x := Sp0.tup) rfl (K := fun x6 => (x6.1, x6.2.1, x6.2.2.1, x6.2.2.2.1, x6.2.2.2.2.1, x6.2.2.2.2.2.1, x6.2.2.2.2.2.2.1, x6.2.2.2.2.2.2.2.1, x6.2.2.2.2.2.2.2.2.1, x6.2.2.2.2.2.2.2.2.2.1, x6.2.2.2.2.2.2.2.2.2.2.1, x6.2.2.2.2.2.2.2.2.2.2.2.1, x6.2.2.2.2.2.2.2.2.2.2.2.2.1, x6.2.2.2.2.2.2.2.2.2.2.2.2.2.1, ()) = (if (getC X ns i).has then (getC X ns i).s else Sp0).tup ∧ false = (getC X ns i).has ∧ Ext w w3) ⟨by rw [h]; rfl, by rw [h]; rfl, T.ext⟩
  refine cond_d (fun h => no (by unfold getC; rw [if_neg (by omega)])) fun h0 => ?_
  cases h2
  dsimp only
  refine cond_d (fun h => no (by unfold getC; rw [if_neg (by omega)])) fun h1 => ?_
  obtain ⟨q, x, hq, hx, hc⟩ := cell_c (ns := ns) (i := i) hX S (by omega) (by omega)
  have hg : getC X ns i = x := by
    unfold getC
    rw [if_pos ⟨by omega, by omega⟩, List.getD_eq_getElem?_getD, hx]; rfl
  refine ⟨⟨by omega, by omega⟩, q, hq, ldp0 hc (h := .bool) (x := x.has) rfl ?_⟩
  cases hh : x.has with
  | false =>
    refine cond_t rfl (T.st0 (by rfl) fun w3 T f3 => T.la0 (l := SH14) (x := Sp0.tup) rfl ⟨?_, ?_, T.ext⟩)
    · rw [hg, hh]; rfl
    · rw [hg, hh]
  | true =>
    refine cond_f rfl ⟨⟨by omega, by omega⟩, q, hq, x.s.tup, hc.drop 1, T.st0 (by rfl) fun w3 T f3 => T.la0 (l := SH14) (x := x.s.tup) rfl ⟨?_, ?_, T.ext⟩⟩
    · rw [hg, hh]; rfl
    · rw [hg, hh]
theorem Refs22_c {b q : Int} (hX : X.length = 4) (S : Sep E w0 w (PmQ p r X m Rs)) : CallV Try.prog 43 #[.pointer (some ⟨p, 0, none⟩), .agg #[.int .i64 b, .int .i64 q]] w [.one (.int .i64)] fun r w' => r.1 = m (b, q) ∧ Ext w w' := by
  apply pagemap_Map_Refs.vc
  unfold pagemap_Map_Refs.P
  have T := Sep.start NoB w
  refine T.newB fun b1 w1 T f1 _ => ?_
  have S := (S.stepE T.ext).drew
  have hp : p < w1.heap.size := S.lt 0 rfl
  refine T.reg fun D hD hkeep T U => ⟨by rw [add_block]; exact hD _ hp, refs_c hX S ⟨hD _ T.bl0, T.la0 rfl ?_⟩⟩
  have h := S.lookM (k := (b, q)) (K := fun r6 w7 => KeepOn D w1.drew w7 ∧ r6.1 = m (b, q) ∧ Ext w w7) 1 rfl ⟨hkeep _ (Fr.refl _ _), rfl, T.ext⟩
  exact h
end
end Go.Proofs.Ytiemdjnmghackaa.Vc

/-! Calls and open orders that own the first parts. -/
namespace Go.Eng
open Go
set_option linter.unusedVariables false
section
variable {E : Nat → Prop} {w0 w w' : World} {Rs Ts : List Asr}
/-- A call that owns the first parts, and knows that they are new. -/
theorem Sep.callB {P : Program} {g : FuncId} {args : Array Value} {l : List Sh} (Rs : List Asr) {Ts : List Asr} (S : Sep E w0 w (Rs ++ Ts)) {C : (Nat → Prop) → RT l → World → Prop}
    (hc : ∀ F, (∀ k, F k → (E k ∨ w0.heap.size ≤ k) ∧ k < w.heap.size) → Sep F w w Rs → CallV P g args w l fun r w' => C F r w') {K : RT l → World → Prop}
    (hk : ∀ F, (∀ w' Ls, Sep F w w' Ls → Sep E w0 w' (Ls ++ Ts)) → ∀ r w', C F r w' → K r w') : CallV P g args w l K := by
  obtain ⟨G, g1, g2, g3⟩ : ∃ G, StarP w Rs G ∧ (∀ k, G k → (E k ∨ w0.heap.size ≤ k) ∧ k < w.heap.size) ∧ ∀ w' Ls, Sep G w w' Ls → Sep E w0 w' (Ls ++ Ts) := by
    obtain ⟨F, h, hb⟩ := S.ex
    obtain ⟨F1, F2, h1, h2, h3, h4, h5⟩ := StarP.app.1 h
    refine ⟨F1, h1, fun k hk => hb k (h4 k hk), fun w' Ls S' => ?_⟩
    have S1 : Sep (fun k => F1 k ∨ F2 k) w w (Rs ++ Ts) := Sep.begin (StarP.app.2 ⟨F1, F2, h1, h2, h3, fun _ => .inl, fun _ => .inr⟩) fun k hk => hk.elim (fun x => (hb k (h4 k x)).2) (fun x => (hb k (h5 k x)).2)
    obtain ⟨G, g1, g2⟩ := S'.ex
    refine ⟨S.fr.trans' S'.fr fun k hk => (hb k (h4 k hk)).1, fun k => G k ∨ F2 k, StarP.app.2 ⟨G, F2, g1, h2.st fun k hk => S'.fr.block k (hb k (h5 k hk)).2 fun x => h3 k x hk, fun k hk hf => ?_, fun k => .inl, fun k => .inr⟩, fun k hk => ?_⟩
    · rcases (g2 k hk).1 with x | x
      · exact h3 k x hf
      · have := (hb k (h5 k hf)).2; omega
    · rcases hk with hk | hk
      · refine ⟨?_, (g2 k hk).2⟩
        rcases (g2 k hk).1 with x | x
        · exact (hb k (h4 k x)).1
        · have := S.fr.size; exact .inr (by omega)
      · exact ⟨(hb k (h5 k hk)).1, Nat.lt_of_lt_of_le (hb k (h5 k hk)).2 S'.fr.size⟩
  exact (hc G g2 (Sep.begin g1 fun k hk => (g2 k hk).2)).mono fun r w' h => hk G g3 r w' h
/-- An open order in which only the first parts are written. -/
theorem Sep.regC (Rs : List Asr) {Ts : List Asr} (S : Sep E w0 w (Rs ++ Ts)) {body : (Nat → Prop) → Prop}
    (h : ∀ F D : Nat → Prop, (∀ k, F k → (E k ∨ w0.heap.size ≤ k) ∧ k < w.heap.size) → Sep F w.drew w.drew Rs → Sep E w0 w.drew (Rs ++ Ts) → (∀ (i : Nat) (b : Nat) (e : TypeId) (vs : List Value), Ts[i]? = some (BoxA b e vs) → D b) → (∀ b, b < w0.heap.size → ¬ E b → D b) → (∀ w', Fr F w.drew w' → KeepOn D w.drew w') → (∀ w' Ls, Sep F w.drew w' Ls → Sep E w0 w' (Ls ++ Ts)) → body D) : DrawV body := by
  have S := S.drew
  obtain ⟨F, hF, hb⟩ := S.ex
  obtain ⟨F1, F2, h1, h2, h3, h4, h5⟩ := StarP.app.1 hF
  have hsz : w0.heap.size ≤ w.drew.heap.size := S.fr.size
  refine DrawV.but F1 w fun D hD hk => h F1 D (fun k hk => hb k (h4 k hk)) (Sep.begin h1 fun k hk => (hb k (h4 k hk)).2) S (fun i b e vs hi => ?_) (fun b hb1 hb2 => ?_) hk fun w' Ls S' => ?_
  · obtain ⟨G, g1, g2⟩ := StarP.get hi h2
    exact hD b (hb b (h5 b (g2 b g1.1))).2 fun x => h3 b x (g2 b g1.1)
  · refine hD b (Nat.lt_of_lt_of_le hb1 hsz) fun x => ?_
    rcases (hb b (h4 b x)).1 with y | y
    · exact hb2 y
    · omega
  · obtain ⟨G, g1, g2⟩ := S'.ex
    refine ⟨S.fr.trans' S'.fr fun k hk => (hb k (h4 k hk)).1, fun k => G k ∨ F2 k, StarP.app.2 ⟨G, F2, g1, h2.st fun k hk => S'.fr.block k (hb k (h5 k hk)).2 fun x => h3 k x hk, fun k hk hf => ?_, fun k => .inl, fun k => .inr⟩, fun k hk => ?_⟩
    · rcases (g2 k hk).1 with x | x
      · exact h3 k x hf
      · have := (hb k (h5 k hf)).2; omega
    · rcases hk with hk | hk
      · refine ⟨?_, (g2 k hk).2⟩
        rcases (g2 k hk).1 with x | x
        · exact (hb k (h4 k x)).1
        · exact .inr (by omega)
      · exact ⟨(hb k (h5 k hk)).1, Nat.lt_of_lt_of_le (hb k (h5 k hk)).2 S'.fr.size⟩
end
end Go.Eng

/-! The contracts of layer 22 (pagemap): a new map, a namespace more, the sectors of which a spot speaks, a spot lost. -/
namespace Go.Proofs.Ytiemdjnmghackaa.Vc
open Go Go.Eng Go.RowKit
set_option linter.unusedVariables false
set_option linter.unusedSimpArgs false

/-- A part in another one's place. -/
theorem _root_.Go.Eng.Sep.swapIn {E : Nat → Prop} {w0 w : World} {Rs : List Asr} {R R' : Asr} {i : Nat} (S : Sep E w0 w (R' :: Rs)) (hi : Rs[i]? = some R) : Sep E w0 w (Rs.set i R') :=
  (S.perm (((perm_front hi).cons R').trans ((List.Perm.swap R R' (Rs.eraseIdx i)).trans ((perm_set hi).cons R)))).tail
abbrev plV (k : Int × Int) : List Value := [.int .i64 k.1, .int .i64 k.2]
theorem plV_len (k : Int × Int) : (plV k).length = 2 := rfl
theorem plV_one (k : Int × Int) : oneAll (plV k) := fun u hu => by
  simp only [List.mem_cons, List.not_mem_nil, or_false] at hu
  rcases hu with rfl | rfl <;> rfl
abbrev outA (a : Option Addr) (n c : Nat) (L : List (Int × Int)) : Asr := OwnA 55 2 a n c (L.flatMap plV)

section
variable {E : Nat → Prop} {w0 w : World} {p r : Nat} {X : List (SlP Ce)} {m : Int × Int → Int} {Rs : List Asr}
theorem New22_c : CallV Try.prog 37 #[] w [.one .ptr] fun r w' => ∃ p rr : Nat, r.1 = some (⟨p, 0, none⟩ : Addr) ∧ Sep NoB w w' (PmQ p rr [noC, noC, noC, noC] (fun _ => 0) []) := by
  apply pagemap_New.vc
  unfold pagemap_New.P
  have S := Sep.start NoB w
  refine S.newM fun b1 w1 S f1 _ => ?_
  refine S.newB fun b3 w2 S f2 _ => ⟨b3, b1, rfl, ?_⟩
  have S := (((S.nilOwn 120 15).nilOwn 120 15).nilOwn 120 15).nilOwn 120 15
  exact S.sel [4, 4, 0, 0, 0, 0] rfl
/-- Why a namespace may not be added; nought: it may. -/
def addE (X : List (SlP Ce)) (ns size : Int) : Int := if ¬ (0 ≤ ns ∧ ns < 4) then 2 else if ¬ (1 ≤ size ∧ size ≤ 65535) then 2 else if 0 < (getX X ns).n then 11 else 0
theorem Add22_c {ns size : Int} (hX : X.length = 4) (S : Sep E w0 w (PmQ p r X m [])) :
    CallV Try.prog 38 #[.pointer (some ⟨p, 0, none⟩), .int .i64 ns, .int .i64 size] w [.one (.int .i64)] fun rr w' => rr.1 = addE X ns size ∧ (addE X ns size ≠ 0 → Sep E w0 w' (PmQ p r X m [])) ∧
      (addE X ns size = 0 → ∃ x : SlP Ce, x.l = List.replicate size.toNat Ce0 ∧ x.n = size.toNat ∧ Sep E w0 w' (PmQ p r (X.set ns.toNat x) m [])) := by
  apply pagemap_Map_Add.vc
  unfold pagemap_Map_Add.P
  have no : ∀ {e : Int}, addE X ns size = e → e ≠ 0 → e = addE X ns size ∧ (addE X ns size ≠ 0 → Sep E w0 w (PmQ p r X m [])) ∧ (addE X ns size = 0 → ∃ x : SlP Ce, x.l = List.replicate size.toNat Ce0 ∧ x.n = size.toNat ∧ Sep E w0 w (PmQ p r (X.set ns.toNat x) m [])) := fun h1 h2 => ⟨h1.symm, fun _ => S, fun h => absurd (h1.symm.trans h) h2⟩
  refine cond_d (fun h => no (e := 2) (by unfold addE; rw [if_pos (by omega)]) (by decide)) fun h0 => cond_d (fun h => no (e := 2) (by unfold addE; rw [if_pos (by omega)]) (by decide)) fun h4 => ?_
  have hn : 0 ≤ ns ∧ ns < 4 := by omega
  refine cond_d (fun h => no (e := 2) (by unfold addE; rw [if_neg (fun k => k hn), if_pos (by omega)]) (by decide)) fun h1 => cond_d (fun h => no (e := 2) (by unfold addE; rw [if_neg (fun k => k hn), if_pos (by omega)]) (by decide)) fun h6 => ?_
  have hs : 1 ≤ size ∧ size ≤ 65535 := by omega
  refine ⟨⟨hn.1, hn.2⟩, slot_c hX S hn ?_⟩
  dsimp only
  refine cond_d (fun h => no (e := 11) (by unfold addE; rw [if_neg (fun k => k hn), if_neg (fun k => k hs), if_pos (by omega)]) (by decide)) fun hz => ?_
  have hE : addE X ns size = 0 := by unfold addE; rw [if_neg (fun k => k hn), if_neg (fun k => k hs), if_neg (by omega)]
  refine refs_c hX S (cond_f rfl ?_)
  refine S.regX (fun k => k = p) fun D hD hkeep S T => ?_
  refine ⟨⟨by omega, Int.le_refl _, by omega, by omega⟩, ?_⟩
  refine S.newB fun b7 w8 S f8 _ => ?_
  have S := S.asOwn (sz := 15) (n := size.toNat) (by rw [List.length_flatten, List.map_replicate, List.sum_replicate_nat]; rfl) (by omega) (fun u hu => by
    obtain ⟨l, hl, hul⟩ := List.mem_flatten.1 hu
    rw [(List.mem_replicate.1 hl).2] at hul
    exact Ce_one Ce0 u hul)
  refine ⟨hkeep _ f8.any, ⟨hn.1, hn.2⟩, ?_⟩
  have hl : ns.toNat < X.length := by omega
  rw [Nat.mul_one, show (⟨p, 0, none⟩ : Addr).add ns.toNat = ⟨p, ns.toNat, none⟩ by simp [Addr.add_lit]]
  refine S.storeR1 (i := 1) rfl (j := ns.toNat) (by rw [List.length_append, List.length_map]; omega) fun w9 S f9 => ⟨hkeep _ (f8.any.trans f9), hE.symm, fun h => absurd hE h, fun _ => ⟨⟨some ⟨b7, 0, none⟩, size.toNat, size.toNat, List.replicate size.toNat Ce0⟩, rfl, rfl, ?_⟩⟩
  have e1 : (X.map slC ++ [Value.map (some r)]).set ns.toNat (.slice (some ⟨b7, 0, none⟩) size.toNat size.toNat) = (X.set ns.toNat ⟨some ⟨b7, 0, none⟩, size.toNat, size.toNat, List.replicate size.toNat Ce0⟩).map slC ++ [.map (some r)] := by
    rw [List.set_append_left _ _ (by rw [List.length_map]; exact hl), List.map_set]
  have e2 : (List.replicate size.toNat Ce0.vs).flatten = (List.replicate size.toNat Ce0).flatMap Ce.vs := by rw [List.flatMap_def, List.map_replicate]
  have S2 : Sep E w0 w9 (OwnA 120 15 (some ⟨b7, 0, none⟩) size.toNat size.toNat (List.replicate size.toNat Ce0.vs).flatten :: BoxA p 117 ((X.map slC ++ [Value.map (some r)]).set ns.toNat (.slice (some ⟨b7, 0, none⟩) size.toNat size.toNat)) :: MapF r m :: (X.map ownC ++ [])) := S
  rw [e1, e2] at S2
  have S3 := S2.swapIn (i := ns.toNat + 2) (R := ownC (getX X ns)) (PmQ_own (p := p) (r := r) (m := m) (Rs := []) hX hn)
  rw [List.set_cons_succ, List.set_cons_succ, List.set_append_left _ _ (by rw [List.length_map]; exact hl)] at S3
  show Sep E w0 w9 (BoxA p _ _ :: MapF r m :: ((X.set ns.toNat _).map ownC ++ []))
  rw [List.map_set (f := ownC)]
  exact S3
/-- Does a spot speak of sectors that there are? -/
def okS (X : List (SlP Ce)) (s : Sp) : Prop := (s.h.k = 1 ∨ s.h.k = 2) ∧ 1 ≤ s.h.c ∧ s.h.c ≤ ((getX X s.h.n).n : Int) ∧ s.h.l ≤ ((getX X s.h.n).n : Int) - s.h.c
instance (X : List (SlP Ce)) (s : Sp) : Decidable (okS X s) := by unfold okS; infer_instance
abbrev spkV (X : List (SlP Ce)) (s : Sp) : SlV := ⟨(getX X s.h.n).a.map (·.add (s.h.l.toNat * 15)), s.h.c.toNat, (getX X s.h.n).c - s.h.l.toNat⟩
theorem speaks22_c {s : Sp} (hl : 0 ≤ s.h.l ∧ s.h.l < 4294967296) (hX : X.length = 4) (hN : (getX X s.h.n).n ≤ 100000) (S : Sep E w0 w (PmQ p r X m Rs)) :
    CallV Try.prog 77 #[.pointer (some ⟨p, 0, none⟩), s.val] w [.one .sl] fun r w' => Ext w w' ∧ (okS X s → r.1 = spkV X s) ∧ (¬ okS X s → r.1 = (⟨none, 0, 0⟩ : SlV)) := by
  apply pagemap_Map_speaks.vc
  unfold pagemap_Map_speaks.P
  have hcap := (getX_len hX S s.h.n).2
  have wl : IntKind.i64.wrap s.h.l = s.h.l := i64_wrap (by omega) (by omega)
  have T := Sep.start NoB w
  refine T.newB fun b1 w1 T f1 _ => ?_
  refine T.reg fun D hD hkeep T U => ⟨hD _ T.bl0, T.ld0 (j := 3) rfl rfl ⟨hD _ T.bl0, T.lb0 (o := 2) rfl ⟨?_, ?_⟩⟩⟩
  · refine (own22_c (ns := s.h.n) hX (S.stepE T.ext)).mono ?_
    rintro ⟨⟨a, n, c⟩, ⟨⟩⟩ w2 ⟨h2, rfl⟩
    cases h2
    dsimp only
    refine ⟨hkeep _ (Fr.refl _ _), U.newB fun b8 w3 U f3 _ => ⟨hkeep _ U.fr, U.st0 (by rfl) fun w4 U f4 => ⟨hkeep _ U.fr, ?_⟩⟩⟩
    have no : ¬ okS X s → Ext w w4 ∧ (okS X s → (⟨none, 0, 0⟩ : SlV) = spkV X s) ∧ (¬ okS X s → (⟨none, 0, 0⟩ : SlV) = (⟨none, 0, 0⟩ : SlV)) := fun h => ⟨T.ext.trans U.ext, fun k => absurd k h, fun _ => rfl⟩
    refine U.ld0 (j := 0) rfl rfl (cond_ne (fun h1 => ?_) (fun h1 => ?_))
    · refine U.ld0 (j := 0) rfl rfl (cond_ne (fun h2 => no fun k => k.1.elim h1 h2) (fun h2 => ?_))
      have hk : s.h.k = 1 ∨ s.h.k = 2 := .inr h2
      refine U.ld0 (j := 2) rfl rfl (cond_d (fun h => no fun k => by have := k.2.1; omega) fun h3 => ?_)
      refine U.ld0 (j := 2) rfl rfl (cond_d (fun h => no fun k => by have := k.2.2.1; omega) fun h4 => ?_)
      have r1 : Rng .i64 (((getX X s.h.n).n : Int) - s.h.c) := Rng.i64 (by omega) (by omega)
      refine U.ld0 (j := 3) rfl rfl (U.ld0 (j := 2) rfl rfl ⟨r1, ?_⟩)
      rw [wl]
      refine cond_d (fun h => no fun k => by have := k.2.2.2; omega) fun h5 => ?_
      have hok : okS X s := ⟨hk, by omega, by omega, by omega⟩
      have r2 : Rng .i64 (s.h.l + s.h.c) := Rng.i64 (by omega) (by omega)
      refine U.ld0 (j := 3) rfl rfl (U.ld0 (j := 3) rfl rfl (U.ld0 (j := 2) rfl rfl ?_))
      rw [wl]
      refine ⟨r2, ⟨by omega, by omega, by omega⟩, ?_⟩
      intro a20 ha
      rw [if_neg (by omega)] at ha
      refine ⟨T.ext.trans U.ext, fun _ => ?_, fun k => absurd hok k⟩
      rw [ha, show (s.h.l + s.h.c).toNat - s.h.l.toNat = s.h.c.toNat by omega]
    · have hk : s.h.k = 1 ∨ s.h.k = 2 := .inl h1
      refine U.ld0 (j := 2) rfl rfl (cond_d (fun h => no fun k => by have := k.2.1; omega) fun h3 => ?_)
      refine U.ld0 (j := 2) rfl rfl (cond_d (fun h => no fun k => by have := k.2.2.1; omega) fun h4 => ?_)
      have r1 : Rng .i64 (((getX X s.h.n).n : Int) - s.h.c) := Rng.i64 (by omega) (by omega)
      refine U.ld0 (j := 3) rfl rfl (U.ld0 (j := 2) rfl rfl ⟨r1, ?_⟩)
      rw [wl]
      refine cond_d (fun h => no fun k => by have := k.2.2.2; omega) fun h5 => ?_
      have hok : okS X s := ⟨hk, by omega, by omega, by omega⟩
      have r2 : Rng .i64 (s.h.l + s.h.c) := Rng.i64 (by omega) (by omega)
      refine U.ld0 (j := 3) rfl rfl (U.ld0 (j := 3) rfl rfl (U.ld0 (j := 2) rfl rfl ?_))
      rw [wl]
      refine ⟨r2, ⟨by omega, by omega, by omega⟩, ?_⟩
      intro a20 ha
      rw [if_neg (by omega)] at ha
      refine ⟨T.ext.trans U.ext, fun _ => ?_, fun k => absurd hok k⟩
      rw [ha, show (s.h.l + s.h.c).toNat - s.h.l.toNat = s.h.c.toNat by omega]
  · refine U.newB fun b8 w3 U f3 _ => ⟨hkeep _ U.fr, ?_⟩
    refine (own22_c (ns := s.h.n) hX (S.stepE (T.ext.trans f3.ext))).mono ?_
    rintro ⟨⟨a, n, c⟩, ⟨⟩⟩ w2 ⟨h2, rfl⟩
    cases h2
    dsimp only
    refine ⟨hkeep _ U.fr, U.st0 (by rfl) fun w4 U f4 => ⟨hkeep _ U.fr, ?_⟩⟩
    have no : ¬ okS X s → Ext w w4 ∧ (okS X s → (⟨none, 0, 0⟩ : SlV) = spkV X s) ∧ (¬ okS X s → (⟨none, 0, 0⟩ : SlV) = (⟨none, 0, 0⟩ : SlV)) := fun h => ⟨T.ext.trans U.ext, fun k => absurd k h, fun _ => rfl⟩
    refine U.ld0 (j := 0) rfl rfl (cond_ne (fun h1 => ?_) (fun h1 => ?_))
    · refine U.ld0 (j := 0) rfl rfl (cond_ne (fun h2 => no fun k => k.1.elim h1 h2) (fun h2 => ?_))
      have hk : s.h.k = 1 ∨ s.h.k = 2 := .inr h2
      refine U.ld0 (j := 2) rfl rfl (cond_d (fun h => no fun k => by have := k.2.1; omega) fun h3 => ?_)
      refine U.ld0 (j := 2) rfl rfl (cond_d (fun h => no fun k => by have := k.2.2.1; omega) fun h4 => ?_)
      have r1 : Rng .i64 (((getX X s.h.n).n : Int) - s.h.c) := Rng.i64 (by omega) (by omega)
      refine U.ld0 (j := 3) rfl rfl (U.ld0 (j := 2) rfl rfl ⟨r1, ?_⟩)
      rw [wl]
      refine cond_d (fun h => no fun k => by have := k.2.2.2; omega) fun h5 => ?_
      have hok : okS X s := ⟨hk, by omega, by omega, by omega⟩
      have r2 : Rng .i64 (s.h.l + s.h.c) := Rng.i64 (by omega) (by omega)
      refine U.ld0 (j := 3) rfl rfl (U.ld0 (j := 3) rfl rfl (U.ld0 (j := 2) rfl rfl ?_))
      rw [wl]
      refine ⟨r2, ⟨by omega, by omega, by omega⟩, ?_⟩
      intro a20 ha
      rw [if_neg (by omega)] at ha
      refine ⟨T.ext.trans U.ext, fun _ => ?_, fun k => absurd hok k⟩
      rw [ha, show (s.h.l + s.h.c).toNat - s.h.l.toNat = s.h.c.toNat by omega]
    · have hk : s.h.k = 1 ∨ s.h.k = 2 := .inl h1
      refine U.ld0 (j := 2) rfl rfl (cond_d (fun h => no fun k => by have := k.2.1; omega) fun h3 => ?_)
      refine U.ld0 (j := 2) rfl rfl (cond_d (fun h => no fun k => by have := k.2.2.1; omega) fun h4 => ?_)
      have r1 : Rng .i64 (((getX X s.h.n).n : Int) - s.h.c) := Rng.i64 (by omega) (by omega)
      refine U.ld0 (j := 3) rfl rfl (U.ld0 (j := 2) rfl rfl ⟨r1, ?_⟩)
      rw [wl]
      refine cond_d (fun h => no fun k => by have := k.2.2.2; omega) fun h5 => ?_
      have hok : okS X s := ⟨hk, by omega, by omega, by omega⟩
      have r2 : Rng .i64 (s.h.l + s.h.c) := Rng.i64 (by omega) (by omega)
      refine U.ld0 (j := 3) rfl rfl (U.ld0 (j := 3) rfl rfl (U.ld0 (j := 2) rfl rfl ?_))
      rw [wl]
      refine ⟨r2, ⟨by omega, by omega, by omega⟩, ?_⟩
      intro a20 ha
      rw [if_neg (by omega)] at ha
      refine ⟨T.ext.trans U.ext, fun _ => ?_, fun k => absurd hok k⟩
      rw [ha, show (s.h.l + s.h.c).toNat - s.h.l.toNat = s.h.c.toNat by omega]
/-- A spot lost: how often its place is one, and the places that are not live any more. -/
def losM (m : Int × Int → Int) (c : Ce) : Int × Int → Int := if c.has then updM m (c.s.b, c.s.p) (m (c.s.b, c.s.p) - 1) else m
def losL (m : Int × Int → Int) (c : Ce) (L : List (Int × Int)) : List (Int × Int) := if c.has = true ∧ ¬ 0 < m (c.s.b, c.s.p) - 1 then L ++ [(c.s.b, c.s.p)] else L
theorem lose22_c {c : Ce} {bv : List Value} {a : Option Addr} {n cp : Nat} {L : List (Int × Int)} (hbv : bv[4]? = some (.map (some r))) (hm : c.has = true → 1 ≤ m (c.s.b, c.s.p) ∧ m (c.s.b, c.s.p) ≤ 1000000) (hn : n ≤ 1000000) (S : Sep E w0 w [BoxA p 117 bv, MapF r m, outA a n cp L]) :
    CallV Try.prog 78 #[.pointer (some ⟨p, 0, none⟩), c.val, .slice a n cp] w [.one .sl] fun rr w' => ∃ (a' : Option Addr) (n' c' : Nat) (m' : Int × Int → Int), rr.1 = (⟨a', n', c'⟩ : SlV) ∧ n' ≤ n + 1 ∧ (∀ k, m' k = losM m c k) ∧ Sep E w0 w' [BoxA p 117 bv, MapF r m', outA a' n' c' (losL m c L)] := by
  apply pagemap_Map_lose.vc
  unfold pagemap_Map_lose.P
  refine S.newB fun b1 w1 S f1 _ => ?_
  refine S.ld0 (j := 0) rfl rfl (cond_of (fun hh => ?_) (fun hh => ?_))
  · have hh : c.has = false := by simpa using hh
    refine ⟨a, n, cp, m, rfl, by omega, fun k => ?_, ?_⟩
    · unfold losM; rw [hh]; rfl
    · have : losL m c L = L := by unfold losL; rw [if_neg (fun k => by rw [hh] at k; cases k.1)]
      rw [this]
      exact S.tail
  have hh : c.has = true := by simpa using hh
  obtain ⟨m1, m2⟩ := hm hh
  refine S.lb0 (o := 1) rfl (S.newB fun b5 w2 S f2 _ => S.st0 (by rfl) fun w3 S f3 => ?_)
  have ld4 : ∀ {w0 w' : World} {E : Nat → Prop} {A : List Asr} (i : Nat) (S : Sep E w0 w' A) (hi : A[i]? = some (BoxA p 117 bv)) {K : Option Nat → Prop}, K (some r) → LoadS w' ((⟨p, 0, none⟩ : Addr).add 4) .map K := fun {w0 w' E A} i S hi {K} hk => by
    rw [show (⟨p, 0, none⟩ : Addr).add 4 = ⟨p, 4, none⟩ by simp [Addr.add_lit]]
    exact S.ld i hi (j := 4) (h := .map) (some r) hbv hk
  have S := S.sel [3, 0, 0, 0, 0] rfl
  refine Sep.regC [_] S fun G D hG T S hDt hDo hkeep back => ?_
  have hGr : G r := by
    obtain ⟨F, ⟨h1, l, cc, h2, -⟩, h3⟩ := T.get (i := 0) rfl
    exact (h3 r h1).1.resolve_right (fun h => by have := (Array.getElem?_eq_some_iff.1 h2).1; omega)
  have hk2 : ∀ w', Fr (fun k => k = r) w3.drew w' → KeepOn D w3.drew w' := fun w' f => hkeep w' (f.mono fun k hk => by subst hk; exact hGr)
  have rv : Rng .i64 (m (c.s.b, c.s.p) - 1) := Rng.i64 (by omega) (by omega)
  refine ⟨by rw [add_block]; exact hDt 2 _ _ _ rfl, ld4 3 S rfl ⟨hDt 0 _ _ _ rfl, S.la1 rfl ⟨?_, ?_⟩⟩⟩
  · refine T.incA (k := (c.s.b, c.s.p)) (fun x => x - 1) 0 rfl hk2 rv fun w4 T f4 => ?_
    have S := back _ _ T
    dsimp only [List.set_cons_zero, List.cons_append, List.nil_append] at S
    have hu : updM m (c.s.b, c.s.p) (m (c.s.b, c.s.p) - 1) (c.s.b, c.s.p) = m (c.s.b, c.s.p) - 1 := if_pos rfl
    refine S.reg fun D hD hkeep S T => ?_
    refine ⟨by rw [add_block]; exact hD _ (S.lt 3 rfl), ld4 3 S rfl ⟨hD _ S.bl1, S.la1 rfl ?_⟩⟩
    refine S.lookM (k := (c.s.b, c.s.p)) 0 rfl ⟨hkeep _ (Fr.refl _ _), ?_⟩
    dsimp only
    rw [hu]
    refine cond_d (fun hp => ?_) (fun hp => ?_)
    · refine ⟨a, n, cp, updM m (c.s.b, c.s.p) (m (c.s.b, c.s.p) - 1), rfl, by omega, fun k => by unfold losM; rw [if_pos hh], ?_⟩
      have : losL m c L = L := by unfold losL; rw [if_neg (fun k => k.2 hp)]
      rw [this]
      exact S.sel [3, 0, 2] rfl
    · have S := S.sel [0, 0, 0, 0, 0] rfl
      refine Sep.regC [_] S fun G D hG T S hDt hDo hkeep back => ?_
      have hGr : G r := by
        obtain ⟨F, ⟨h1, l, cc, h2, -⟩, h3⟩ := T.get (i := 0) rfl
        exact (h3 r h1).1.resolve_right (fun h => by have := (Array.getElem?_eq_some_iff.1 h2).1; omega)
      refine ⟨by rw [add_block]; exact hDt 2 _ _ _ rfl, ld4 3 S rfl ⟨hDt 0 _ _ _ rfl, S.la1 rfl ?_⟩⟩
      refine T.delM (k := (c.s.b, c.s.p)) 0 rfl fun w5 T f5 => ⟨hkeep _ (f5.mono fun k hk => by subst hk; exact hGr), ?_⟩
      have S := back _ _ T
      dsimp only [List.set_cons_zero, List.cons_append, List.nil_append] at S
      refine S.la1 rfl (S.newB fun b26 w6 S f6 _ => ?_)
      refine AppS.of (news := plV (c.s.b, c.s.p)) rfl (.inr ⟨_, rfl, S.cells 0 rfl⟩) ?_
      refine S.ap5 rfl (plV_one _) (by omega) (by omega) fun a' c' w7 S f7 => ?_
      refine ⟨a', n + 1, c', updM (updM m (c.s.b, c.s.p) (m (c.s.b, c.s.p) - 1)) (c.s.b, c.s.p) 0, rfl, Nat.le_refl _, fun k => ?_, ?_⟩
      rotate_left
      · have e : losL m c L = L ++ [(c.s.b, c.s.p)] := by unfold losL; rw [if_pos ⟨hh, hp⟩]
        rw [e]
        unfold outA
        rw [List.flatMap_append, List.flatMap_singleton]
        exact S.sel [4, 1, 3] rfl
      · unfold losM updM
        rw [if_pos hh]
        by_cases hkk : k = (c.s.b, c.s.p)
        · rw [if_pos hkk, if_pos hkk]; omega
        · rw [if_neg hkk, if_neg hkk]
  · refine T.incB (k := (c.s.b, c.s.p)) (fun x => x - 1) 0 rfl hk2 rv fun w4 T f4 => ?_
    have S := back _ _ T
    dsimp only [List.set_cons_zero, List.cons_append, List.nil_append] at S
    have hu : updM m (c.s.b, c.s.p) (m (c.s.b, c.s.p) - 1) (c.s.b, c.s.p) = m (c.s.b, c.s.p) - 1 := if_pos rfl
    refine S.reg fun D hD hkeep S T => ?_
    refine ⟨by rw [add_block]; exact hD _ (S.lt 3 rfl), ld4 3 S rfl ⟨hD _ S.bl1, S.la1 rfl ?_⟩⟩
    refine S.lookM (k := (c.s.b, c.s.p)) 0 rfl ⟨hkeep _ (Fr.refl _ _), ?_⟩
    dsimp only
    rw [hu]
    refine cond_d (fun hp => ?_) (fun hp => ?_)
    · refine ⟨a, n, cp, updM m (c.s.b, c.s.p) (m (c.s.b, c.s.p) - 1), rfl, by omega, fun k => by unfold losM; rw [if_pos hh], ?_⟩
      have : losL m c L = L := by unfold losL; rw [if_neg (fun k => k.2 hp)]
      rw [this]
      exact S.sel [3, 0, 2] rfl
    · have S := S.sel [0, 0, 0, 0, 0] rfl
      refine Sep.regC [_] S fun G D hG T S hDt hDo hkeep back => ?_
      have hGr : G r := by
        obtain ⟨F, ⟨h1, l, cc, h2, -⟩, h3⟩ := T.get (i := 0) rfl
        exact (h3 r h1).1.resolve_right (fun h => by have := (Array.getElem?_eq_some_iff.1 h2).1; omega)
      refine ⟨by rw [add_block]; exact hDt 2 _ _ _ rfl, ld4 3 S rfl ⟨hDt 0 _ _ _ rfl, S.la1 rfl ?_⟩⟩
      refine T.delM (k := (c.s.b, c.s.p)) 0 rfl fun w5 T f5 => ⟨hkeep _ (f5.mono fun k hk => by subst hk; exact hGr), ?_⟩
      have S := back _ _ T
      dsimp only [List.set_cons_zero, List.cons_append, List.nil_append] at S
      refine S.la1 rfl (S.newB fun b26 w6 S f6 _ => ?_)
      refine AppS.of (news := plV (c.s.b, c.s.p)) rfl (.inr ⟨_, rfl, S.cells 0 rfl⟩) ?_
      refine S.ap5 rfl (plV_one _) (by omega) (by omega) fun a' c' w7 S f7 => ?_
      refine ⟨a', n + 1, c', updM (updM m (c.s.b, c.s.p) (m (c.s.b, c.s.p) - 1)) (c.s.b, c.s.p) 0, rfl, Nat.le_refl _, fun k => ?_, ?_⟩
      rotate_left
      · have e : losL m c L = L ++ [(c.s.b, c.s.p)] := by unfold losL; rw [if_pos ⟨hh, hp⟩]
        rw [e]
        unfold outA
        rw [List.flatMap_append, List.flatMap_singleton]
        exact S.sel [4, 1, 3] rfl
      · unfold losM updM
        rw [if_pos hh]
        by_cases hkk : k = (c.s.b, c.s.p)
        · rw [if_pos hkk, if_pos hkk]; omega
        · rw [if_neg hkk, if_neg hkk]
end
end Go.Proofs.Ytiemdjnmghackaa.Vc

/-! The contract of slices.SortFunc, laid at this program by the library's own command, in plain words. -/
namespace Go.Proofs.Ytiemdjnmghackaa
open Go.Shelf Go.Proofs
def Try.srtP_ren : Go.Shelf.Ren := ⟨fun | 6 => 99 | 15 => 102 | 14 => 103 | 28 => 113 | 29 => 114 | 20 => 115 | 21 => 116 | 22 => 117 | 23 => 118 | 24 => 119 | 25 => 120 | 26 => 121 | 27 => 122 | 46 => 128 | 47 => 124 | 48 => 125 | 49 => 129 | 50 => 130 | 57 => 132 | n => n, fun | 22 => 71 | 24 => 55 | 25 => 133 | 3 => 3 | 39 => 139 | 0 => 0 | 53 => 56 | 55 => 57 | 4 => 4 | 46 => 144 | 45 => 143 | 50 => 148 | 5 => 5 | 9 => 9 | 66 => 157 | 70 => 161 | 76 => 165 | 77 => 37 | n => n, fun | n => n⟩
theorem Try.srtP : Go.Proofs.SlLaysF0.n6 Try.prog Try.srtP_ren := {
  mixed := by kernel_rfl,
  f6 := ⟨Try.f99.name, by decide, Try.func99.trans (congrArg some (by kernel_rfl))⟩,
  f14 := ⟨Try.f103.name, by decide, Try.func103.trans (congrArg some (by kernel_rfl))⟩,
  f15 := Try.func102.trans (congrArg some (by kernel_rfl)),
  f20 := ⟨Try.f115.name, by decide, Try.func115.trans (congrArg some (by kernel_rfl))⟩,
  f21 := ⟨Try.f116.name, by decide, Try.func116.trans (congrArg some (by kernel_rfl))⟩,
  f22 := ⟨Try.f117.name, by decide, Try.func117.trans (congrArg some (by kernel_rfl))⟩,
  f23 := ⟨Try.f118.name, by decide, Try.func118.trans (congrArg some (by kernel_rfl))⟩,
  f24 := ⟨Try.f119.name, by decide, Try.func119.trans (congrArg some (by kernel_rfl))⟩,
  f25 := ⟨Try.f120.name, by decide, Try.func120.trans (congrArg some (by kernel_rfl))⟩,
  f26 := ⟨Try.f121.name, by decide, Try.func121.trans (congrArg some (by kernel_rfl))⟩,
  f27 := ⟨Try.f122.name, by decide, Try.func122.trans (congrArg some (by kernel_rfl))⟩,
  f28 := Try.func113.trans (congrArg some (by kernel_rfl)),
  f29 := Try.func114.trans (congrArg some (by kernel_rfl)),
  f46 := ⟨Try.f128.name, by decide, Try.func128.trans (congrArg some (by kernel_rfl))⟩,
  f47 := Try.func124.trans (congrArg some (by kernel_rfl)),
  f48 := Try.func125.trans (congrArg some (by kernel_rfl)),
  f49 := ⟨Try.f129.name, by decide, Try.func129.trans (congrArg some (by kernel_rfl))⟩,
  f50 := ⟨Try.f130.name, by decide, Try.func130.trans (congrArg some (by kernel_rfl))⟩,
  f57 := ⟨Try.f132.name, by decide, Try.func132.trans (congrArg some (by kernel_rfl))⟩,
  t0 := Try.underlying0,
  a0 := Try.isAgg0,
  z0 := Try.sizeOf0,
  v0 := Try.zeroValue0,
  t3 := Try.underlying3,
  a3 := Try.isAgg3,
  z3 := Try.sizeOf3,
  v3 := Try.zeroValue3,
  t4 := Try.underlying4,
  a4 := Try.isAgg4,
  z4 := Try.sizeOf4,
  v4 := Try.zeroValue4,
  t5 := Try.underlying5,
  a5 := Try.isAgg5,
  z5 := Try.sizeOf5,
  v5 := Try.zeroValue5,
  t9 := Try.underlying9,
  a9 := Try.isAgg9,
  z9 := Try.sizeOf9,
  v9 := Try.zeroValue9,
  t22 := Try.underlying71,
  a22 := Try.isAgg71,
  z22 := Try.sizeOf71,
  v22 := Try.zeroValue71,
  t25 := Try.underlying133,
  a25 := Try.isAgg133,
  z25 := Try.sizeOf133,
  v25 := Try.zeroValue133,
  t39 := Try.underlying139,
  a39 := Try.isAgg139,
  z39 := Try.sizeOf139,
  v39 := Try.zeroValue139,
  t45 := Try.underlying143,
  a45 := Try.isAgg143,
  z45 := Try.sizeOf143,
  v45 := Try.zeroValue143,
  t46 := Try.underlying144,
  a46 := Try.isAgg144,
  z46 := Try.sizeOf144,
  v46 := Try.zeroValue144,
  t50 := Try.underlying148,
  a50 := Try.isAgg148,
  z50 := Try.sizeOf148,
  v50 := Try.zeroValue148,
  t53 := Try.underlying56,
  a53 := Try.isAgg56,
  z53 := Try.sizeOf56,
  v53 := Try.zeroValue56,
  t55 := Try.underlying57,
  a55 := Try.isAgg57,
  z55 := Try.sizeOf57,
  v55 := Try.zeroValue57,
  t66 := Try.underlying157,
  a66 := Try.isAgg157,
  z66 := Try.sizeOf157,
  v66 := Try.zeroValue157,
  t70 := Try.underlying161,
  a70 := Try.isAgg161,
  z70 := Try.sizeOf161,
  v70 := Try.zeroValue161,
  t76 := Try.underlying165,
  a76 := Try.isAgg165,
  z76 := Try.sizeOf165,
  v76 := Try.zeroValue165,
  t77 := Try.underlying37,
  a77 := Try.isAgg37,
  z77 := Try.sizeOf37,
  v77 := Try.zeroValue37 }
def Try.srtS_ren : Go.Shelf.Ren := ⟨fun | 6 => 89 | 15 => 102 | 14 => 101 | 28 => 113 | 29 => 114 | 20 => 105 | 21 => 106 | 22 => 107 | 23 => 108 | 24 => 109 | 25 => 110 | 26 => 111 | 27 => 112 | 46 => 123 | 47 => 124 | 48 => 125 | 49 => 126 | 50 => 127 | 57 => 131 | n => n, fun | 22 => 66 | 24 => 61 | 25 => 134 | 3 => 3 | 39 => 139 | 0 => 0 | 53 => 56 | 55 => 57 | 4 => 4 | 46 => 144 | 45 => 143 | 50 => 148 | 5 => 5 | 9 => 9 | 66 => 157 | 70 => 161 | 76 => 165 | 77 => 37 | n => n, fun | n => n⟩
theorem Try.srtS : Go.Proofs.SlLaysF0.n6 Try.prog Try.srtS_ren := {
  mixed := by kernel_rfl,
  f6 := ⟨Try.f89.name, by decide, Try.func89.trans (congrArg some (by kernel_rfl))⟩,
  f14 := ⟨Try.f101.name, by decide, Try.func101.trans (congrArg some (by kernel_rfl))⟩,
  f15 := Try.func102.trans (congrArg some (by kernel_rfl)),
  f20 := ⟨Try.f105.name, by decide, Try.func105.trans (congrArg some (by kernel_rfl))⟩,
  f21 := ⟨Try.f106.name, by decide, Try.func106.trans (congrArg some (by kernel_rfl))⟩,
  f22 := ⟨Try.f107.name, by decide, Try.func107.trans (congrArg some (by kernel_rfl))⟩,
  f23 := ⟨Try.f108.name, by decide, Try.func108.trans (congrArg some (by kernel_rfl))⟩,
  f24 := ⟨Try.f109.name, by decide, Try.func109.trans (congrArg some (by kernel_rfl))⟩,
  f25 := ⟨Try.f110.name, by decide, Try.func110.trans (congrArg some (by kernel_rfl))⟩,
  f26 := ⟨Try.f111.name, by decide, Try.func111.trans (congrArg some (by kernel_rfl))⟩,
  f27 := ⟨Try.f112.name, by decide, Try.func112.trans (congrArg some (by kernel_rfl))⟩,
  f28 := Try.func113.trans (congrArg some (by kernel_rfl)),
  f29 := Try.func114.trans (congrArg some (by kernel_rfl)),
  f46 := ⟨Try.f123.name, by decide, Try.func123.trans (congrArg some (by kernel_rfl))⟩,
  f47 := Try.func124.trans (congrArg some (by kernel_rfl)),
  f48 := Try.func125.trans (congrArg some (by kernel_rfl)),
  f49 := ⟨Try.f126.name, by decide, Try.func126.trans (congrArg some (by kernel_rfl))⟩,
  f50 := ⟨Try.f127.name, by decide, Try.func127.trans (congrArg some (by kernel_rfl))⟩,
  f57 := ⟨Try.f131.name, by decide, Try.func131.trans (congrArg some (by kernel_rfl))⟩,
  t0 := Try.underlying0,
  a0 := Try.isAgg0,
  z0 := Try.sizeOf0,
  v0 := Try.zeroValue0,
  t3 := Try.underlying3,
  a3 := Try.isAgg3,
  z3 := Try.sizeOf3,
  v3 := Try.zeroValue3,
  t4 := Try.underlying4,
  a4 := Try.isAgg4,
  z4 := Try.sizeOf4,
  v4 := Try.zeroValue4,
  t5 := Try.underlying5,
  a5 := Try.isAgg5,
  z5 := Try.sizeOf5,
  v5 := Try.zeroValue5,
  t9 := Try.underlying9,
  a9 := Try.isAgg9,
  z9 := Try.sizeOf9,
  v9 := Try.zeroValue9,
  t22 := Try.underlying66,
  a22 := Try.isAgg66,
  z22 := Try.sizeOf66,
  v22 := Try.zeroValue66,
  t25 := Try.underlying134,
  a25 := Try.isAgg134,
  z25 := Try.sizeOf134,
  v25 := Try.zeroValue134,
  t39 := Try.underlying139,
  a39 := Try.isAgg139,
  z39 := Try.sizeOf139,
  v39 := Try.zeroValue139,
  t45 := Try.underlying143,
  a45 := Try.isAgg143,
  z45 := Try.sizeOf143,
  v45 := Try.zeroValue143,
  t46 := Try.underlying144,
  a46 := Try.isAgg144,
  z46 := Try.sizeOf144,
  v46 := Try.zeroValue144,
  t50 := Try.underlying148,
  a50 := Try.isAgg148,
  z50 := Try.sizeOf148,
  v50 := Try.zeroValue148,
  t53 := Try.underlying56,
  a53 := Try.isAgg56,
  z53 := Try.sizeOf56,
  v53 := Try.zeroValue56,
  t55 := Try.underlying57,
  a55 := Try.isAgg57,
  z55 := Try.sizeOf57,
  v55 := Try.zeroValue57,
  t66 := Try.underlying157,
  a66 := Try.isAgg157,
  z66 := Try.sizeOf157,
  v66 := Try.zeroValue157,
  t70 := Try.underlying161,
  a70 := Try.isAgg161,
  z70 := Try.sizeOf161,
  v70 := Try.zeroValue161,
  t76 := Try.underlying165,
  a76 := Try.isAgg165,
  z76 := Try.sizeOf165,
  v76 := Try.zeroValue165,
  t77 := Try.underlying37,
  a77 := Try.isAgg37,
  z77 := Try.sizeOf37,
  v77 := Try.zeroValue37 }
end Go.Proofs.Ytiemdjnmghackaa

/-! The contracts of layer 22 (pagemap): places, sorted. -/
namespace Go.Proofs.Ytiemdjnmghackaa.Vc
open Go Go.Eng Go.RowKit
set_option linter.unusedVariables false
set_option linter.unusedSimpArgs false

theorem sort0_c {w : World} {a : Option Addr} {c : Nat} {fv : Value} : CallV Try.prog 99 #[.slice a 0 c, fv] w [] fun _ w' => w' = w :=
  Calls.mono (Go.Proofs.AnyF.slices_SortFunc_none Try.srtP a c fv w) fun e w' ⟨h1, h2⟩ => ⟨(), h1, h2⟩
theorem told0_c {w : World} {a : Option Addr} {c : Nat} : CallV Try.prog 79 #[.slice a 0 c] w [.one .sl] fun r w' => r.1 = (⟨a, 0, c⟩ : SlV) ∧ w' = w := by
  apply pagemap_told.vc
  unfold pagemap_told.P
  refine sort0_c.mono ?_
  rintro ⟨⟩ w1 rfl
  exact ⟨rfl, rfl⟩
end Go.Proofs.Ytiemdjnmghackaa.Vc

/-! Plain laws of layer 22 (pagemap): what a map holds, and how often each place is a spot's. -/
namespace Go.Proofs.Ytiemdjnmghackaa.Vc
open Go Go.Eng Go.RowKit
set_option linter.unusedVariables false
set_option linter.unusedSimpArgs false

abbrev Ce.pl (c : Ce) : Int × Int := (c.s.b, c.s.p)
def isP (k : Int × Int) (c : Ce) : Bool := c.has && decide (c.pl = k)
def cntC (l : List Ce) (k : Int × Int) : Nat := l.countP (isP k)
def flatX (X : List (SlP Ce)) : List Ce := X.flatMap (·.l)
/-- How often a place is a spot's. -/
def cntX (X : List (SlP Ce)) : Int × Int → Int := fun k => (cntC (flatX X) k : Int)
/-- A cell, set. -/
def setX (X : List (SlP Ce)) (ns : Int) (j : Nat) (c : Ce) : List (SlP Ce) := X.set ns.toNat ⟨(getX X ns).a, (getX X ns).n, (getX X ns).c, (getX X ns).l.set j c⟩
structure XOk (X : List (SlP Ce)) : Prop where
  four : X.length = 4
  len : ∀ x ∈ X, x.l.length = x.n ∧ x.n ≤ 65535
theorem getX_at {X : List (SlP Ce)} (hX : X.length = 4) {ns : Int} (hn : 0 ≤ ns ∧ ns < 4) : X[ns.toNat]? = some (getX X ns) := by
  have hl : ns.toNat < X.length := by omega
  unfold getX
  rw [if_pos hn, List.getD_eq_getElem?_getD, List.getElem?_eq_getElem hl]
  rfl
theorem XOk.get {X : List (SlP Ce)} (h : XOk X) (ns : Int) : (getX X ns).l.length = (getX X ns).n ∧ (getX X ns).n ≤ 65535 := by
  by_cases hn : 0 ≤ ns ∧ ns < 4
  · exact h.len _ (List.mem_of_getElem? (getX_at h.four hn))
  · unfold getX; rw [if_neg hn]; exact ⟨rfl, Nat.zero_le _⟩
theorem setX_get {X : List (SlP Ce)} (hX : X.length = 4) {ns : Int} (hn : 0 ≤ ns ∧ ns < 4) {j : Nat} {c : Ce} (ns' : Int) : getX (setX X ns j c) ns' = if ns' = ns then ⟨(getX X ns).a, (getX X ns).n, (getX X ns).c, (getX X ns).l.set j c⟩ else getX X ns' := by
  by_cases hn' : 0 ≤ ns' ∧ ns' < 4
  · have h1 := getX_at (X := setX X ns j c) (by unfold setX; rw [List.length_set]; exact hX) hn'
    unfold setX at h1
    rw [List.getElem?_set] at h1
    by_cases h : ns' = ns
    · subst h
      rw [if_pos rfl, if_pos (by omega)] at h1
      rw [if_pos rfl]
      exact (Option.some.inj h1).symm
    · rw [if_neg (by omega), getX_at hX hn'] at h1
      rw [if_neg h]
      exact (Option.some.inj h1).symm
  · have h : ns' ≠ ns := fun e => hn' (e ▸ hn)
    rw [if_neg h]
    unfold getX
    rw [if_neg hn', if_neg hn']
theorem XOk.set {X : List (SlP Ce)} (h : XOk X) {ns : Int} {j : Nat} {c : Ce} : XOk (setX X ns j c) := by
  refine ⟨by unfold setX; rw [List.length_set]; exact h.four, fun x hx => ?_⟩
  unfold setX at hx
  rcases List.mem_or_eq_of_mem_set hx with hx | hx
  · exact h.len x hx
  · rw [hx]
    have := h.get ns
    exact ⟨by show ((getX X ns).l.set j c).length = _; rw [List.length_set]; exact this.1, this.2⟩
theorem setX_sl {X : List (SlP Ce)} (hX : X.length = 4) {ns : Int} (hn : 0 ≤ ns ∧ ns < 4) {j : Nat} {c : Ce} : (setX X ns j c).map slC = X.map slC := by
  unfold setX
  rw [List.map_set]
  exact List.set_getElem?_self' (by rw [List.getElem?_map, getX_at hX hn]; rfl)
theorem cntC_set {l : List Ce} {j : Nat} {c d : Ce} (hj : l[j]? = some c) (k : Int × Int) : (cntC (l.set j d) k : Int) = cntC l k - (if isP k c = true then 1 else 0) + (if isP k d = true then 1 else 0) := by
  have hl : j < l.length := (List.getElem?_eq_some_iff.1 hj).1
  unfold cntC
  have h1 : l = l.take j ++ c :: l.drop (j + 1) := by
    conv => lhs; rw [← List.take_append_drop j l, List.drop_eq_getElem_cons hl, (List.getElem?_eq_some_iff.1 hj).2]
  have h2 : l.set j d = l.take j ++ d :: l.drop (j + 1) := by rw [List.set_eq_take_append_cons_drop, if_pos hl]
  rw [h2]
  conv => rhs; rw [h1]
  rw [List.countP_append, List.countP_append, List.countP_cons, List.countP_cons]
  have e : List.take j (l.take j ++ c :: l.drop (j + 1)) = l.take j := by rw [← h1]
  have e' : List.drop (j + 1) (l.take j ++ c :: l.drop (j + 1)) = l.drop (j + 1) := by rw [← h1]
  split <;> split <;> omega
theorem cntX_set {X : List (SlP Ce)} (hX : X.length = 4) {ns : Int} (hn : 0 ≤ ns ∧ ns < 4) {j : Nat} {c d : Ce} (hj : (getX X ns).l[j]? = some c) (k : Int × Int) : cntX (setX X ns j d) k = cntX X k - (if isP k c = true then 1 else 0) + (if isP k d = true then 1 else 0) := by
  unfold cntX
  obtain ⟨m1, m2⟩ := flat_mid (f := fun x : SlP Ce => x.l) (z := (⟨(getX X ns).a, (getX X ns).n, (getX X ns).c, (getX X ns).l.set j d⟩ : SlP Ce)) (getX_at hX hn)
  have h1 : flatX X = _ := m1
  have h2 : flatX (setX X ns j d) = _ := m2
  rw [h1, h2]
  have := cntC_set (d := d) hj k
  unfold cntC at this ⊢
  simp only [List.countP_append] at this ⊢
  push_cast
  omega
theorem cntX_pos {X : List (SlP Ce)} (hX : X.length = 4) {ns : Int} (hn : 0 ≤ ns ∧ ns < 4) {j : Nat} {c : Ce} (hj : (getX X ns).l[j]? = some c) (hh : c.has = true) : 1 ≤ cntX X c.pl := by
  unfold cntX cntC
  have : 0 < (flatX X).countP (isP c.pl) := by
    rw [List.countP_pos_iff]
    refine ⟨c, ?_, by unfold isP; rw [hh]; simp⟩
    unfold flatX
    exact List.mem_flatMap.2 ⟨_, List.mem_of_getElem? (getX_at hX hn), List.mem_of_getElem? hj⟩
  omega
theorem cntX_le {X : List (SlP Ce)} (h : XOk X) (k : Int × Int) : 0 ≤ cntX X k ∧ cntX X k ≤ 262140 := by
  unfold cntX cntC
  refine ⟨Int.natCast_nonneg _, ?_⟩
  have h1 := List.countP_le_length (p := isP k) (l := flatX X)
  have h2 : (flatX X).length ≤ X.length * 65535 := by
    unfold flatX
    have : ∀ (Y : List (SlP Ce)), (∀ x ∈ Y, x.l.length ≤ 65535) → (Y.flatMap (·.l)).length ≤ Y.length * 65535 := by
      intro Y
      induction Y with
      | nil => intro _; simp
      | cons x Y ih =>
        intro hY
        rw [List.flatMap_cons, List.length_append, List.length_cons]
        have := ih fun y hy => hY y (List.mem_cons_of_mem _ hy)
        have := hY x List.mem_cons_self
        omega
    exact this X fun x hx => by have := h.len x hx; omega
  rw [h.four] at h2
  omega

/-- How often each place is a spot's, behind a put. -/
theorem put_m {Y : List (SlP Ce)} (hY : XOk Y) {ns : Int} (hns : 0 ≤ ns ∧ ns < 4) {j : Nat} {x : Ce} (hx : (getX Y ns).l[j]? = some x) (s : Sp) (L : List (Int × Int)) :
    (x.has = true → 1 ≤ updM (cntX Y) (s.b, s.p) (cntX Y (s.b, s.p) + 1) (x.s.b, x.s.p) ∧ updM (cntX Y) (s.b, s.p) (cntX Y (s.b, s.p) + 1) (x.s.b, x.s.p) ≤ 1000000) ∧
    (∀ k, losM (updM (cntX Y) (s.b, s.p) (cntX Y (s.b, s.p) + 1)) x k = cntX (setX Y ns j ⟨true, s⟩) k) ∧
    losL (updM (cntX Y) (s.b, s.p) (cntX Y (s.b, s.p) + 1)) x L = if x.has = true ∧ cntX (setX Y ns j ⟨true, s⟩) x.pl = 0 then L ++ [x.pl] else L := by
  have hm : ∀ k, updM (cntX Y) (s.b, s.p) (cntX Y (s.b, s.p) + 1) k = cntX Y k + (if isP k ⟨true, s⟩ = true then 1 else 0) := fun k => by
    unfold updM
    by_cases h : k = (s.b, s.p)
    · rw [if_pos h, h, if_pos (by simp [isP])]
    · rw [if_neg h, if_neg (by simpa [isP] using fun e => h e.symm)]; omega
  generalize updM (cntX Y) (s.b, s.p) (cntX Y (s.b, s.p) + 1) = m1 at hm
  have hl : ∀ k, losM m1 x k = m1 k - (if isP k x = true then 1 else 0) := fun k => by
    unfold losM
    by_cases hh : x.has = true
    · rw [if_pos hh]
      unfold updM
      by_cases h : k = x.pl
      · rw [if_pos h, h, if_pos (by simp [isP, hh])]
      · rw [if_neg h, if_neg (by simpa [isP, hh] using fun e => h e.symm)]; omega
    · rw [if_neg hh, if_neg (by simp [isP, hh])]; omega
  have hc := cntX_set (d := ⟨true, s⟩) hY.four hns hx
  have hmm : ∀ k, losM m1 x k = cntX (setX Y ns j ⟨true, s⟩) k := fun k => by rw [hl, hm, hc]; omega
  have h1 : x.has = true → 1 ≤ m1 x.pl ∧ m1 x.pl ≤ 1000000 := fun h => by
    have h1 := cntX_pos hY.four hns hx h
    have h2 := (cntX_le hY x.pl).2
    rw [hm]
    split <;> omega
  refine ⟨h1, hmm, ?_⟩
  unfold losL
  by_cases hh : x.has = true
  · have h2 := hmm x.pl
    rw [hl, if_pos (by simp [isP, hh])] at h2
    have h3 := (h1 hh).1
    by_cases h4 : 0 < m1 x.pl - 1
    · rw [if_neg (fun k => k.2 h4), if_neg (fun k => by omega)]
    · rw [if_pos ⟨hh, h4⟩, if_pos ⟨hh, by omega⟩]
  · rw [if_neg (fun k => hh k.1), if_neg (fun k => hh k.1)]
/-- A cell of a spot's, put. -/
def stepP (s : Sp) (j : Nat) (st : List (SlP Ce) × List (Int × Int)) : List (SlP Ce) × List (Int × Int) :=
  let c := (getX st.1 s.h.n).l.getD j Ce0
  if c.has = true ∧ ¬ newH s c.s then st else (setX st.1 s.h.n j ⟨true, s⟩, if c.has = true ∧ cntX (setX st.1 s.h.n j ⟨true, s⟩) c.pl = 0 then st.2 ++ [c.pl] else st.2)
def putP (s : Sp) (X : List (SlP Ce)) : Nat → List (SlP Ce) × List (Int × Int)
  | 0 => (X, [])
  | i + 1 => stepP s (s.h.l.toNat + i) (putP s X i)
theorem stepP_ok {s : Sp} {j : Nat} {st : List (SlP Ce) × List (Int × Int)} (h : XOk st.1) : XOk (stepP s j st).1 := by
  unfold stepP
  dsimp only
  split
  · exact h
  · exact h.set
theorem stepP_sl {s : Sp} {j : Nat} {st : List (SlP Ce) × List (Int × Int)} (h : XOk st.1) (hn : 0 ≤ s.h.n ∧ s.h.n < 4) : (stepP s j st).1.map slC = st.1.map slC := by
  unfold stepP
  dsimp only
  split
  · rfl
  · exact setX_sl h.four hn
end Go.Proofs.Ytiemdjnmghackaa.Vc

/-! Plain laws of layer 22 (pagemap): what a put leaves, and which places it tells. -/
namespace Go.Proofs.Ytiemdjnmghackaa.Vc
open Go Go.Eng Go.RowKit
set_option linter.unusedVariables false
set_option linter.unusedSimpArgs false

abbrev Sp.pl (s : Sp) : Int × Int := (s.b, s.p)
/-- A cell, when a spot is put at it. -/
def putC (s : Sp) (c : Ce) : Ce := if c.has = true ∧ ¬ newH s c.s then c else ⟨true, s⟩
theorem getX_l_set {X : List (SlP Ce)} (hX : X.length = 4) {ns : Int} (hn : 0 ≤ ns ∧ ns < 4) {j : Nat} {c : Ce} (ns' : Int) : (getX (setX X ns j c) ns').l = if ns' = ns then (getX X ns).l.set j c else (getX X ns').l := by
  rw [setX_get hX hn]; split <;> rfl
structure PutI (s : Sp) (X : List (SlP Ce)) (i : Nat) (Y : List (SlP Ce)) (L : List (Int × Int)) : Prop where
  ok : XOk Y
  nd : L.Nodup
  mem : ∀ k, k ∈ L ↔ 1 ≤ cntX X k ∧ cntX Y k = 0
  up : cntX X s.pl ≤ cntX Y s.pl
  cell : ∀ (ns : Int) (j : Nat), (getX Y ns).l[j]? = if ns = s.h.n ∧ s.h.l.toNat ≤ j ∧ j < s.h.l.toNat + i then ((getX X ns).l[j]?).map (putC s) else (getX X ns).l[j]?
  sl : Y.map slC = X.map slC
theorem putP_inv {s : Sp} {X : List (SlP Ce)} (hX : XOk X) (hn : 0 ≤ s.h.n ∧ s.h.n < 4) : ∀ (i : Nat), s.h.l.toNat + i ≤ (getX X s.h.n).n → PutI s X i (putP s X i).1 (putP s X i).2
  | 0, _ => ⟨hX, .nil, fun k => ⟨fun h => (List.not_mem_nil h).elim, fun h => by have h1 := h.1; have h2 : cntX X k = 0 := h.2; omega⟩, Int.le_refl _, fun ns j => by rw [if_neg (by omega)]; rfl, rfl⟩
  | i + 1, hi => by
    have ih := putP_inv hX hn i (by omega)
    show PutI s X (i + 1) (stepP s (s.h.l.toNat + i) (putP s X i)).1 (stepP s (s.h.l.toNat + i) (putP s X i)).2
    generalize putP s X i = st at ih ⊢
    obtain ⟨Y, L⟩ := st
    dsimp only at ih
    obtain ⟨c, hc⟩ : ∃ c, (getX X s.h.n).l[s.h.l.toNat + i]? = some c := ⟨_, List.getElem?_eq_getElem (by rw [(hX.get _).1]; omega)⟩
    have hy : (getX Y s.h.n).l[s.h.l.toNat + i]? = some c := by rw [ih.cell, if_neg (by omega), hc]
    have hd : (getX Y s.h.n).l.getD (s.h.l.toNat + i) Ce0 = c := by rw [List.getD_eq_getElem?_getD, hy]; rfl
    unfold stepP
    dsimp only
    rw [hd]
    by_cases h : c.has = true ∧ ¬ newH s c.s
    · rw [if_pos h]
      refine ⟨ih.ok, ih.nd, ih.mem, ih.up, fun ns j => ?_, ih.sl⟩
      rw [ih.cell]
      by_cases h1 : ns = s.h.n ∧ j = s.h.l.toNat + i
      · rw [if_neg (by omega), if_pos (by omega), h1.1, h1.2, hc]
        show some c = some (putC s c)
        unfold putC; rw [if_pos h]
      · by_cases h2 : ns = s.h.n ∧ s.h.l.toNat ≤ j ∧ j < s.h.l.toNat + i
        · rw [if_pos h2, if_pos (by omega)]
        · rw [if_neg h2, if_neg (by omega)]
    · rw [if_neg h]
      dsimp only
      have hcnt := cntX_set (d := ⟨true, s⟩) ih.ok.four hn hy
      have hpos := fun hh => cntX_pos ih.ok.four hn hy hh
      have hle := cntX_le ih.ok
      have isC : ∀ k, isP k c = true ↔ c.has = true ∧ c.pl = k := fun k => by unfold isP; simp
      have isS : ∀ k, isP k ⟨true, s⟩ = true ↔ s.pl = k := fun k => by unfold isP; simp [Sp.pl]
      have hup : cntX X s.pl ≤ cntX (setX Y s.h.n (s.h.l.toNat + i) ⟨true, s⟩) s.pl := by
        have := ih.up
        rw [hcnt, if_pos ((isS _).2 rfl)]
        split <;> omega
      refine ⟨ih.ok.set, ?_, fun k => ?_, hup, fun ns j => ?_, (setX_sl ih.ok.four hn).trans ih.sl⟩
      · split
        · rename_i h1
          rw [List.nodup_append]
          refine ⟨ih.nd, by simp, fun a ha b hb e => ?_⟩
          have hb := List.mem_singleton.1 hb
          have := ((ih.mem a).1 ha).2
          have := hpos h1.1
          rw [e, hb] at *
          omega
        · exact ih.nd
      · have hck := hcnt k
        have hk0 := (hle k).1
        have hup2 := ih.up
        by_cases hs : s.pl = k
        · subst hs
          have hcs := hcnt s.pl
          rw [if_pos ((isS _).2 rfl)] at hcs
          have hpl : cntX (setX Y s.h.n (s.h.l.toNat + i) ⟨true, s⟩) s.pl ≥ 1 := by
            by_cases hh : isP s.pl c = true
            · have := hpos ((isC _).1 hh).1
              rw [((isC _).1 hh).2] at this
              rw [if_pos hh] at hcs
              omega
            · rw [if_neg hh] at hcs; omega
          refine ⟨fun hm => ?_, fun hm => by omega⟩
          exfalso
          split at hm
          · rename_i h1
            rw [List.mem_append] at hm
            rcases hm with hm | hm
            · have := (ih.mem _).1 hm; omega
            · have hm := List.mem_singleton.1 hm
              rw [← hm] at h1
              omega
          · have := (ih.mem _).1 hm; omega
        · rw [if_neg (fun e => hs ((isS _).1 e)), Int.add_zero] at hck
          by_cases hh : isP k c = true
          · rw [if_pos hh] at hck
            obtain ⟨h1, h2⟩ := (isC _).1 hh
            have hp := hpos h1
            rw [h2] at hp ⊢
            have hX1 : 1 ≤ cntX X k := by
              rw [← h2]; exact cntX_pos hX.four hn hc h1
            by_cases h0 : cntX (setX Y s.h.n (s.h.l.toNat + i) ⟨true, s⟩) k = 0
            · rw [if_pos ⟨h1, h0⟩]
              exact ⟨fun _ => ⟨hX1, h0⟩, fun _ => by simp⟩
            · rw [if_neg (fun e => h0 e.2)]
              exact ⟨fun hm => by have := (ih.mem _).1 hm; omega, fun hm => absurd hm.2 h0⟩
          · rw [if_neg hh, Int.sub_zero] at hck
            rw [hck]
            split
            · rename_i h1
              rw [List.mem_append]
              refine ⟨fun hm => hm.elim (fun x => (ih.mem k).1 x) fun x => ?_, fun hm => .inl ((ih.mem k).2 hm)⟩
              exact absurd ((isC k).2 ⟨h1.1, (List.mem_singleton.1 x).symm⟩) hh
            · exact ih.mem k
      · rw [getX_l_set ih.ok.four hn]
        by_cases h1 : ns = s.h.n
        · rw [if_pos h1, List.getElem?_set, ← h1, ih.cell, h1]
          by_cases h2 : s.h.l.toNat + i = j
          · rw [if_pos h2, if_pos (List.getElem?_eq_some_iff.1 hy).1, if_pos (by omega), ← h2, hc]
            show some _ = some (putC s c)
            unfold putC; rw [if_neg h]
          · rw [if_neg h2]
            by_cases h3 : s.h.l.toNat ≤ j ∧ j < s.h.l.toNat + i
            · rw [if_pos ⟨rfl, h3⟩, if_pos (by omega)]
            · rw [if_neg (fun e => h3 e.2), if_neg (by omega)]
        · rw [if_neg h1, ih.cell, if_neg (fun e => h1 e.1), if_neg (fun e => h1 e.1)]
end Go.Proofs.Ytiemdjnmghackaa.Vc

/-! Some cells of an element of one's own slice are written. -/
namespace Go.Eng
open Go Go.RowKit
set_option linter.unusedVariables false
section
variable {E : Nat → Prop} {w0 w : World} {Rs : List Asr} {α : Type} {f : α → List Value} {m : Nat} {e : TypeId} {a : Option Addr} {n c : Nat} {L : List α}
theorem Sep.stF (S : Sep E w0 w (OwnA e m a n c (L.flatMap f) :: Rs)) (hm : ∀ x, (f x).length = m) (h1 : ∀ x, oneAll (f x)) (hp : 0 < m) {j : Int} (hj : 0 ≤ j ∧ j < (n : Int)) (k : Nat) {news : List Value} {x y : α} (hx : L[j.toNat]? = some x) (hl : k + news.length ≤ m)
    (hy : f y = (f x).take k ++ (news ++ (f x).drop (k + news.length))) {K : World → Prop}
    (hk : ∀ w', Sep E w0 w' (OwnA e m a n c ((L.set j.toNat y).flatMap f) :: Rs) → Fr (fun k => ∃ q : Addr, a = some q ∧ k = q.block) w w' → K w') : ∃ q, a = some q ∧ StoreV w ((q.add (j.toNat * m)).add k) news K := by
  have hL := (S.own 0 rfl).len
  rw [flatF_len hm] at hL
  have hL : L.length = n := Nat.eq_of_mul_eq_mul_right hp hL
  have hj' : j.toNat < L.length := by omega
  obtain ⟨m1, m2⟩ := flat_mid (f := f) (z := y) hx
  obtain ⟨b, tl, ha, q1, q2, q3, q4, q5, S1⟩ := S.focus (by
    intro h
    have := congrArg List.length h
    rw [flatF_len hm, List.length_nil] at this
    rcases Nat.mul_eq_zero.1 this with h | h <;> omega)
  subst ha
  refine ⟨_, rfl, ?_⟩
  rw [show (⟨b, 0, none⟩ : Addr).add (j.toNat * m) = ⟨b, j.toNat * m, none⟩ by simp [Addr.add_lit]]
  rw [m1, List.append_assoc, List.append_assoc] at S1
  refine S1.stM 0 k rfl (by rw [flatF_len hm, List.length_take, Nat.min_eq_left (by omega)]) (by rw [hm]; exact hl) fun w' S2 f2 => hk w' ?_ (f2.mono fun k hk => ⟨_, rfl, hk⟩)
  have S2 : Sep E w0 w' (BoxA b e (((L.set j.toNat y).flatMap f) ++ tl) :: Rs) := by
    rw [m2, List.append_assoc, List.append_assoc, hy]
    exact S2
  have hl2 : ((L.set j.toNat y).flatMap f).length = n * m := by rw [flatF_len hm, List.length_set, hL]
  exact S2.unfocus (n := n) (c := c) (sz := m) hl2 (by rw [List.length_append, hl2, ← q2, List.length_append, q1]) q3 q4 (flatF_one h1 _)
theorem Sep.stF2 (S : Sep E w0 w (OwnA e m a n c (L.flatMap f) :: Rs)) (hm : ∀ x, (f x).length = m) (h1 : ∀ x, oneAll (f x)) (hp : 0 < m) {j : Int} (hj : 0 ≤ j ∧ j < (n : Int)) (k l : Nat) {news : List Value} {x y : α} (hx : L[j.toNat]? = some x) (hl : k + l + news.length ≤ m)
    (hy : f y = (f x).take (k + l) ++ (news ++ (f x).drop (k + l + news.length))) {K : World → Prop}
    (hk : ∀ w', Sep E w0 w' (OwnA e m a n c ((L.set j.toNat y).flatMap f) :: Rs) → Fr (fun k => ∃ q : Addr, a = some q ∧ k = q.block) w w' → K w') : ∃ q, a = some q ∧ StoreV w (((q.add (j.toNat * m)).add k).add l) news K := by
  obtain ⟨q, h2, h3⟩ := S.stF hm h1 hp hj (k + l) hx hl hy hk
  exact ⟨q, h2, by rw [add_add (q.add _)]; exact h3⟩
end
end Go.Eng

/-! The contracts of the document's map of layer 22: what it tells. -/
namespace Go.Eng
open Go Go.RowKit
/-- An element of a slice that is read. -/
theorem Own.nthF {w : World} {B m : Nat} {e : TypeId} {α : Type} {f : α → List Value} {a : Option Addr} {n c : Nat} {L : List α} (h : Own w B e m a n c (L.flatMap f)) (hm : ∀ x, (f x).length = m) (hp : 0 < m) {j : Int} (h0 : 0 ≤ j) (h1 : j < (n : Int)) :
    ∃ q x, a = some q ∧ L[j.toNat]? = some x ∧ CellsAt w (q.add (j.toNat * m)) (f x) ∧ q.block < w.heap.size := by
  have S : Sep (fun k => k < w.heap.size) w w [OwnA e m a n c (L.flatMap f)] := Sep.begin1 ⟨h.mono (Nat.zero_le _), fun q hq => h.lt q hq⟩ fun k hk => hk
  obtain ⟨q, x, h2, h3, h4⟩ := S.nthF 0 rfl hm hp h0 h1
  exact ⟨q, x, h2, h3, h4, h.lt q h2⟩
theorem Own.lenF {w : World} {B m : Nat} {e : TypeId} {α : Type} {f : α → List Value} {a : Option Addr} {n c : Nat} {L : List α} (h : Own w B e m a n c (L.flatMap f)) (hm : ∀ x, (f x).length = m) (hp : 0 < m) : L.length = n := by
  have := h.len
  rw [flatF_len hm] at this
  exact Nat.eq_of_mul_eq_mul_right hp this
end Go.Eng
namespace Go.Proofs.Ytiemdjnmghackaa.Vc
open Go Go.Eng Go.RowKit
set_option linter.unusedVariables false
set_option linter.unusedSimpArgs false

/-- A sector and its spot, in the document's list. -/
structure Rc where
  ns : Int
  lba : Int
  s : Sp
abbrev Rc.vs (c : Rc) : List Value := [.int .i64 c.ns, .int .i64 c.lba, .int .i64 c.s.b, .int .i64 c.s.p, .int .i64 c.s.h.k, .int .i64 c.s.h.n, .int .i64 c.s.h.c, .int .u32 c.s.h.l, .int .u64 c.s.h.e, .int .u64 c.s.h.t, .int .i64 c.s.o.k, .int .i64 c.s.o.n, .int .i64 c.s.o.c, .int .u32 c.s.o.l, .int .u64 c.s.o.e, .int .u64 c.s.o.t]
theorem Rc_len (c : Rc) : c.vs.length = 16 := rfl
theorem Rc_one (c : Rc) : oneAll c.vs := fun u hu => by
  simp only [List.mem_cons, List.not_mem_nil, or_false] at hu
  rcases hu with h | h | h | h | h | h | h | h | h | h | h | h | h | h | h | h <;> subst h <;> rfl
abbrev Rc.pl (c : Rc) : Int × Int := (c.s.b, c.s.p)
structure Sz where
  a : Int
  b : Int
  c : Int
  d : Int
abbrev rmL (z : Sz) (y : SlV) : List Value := [.int .i64 z.a, .int .i64 z.b, .int .i64 z.c, .int .i64 z.d, .slice y.a y.n y.c]
abbrev rmV (z : Sz) (y : SlV) : Value := .agg #[.int .i64 z.a, .int .i64 z.b, .int .i64 z.c, .int .i64 z.d, .slice y.a y.n y.c]
abbrev LcO (w : World) (y : SlV) (L : List Rc) : Prop := Own w 0 93 16 y.a y.n y.c (L.flatMap Rc.vs)
abbrev isK (ns lba : Int) (c : Rc) : Prop := c.ns = ns ∧ c.lba = lba
def cntR (L : List Rc) (k : Int × Int) : Nat := L.countP fun c => decide (c.pl = k)
section
variable {w : World} {z : Sz} {y : SlV} {L : List Rc}
theorem rPlace_c {ns lba : Int} (h : LcO w y L) (hn : y.n ≤ 1000000) : CallV Try.prog 88 #[rmV z y, .int .i64 ns, .int .i64 lba] w [.one (.int .i64)] fun r w' => Ext w w' ∧
    ((r.1 = (-1 : Int) ∧ ∀ c ∈ L, ¬ isK ns lba c) ∨ ∃ (i : Nat) (c : Rc), r.1 = (i : Int) ∧ L[i]? = some c ∧ isK ns lba c) := by
  apply ref22_Place.vc
  unfold ref22_Place.P
  have hl := h.lenF Rc_len (by decide)
  have S := Sep.start NoB w
  refine S.newB (vs := rmL z y) fun b1 w1 S f1 _ => ?_
  refine Loop1 (fun (v : Int × Unit) w' => ∃ i : Nat, v.1 = (i : Int) ∧ i ≤ y.n ∧ (∀ (j : Nat) (c : Rc), j < i → L[j]? = some c → ¬ isK ns lba c) ∧ Sep NoB w w' [BoxA b1 81 (rmL z y)])
    (fun (v : Int × Unit) _ => ((y.n : Int) - v.1).toNat) ⟨0, rfl, by omega, fun j c h => by omega, S⟩ ?_
  rintro ⟨(v : Int), ⟨⟩⟩ w2 ⟨i, hv, hi, hN, S⟩
  dsimp only at hv ⊢
  subst hv
  refine S.ld0 (j := 4) rfl rfl (cond_d (fun hlt => ?_) (fun hge => ?_))
  · have hlt : (i : Int) < (y.n : Int) := hlt
    obtain ⟨q, c, hq, hc, hcc, -⟩ := (h.ext S.ext).nthF Rc_len (by decide) (j := (i : Int)) (by omega) hlt
    rw [Int.toNat_natCast] at hc
    have next : ¬ isK ns lba c → (∃ i' : Nat, (i : Int) + 1 = (i' : Int) ∧ i' ≤ y.n ∧ (∀ (j : Nat) (c : Rc), j < i' → L[j]? = some c → ¬ isK ns lba c) ∧ Sep NoB w w2 [BoxA b1 81 (rmL z y)]) ∧ ((y.n : Int) - ((i : Int) + 1)).toNat < ((y.n : Int) - (i : Int)).toNat := fun hne =>
      ⟨⟨i + 1, by push_cast; rfl, by omega, fun j c' hj hc' => by
        by_cases e : j = i
        · subst e; rw [hc] at hc'; cases hc'; exact hne
        · exact hN j c' (by omega) hc', S⟩, by omega⟩
    refine S.ld0 (j := 4) rfl rfl ⟨⟨by omega, hlt⟩, q, hq, ⟨c.ns, by have := hcc 0 _ rfl; rwa [show (q.add ((i : Int).toNat * 16)).add 0 = q.add ((i : Int).toNat * 16) by rw [add_add]; rfl] at this, ?_⟩⟩
    refine cond_eq (fun e1 => ?_) (fun e1 => ⟨Rng.i64 (by omega) (by omega), next fun k => e1 k.1⟩)
    refine S.ld0 (j := 4) rfl rfl ⟨⟨by omega, hlt⟩, q, hq, ⟨c.lba, hcc 1 _ rfl, ?_⟩⟩
    refine cond_eq (fun e2 => ?_) (fun e2 => ⟨Rng.i64 (by omega) (by omega), next fun k => e2 k.2⟩)
    exact ⟨S.ext, .inr ⟨i, c, rfl, hc, e1, e2⟩⟩
  · have hge : ¬ ((i : Int) < (y.n : Int)) := hge
    refine ⟨S.ext, .inl ⟨rfl, fun c hc => ?_⟩⟩
    obtain ⟨j, hj⟩ := List.getElem?_of_mem hc
    exact hN j c (by have := (List.getElem?_eq_some_iff.1 hj).1; omega) hj
theorem cntR_take {i : Nat} {c : Rc} (hc : L[i]? = some c) (k : Int × Int) : cntR (L.take (i + 1)) k = cntR (L.take i) k + (if c.pl = k then 1 else 0) := by
  unfold cntR
  rw [List.take_add_one, hc]
  simp
theorem rRefs_c {k1 k2 : Int} (h : LcO w y L) (hn : y.n ≤ 1000000) : CallV Try.prog 44 #[rmV z y, .agg #[.int .i64 k1, .int .i64 k2]] w [.one (.int .i64)] fun r w' => Ext w w' ∧ r.1 = (cntR L (k1, k2) : Int) := by
  apply ref22_Refs.vc
  unfold ref22_Refs.P
  have hl := h.lenF Rc_len (by decide)
  have S := Sep.start NoB w
  refine S.newB (vs := rmL z y) fun b1 w1 S f1 _ => ?_
  refine S.newB fun b3 w1 S f1 _ => ?_
  refine Loop1 (fun (v : Int × Int × Unit) w' => ∃ i : Nat, v.2.1 = (i : Int) ∧ v.1 = (cntR (L.take i) (k1, k2) : Int) ∧ i ≤ y.n ∧ Sep NoB w w' [BoxA b3 55 [.int .i64 k1, .int .i64 k2], BoxA b1 81 (rmL z y)])
    (fun (v : Int × Int × Unit) _ => ((y.n : Int) - v.2.1).toNat) ⟨0, rfl, by simp [cntR], by omega, S⟩ ?_
  rintro ⟨(r : Int), (v : Int), ⟨⟩⟩ w2 ⟨i, hv, hr, hi, S⟩
  dsimp only at hv hr ⊢
  subst hv
  refine S.ld1 (j := 4) rfl rfl (cond_d (fun hlt => ?_) (fun hge => ?_))
  · have hlt : (i : Int) < (y.n : Int) := hlt
    refine DrawV.any fun D hD => ?_
    have S := S.drew
    obtain ⟨q, c, hq, hc, hcc, -⟩ := (h.ext S.ext).nthF Rc_len (by decide) (j := (i : Int)) (by omega) hlt
    rw [Int.toNat_natCast] at hc
    have hct := cntR_take hc (k1, k2)
    have hle : cntR (L.take i) (k1, k2) ≤ i := by
      unfold cntR
      exact Nat.le_trans List.countP_le_length (by rw [List.length_take]; omega)
    refine ⟨hD _, S.ld1 (j := 4) rfl rfl ⟨⟨by omega, hlt⟩, q, hq, hD _, ⟨(c.s.b, c.s.p, ()), (hcc.drop 2).take 2, ⟨hD _, S.la0 rfl ?_⟩⟩⟩⟩
    refine eqPl (cond_d (fun e => ?_) (fun e => ?_))
    · rw [if_pos (show c.pl = (k1, k2) from Prod.ext e.1 e.2)] at hct
      exact ⟨Rng.i64 (by omega) (by omega), Rng.i64 (by omega) (by omega), ⟨i + 1, by push_cast; rfl, by rw [hct, hr]; push_cast; rfl, by omega, S⟩, by omega⟩
    · rw [if_neg (fun e' => by have h1 := congrArg Prod.fst e'; have h2 := congrArg Prod.snd e'; exact e ⟨h1, h2⟩)] at hct
      exact ⟨Rng.i64 (by omega) (by omega), ⟨i + 1, by push_cast; rfl, by rw [hct, hr]; rfl, by omega, S⟩, by omega⟩
  · have hge : ¬ ((i : Int) < (y.n : Int)) := hge
    refine ⟨S.ext, ?_⟩
    rw [List.take_of_length_le (by omega)] at hr
    exact hr
def plL' (x y : Int × Int) : Prop := x.1 < y.1 ∨ x.1 = y.1 ∧ x.2 < y.2
instance (x y : Int × Int) : Decidable (plL' x y) := by unfold plL'; infer_instance
theorem ahead_c {a b : Int × Int} : CallV Try.prog 104 #[.agg #[.int .i64 a.1, .int .i64 a.2], .agg #[.int .i64 b.1, .int .i64 b.2]] w [.one .bool] fun r w' => Ext w w' ∧ r.1 = decide (plL' a b) := by
  apply ref22_ahead.vc
  unfold ref22_ahead.P plL'
  have S := Sep.start NoB w
  refine S.newB fun b1 w1 S f1 _ => ?_
  refine S.newB fun b3 w1 S f1 _ => ?_
  refine S.ld1 (j := 0) rfl rfl (S.ld0 (j := 0) rfl rfl (cond_d (fun h => ⟨S.ext, (decide_eq_true (.inl h)).symm⟩) (fun h => ?_)))
  refine S.ld1 (j := 0) rfl rfl (S.ld0 (j := 0) rfl rfl (cond_eq (fun h2 => ?_) (fun h2 => ⟨S.ext, (decide_eq_false (fun k => k.elim h fun k => h2 k.1)).symm⟩)))
  exact S.ld1 (j := 1) rfl rfl (S.ld0 (j := 1) rfl rfl ⟨S.ext, decide_eq_decide.2 ⟨fun k => .inr ⟨h2, k⟩, fun k => k.elim (fun k => absurd k h) fun k => k.2⟩⟩)
end
end Go.Proofs.Ytiemdjnmghackaa.Vc

/-! The contracts of the document's map of layer 22: which places are live no more. -/
namespace Go.Proofs.Ytiemdjnmghackaa.Vc
open Go Go.Eng Go.RowKit
set_option linter.unusedVariables false
set_option linter.unusedSimpArgs false

/-- Places, in order: those of A that are not live in B. -/
structure Gone (A B : List Rc) (G : List (Int × Int)) : Prop where
  so : G.Pairwise plL'
  mem : ∀ k, k ∈ G ↔ (∃ c ∈ A, c.pl = k) ∧ cntR B k = 0
theorem Gone.nil {B : List Rc} : Gone [] B [] := ⟨.nil, fun k => ⟨fun h => (List.not_mem_nil h).elim, fun h => by obtain ⟨⟨c, h, _⟩, _⟩ := h; exact (List.not_mem_nil h).elim⟩⟩
theorem Gone.skip {A B : List Rc} {G : List (Int × Int)} {i : Nat} {c : Rc} (h : Gone (A.take i) B G) (hc : A[i]? = some c) (hs : 0 < cntR B c.pl ∨ c.pl ∈ G) : Gone (A.take (i + 1)) B G := by
  refine ⟨h.so, fun k => (h.mem k).trans ?_⟩
  rw [List.take_add_one, hc]
  constructor
  · rintro ⟨⟨d, hd, e⟩, h0⟩
    exact ⟨⟨d, List.mem_append_left _ hd, e⟩, h0⟩
  · rintro ⟨⟨d, hd, e⟩, h0⟩
    rcases List.mem_append.1 hd with hd | hd
    · exact ⟨⟨d, hd, e⟩, h0⟩
    · have : d = c := by simpa using hd
      subst this
      rw [e] at hs
      exact (h.mem k).1 (hs.resolve_left (by omega))
theorem Gone.put {A B : List Rc} {G : List (Int × Int)} {i : Nat} {c : Rc} (h : Gone (A.take i) B G) (hc : A[i]? = some c) (h0 : cntR B c.pl = 0) (hn : c.pl ∉ G) {j : Nat} (h1 : ∀ x ∈ G.take j, plL' x c.pl) (h2 : ∀ x, G[j]? = some x → ¬ plL' x c.pl) :
    Gone (A.take (i + 1)) B (G.take j ++ c.pl :: G.drop j) := by
  have hm : ∀ k, k ∈ G.take j ++ c.pl :: G.drop j ↔ k ∈ G ∨ k = c.pl := fun k => by
    have : k ∈ G ↔ k ∈ G.take j ∨ k ∈ G.drop j := by rw [← List.mem_append, List.take_append_drop]
    rw [List.mem_append, List.mem_cons, this]
    exact ⟨fun h => h.elim (fun x => .inl (.inl x)) fun h => h.elim .inr fun x => .inl (.inr x), fun h => h.elim (fun h => h.elim .inl fun x => .inr (.inr x)) fun x => .inr (.inl x)⟩
  refine ⟨?_, fun k => (hm k).trans ?_⟩
  · have hs := h.so
    rw [← List.take_append_drop j G, List.pairwise_append] at hs
    obtain ⟨s1, s2, s3⟩ := hs
    have hd : ∀ x ∈ G.drop j, plL' c.pl x := by
      intro x hx
      cases hg : G.drop j with
      | nil => rw [hg] at hx; exact (List.not_mem_nil hx).elim
      | cons g l =>
        rw [hg] at hx s2
        have hgj : G[j]? = some g := by
          have := congrArg (·[0]?) hg
          simpa using this
        have h4 := h2 g hgj
        have h5 : g ≠ c.pl := fun e => hn (e ▸ List.mem_of_getElem? hgj)
        have h6 : plL' c.pl g := by
          have h7 : ¬ (g.1 = c.pl.1 ∧ g.2 = c.pl.2) := fun e => h5 (Prod.ext e.1 e.2)
          unfold plL' at h4 ⊢
          omega
        rcases List.mem_cons.1 hx with e | e
        · rw [e]; exact h6
        · have h8 := (List.pairwise_cons.1 s2).1 x e
          unfold plL' at h6 h8 ⊢
          omega
    rw [List.pairwise_append]
    refine ⟨s1, List.pairwise_cons.2 ⟨hd, s2⟩, fun a ha b hb => ?_⟩
    rcases List.mem_cons.1 hb with e | e
    · rw [e]; exact h1 a ha
    · exact s3 a ha b e
  · rw [h.mem, List.take_add_one, hc]
    constructor
    · rintro (⟨⟨d, hd, e⟩, h3⟩ | e)
      · exact ⟨⟨d, List.mem_append_left _ hd, e⟩, h3⟩
      · exact ⟨⟨c, List.mem_append_right _ (by simp), e.symm⟩, by rw [e]; exact h0⟩
    · rintro ⟨⟨d, hd, e⟩, h3⟩
      rcases List.mem_append.1 hd with hd | hd
      · exact .inl ⟨⟨d, hd, e⟩, h3⟩
      · have : d = c := by simpa using hd
        subst this
        exact .inr e.symm
theorem sub_rd {w : World} {a : Option Addr} {n c : Nat} {G : List (Int × Int)} (o : Own w 0 55 2 a n c (G.flatMap plV)) {j m : Nat} (hj : j ≤ n) (hm : m ≤ n - j) {a' : Option Addr} (ha : a' = if c = j then a else a.map (·.add (j * 2))) : RdC w a' (((G.drop j).take m).flatMap plV) := by
  have hl := o.lenF plV_len (by decide)
  rcases o.rd with ⟨h1, h2⟩ | ⟨q, h1, h2⟩
  · have : G = [] := by cases G with | nil => rfl | cons x l => cases h2
    subst this
    subst h1
    exact .inl ⟨by rw [ha]; split <;> rfl, by simp⟩
  · subst h1
    by_cases e : c = j
    · rw [if_pos e] at ha
      have hc := o.cap
      have : G.drop j = [] := List.drop_eq_nil_of_le (by omega)
      exact .inr ⟨q, ha, by rw [this, List.take_nil]; exact CellsAt.nil⟩
    · rw [if_neg e] at ha
      refine .inr ⟨_, ha, ?_⟩
      have e1 : G.flatMap plV = (G.take j).flatMap plV ++ (((G.drop j).take m).flatMap plV ++ ((G.drop j).drop m).flatMap plV) := by
        rw [← List.flatMap_append, List.take_append_drop, ← List.flatMap_append, List.take_append_drop]
      rw [e1] at h2
      have h3 := h2.drop (j * 2)
      have hlj : ((G.take j).flatMap plV).length = j * 2 := by rw [flatF_len plV_len, List.length_take]; congr 1; omega
      rw [List.drop_append_of_le_length (by omega), List.drop_eq_nil_of_le (by omega), List.nil_append] at h3
      have h4 := h3.take (((G.drop j).take m).flatMap plV).length
      rw [List.take_left'  rfl] at h4
      exact h4
section
variable {w : World} {z z2 : Sz} {y y2 : SlV} {A B : List Rc}
theorem gone_c (hA : LcO w y A) (hB : LcO w y2 B) (hn : y.n ≤ 100000) (hn2 : y2.n ≤ 100000) : CallV Try.prog 100 #[rmV z y, rmV z2 y2] w [.one .sl] fun r w' => ∃ G, Gone A B G ∧ G.length ≤ y.n ∧ Sep NoB w w' [outA r.1.a r.1.n r.1.c G] := by
  apply ref22_gone.vc
  unfold ref22_gone.P
  have hl := hA.lenF Rc_len (by decide)
  have S := Sep.start NoB w
  refine S.newB (vs := rmL z y) fun b1 w1 S f1 _ => ?_
  refine S.newB (vs := rmL z2 y2) fun b3 w1 S f1 _ => ?_
  refine S.newB (vs := []) fun b5 w1 S f1 _ => ?_
  have S := S.asOwn (sz := 2) (n := 0) rfl (by omega) (fun u hu => by cases hu)
  refine Loop1 (fun (v : SlV × Int × Unit) w' => ∃ (i : Nat) (G : List (Int × Int)), v.2.1 = (i : Int) ∧ i ≤ y.n ∧ Gone (A.take i) B G ∧ G.length ≤ i ∧ Sep NoB w w' [outA v.1.a v.1.n v.1.c G, BoxA b3 81 (rmL z2 y2), BoxA b1 81 (rmL z y)])
    (fun (v : SlV × Int × Unit) _ => ((y.n : Int) - v.2.1).toNat) ⟨0, [], rfl, by omega, by rw [List.take_zero]; exact .nil, by simp, S⟩ ?_
  clear S
  rintro ⟨⟨oa, on, oc⟩, (v : Int), ⟨⟩⟩ w2 ⟨i, G, hv, hi, hG, hGl, S⟩
  dsimp only at hv S ⊢
  subst hv
  refine S.ld2 (j := 4) rfl rfl (cond_d (fun hlt => ?_) (fun hge => ?_))
  case refine_2 =>
    have hge : ¬ ((i : Int) < (y.n : Int)) := hge
    rw [List.take_of_length_le (by omega)] at hG
    exact ⟨G, hG, by omega, S.take1⟩
  have hlt : (i : Int) < (y.n : Int) := hlt
  have hgn : G.length = on := (S.own 0 rfl).lenF plV_len (by decide)
  obtain ⟨q, c, hq, hc, hcc, -⟩ := (hA.ext S.ext).nthF Rc_len (by decide) (j := (i : Int)) (by omega) hlt
  rw [Int.toNat_natCast] at hc
  refine S.ld2 (j := 4) rfl rfl ⟨⟨by omega, hlt⟩, q, hq, ⟨(c.s.b, c.s.p, ()), (hcc.drop 2).take 2, ?_⟩⟩
  refine S.newB fun b14 w3 S f3 _ => ?_
  refine S.st0 (by rfl) fun w4 S f4 => ?_
  refine S.la2 rfl (S.la0 rfl ?_)
  refine (rRefs_c (z := z2) (k1 := c.s.b) (k2 := c.s.p) (hB.ext S.ext) (by omega)).mono ?_
  rintro ⟨(rr : Int), ⟨⟩⟩ w5 ⟨x5, h5⟩
  dsimp only at h5 ⊢
  have S := S.stepE x5
  have rg : Rng .i64 ((i : Int) + 1) := Rng.i64 (by omega) (by omega)
  refine Loop1 (fun (v : Bool × Int × Unit) w' => ∃ (k : Nat), v.2.1 = (k : Int) ∧ k ≤ on ∧ v.1 = decide (0 < cntR B c.pl ∨ c.pl ∈ G.take k) ∧ Sep NoB w w' [BoxA b14 55 (plV c.pl), outA oa on oc G, BoxA b3 81 (rmL z2 y2), BoxA b1 81 (rmL z y)])
    (fun (v : Bool × Int × Unit) _ => ((on : Int) - v.2.1).toNat) ⟨0, rfl, by omega, ?_, S⟩ ?_
  · show decide (rr > 0) = _
    rw [h5]
    apply decide_eq_decide.2
    simp
  clear S
  rintro ⟨(told : Bool), (v : Int), ⟨⟩⟩ w6 ⟨k, hv, hk, ht, S⟩
  dsimp only at hv ht ⊢
  subst hv
  refine cond_d (fun hlt2 => ?_) (fun hge2 => ?_)
  · refine DrawV.any fun D hD => ?_
    have S := S.drew
    have rg2 : Rng .i64 ((k : Int) + 1) := Rng.i64 (by omega) (by omega)
    obtain ⟨q2, x, hq2, hx, hxc⟩ := S.nthF 1 rfl plV_len (by decide) (j := (k : Int)) (by omega) hlt2
    rw [Int.toNat_natCast] at hx
    have htk : G.take (k + 1) = G.take k ++ [x] := by rw [List.take_add_one, hx]; rfl
    refine cond_of (fun h1 => ⟨rg2, ⟨k + 1, by push_cast; rfl, by omega, ?_, S⟩, by omega⟩) (fun h1 => ?_)
    · rw [ht, decide_eq_true_iff] at h1
      refine (decide_eq_true ?_).symm
      rw [htk]
      exact h1.imp id fun h => List.mem_append_left _ h
    · refine ⟨⟨by omega, hlt2⟩, q2, hq2, hD _, ⟨(x.1, x.2, ()), hxc, ⟨hD _, S.la0 rfl ?_⟩⟩⟩
      refine eqPl ⟨rg2, ⟨k + 1, by push_cast; rfl, by omega, ?_, S⟩, by omega⟩
      rw [ht, decide_eq_false_iff_not] at h1
      apply decide_eq_decide.2
      rw [htk]
      constructor
      · intro h
        refine .inr (List.mem_append_right _ ?_)
        rw [List.mem_singleton]
        exact Prod.ext h.1.symm h.2.symm
      · rintro (h | h)
        · exact absurd (.inl h) h1
        · rcases List.mem_append.1 h with h | h
          · exact absurd (.inr h) h1
          · rw [List.mem_singleton] at h
            have e1 := congrArg Prod.fst h.symm
            have e2 := congrArg Prod.snd h.symm
            exact ⟨e1, e2⟩
  have hke : k = on := by omega
  subst hke
  rw [List.take_of_length_le (by omega)] at ht
  refine cond_of (fun h1 => ?_) (fun h1 => ?_)
  · rw [ht, decide_eq_true_iff] at h1
    exact ⟨rg, ⟨i + 1, G, by push_cast; rfl, by omega, hG.skip hc h1, by omega, S.sel [1, 1, 1] rfl⟩, by omega⟩
  rw [ht, decide_eq_false_iff_not] at h1
  have h10 : cntR B c.pl = 0 := by have : ¬ 0 < cntR B c.pl := fun h => h1 (.inl h); omega
  have h11 : c.pl ∉ G := fun h => h1 (.inr h)
  refine Loop1 (fun (v : Int × Unit) w' => ∃ (j : Nat), v.1 = (j : Int) ∧ j ≤ k ∧ (∀ x ∈ G.take j, plL' x c.pl) ∧ Sep NoB w w' [BoxA b14 55 (plV c.pl), outA oa k oc G, BoxA b3 81 (rmL z2 y2), BoxA b1 81 (rmL z y)])
    (fun (v : Int × Unit) _ => ((k : Int) - v.1).toNat) ⟨0, rfl, by omega, fun x hx => by rw [List.take_zero] at hx; exact (List.not_mem_nil hx).elim, S⟩ ?_
  clear S
  rintro ⟨(v : Int), ⟨⟩⟩ w7 ⟨j, hv, hj, hlj, S⟩
  dsimp only at hv ⊢
  subst hv
  refine S.reg fun D hD hkeep S T => ?_
  refine cond_d (fun hlt3 => ?_) (fun hge3 => ?_)
  · obtain ⟨q2, x, hq2, hx, hxc⟩ := S.nthF 1 rfl plV_len (by decide) (j := (j : Int)) (by omega) hlt3
    rw [Int.toNat_natCast] at hx
    have hblk : (q2.add ((j : Int).toNat * 2)).block < w7.heap.size := by rw [add_block]; exact (S.own 1 rfl).lt q2 hq2
    refine ⟨⟨by omega, hlt3⟩, q2, hq2, hD _ hblk, ⟨(x.1, x.2, ()), hxc, ⟨hD _ S.bl0, S.la0 rfl ?_⟩⟩⟩
    refine (ahead_c (a := x) (b := c.pl)).mono ?_
    rintro ⟨(ah : Bool), ⟨⟩⟩ w8 ⟨x8, h8⟩
    dsimp only at h8 ⊢
    subst h8
    refine ⟨hkeep _ (.of x8), ?_⟩
    have S := S.stepE x8
    refine cond_d (fun ha => ?_) (fun ha => ?_)
    · refine ⟨Rng.i64 (by omega) (by omega), ⟨j + 1, by push_cast; rfl, by omega, fun x' hx' => ?_, S⟩, by omega⟩
      rw [List.take_add_one, hx] at hx'
      rcases List.mem_append.1 hx' with h | h
      · exact hlj x' h
      · have : x' = x := by simpa using h
        rw [this]; exact ha
    · have h2 : ∀ x, G[j]? = some x → ¬ plL' x c.pl := fun x' hx' => by rw [hx] at hx'; cases hx'; exact ha
      clear T hkeep hD
      refine S.reg fun D hD hkeep S T => ⟨hD _ S.bl0, S.la0 rfl ⟨⟨by omega, by omega⟩, ?_⟩⟩
      intro a40 ha40
      rw [Int.toNat_natCast] at ha40 ⊢
      refine S.newB fun b41 w9 S9 f9 _ => ⟨hkeep _ f9, ?_⟩
      have T := T.step0 f9
      refine AppS.of (news := ((G.drop j).take (k - j)).flatMap plV) (by rw [flatF_len plV_len, List.length_take, List.length_drop]; congr 1; omega) (sub_rd (S9.own 2 rfl) hj (Nat.le_refl _) ha40) ?_
      have S9 := S9.asOwn (sz := 2) (n := 1) rfl (by omega) (plV_one c.pl)
      refine S9.ap0 (by rw [flatF_len plV_len, List.length_take, List.length_drop]; congr 1; omega) (flatF_one plV_one _) (by omega) (by omega) fun a43 c43 w10 S9 f10 => ?_
      have f911 : Fr NoB _ w10 := f9.trans' f10 fun kk ⟨qq, hqq, e⟩ => by cases hqq; subst e; exact .inr (by assumption)
      refine ⟨hkeep _ f911, ?_⟩
      refine S9.newB (vs := []) fun b48 w11 S9 f11 _ => ⟨⟨by omega, by have := (S9.own 3 rfl).cap; omega⟩, ?_⟩
      intro a50 ha50
      rw [Nat.sub_zero]
      refine AppS.of (news := ((G.drop 0).take j).flatMap plV) (by rw [flatF_len plV_len, List.length_take, List.length_drop]; congr 1; omega) (sub_rd (S9.own 3 rfl) (Nat.zero_le _) (by omega) ha50) ?_
      have S9 := S9.asOwn (sz := 2) (n := 0) rfl (by omega) (fun u hu => by cases hu)
      refine S9.ap0 (by rw [flatF_len plV_len, List.length_take, List.length_drop]; congr 1; omega) (flatF_one plV_one _) (by omega) (by omega) fun a51 c51 w12 S9 f12 => ?_
      refine AppS.of (news := plV c.pl ++ ((G.drop j).take (k - j)).flatMap plV) (S9.own 1 rfl).len (S9.own 1 rfl).rd ?_
      refine S9.ap0 (S9.own 1 rfl).len (S9.own 1 rfl).one (by omega) (by omega) fun a56 c56 w13 S9 f13 => ?_
      have e9 : [] ++ ((G.drop 0).take j).flatMap plV ++ (plV c.pl ++ ((G.drop j).take (k - j)).flatMap plV) = (G.take j ++ c.pl :: G.drop j).flatMap plV := by
        rw [List.drop_zero, List.nil_append, List.take_of_length_le (l := G.drop j) (by rw [List.length_drop]; omega), List.flatMap_append, List.flatMap_cons]
      rw [e9] at S9
      exact ⟨rg, ⟨i + 1, _, by push_cast; rfl, by omega, hG.put hc h10 h11 hlj h2, by rw [List.length_append, List.length_cons, List.length_take, List.length_drop]; omega, S9.sel [0, 3, 3] rfl⟩, by omega⟩
  · have h2 : ∀ x, G[j]? = some x → ¬ plL' x c.pl := fun x' hx' => by
      have := (List.getElem?_eq_some_iff.1 hx').1
      omega
    clear T hkeep hD
    refine S.reg fun D hD hkeep S T => ⟨hD _ S.bl0, S.la0 rfl ⟨⟨by omega, by omega⟩, ?_⟩⟩
    intro a40 ha40
    rw [Int.toNat_natCast] at ha40 ⊢
    refine S.newB fun b41 w9 S9 f9 _ => ⟨hkeep _ f9, ?_⟩
    have T := T.step0 f9
    refine AppS.of (news := ((G.drop j).take (k - j)).flatMap plV) (by rw [flatF_len plV_len, List.length_take, List.length_drop]; congr 1; omega) (sub_rd (S9.own 2 rfl) hj (Nat.le_refl _) ha40) ?_
    have S9 := S9.asOwn (sz := 2) (n := 1) rfl (by omega) (plV_one c.pl)
    refine S9.ap0 (by rw [flatF_len plV_len, List.length_take, List.length_drop]; congr 1; omega) (flatF_one plV_one _) (by omega) (by omega) fun a43 c43 w10 S9 f10 => ?_
    have f911 : Fr NoB _ w10 := f9.trans' f10 fun kk ⟨qq, hqq, e⟩ => by cases hqq; subst e; exact .inr (by assumption)
    refine ⟨hkeep _ f911, ?_⟩
    refine S9.newB (vs := []) fun b48 w11 S9 f11 _ => ⟨⟨by omega, by have := (S9.own 3 rfl).cap; omega⟩, ?_⟩
    intro a50 ha50
    rw [Nat.sub_zero]
    refine AppS.of (news := ((G.drop 0).take j).flatMap plV) (by rw [flatF_len plV_len, List.length_take, List.length_drop]; congr 1; omega) (sub_rd (S9.own 3 rfl) (Nat.zero_le _) (by omega) ha50) ?_
    have S9 := S9.asOwn (sz := 2) (n := 0) rfl (by omega) (fun u hu => by cases hu)
    refine S9.ap0 (by rw [flatF_len plV_len, List.length_take, List.length_drop]; congr 1; omega) (flatF_one plV_one _) (by omega) (by omega) fun a51 c51 w12 S9 f12 => ?_
    refine AppS.of (news := plV c.pl ++ ((G.drop j).take (k - j)).flatMap plV) (S9.own 1 rfl).len (S9.own 1 rfl).rd ?_
    refine S9.ap0 (S9.own 1 rfl).len (S9.own 1 rfl).one (by omega) (by omega) fun a56 c56 w13 S9 f13 => ?_
    have e9 : [] ++ ((G.drop 0).take j).flatMap plV ++ (plV c.pl ++ ((G.drop j).take (k - j)).flatMap plV) = (G.take j ++ c.pl :: G.drop j).flatMap plV := by
      rw [List.drop_zero, List.nil_append, List.take_of_length_le (l := G.drop j) (by rw [List.length_drop]; omega), List.flatMap_append, List.flatMap_cons]
    rw [e9] at S9
    exact ⟨rg, ⟨i + 1, _, by push_cast; rfl, by omega, hG.put hc h10 h11 hlj h2, by rw [List.length_append, List.length_cons, List.length_take, List.length_drop]; omega, S9.sel [0, 3, 3] rfl⟩, by omega⟩
end
end Go.Proofs.Ytiemdjnmghackaa.Vc

/-! The contracts of the document's map of layer 22: what changes it. -/
namespace Go.Proofs.Ytiemdjnmghackaa.Vc
open Go Go.Eng Go.RowKit
set_option linter.unusedVariables false
set_option linter.unusedSimpArgs false

def Sz.get (z : Sz) (n : Int) : Int := if n = 0 then z.a else if n = 1 then z.b else if n = 2 then z.c else if n = 3 then z.d else 0
def Sz.clr (z : Sz) (n : Int) : Sz := ⟨if n = 0 then 0 else z.a, if n = 1 then 0 else z.b, if n = 2 then 0 else z.c, if n = 3 then 0 else z.d⟩
def okR (z : Sz) (s : Sp) : Prop := (0 ≤ s.h.n ∧ s.h.n < 4) ∧ (s.h.k = 1 ∨ s.h.k = 2) ∧ 1 ≤ s.h.c ∧ s.h.c ≤ z.get s.h.n ∧ s.h.l ≤ z.get s.h.n - s.h.c
instance (z : Sz) (s : Sp) : Decidable (okR z s) := by unfold okR; infer_instance
abbrev spR (s : Sp) (c : Rc) : Prop := c.ns = s.h.n ∧ s.h.l ≤ c.lba ∧ c.lba < s.h.l + s.h.c
abbrev tupRx (c : Rc) : Int × Int × Int × Int × Int × Int × Int × Int × Int × Int × Int × Int × Int × Int × Int × Int × Unit := (c.ns, c.lba, c.s.b, c.s.p, c.s.h.k, c.s.h.n, c.s.h.c, c.s.h.l, c.s.h.e, c.s.h.t, c.s.o.k, c.s.o.n, c.s.o.c, c.s.o.l, c.s.o.e, c.s.o.t, ())
def updR (s : Sp) (c : Rc) : Rc := if spR s c ∧ newH s c.s then ⟨c.ns, c.lba, s⟩ else c
def addR (L : List Rc) (s : Sp) : Nat → List Rc
  | 0 => []
  | i + 1 => if ∃ c ∈ L, isK s.h.n (s.h.l + i) c then addR L s i else addR L s i ++ [⟨s.h.n, s.h.l + i, s⟩]
def putR (L : List Rc) (s : Sp) : List Rc := L.map (updR s) ++ addR L s s.h.c.toNat
def movR (f t : Int × Int) (o : Hh) (c : Rc) : Rc := if c.pl = f then ⟨c.ns, c.lba, ⟨t.1, t.2, c.s.h, o⟩⟩ else c
theorem addR_len (L : List Rc) (s : Sp) : ∀ i, (addR L s i).length ≤ i
  | 0 => Nat.le_refl _
  | i + 1 => by
    have := addR_len L s i
    unfold addR
    split
    · omega
    · rw [List.length_append]; show _ + 1 ≤ _; omega
section
variable {E : Nat → Prop} {w0 w : World} {Rs : List Asr} {z : Sz} {y : SlV} {L : List Rc}
theorem szLd (i : Nat) (n : Int) {b : Nat} (S : Sep E w0 w Rs) (hi : Rs[i]? = some (BoxA b 81 (rmL z y))) (hn : 0 ≤ n ∧ n < 4) {K : Int → Prop} (hk : K (z.get n)) : LoadS w ((⟨b, 0, none⟩ : Addr).add (n.toNat * 1)) (.int .i64) K := by
  rw [show (⟨b, 0, none⟩ : Addr).add (n.toNat * 1) = ⟨b, n.toNat * 1, none⟩ by simp [Addr.add_lit]]
  refine S.ld i hi (j := n.toNat * 1) (h := .int .i64) (z.get n) ?_ hk
  have : n = 0 ∨ n = 1 ∨ n = 2 ∨ n = 3 := by omega
  rcases this with e | e | e | e <;> subst e <;> rfl
/-- One sector more. -/
theorem appR {b36 b8 : Nat} {c : Rc} {o : SlV} {M : List Rc} (S : Sep E w0 w (BoxA b36 93 c.vs :: BoxA b8 81 (rmL z o) :: OwnA 93 16 o.a o.n o.c (M.flatMap Rc.vs) :: Rs)) (hn : o.n ≤ 1000000) {K : World → Prop}
    (hk : ∀ (o' : SlV) w', o'.n = o.n + 1 → Sep E w0 w' (BoxA b8 81 (rmL z o') :: OwnA 93 16 o'.a o'.n o'.c ((M ++ [c]).flatMap Rc.vs) :: Rs) → K w') :
    AppS w (some ⟨b36, 0, none⟩) 1 16 fun ns => AppV w 93 16 128 o.a o.n o.c ns 1 fun a n c w' => StoreV w' ⟨b8, 4, none⟩ [.slice a n c] K := by
  refine AppS.of (news := c.vs) rfl (.inr ⟨_, rfl, S.cells 0 rfl⟩) ?_
  refine S.ap2 rfl (Rc_one c) (by omega) (by omega) fun a' c' w2 S f2 => ?_
  refine S.su1 (by rfl) fun w3 S f3 => hk ⟨a', o.n + 1, c'⟩ w3 rfl ?_
  have e : (M ++ [c]).flatMap Rc.vs = M.flatMap Rc.vs ++ c.vs := by rw [List.flatMap_append]; simp
  rw [e]
  exact S.tail
/-- One sector more, in an open order. -/
theorem appK {b36 b8 : Nat} {c : Rc} {o : SlV} {M : List Rc} {G D : Nat → Prop} {w1 w2 : World} (T : Sep G w1 w2 (BoxA b36 93 c.vs :: BoxA b8 81 (rmL z o) :: OwnA 93 16 o.a o.n o.c (M.flatMap Rc.vs) :: Rs)) (hn : o.n ≤ 1000000) (hkeep : ∀ w', Fr G w1 w' → KeepOn D w1 w') {K : World → Prop}
    (hk : ∀ (o' : SlV) w', o'.n = o.n + 1 → Sep G w1 w' (BoxA b8 81 (rmL z o') :: OwnA 93 16 o'.a o'.n o'.c ((M ++ [c]).flatMap Rc.vs) :: Rs) → K w') :
    AppS w2 (some ⟨b36, 0, none⟩) 1 16 fun ns => AppV w2 93 16 128 o.a o.n o.c ns 1 fun a n c w' => KeepOn D w1 w' ∧ StoreV w' ⟨b8, 4, none⟩ [.slice a n c] K := by
  refine AppS.of (news := c.vs) rfl (.inr ⟨_, rfl, T.cells 0 rfl⟩) ?_
  refine T.ap2 rfl (Rc_one c) (by omega) (by omega) fun a' c' w2 S f2 => ⟨hkeep _ S.fr, ?_⟩
  refine S.su1 (by rfl) fun w3 S f3 => hk ⟨a', o.n + 1, c'⟩ w3 rfl ?_
  have e : (M ++ [c]).flatMap Rc.vs = M.flatMap Rc.vs ++ c.vs := by rw [List.flatMap_append]; simp
  rw [e]
  exact S.tail
end
section
variable {w : World} {z : Sz} {y : SlV} {L : List Rc}
theorem rRight_c {s : Sp} (hz : ∀ n, 0 ≤ z.get n ∧ z.get n ≤ 65535) (hl : 0 ≤ s.h.l ∧ s.h.l < 4294967296) : CallV Try.prog 84 #[rmV z y, s.val] w [.one .bool] fun r w' => Ext w w' ∧ r.1 = decide (okR z s) := by
  apply ref22_Right.vc
  unfold ref22_Right.P
  have S := Sep.start NoB w
  refine S.newB (vs := rmL z y) fun b1 w1 S f1 _ => ?_
  refine S.newB (vs := s.vs) fun b3 w1 S f1 _ => ?_
  refine S.lb0 (o := 2) rfl ?_
  refine S.newB fun b6 w1 S f1 _ => ?_
  refine S.st0 (by rfl) fun w2 S f2 => ?_
  have hw : IntKind.i64.wrap s.h.l = s.h.l := i64_id (by omega) (by omega)
  have no : ¬ okR z s → ∀ {w' : World}, Ext w w' → Ext w w' ∧ false = decide (okR z s) := fun h {w'} e => ⟨e, (decide_eq_false h).symm⟩
  have hzn := hz s.h.n
  refine DrawV.any fun D hD => ?_
  have S := S.drew
  refine ⟨hD _, S.ld0 (j := 1) rfl rfl (cond_d (fun (h : s.h.n < 0) => no (by unfold okR; omega) S.ext) fun (h1 : ¬ s.h.n < 0) => ⟨hD _, S.ld0 (j := 1) rfl rfl (cond_d (fun (h : s.h.n > 3) => no (by unfold okR; omega) S.ext) fun (h2 : ¬ s.h.n > 3) => ⟨hD _, S.ld0 (j := 0) rfl rfl (cond_ne (fun (h3 : s.h.k ≠ 1) => ⟨hD _, S.ld0 (j := 0) rfl rfl (cond_ne (fun (h4 : s.h.k ≠ 2) => no (by unfold okR; omega) S.ext) fun (h4 : s.h.k = 2) => ?_)⟩) fun (h3 : s.h.k = 1) => ?_)⟩)⟩)⟩
  all_goals
    have hk : s.h.k = 1 ∨ s.h.k = 2 := by first | exact .inl h3 | exact .inr h4
    have hns : 0 ≤ s.h.n ∧ s.h.n < 4 := ⟨by omega, by omega⟩
    refine ⟨hD _, S.ld0 (j := 2) rfl rfl (cond_d (fun (h : s.h.c < 1) => no (by unfold okR; omega) S.ext) fun (h5 : ¬ s.h.c < 1) => ?_)⟩
    refine ⟨hD _, S.ld0 (j := 2) rfl rfl ⟨hD _, S.ld0 (j := 1) rfl rfl ⟨hns, hD _, szLd 2 s.h.n S rfl hns (cond_d (fun (h : s.h.c > z.get s.h.n) => no (by unfold okR; omega) S.ext) fun (h6 : ¬ s.h.c > z.get s.h.n) => ?_)⟩⟩⟩
    refine DrawV.any fun D2 hD2 => ?_
    have S := S.drew
    refine ⟨hD2 _, S.ld0 (j := 3) rfl rfl ⟨hD2 _, S.ld0 (j := 1) rfl rfl ⟨hns, hD2 _, szLd 2 s.h.n S rfl hns ⟨hD2 _, S.ld0 (j := 2) rfl rfl ⟨by show Rng .i64 (z.get s.h.n - s.h.c); exact Rng.i64 (by omega) (by omega), S.ext, ?_⟩⟩⟩⟩⟩
    apply decide_eq_decide.2
    unfold okR
    rw [hw]
    exact ⟨fun h => ⟨hns, hk, by omega, by omega, by omega⟩, fun h => h.2.2.2.2⟩
theorem rPut_c {s : Sp} (h : LcO w y L) (hy : y.n ≤ 200000) (hl : 0 ≤ s.h.l ∧ s.h.l < 4294967296) (hc : 1 ≤ s.h.c ∧ s.h.c ≤ 65535) (hyn : y.n + s.h.c.toNat ≤ 100000) :
    CallV Try.prog 85 #[rmV z y, s.val] w [.agg [.int .i64, .int .i64, .int .i64, .int .i64, .sl], .one .sl] fun r w' => ∃ (G : List (Int × Int)) (o : SlV), Gone L (putR L s) G ∧ G.length ≤ y.n ∧ r.1 = (z.a, z.b, z.c, z.d, o, ()) ∧ o.n = (putR L s).length ∧
      Sep NoB w w' [outA r.2.1.a r.2.1.n r.2.1.c G, OwnA 93 16 o.a o.n o.c ((putR L s).flatMap Rc.vs)] := by
  apply ref22_Put.vc
  unfold ref22_Put.P
  have hll := h.lenF Rc_len (by decide)
  have hw : IntKind.i64.wrap s.h.l = s.h.l := i64_id (by omega) (by omega)
  have S := Sep.start NoB w
  refine S.newB (vs := rmL z y) fun b1 w1 S f1 _ => ?_
  refine S.newB (vs := s.vs) fun b3 w1 S f1 _ => ?_
  refine S.newB fun b5 w1 S f1 _ => ?_
  refine S.lb2 (o := 0) rfl ?_
  refine S.newB fun b8 w1 S f1 _ => ?_
  refine S.st0 (by rfl) fun w2 S f2 => ?_
  have S := (S.nilOwn 93 16).sel [1, 0, 0, 0, 0] rfl
  refine Loop1 (fun (v : Int × Unit) w' => ∃ (i : Nat) (o : SlV), v.1 = (i : Int) ∧ i ≤ y.n ∧ o.n = i ∧ Sep NoB w w' [BoxA b8 81 (rmL z o), OwnA 93 16 o.a o.n o.c (((L.take i).map (updR s)).flatMap Rc.vs), BoxA b5 81 (rmL ⟨0, 0, 0, 0⟩ ⟨none, 0, 0⟩), BoxA b3 64 s.vs, BoxA b1 81 (rmL z y)])
    (fun (v : Int × Unit) _ => ((y.n : Int) - v.1).toNat) ⟨0, ⟨none, 0, 0⟩, rfl, by omega, rfl, S⟩ ?_
  clear S
  rintro ⟨(v : Int), ⟨⟩⟩ w3 ⟨i, o, hv, hi, ho, S⟩
  dsimp only at hv ⊢
  subst hv
  refine S.ld4 (j := 4) rfl rfl (cond_d (fun hlt => ?_) (fun hge => ?_))
  · have hlt : (i : Int) < (y.n : Int) := hlt
    have rg : Rng .i64 ((i : Int) + 1) := Rng.i64 (by omega) (by omega)
    obtain ⟨q, c, hq, hc1, hcc, -⟩ := (h.ext S.ext).nthF Rc_len (by decide) (j := (i : Int)) (by omega) hlt
    rw [Int.toNat_natCast] at hc1
    have htk : ∀ {d : Rc}, updR s c = d → (L.take (i + 1)).map (updR s) = (L.take i).map (updR s) ++ [d] := fun {d} e => by rw [List.take_add_one, hc1, List.map_append, ← e]; rfl
    refine S.ld4 (j := 4) rfl rfl ⟨⟨by omega, hlt⟩, q, hq, ⟨tupRx c, hcc, ?_⟩⟩
    refine S.newB fun b18 w4 S f4 _ => ?_
    refine S.st0 (by rfl) fun w5 S f5 => ?_
    refine ⟨fun v w' => v.1 = decide (spR s c) ∧ Sep NoB w w' [BoxA b18 93 c.vs, BoxA b8 81 (rmL z o), OwnA 93 16 o.a o.n o.c (((L.take i).map (updR s)).flatMap Rc.vs), BoxA b5 81 (rmL ⟨0, 0, 0, 0⟩ ⟨none, 0, 0⟩), BoxA b3 64 s.vs, BoxA b1 81 (rmL z y)], ?_, ?_⟩
    case refine_2 =>
      refine S.ld0 (j := 0) rfl rfl (S.ld4 (j := 3) rfl rfl (cond_eq (fun e1 => ?_) fun e1 => ⟨(decide_eq_false fun k => e1 k.1).symm, S⟩))
      refine S.ld0 (j := 1) rfl rfl (S.ld4 (j := 5) rfl rfl (cond_d (fun e2 => ?_) fun e2 => ⟨(decide_eq_false fun k => e2 (by rw [hw]; exact k.2.1)).symm, S⟩))
      refine S.ld0 (j := 1) rfl rfl (S.ld4 (j := 5) rfl rfl (S.ld4 (j := 4) rfl rfl ⟨by rw [hw]; exact Rng.i64 (by omega) (by omega), ?_, S⟩))
      rw [hw] at e2 ⊢
      exact decide_eq_decide.2 ⟨fun k => ⟨e1, e2, k⟩, fun k => k.2.2⟩
    clear S
    rintro ⟨(sp : Bool), rest⟩ w6 ⟨hsp, S⟩
    dsimp only at hsp ⊢
    subst hsp
    refine cond_d (fun hsp => ?_) (fun hsp => ?_)
    · refine S.la4 rfl (S.lb0 (o := 2) rfl ?_)
      refine (rNewer22_c (a := s) (b := c.s)).mono ?_
      rintro ⟨(nw : Bool), ⟨⟩⟩ w7 ⟨h7, x7⟩
      dsimp only at h7 ⊢
      subst h7
      have S := S.stepE x7
      refine cond_d (fun hnw => ?_) (fun hnw => ?_)
      · refine S.la4 rfl ?_
        refine S.store 0 rfl 2 (by show 2 + 14 ≤ 16; decide) fun w8 S f8 => ?_
        have S : Sep NoB w w8 [BoxA b18 93 (Rc.vs ⟨c.ns, c.lba, s⟩), BoxA b8 81 (rmL z o), OwnA 93 16 o.a o.n o.c (((L.take i).map (updR s)).flatMap Rc.vs), BoxA b5 81 (rmL ⟨0, 0, 0, 0⟩ ⟨none, 0, 0⟩), BoxA b3 64 s.vs, BoxA b1 81 (rmL z y)] := S
        have hu := htk (d := ⟨c.ns, c.lba, s⟩) (by unfold updR; rw [if_pos ⟨hsp, hnw⟩])
        refine S.ld1 (j := 4) rfl rfl (S.la0 rfl ?_)
        refine S.newB (vs := Rc.vs ⟨c.ns, c.lba, s⟩) fun b9 w9 S f9 _ => ?_
        refine appR (S.sel [0, 1, 1, 1, 1, 1] rfl) (by omega) fun o' w10 ho' S => ⟨rg, ⟨i + 1, o', by push_cast; rfl, by omega, by omega, by rw [hu]; exact S⟩, by omega⟩
      · have hu := htk (d := c) (by unfold updR; rw [if_neg (fun k => hnw k.2)])
        refine S.ld1 (j := 4) rfl rfl (S.la0 rfl ?_)
        refine S.newB (vs := Rc.vs c) fun b9 w9 S f9 _ => ?_
        refine appR (S.sel [0, 1, 1, 1, 1, 1] rfl) (by omega) fun o' w10 ho' S => ⟨rg, ⟨i + 1, o', by push_cast; rfl, by omega, by omega, by rw [hu]; exact S⟩, by omega⟩
    · have hu := htk (d := c) (by unfold updR; rw [if_neg (fun k => hsp k.1)])
      refine S.ld1 (j := 4) rfl rfl (S.la0 rfl ?_)
      refine S.newB (vs := Rc.vs c) fun b9 w9 S f9 _ => ?_
      refine appR (S.sel [0, 1, 1, 1, 1, 1] rfl) (by omega) fun o' w10 ho' S => ⟨rg, ⟨i + 1, o', by push_cast; rfl, by omega, by omega, by rw [hu]; exact S⟩, by omega⟩
  have hge : ¬ ((i : Int) < (y.n : Int)) := hge
  rw [List.take_of_length_le (by omega)] at S
  have hoi : o.n = y.n := by omega
  refine S.ld3 (j := 5) rfl rfl ?_
  rw [hw]
  have hmz : (L.map (updR s)).length = y.n := by rw [List.length_map]; exact hll
  refine Loop1 (fun (v : Int × Unit) w' => ∃ (t : Nat) (o : SlV), v.1 = s.h.l + (t : Int) ∧ t ≤ s.h.c.toNat ∧ o.n = (L.map (updR s) ++ addR L s t).length ∧ Sep NoB w w' [BoxA b8 81 (rmL z o), OwnA 93 16 o.a o.n o.c ((L.map (updR s) ++ addR L s t).flatMap Rc.vs), BoxA b5 81 (rmL ⟨0, 0, 0, 0⟩ ⟨none, 0, 0⟩), BoxA b3 64 s.vs, BoxA b1 81 (rmL z y)])
    (fun (v : Int × Unit) _ => (s.h.l + s.h.c - v.1).toNat) ⟨0, o, by simp, by omega, by show o.n = (L.map (updR s) ++ []).length; rw [List.append_nil, hmz, hoi], by show Sep NoB w w3 [_, OwnA _ _ _ _ _ ((L.map (updR s) ++ []).flatMap Rc.vs), _, _, _]; rw [List.append_nil]; exact S⟩ ?_
  clear S
  rintro ⟨(v : Int), ⟨⟩⟩ w4 ⟨t, o, hv, ht, ho, S⟩
  dsimp only at hv ⊢
  subst hv
  have hal := addR_len L s t
  have hon : o.n ≤ y.n + t := by rw [ho, List.length_append, hmz]; omega
  refine S.ld3 (j := 5) rfl rfl (S.ld3 (j := 4) rfl rfl ?_)
  rw [hw]
  refine ⟨Rng.i64 (by omega) (by omega), cond_d (fun hlt => ?_) (fun hge => ?_)⟩
  · have rg : Rng .i64 (s.h.l + (t : Int) + 1) := Rng.i64 (by omega) (by omega)
    refine S.la4 rfl (S.ld3 (j := 3) rfl rfl ?_)
    refine (rPlace_c (ns := s.h.n) (lba := s.h.l + (t : Int)) (h.ext S.ext) (by omega)).mono ?_
    rintro ⟨(pr : Int), ⟨⟩⟩ w5 ⟨x5, h5⟩
    dsimp only at h5 ⊢
    have S := S.stepE x5
    refine cond_d (fun (hp : pr < 0) => ?_) (fun (hp : ¬ pr < 0) => ?_)
    · have hno : ¬ ∃ c ∈ L, isK s.h.n (s.h.l + (t : Int)) c := by
        rcases h5 with ⟨-, h5⟩ | ⟨j, c, hj, -, -⟩
        · rintro ⟨c, hc, hk⟩; exact h5 c hc hk
        · have hj : pr = (j : Int) := hj
          omega
      have hu : L.map (updR s) ++ addR L s (t + 1) = (L.map (updR s) ++ addR L s t) ++ [⟨s.h.n, s.h.l + t, s⟩] := by
        rw [List.append_assoc]
        congr 1
        show (if _ then _ else _) = _
        rw [if_neg hno]
      refine S.ld0 (j := 4) rfl rfl (S.ld3 (j := 3) rfl rfl (S.la3 rfl ?_))
      refine S.newB (vs := Rc.vs ⟨s.h.n, s.h.l + t, s⟩) fun b9 w9 S f9 _ => ?_
      refine appR S (by omega) fun o' w10 ho' S => ⟨rg, ⟨t + 1, o', by push_cast; omega, by omega, by rw [ho', hu, List.length_append, ho]; rfl, by rw [hu]; exact S⟩, by omega⟩
    · have hyes : ∃ c ∈ L, isK s.h.n (s.h.l + (t : Int)) c := by
        rcases h5 with ⟨h5, -⟩ | ⟨j, c, -, hc, hk⟩
        · have h5 : pr = -1 := h5
          omega
        · exact ⟨c, List.mem_of_getElem? hc, hk⟩
      have hu : addR L s (t + 1) = addR L s t := by
        show (if _ then _ else _) = _
        rw [if_pos hyes]
      exact ⟨rg, ⟨t + 1, o, by push_cast; omega, by omega, by rw [hu]; exact ho, by rw [hu]; exact S⟩, by omega⟩
  have htc : t = s.h.c.toNat := by omega
  subst htc
  have S : Sep NoB w w4 [_, OwnA 93 16 o.a o.n o.c ((putR L s).flatMap Rc.vs), _, _, _] := S
  have ho : o.n = (putR L s).length := ho
  have S := S.sel [2, 0, 0, 0, 0] rfl
  refine Sep.regC [_] S fun G D hG T S hDt hDo hkeep back => ?_
  refine ⟨hDt 0 _ _ _ rfl, S.la1 rfl ⟨hDt 3 _ _ _ rfl, S.la4 rfl ⟨hDt 0 _ _ _ rfl, S.la1 rfl ?_⟩⟩⟩
  refine (gone_c (z := z) (z2 := z) (h.ext S.ext) (S.own 2 rfl) (by omega) (by omega)).mono ?_
  rintro ⟨g, ⟨⟩⟩ w5 ⟨GG, hg, hgl, S5⟩
  dsimp only at S5 ⊢
  have T := T.frame0 S5
  dsimp only [List.cons_append, List.nil_append] at T
  refine ⟨hkeep _ T.fr, T.st1 (by rfl) fun w6 T f6 => ⟨hkeep _ T.fr, T.la1 rfl ?_⟩⟩
  have S := back _ _ T
  exact ⟨GG, o, hg, hgl, rfl, ho, S.sel [0, 2] rfl⟩
theorem rDrop_c {n : Int} (h : LcO w y L) (hy : y.n ≤ 100000) (hn : 0 ≤ n ∧ n < 4) :
    CallV Try.prog 82 #[rmV z y, .int .i64 n] w [.agg [.int .i64, .int .i64, .int .i64, .int .i64, .sl], .one .sl] fun r w' => ∃ (G : List (Int × Int)) (o : SlV), Gone L (L.filter fun c => decide (c.ns ≠ n)) G ∧ G.length ≤ y.n ∧ r.1 = ((z.clr n).a, (z.clr n).b, (z.clr n).c, (z.clr n).d, o, ()) ∧ o.n = (L.filter fun c => decide (c.ns ≠ n)).length ∧
      Sep NoB w w' [outA r.2.1.a r.2.1.n r.2.1.c G, OwnA 93 16 o.a o.n o.c ((L.filter fun c => decide (c.ns ≠ n)).flatMap Rc.vs)] := by
  apply ref22_Drop.vc
  unfold ref22_Drop.P
  have hll := h.lenF Rc_len (by decide)
  have S := Sep.start NoB w
  refine S.newB (vs := rmL z y) fun b1 w1 S f1 _ => ?_
  refine S.newB fun b3 w1 S f1 _ => ?_
  refine S.lb1 (o := 0) rfl ?_
  refine S.newB fun b6 w1 S f1 _ => ?_
  refine S.st0 (by rfl) fun w2 S f2 => ⟨hn, ?_⟩
  rw [show (⟨b6, 0, none⟩ : Addr).add (n.toNat * 1) = ⟨b6, n.toNat * 1, none⟩ by simp [Addr.add_lit]]
  refine S.store 0 rfl (n.toNat * 1) (by show _ + 1 ≤ 5; omega) fun w3 S f3 => ?_
  have S : Sep NoB w w3 [BoxA b6 81 (rmL (z.clr n) ⟨none, 0, 0⟩), BoxA b3 81 (rmL ⟨0, 0, 0, 0⟩ ⟨none, 0, 0⟩), BoxA b1 81 (rmL z y)] := by
    have : n = 0 ∨ n = 1 ∨ n = 2 ∨ n = 3 := by omega
    rcases this with e | e | e | e <;> subst e <;> exact S
  have S := (S.nilOwn 93 16).sel [1, 0, 0, 0] rfl
  generalize hZ : z.clr n = Z at S ⊢
  refine Loop1 (fun (v : Int × Unit) w' => ∃ (i : Nat) (o : SlV), v.1 = (i : Int) ∧ i ≤ y.n ∧ o.n = ((L.take i).filter fun c => decide (c.ns ≠ n)).length ∧ Sep NoB w w' [BoxA b6 81 (rmL Z o), OwnA 93 16 o.a o.n o.c (((L.take i).filter fun c => decide (c.ns ≠ n)).flatMap Rc.vs), BoxA b3 81 (rmL ⟨0, 0, 0, 0⟩ ⟨none, 0, 0⟩), BoxA b1 81 (rmL z y)])
    (fun (v : Int × Unit) _ => ((y.n : Int) - v.1).toNat) ⟨0, ⟨none, 0, 0⟩, rfl, by omega, rfl, S⟩ ?_
  clear S
  rintro ⟨(v : Int), ⟨⟩⟩ w4 ⟨i, o, hv, hi, ho, S⟩
  dsimp only at hv ⊢
  subst hv
  have hon : o.n ≤ i := by rw [ho]; exact Nat.le_trans (List.length_filter_le _ _) (by rw [List.length_take]; omega)
  refine S.ld3 (j := 4) rfl rfl (cond_d (fun hlt => ?_) (fun hge => ?_))
  · have hlt : (i : Int) < (y.n : Int) := hlt
    have rg : Rng .i64 ((i : Int) + 1) := Rng.i64 (by omega) (by omega)
    obtain ⟨q, c, hq, hc1, hcc, hqb⟩ := (h.ext S.ext).nthF Rc_len (by decide) (j := (i : Int)) (by omega) hlt
    rw [Int.toNat_natCast] at hc1
    refine S.ld3 (j := 4) rfl rfl ⟨⟨by omega, hlt⟩, q, hq, ⟨c.ns, by have := hcc 0 _ rfl; rwa [show (q.add ((i : Int).toNat * 16)).add 0 = q.add ((i : Int).toNat * 16) by rw [add_add]; rfl] at this, ?_⟩⟩
    refine cond_ne (fun hne => ?_) (fun heq => ?_)
    · have hu : ((L.take (i + 1)).filter fun c => decide (c.ns ≠ n)) = ((L.take i).filter fun c => decide (c.ns ≠ n)) ++ [c] := by
        rw [List.take_add_one, hc1, List.filter_append]
        congr 1
        show List.filter _ [c] = [c]
        rw [List.filter_cons, if_pos (by simpa using hne)]
        rfl
      have hqw : q.block < w.heap.size := h.lt q hq
      refine Sep.regC [_, _] S fun G D hG T S hDt hDo hkeep back => ?_
      obtain ⟨q', c', hq', hc1', hcc', -⟩ := (h.ext S.ext).nthF Rc_len (by decide) (j := (i : Int)) (by omega) hlt
      rw [hq] at hq'
      cases hq'
      rw [Int.toNat_natCast, hc1] at hc1'
      cases hc1'
      refine ⟨hDt 1 _ _ _ rfl, S.ld3 (j := 4) rfl rfl ⟨⟨by omega, hlt⟩, q, hq, ⟨by rw [add_block]; exact hDo _ hqw (fun x => x), ⟨tupRx c, hcc', ⟨?_, ?_⟩⟩⟩⟩⟩
      · refine T.ld0 (j := 4) rfl rfl ⟨hkeep _ (Fr.refl _ _), ?_⟩
        refine T.newB (vs := c.vs) fun b9 w9 T f9 _ => ⟨hkeep _ T.fr, ?_⟩
        refine appK T (by omega) hkeep fun o' w10 ho' T => ⟨hkeep _ T.fr, rg, ⟨i + 1, o', by push_cast; rfl, by omega, by rw [ho', hu, List.length_append, ho]; rfl, by rw [hu]; exact back _ _ T⟩, by omega⟩
      · refine T.newB (vs := c.vs) fun b9 w9 T f9 _ => ⟨hkeep _ T.fr, ?_⟩
        refine T.ld1 (j := 4) rfl rfl ⟨hkeep _ T.fr, ?_⟩
        refine appK T (by omega) hkeep fun o' w10 ho' T => ⟨hkeep _ T.fr, rg, ⟨i + 1, o', by push_cast; rfl, by omega, by rw [ho', hu, List.length_append, ho]; rfl, by rw [hu]; exact back _ _ T⟩, by omega⟩
    · have hu : ((L.take (i + 1)).filter fun c => decide (c.ns ≠ n)) = ((L.take i).filter fun c => decide (c.ns ≠ n)) := by
        rw [List.take_add_one, hc1, List.filter_append]
        show _ ++ List.filter _ [c] = _
        rw [List.filter_cons, if_neg (by simpa using heq)]
        exact List.append_nil _
      exact ⟨rg, ⟨i + 1, o, by push_cast; rfl, by omega, by rw [hu]; exact ho, by rw [hu]; exact S⟩, by omega⟩
  have hge : ¬ ((i : Int) < (y.n : Int)) := hge
  rw [List.take_of_length_le (by omega)] at S ho
  have S := S.sel [2, 0, 0, 0] rfl
  refine Sep.regC [_] S fun G D hG T S hDt hDo hkeep back => ?_
  refine ⟨hDt 0 _ _ _ rfl, S.la1 rfl ⟨hDt 2 _ _ _ rfl, S.la3 rfl ⟨hDt 0 _ _ _ rfl, S.la1 rfl ?_⟩⟩⟩
  refine (gone_c (z := z) (z2 := Z) (h.ext S.ext) (S.own 2 rfl) (by omega) (by omega)).mono ?_
  rintro ⟨g, ⟨⟩⟩ w5 ⟨GG, hg, hgl, S5⟩
  dsimp only at S5 ⊢
  have T := T.frame0 S5
  dsimp only [List.cons_append, List.nil_append] at T
  refine ⟨hkeep _ T.fr, T.st1 (by rfl) fun w6 T f6 => ⟨hkeep _ T.fr, T.la1 rfl ?_⟩⟩
  have S := back _ _ T
  exact ⟨GG, o, hg, hgl, rfl, ho, S.sel [0, 2] rfl⟩
theorem rMove_c {p1 p2 t1 t2 : Int} {o : Hh} (h : LcO w y L) (hy : y.n ≤ 100000) :
    CallV Try.prog 86 #[rmV z y, .agg #[.int .i64 p1, .int .i64 p2], .agg #[.int .i64 t1, .int .i64 t2], o.val] w [.agg [.int .i64, .int .i64, .int .i64, .int .i64, .sl]] fun r w' => ∃ (u : SlV), r.1 = (z.a, z.b, z.c, z.d, u, ()) ∧ u.n = y.n ∧
      Sep NoB w w' [OwnA 93 16 u.a u.n u.c ((L.map (movR (p1, p2) (t1, t2) o)).flatMap Rc.vs)] := by
  apply ref22_Move.vc
  unfold ref22_Move.P
  have hll := h.lenF Rc_len (by decide)
  have S := Sep.start NoB w
  refine S.newB (vs := rmL z y) fun b1 w1 S f1 _ => ?_
  refine S.newB fun b3 w1 S f1 _ => ?_
  refine S.newB fun b5 w1 S f1 _ => ?_
  refine S.newB (vs := o.vs) fun b7 w1 S f1 _ => ?_
  refine S.newB fun b9 w1 S f1 _ => ?_
  refine S.lb4 (o := 0) rfl ?_
  refine S.newB fun b12 w1 S f1 _ => ?_
  refine S.st0 (by rfl) fun w2 S f2 => ?_
  have S := (S.nilOwn 93 16).sel [1, 0, 0, 0, 0, 0, 0] rfl
  refine Loop1 (fun (v : Int × Unit) w' => ∃ (i : Nat) (u : SlV), v.1 = (i : Int) ∧ i ≤ y.n ∧ u.n = i ∧ Sep NoB w w' [BoxA b12 81 (rmL z u), OwnA 93 16 u.a u.n u.c (((L.take i).map (movR (p1, p2) (t1, t2) o)).flatMap Rc.vs), BoxA b9 81 (rmL ⟨0, 0, 0, 0⟩ ⟨none, 0, 0⟩), BoxA b7 59 o.vs, BoxA b5 55 [.int .i64 t1, .int .i64 t2], BoxA b3 55 [.int .i64 p1, .int .i64 p2], BoxA b1 81 (rmL z y)])
    (fun (v : Int × Unit) _ => ((y.n : Int) - v.1).toNat) ⟨0, ⟨none, 0, 0⟩, rfl, by omega, rfl, S⟩ ?_
  clear S
  rintro ⟨(v : Int), ⟨⟩⟩ w3 ⟨i, u, hv, hi, hun, S⟩
  dsimp only at hv ⊢
  subst hv
  refine S.ld6 (j := 4) rfl rfl (cond_d (fun hlt => ?_) (fun hge => ?_))
  · have hlt : (i : Int) < (y.n : Int) := hlt
    have rg : Rng .i64 ((i : Int) + 1) := Rng.i64 (by omega) (by omega)
    obtain ⟨q, c, hq, hc1, hcc, -⟩ := (h.ext S.ext).nthF Rc_len (by decide) (j := (i : Int)) (by omega) hlt
    rw [Int.toNat_natCast] at hc1
    have htk : ∀ {d : Rc}, movR (p1, p2) (t1, t2) o c = d → (L.take (i + 1)).map (movR (p1, p2) (t1, t2) o) = (L.take i).map (movR (p1, p2) (t1, t2) o) ++ [d] := fun {d} e => by rw [List.take_add_one, hc1, List.map_append, ← e]; rfl
    refine S.ld6 (j := 4) rfl rfl ⟨⟨by omega, hlt⟩, q, hq, ⟨tupRx c, hcc, ?_⟩⟩
    refine S.newB fun b22 w4 S f4 _ => ?_
    refine S.st0 (by rfl) fun w5 S f5 => ?_
    refine S.lb0 (o := 2) rfl (S.la6 rfl (eqPl (cond_d (fun e => ?_) (fun e => ?_))))
    · refine S.la5 rfl (S.store 0 rfl 2 (by show 2 + 2 ≤ 16; decide) fun w6 S f6 => ?_)
      have S : Go.Eng.Sep NoB w w6 (BoxA b22 93 (Rc.vs ⟨c.ns, c.lba, ⟨t1, t2, c.s.h, c.s.o⟩⟩) :: _) := S
      refine S.la4 rfl (S.store 0 rfl 10 (by show 10 + 6 ≤ 16; decide) fun w7 S f7 => ?_)
      have S : Go.Eng.Sep NoB w w7 (BoxA b22 93 (Rc.vs ⟨c.ns, c.lba, ⟨t1, t2, c.s.h, o⟩⟩) :: _) := S
      have hu := htk (d := ⟨c.ns, c.lba, ⟨t1, t2, c.s.h, o⟩⟩) (by unfold movR; rw [if_pos (show c.pl = (p1, p2) from Prod.ext e.1 e.2)])
      refine S.ld1 (j := 4) rfl rfl (S.la0 rfl ?_)
      refine S.newB (vs := Rc.vs ⟨c.ns, c.lba, ⟨t1, t2, c.s.h, o⟩⟩) fun b8 w8 S f8 _ => ?_
      refine appR (S.sel [0, 1, 1, 1, 1, 1, 1, 1] rfl) (by omega) fun o' w9 ho' S => ⟨rg, ⟨i + 1, o', by push_cast; rfl, by omega, by omega, by rw [hu]; exact S⟩, by omega⟩
    · have hu := htk (d := c) (by unfold movR; rw [if_neg (fun e' => by have h1 := congrArg Prod.fst e'; have h2 := congrArg Prod.snd e'; exact e ⟨h1, h2⟩)])
      refine S.ld1 (j := 4) rfl rfl (S.la0 rfl ?_)
      refine S.newB (vs := Rc.vs c) fun b8 w8 S f8 _ => ?_
      refine appR (S.sel [0, 1, 1, 1, 1, 1, 1, 1] rfl) (by omega) fun o' w9 ho' S => ⟨rg, ⟨i + 1, o', by push_cast; rfl, by omega, by omega, by rw [hu]; exact S⟩, by omega⟩
  have hge : ¬ ((i : Int) < (y.n : Int)) := hge
  rw [List.take_of_length_le (by omega)] at S
  refine S.la0 rfl (S.st2 (by rfl) fun w4 S f4 => S.la2 rfl ⟨u, rfl, by omega, S.sel [1] rfl⟩)
def datR (L : List Rc) (n : Int) : Nat := L.countP fun c => decide (c.ns = n ∧ c.s.h.k = 1)
theorem rData_c {n : Int} (h : LcO w y L) (hy : y.n ≤ 1000000) : CallV Try.prog 87 #[rmV z y, .int .i64 n] w [.one (.int .i64)] fun r w' => Ext w w' ∧ r.1 = (datR L n : Int) := by
  apply ref22_Data.vc
  unfold ref22_Data.P
  have hll := h.lenF Rc_len (by decide)
  have S := Sep.start NoB w
  refine S.newB (vs := rmL z y) fun b1 w1 S f1 _ => ?_
  refine Loop1 (fun (v : Int × Int × Unit) w' => ∃ i : Nat, v.2.1 = (i : Int) ∧ v.1 = (datR (L.take i) n : Int) ∧ i ≤ y.n ∧ Sep NoB w w' [BoxA b1 81 (rmL z y)])
    (fun (v : Int × Int × Unit) _ => ((y.n : Int) - v.2.1).toNat) ⟨0, rfl, by simp [datR], by omega, S⟩ ?_
  rintro ⟨(r : Int), (v : Int), ⟨⟩⟩ w2 ⟨i, hv, hr, hi, S⟩
  dsimp only at hv hr ⊢
  subst hv
  refine S.ld0 (j := 4) rfl rfl (cond_d (fun hlt => ?_) (fun hge => ?_))
  · have hlt : (i : Int) < (y.n : Int) := hlt
    obtain ⟨q, c, hq, hc, hcc, -⟩ := (h.ext S.ext).nthF Rc_len (by decide) (j := (i : Int)) (by omega) hlt
    rw [Int.toNat_natCast] at hc
    have hct : datR (L.take (i + 1)) n = datR (L.take i) n + (if c.ns = n ∧ c.s.h.k = 1 then 1 else 0) := by
      unfold datR
      rw [List.take_add_one, hc]
      simp
    have hle : datR (L.take i) n ≤ i := by
      unfold datR
      exact Nat.le_trans List.countP_le_length (by rw [List.length_take]; omega)
    have rg : Rng .i64 ((i : Int) + 1) := Rng.i64 (by omega) (by omega)
    have no : ¬ (c.ns = n ∧ c.s.h.k = 1) → Rng .i64 ((i : Int) + 1) ∧ (∃ i' : Nat, (i : Int) + 1 = (i' : Int) ∧ r = (datR (L.take i') n : Int) ∧ i' ≤ y.n ∧ Sep NoB w w2 [BoxA b1 81 (rmL z y)]) ∧ ((y.n : Int) - ((i : Int) + 1)).toNat < ((y.n : Int) - (i : Int)).toNat := fun hn =>
      ⟨rg, ⟨i + 1, by push_cast; rfl, by rw [hct, if_neg hn, hr]; rfl, by omega, S⟩, by omega⟩
    refine S.ld0 (j := 4) rfl rfl ⟨⟨by omega, hlt⟩, q, hq, ⟨c.ns, by have := hcc 0 _ rfl; rwa [show (q.add ((i : Int).toNat * 16)).add 0 = q.add ((i : Int).toNat * 16) by rw [add_add]; rfl] at this, ?_⟩⟩
    refine cond_eq (fun e1 => ?_) (fun e1 => no fun k => e1 k.1)
    refine S.ld0 (j := 4) rfl rfl ⟨⟨by omega, hlt⟩, q, hq, ⟨c.s.h.k, by have := hcc 4 _ rfl; rwa [show (q.add ((i : Int).toNat * 16)).add 4 = ((q.add ((i : Int).toNat * 16)).add 2).add 2 by rw [add_add, add_add, add_add]] at this, ?_⟩⟩
    refine cond_eq (fun e2 => ?_) (fun e2 => no fun k => e2 k.2)
    exact ⟨Rng.i64 (by omega) (by omega), rg, ⟨i + 1, by push_cast; rfl, by rw [hct, if_pos ⟨e1, e2⟩, hr]; push_cast; rfl, by omega, S⟩, by omega⟩
  · have hge : ¬ ((i : Int) < (y.n : Int)) := hge
    refine ⟨S.ext, ?_⟩
    rw [List.take_of_length_le (by omega)] at hr
    exact hr
end
end Go.Proofs.Ytiemdjnmghackaa.Vc
