/- Texts in one: The plans of functions as plain statements, printed by wip/tools/vcgen.py; the kernel holds each to the code. The contracts of layer 24: the document's pool: a block changed, destroyed. The contracts of layer 24: the document's pool: a page programmed, a block sealed, begun. The contracts of layer 21: what the document's ledger tells. The contracts of layer 24: the document's pool: a block begun, opened. What any parameter of a law is known to be, with the sizes of what it holds: structs, arrays and slices of whole numbers, texts, and of each other. What the laws of layer 13 share. -/
import Derived.Test.YtlpeoaphdmfjdaaGreatZPoolOpense

set_option linter.unusedVariables false
set_option linter.unusedSimpArgs false
/-! The plans of functions as plain statements, printed by wip/tools/vcgen.py; the kernel holds each to the code. -/
namespace Go.Proofs.YtlpeoaphdmfjdaaGreat.Vc
open Go Go.Eng
def ref24_with.A : Ann := .no
def ref24_with.P (p0_0 p0_1 p0_2 p0_3 p0_4 p0_5 : Int) (a0_6 : Option Addr) (n0_6 c0_6 : Nat) (a0_7 : Option Addr) (n0_7 c0_7 : Nat) (p0_8 : Bool) (p0_9 : Int) (a0_10 : Option Addr) (n0_10 c0_10 : Nat) (a0_11 : Option Addr) (n0_11 c0_11 : Nat) (p1 p2 p3 : Int) (w : World) (K : (Int × Int × Int × Int × Int × Int × SlV × SlV × Bool × Int × SlV × SlV × Unit) × Unit → World → Prop) : Prop :=
  NewV #[.int .i64 p0_0, .int .i64 p0_1, .int .i64 p0_2, .int .i64 p0_3, .int .i64 p0_4, .int .i64 p0_5, .slice a0_6 n0_6 c0_6, .slice a0_7 n0_7 c0_7, .bool p0_8, .int .i64 p0_9, .slice a0_10 n0_10 c0_10, .slice a0_11 n0_11 c0_11] 38 w fun b1 w2 =>
  NewV #[.int .i64 0, .int .i64 0, .int .i64 0, .int .i64 0, .int .i64 0, .int .i64 0, .slice none 0 0, .slice none 0 0, .bool false, .int .i64 0, .slice none 0 0, .slice none 0 0] 38 w2 fun b3 w4 =>
  NewV #[] 103 w4 fun b5 w6 =>
  LoadS w6 ⟨b1, 10, none⟩ .sl fun (x7 : SlV) =>
  AppS w6 x7.a x7.n 9 fun ns12 =>
  AppV w6 103 9 40 (some ⟨b5, 0, none⟩) 0 0 ns12 x7.n fun a8 n9 c10 w11 =>
  (0 ≤ p1 ∧ p1 < ((n9 : Nat) : Int)) ∧ ∃ q13 : Addr, a8 = some q13 ∧
  LoadA w11 (q13.add (p1.toNat * 9)) [.int .i64, .int .i64, .int .i64, .int .i64, .bool, .bool, .bool, .bool, .bool] fun (x14 : Int × Int × Int × Int × Bool × Bool × Bool × Bool × Bool × Unit) =>
  CallV Tryz.prog 43 #[.agg #[.int .i64 x14.1, .int .i64 x14.2.1, .int .i64 x14.2.2.1, .int .i64 x14.2.2.2.1, .bool x14.2.2.2.2.1, .bool x14.2.2.2.2.2.1, .bool x14.2.2.2.2.2.2.1, .bool x14.2.2.2.2.2.2.2.1, .bool x14.2.2.2.2.2.2.2.2.1], .int .i64 p2, .int .i64 p3] w11 [.agg [.int .i64, .int .i64, .int .i64, .int .i64, .bool, .bool, .bool, .bool, .bool]] fun (r15 : (Int × Int × Int × Int × Bool × Bool × Bool × Bool × Bool × Unit) × Unit) w16 =>
  (0 ≤ p1 ∧ p1 < ((n9 : Nat) : Int)) ∧ ∃ q17 : Addr, a8 = some q17 ∧
  StoreV w16 (q17.add (p1.toNat * 9)) [.int .i64 r15.1.1, .int .i64 r15.1.2.1, .int .i64 r15.1.2.2.1, .int .i64 r15.1.2.2.2.1, .bool r15.1.2.2.2.2.1, .bool r15.1.2.2.2.2.2.1, .bool r15.1.2.2.2.2.2.2.1, .bool r15.1.2.2.2.2.2.2.2.1, .bool r15.1.2.2.2.2.2.2.2.2.1] fun w18 =>
  StoreV w18 ⟨b1, 10, none⟩ [.slice a8 n9 c10] fun w19 =>
  LoadA w19 ⟨b1, 0, none⟩ [.int .i64, .int .i64, .int .i64, .int .i64, .int .i64, .int .i64, .sl, .sl, .bool, .int .i64, .sl, .sl] fun (x20 : Int × Int × Int × Int × Int × Int × SlV × SlV × Bool × Int × SlV × SlV × Unit) =>
  StoreV w19 ⟨b3, 0, none⟩ [.int .i64 x20.1, .int .i64 x20.2.1, .int .i64 x20.2.2.1, .int .i64 x20.2.2.2.1, .int .i64 x20.2.2.2.2.1, .int .i64 x20.2.2.2.2.2.1, .slice x20.2.2.2.2.2.2.1.a x20.2.2.2.2.2.2.1.n x20.2.2.2.2.2.2.1.c, .slice x20.2.2.2.2.2.2.2.1.a x20.2.2.2.2.2.2.2.1.n x20.2.2.2.2.2.2.2.1.c, .bool x20.2.2.2.2.2.2.2.2.1, .int .i64 x20.2.2.2.2.2.2.2.2.2.1, .slice x20.2.2.2.2.2.2.2.2.2.2.1.a x20.2.2.2.2.2.2.2.2.2.2.1.n x20.2.2.2.2.2.2.2.2.2.2.1.c, .slice x20.2.2.2.2.2.2.2.2.2.2.2.1.a x20.2.2.2.2.2.2.2.2.2.2.2.1.n x20.2.2.2.2.2.2.2.2.2.2.2.1.c] fun w21 =>
  LoadA w21 ⟨b3, 0, none⟩ [.int .i64, .int .i64, .int .i64, .int .i64, .int .i64, .int .i64, .sl, .sl, .bool, .int .i64, .sl, .sl] fun (x22 : Int × Int × Int × Int × Int × Int × SlV × SlV × Bool × Int × SlV × SlV × Unit) =>
  K ((x22.1, x22.2.1, x22.2.2.1, x22.2.2.2.1, x22.2.2.2.2.1, x22.2.2.2.2.2.1, x22.2.2.2.2.2.2.1, x22.2.2.2.2.2.2.2.1, x22.2.2.2.2.2.2.2.2.1, x22.2.2.2.2.2.2.2.2.2.1, x22.2.2.2.2.2.2.2.2.2.2.1, x22.2.2.2.2.2.2.2.2.2.2.2.1, ()), ()) w21
theorem ref24_with.vc (p0_0 p0_1 p0_2 p0_3 p0_4 p0_5 : Int) (a0_6 : Option Addr) (n0_6 c0_6 : Nat) (a0_7 : Option Addr) (n0_7 c0_7 : Nat) (p0_8 : Bool) (p0_9 : Int) (a0_10 : Option Addr) (n0_10 c0_10 : Nat) (a0_11 : Option Addr) (n0_11 c0_11 : Nat) (p1 p2 p3 : Int) (w : World) (K : (Int × Int × Int × Int × Int × Int × SlV × SlV × Bool × Int × SlV × SlV × Unit) × Unit → World → Prop) (h : ref24_with.P p0_0 p0_1 p0_2 p0_3 p0_4 p0_5 a0_6 n0_6 c0_6 a0_7 n0_7 c0_7 p0_8 p0_9 a0_10 n0_10 c0_10 a0_11 n0_11 c0_11 p1 p2 p3 w K) : CallV Tryz.prog 80 #[.agg #[.int .i64 p0_0, .int .i64 p0_1, .int .i64 p0_2, .int .i64 p0_3, .int .i64 p0_4, .int .i64 p0_5, .slice a0_6 n0_6 c0_6, .slice a0_7 n0_7 c0_7, .bool p0_8, .int .i64 p0_9, .slice a0_10 n0_10 c0_10, .slice a0_11 n0_11 c0_11], .int .i64 p1, .int .i64 p2, .int .i64 p3] w [.agg [.int .i64, .int .i64, .int .i64, .int .i64, .int .i64, .int .i64, .sl, .sl, .bool, .int .i64, .sl, .sl]] K := by
  refine vcFun.of (A := ref24_with.A) (wr := false) okf_ok follows h Tryz.func80 ?_
  kernel_rfl
def ref24_Destroy.A : Ann := .no
def ref24_Destroy.P (p0_0 p0_1 p0_2 p0_3 p0_4 p0_5 : Int) (a0_6 : Option Addr) (n0_6 c0_6 : Nat) (a0_7 : Option Addr) (n0_7 c0_7 : Nat) (p0_8 : Bool) (p0_9 : Int) (a0_10 : Option Addr) (n0_10 c0_10 : Nat) (a0_11 : Option Addr) (n0_11 c0_11 : Nat) (p1 : Int) (w : World) (K : (Int × Int × Int × Int × Int × Int × SlV × SlV × Bool × Int × SlV × SlV × Unit) × Int × Unit → World → Prop) : Prop :=
  NewV #[.int .i64 p0_0, .int .i64 p0_1, .int .i64 p0_2, .int .i64 p0_3, .int .i64 p0_4, .int .i64 p0_5, .slice a0_6 n0_6 c0_6, .slice a0_7 n0_7 c0_7, .bool p0_8, .int .i64 p0_9, .slice a0_10 n0_10 c0_10, .slice a0_11 n0_11 c0_11] 38 w fun b1 w2 =>
  NewV #[.int .i64 0, .int .i64 0, .int .i64 0, .int .i64 0, .int .i64 0, .int .i64 0, .slice none 0 0, .slice none 0 0, .bool false, .int .i64 0, .slice none 0 0, .slice none 0 0] 38 w2 fun b3 w4 =>
  LoadA w4 ⟨b1, 0, none⟩ [.int .i64, .int .i64, .int .i64, .int .i64, .int .i64, .int .i64, .sl, .sl, .bool, .int .i64] fun (x5 : Int × Int × Int × Int × Int × Int × SlV × SlV × Bool × Int × Unit) =>
  Rng .i64 ((4 : Int) + p1) ∧
  CallV Tryz.prog 79 #[.agg #[.int .i64 x5.1, .int .i64 x5.2.1, .int .i64 x5.2.2.1, .int .i64 x5.2.2.2.1, .int .i64 x5.2.2.2.2.1, .int .i64 x5.2.2.2.2.2.1, .slice x5.2.2.2.2.2.2.1.a x5.2.2.2.2.2.2.1.n x5.2.2.2.2.2.2.1.c, .slice x5.2.2.2.2.2.2.2.1.a x5.2.2.2.2.2.2.2.1.n x5.2.2.2.2.2.2.2.1.c, .bool x5.2.2.2.2.2.2.2.2.1, .int .i64 x5.2.2.2.2.2.2.2.2.2.1], .int .i64 ((4 : Int) + p1)] w4 [.agg [.int .i64, .int .i64, .int .i64, .int .i64, .int .i64, .int .i64, .sl, .sl, .bool, .int .i64], .one (.int .i64)] fun (r6 : (Int × Int × Int × Int × Int × Int × SlV × SlV × Bool × Int × Unit) × Int × Unit) w7 =>
  NewV #[.int .i64 0, .int .i64 0, .int .i64 0, .int .i64 0, .int .i64 0, .int .i64 0, .slice none 0 0, .slice none 0 0, .bool false, .int .i64 0] 34 w7 fun b8 w9 =>
  StoreV w9 ⟨b8, 0, none⟩ [.int .i64 r6.1.1, .int .i64 r6.1.2.1, .int .i64 r6.1.2.2.1, .int .i64 r6.1.2.2.2.1, .int .i64 r6.1.2.2.2.2.1, .int .i64 r6.1.2.2.2.2.2.1, .slice r6.1.2.2.2.2.2.2.1.a r6.1.2.2.2.2.2.2.1.n r6.1.2.2.2.2.2.2.1.c, .slice r6.1.2.2.2.2.2.2.2.1.a r6.1.2.2.2.2.2.2.2.1.n r6.1.2.2.2.2.2.2.2.1.c, .bool r6.1.2.2.2.2.2.2.2.2.1, .int .i64 r6.1.2.2.2.2.2.2.2.2.2.1] fun w10 =>
  LoadA w10 ⟨b8, 0, none⟩ [.int .i64, .int .i64, .int .i64, .int .i64, .int .i64, .int .i64, .sl, .sl, .bool, .int .i64] fun (x11 : Int × Int × Int × Int × Int × Int × SlV × SlV × Bool × Int × Unit) =>
  StoreV w10 ⟨b1, 0, none⟩ [.int .i64 x11.1, .int .i64 x11.2.1, .int .i64 x11.2.2.1, .int .i64 x11.2.2.2.1, .int .i64 x11.2.2.2.2.1, .int .i64 x11.2.2.2.2.2.1, .slice x11.2.2.2.2.2.2.1.a x11.2.2.2.2.2.2.1.n x11.2.2.2.2.2.2.1.c, .slice x11.2.2.2.2.2.2.2.1.a x11.2.2.2.2.2.2.2.1.n x11.2.2.2.2.2.2.2.1.c, .bool x11.2.2.2.2.2.2.2.2.1, .int .i64 x11.2.2.2.2.2.2.2.2.2.1] fun w12 =>
  cond (r6.2.1 == 0)
  (LoadA w12 ⟨b1, 0, none⟩ [.int .i64, .int .i64, .int .i64, .int .i64, .int .i64, .int .i64, .sl, .sl, .bool, .int .i64, .sl, .sl] fun (x13 : Int × Int × Int × Int × Int × Int × SlV × SlV × Bool × Int × SlV × SlV × Unit) =>
  CallV Tryz.prog 80 #[.agg #[.int .i64 x13.1, .int .i64 x13.2.1, .int .i64 x13.2.2.1, .int .i64 x13.2.2.2.1, .int .i64 x13.2.2.2.2.1, .int .i64 x13.2.2.2.2.2.1, .slice x13.2.2.2.2.2.2.1.a x13.2.2.2.2.2.2.1.n x13.2.2.2.2.2.2.1.c, .slice x13.2.2.2.2.2.2.2.1.a x13.2.2.2.2.2.2.2.1.n x13.2.2.2.2.2.2.2.1.c, .bool x13.2.2.2.2.2.2.2.2.1, .int .i64 x13.2.2.2.2.2.2.2.2.2.1, .slice x13.2.2.2.2.2.2.2.2.2.2.1.a x13.2.2.2.2.2.2.2.2.2.2.1.n x13.2.2.2.2.2.2.2.2.2.2.1.c, .slice x13.2.2.2.2.2.2.2.2.2.2.2.1.a x13.2.2.2.2.2.2.2.2.2.2.2.1.n x13.2.2.2.2.2.2.2.2.2.2.2.1.c], .int .i64 p1, .int .i64 3, .int .i64 0] w12 [.agg [.int .i64, .int .i64, .int .i64, .int .i64, .int .i64, .int .i64, .sl, .sl, .bool, .int .i64, .sl, .sl]] fun (r14 : (Int × Int × Int × Int × Int × Int × SlV × SlV × Bool × Int × SlV × SlV × Unit) × Unit) w15 =>
  StoreV w15 ⟨b3, 0, none⟩ [.int .i64 r14.1.1, .int .i64 r14.1.2.1, .int .i64 r14.1.2.2.1, .int .i64 r14.1.2.2.2.1, .int .i64 r14.1.2.2.2.2.1, .int .i64 r14.1.2.2.2.2.2.1, .slice r14.1.2.2.2.2.2.2.1.a r14.1.2.2.2.2.2.2.1.n r14.1.2.2.2.2.2.2.1.c, .slice r14.1.2.2.2.2.2.2.2.1.a r14.1.2.2.2.2.2.2.2.1.n r14.1.2.2.2.2.2.2.2.1.c, .bool r14.1.2.2.2.2.2.2.2.2.1, .int .i64 r14.1.2.2.2.2.2.2.2.2.2.1, .slice r14.1.2.2.2.2.2.2.2.2.2.2.1.a r14.1.2.2.2.2.2.2.2.2.2.2.1.n r14.1.2.2.2.2.2.2.2.2.2.2.1.c, .slice r14.1.2.2.2.2.2.2.2.2.2.2.2.1.a r14.1.2.2.2.2.2.2.2.2.2.2.2.1.n r14.1.2.2.2.2.2.2.2.2.2.2.2.1.c] fun w16 =>
  LoadA w16 ⟨b3, 0, none⟩ [.int .i64, .int .i64, .int .i64, .int .i64, .int .i64, .int .i64, .sl, .sl, .bool, .int .i64, .sl, .sl] fun (x17 : Int × Int × Int × Int × Int × Int × SlV × SlV × Bool × Int × SlV × SlV × Unit) =>
  K ((x17.1, x17.2.1, x17.2.2.1, x17.2.2.2.1, x17.2.2.2.2.1, x17.2.2.2.2.2.1, x17.2.2.2.2.2.2.1, x17.2.2.2.2.2.2.2.1, x17.2.2.2.2.2.2.2.2.1, x17.2.2.2.2.2.2.2.2.2.1, x17.2.2.2.2.2.2.2.2.2.2.1, x17.2.2.2.2.2.2.2.2.2.2.2.1, ()), r6.2.1, ()) w16)
  (cond (r6.2.1 != 5)
  (LoadA w12 ⟨b1, 0, none⟩ [.int .i64, .int .i64, .int .i64, .int .i64, .int .i64, .int .i64, .sl, .sl, .bool, .int .i64, .sl, .sl] fun (x18 : Int × Int × Int × Int × Int × Int × SlV × SlV × Bool × Int × SlV × SlV × Unit) =>
  StoreV w12 ⟨b3, 0, none⟩ [.int .i64 x18.1, .int .i64 x18.2.1, .int .i64 x18.2.2.1, .int .i64 x18.2.2.2.1, .int .i64 x18.2.2.2.2.1, .int .i64 x18.2.2.2.2.2.1, .slice x18.2.2.2.2.2.2.1.a x18.2.2.2.2.2.2.1.n x18.2.2.2.2.2.2.1.c, .slice x18.2.2.2.2.2.2.2.1.a x18.2.2.2.2.2.2.2.1.n x18.2.2.2.2.2.2.2.1.c, .bool x18.2.2.2.2.2.2.2.2.1, .int .i64 x18.2.2.2.2.2.2.2.2.2.1, .slice x18.2.2.2.2.2.2.2.2.2.2.1.a x18.2.2.2.2.2.2.2.2.2.2.1.n x18.2.2.2.2.2.2.2.2.2.2.1.c, .slice x18.2.2.2.2.2.2.2.2.2.2.2.1.a x18.2.2.2.2.2.2.2.2.2.2.2.1.n x18.2.2.2.2.2.2.2.2.2.2.2.1.c] fun w19 =>
  LoadA w19 ⟨b3, 0, none⟩ [.int .i64, .int .i64, .int .i64, .int .i64, .int .i64, .int .i64, .sl, .sl, .bool, .int .i64, .sl, .sl] fun (x20 : Int × Int × Int × Int × Int × Int × SlV × SlV × Bool × Int × SlV × SlV × Unit) =>
  K ((x20.1, x20.2.1, x20.2.2.1, x20.2.2.2.1, x20.2.2.2.2.1, x20.2.2.2.2.2.1, x20.2.2.2.2.2.2.1, x20.2.2.2.2.2.2.2.1, x20.2.2.2.2.2.2.2.2.1, x20.2.2.2.2.2.2.2.2.2.1, x20.2.2.2.2.2.2.2.2.2.2.1, x20.2.2.2.2.2.2.2.2.2.2.2.1, ()), r6.2.1, ()) w19)
  (LoadA w12 ⟨b1, 0, none⟩ [.int .i64, .int .i64, .int .i64, .int .i64, .int .i64, .int .i64, .sl, .sl, .bool, .int .i64, .sl, .sl] fun (x21 : Int × Int × Int × Int × Int × Int × SlV × SlV × Bool × Int × SlV × SlV × Unit) =>
  CallV Tryz.prog 80 #[.agg #[.int .i64 x21.1, .int .i64 x21.2.1, .int .i64 x21.2.2.1, .int .i64 x21.2.2.2.1, .int .i64 x21.2.2.2.2.1, .int .i64 x21.2.2.2.2.2.1, .slice x21.2.2.2.2.2.2.1.a x21.2.2.2.2.2.2.1.n x21.2.2.2.2.2.2.1.c, .slice x21.2.2.2.2.2.2.2.1.a x21.2.2.2.2.2.2.2.1.n x21.2.2.2.2.2.2.2.1.c, .bool x21.2.2.2.2.2.2.2.2.1, .int .i64 x21.2.2.2.2.2.2.2.2.2.1, .slice x21.2.2.2.2.2.2.2.2.2.2.1.a x21.2.2.2.2.2.2.2.2.2.2.1.n x21.2.2.2.2.2.2.2.2.2.2.1.c, .slice x21.2.2.2.2.2.2.2.2.2.2.2.1.a x21.2.2.2.2.2.2.2.2.2.2.2.1.n x21.2.2.2.2.2.2.2.2.2.2.2.1.c], .int .i64 p1, .int .i64 4, .int .i64 0] w12 [.agg [.int .i64, .int .i64, .int .i64, .int .i64, .int .i64, .int .i64, .sl, .sl, .bool, .int .i64, .sl, .sl]] fun (r22 : (Int × Int × Int × Int × Int × Int × SlV × SlV × Bool × Int × SlV × SlV × Unit) × Unit) w23 =>
  StoreV w23 ⟨b1, 0, none⟩ [.int .i64 r22.1.1, .int .i64 r22.1.2.1, .int .i64 r22.1.2.2.1, .int .i64 r22.1.2.2.2.1, .int .i64 r22.1.2.2.2.2.1, .int .i64 r22.1.2.2.2.2.2.1, .slice r22.1.2.2.2.2.2.2.1.a r22.1.2.2.2.2.2.2.1.n r22.1.2.2.2.2.2.2.1.c, .slice r22.1.2.2.2.2.2.2.2.1.a r22.1.2.2.2.2.2.2.2.1.n r22.1.2.2.2.2.2.2.2.1.c, .bool r22.1.2.2.2.2.2.2.2.2.1, .int .i64 r22.1.2.2.2.2.2.2.2.2.2.1, .slice r22.1.2.2.2.2.2.2.2.2.2.2.1.a r22.1.2.2.2.2.2.2.2.2.2.2.1.n r22.1.2.2.2.2.2.2.2.2.2.2.1.c, .slice r22.1.2.2.2.2.2.2.2.2.2.2.2.1.a r22.1.2.2.2.2.2.2.2.2.2.2.2.1.n r22.1.2.2.2.2.2.2.2.2.2.2.2.1.c] fun w24 =>
  LoadA w24 ⟨b1, 0, none⟩ [.int .i64, .int .i64, .int .i64, .int .i64, .int .i64, .int .i64, .sl, .sl, .bool, .int .i64] fun (x25 : Int × Int × Int × Int × Int × Int × SlV × SlV × Bool × Int × Unit) =>
  Rng .i64 ((4 : Int) + p1) ∧
  CallV Tryz.prog 81 #[.agg #[.int .i64 x25.1, .int .i64 x25.2.1, .int .i64 x25.2.2.1, .int .i64 x25.2.2.2.1, .int .i64 x25.2.2.2.2.1, .int .i64 x25.2.2.2.2.2.1, .slice x25.2.2.2.2.2.2.1.a x25.2.2.2.2.2.2.1.n x25.2.2.2.2.2.2.1.c, .slice x25.2.2.2.2.2.2.2.1.a x25.2.2.2.2.2.2.2.1.n x25.2.2.2.2.2.2.2.1.c, .bool x25.2.2.2.2.2.2.2.2.1, .int .i64 x25.2.2.2.2.2.2.2.2.2.1], .int .i64 ((4 : Int) + p1)] w24 [.agg [.int .i64, .int .i64, .int .i64, .int .i64, .int .i64, .int .i64, .sl, .sl, .bool, .int .i64], .one (.int .i64)] fun (r26 : (Int × Int × Int × Int × Int × Int × SlV × SlV × Bool × Int × Unit) × Int × Unit) w27 =>
  NewV #[.int .i64 0, .int .i64 0, .int .i64 0, .int .i64 0, .int .i64 0, .int .i64 0, .slice none 0 0, .slice none 0 0, .bool false, .int .i64 0] 34 w27 fun b28 w29 =>
  StoreV w29 ⟨b28, 0, none⟩ [.int .i64 r26.1.1, .int .i64 r26.1.2.1, .int .i64 r26.1.2.2.1, .int .i64 r26.1.2.2.2.1, .int .i64 r26.1.2.2.2.2.1, .int .i64 r26.1.2.2.2.2.2.1, .slice r26.1.2.2.2.2.2.2.1.a r26.1.2.2.2.2.2.2.1.n r26.1.2.2.2.2.2.2.1.c, .slice r26.1.2.2.2.2.2.2.2.1.a r26.1.2.2.2.2.2.2.2.1.n r26.1.2.2.2.2.2.2.2.1.c, .bool r26.1.2.2.2.2.2.2.2.2.1, .int .i64 r26.1.2.2.2.2.2.2.2.2.2.1] fun w30 =>
  LoadA w30 ⟨b28, 0, none⟩ [.int .i64, .int .i64, .int .i64, .int .i64, .int .i64, .int .i64, .sl, .sl, .bool, .int .i64] fun (x31 : Int × Int × Int × Int × Int × Int × SlV × SlV × Bool × Int × Unit) =>
  StoreV w30 ⟨b1, 0, none⟩ [.int .i64 x31.1, .int .i64 x31.2.1, .int .i64 x31.2.2.1, .int .i64 x31.2.2.2.1, .int .i64 x31.2.2.2.2.1, .int .i64 x31.2.2.2.2.2.1, .slice x31.2.2.2.2.2.2.1.a x31.2.2.2.2.2.2.1.n x31.2.2.2.2.2.2.1.c, .slice x31.2.2.2.2.2.2.2.1.a x31.2.2.2.2.2.2.2.1.n x31.2.2.2.2.2.2.2.1.c, .bool x31.2.2.2.2.2.2.2.2.1, .int .i64 x31.2.2.2.2.2.2.2.2.2.1] fun w32 =>
  cond (r26.2.1 == 4)
  (LoadA w32 ⟨b1, 0, none⟩ [.int .i64, .int .i64, .int .i64, .int .i64, .int .i64, .int .i64, .sl, .sl, .bool, .int .i64, .sl, .sl] fun (x33 : Int × Int × Int × Int × Int × Int × SlV × SlV × Bool × Int × SlV × SlV × Unit) =>
  StoreV w32 ⟨b3, 0, none⟩ [.int .i64 x33.1, .int .i64 x33.2.1, .int .i64 x33.2.2.1, .int .i64 x33.2.2.2.1, .int .i64 x33.2.2.2.2.1, .int .i64 x33.2.2.2.2.2.1, .slice x33.2.2.2.2.2.2.1.a x33.2.2.2.2.2.2.1.n x33.2.2.2.2.2.2.1.c, .slice x33.2.2.2.2.2.2.2.1.a x33.2.2.2.2.2.2.2.1.n x33.2.2.2.2.2.2.2.1.c, .bool x33.2.2.2.2.2.2.2.2.1, .int .i64 x33.2.2.2.2.2.2.2.2.2.1, .slice x33.2.2.2.2.2.2.2.2.2.2.1.a x33.2.2.2.2.2.2.2.2.2.2.1.n x33.2.2.2.2.2.2.2.2.2.2.1.c, .slice x33.2.2.2.2.2.2.2.2.2.2.2.1.a x33.2.2.2.2.2.2.2.2.2.2.2.1.n x33.2.2.2.2.2.2.2.2.2.2.2.1.c] fun w34 =>
  LoadA w34 ⟨b3, 0, none⟩ [.int .i64, .int .i64, .int .i64, .int .i64, .int .i64, .int .i64, .sl, .sl, .bool, .int .i64, .sl, .sl] fun (x35 : Int × Int × Int × Int × Int × Int × SlV × SlV × Bool × Int × SlV × SlV × Unit) =>
  K ((x35.1, x35.2.1, x35.2.2.1, x35.2.2.2.1, x35.2.2.2.2.1, x35.2.2.2.2.2.1, x35.2.2.2.2.2.2.1, x35.2.2.2.2.2.2.2.1, x35.2.2.2.2.2.2.2.2.1, x35.2.2.2.2.2.2.2.2.2.1, x35.2.2.2.2.2.2.2.2.2.2.1, x35.2.2.2.2.2.2.2.2.2.2.2.1, ()), r26.2.1, ()) w34)
  (cond (r26.2.1 == 0)
  (LoadA w32 ⟨b1, 0, none⟩ [.int .i64, .int .i64, .int .i64, .int .i64, .int .i64, .int .i64, .sl, .sl, .bool, .int .i64, .sl, .sl] fun (x36 : Int × Int × Int × Int × Int × Int × SlV × SlV × Bool × Int × SlV × SlV × Unit) =>
  CallV Tryz.prog 80 #[.agg #[.int .i64 x36.1, .int .i64 x36.2.1, .int .i64 x36.2.2.1, .int .i64 x36.2.2.2.1, .int .i64 x36.2.2.2.2.1, .int .i64 x36.2.2.2.2.2.1, .slice x36.2.2.2.2.2.2.1.a x36.2.2.2.2.2.2.1.n x36.2.2.2.2.2.2.1.c, .slice x36.2.2.2.2.2.2.2.1.a x36.2.2.2.2.2.2.2.1.n x36.2.2.2.2.2.2.2.1.c, .bool x36.2.2.2.2.2.2.2.2.1, .int .i64 x36.2.2.2.2.2.2.2.2.2.1, .slice x36.2.2.2.2.2.2.2.2.2.2.1.a x36.2.2.2.2.2.2.2.2.2.2.1.n x36.2.2.2.2.2.2.2.2.2.2.1.c, .slice x36.2.2.2.2.2.2.2.2.2.2.2.1.a x36.2.2.2.2.2.2.2.2.2.2.2.1.n x36.2.2.2.2.2.2.2.2.2.2.2.1.c], .int .i64 p1, .int .i64 5, .int .i64 1] w32 [.agg [.int .i64, .int .i64, .int .i64, .int .i64, .int .i64, .int .i64, .sl, .sl, .bool, .int .i64, .sl, .sl]] fun (r37 : (Int × Int × Int × Int × Int × Int × SlV × SlV × Bool × Int × SlV × SlV × Unit) × Unit) w38 =>
  StoreV w38 ⟨b3, 0, none⟩ [.int .i64 r37.1.1, .int .i64 r37.1.2.1, .int .i64 r37.1.2.2.1, .int .i64 r37.1.2.2.2.1, .int .i64 r37.1.2.2.2.2.1, .int .i64 r37.1.2.2.2.2.2.1, .slice r37.1.2.2.2.2.2.2.1.a r37.1.2.2.2.2.2.2.1.n r37.1.2.2.2.2.2.2.1.c, .slice r37.1.2.2.2.2.2.2.2.1.a r37.1.2.2.2.2.2.2.2.1.n r37.1.2.2.2.2.2.2.2.1.c, .bool r37.1.2.2.2.2.2.2.2.2.1, .int .i64 r37.1.2.2.2.2.2.2.2.2.2.1, .slice r37.1.2.2.2.2.2.2.2.2.2.2.1.a r37.1.2.2.2.2.2.2.2.2.2.2.1.n r37.1.2.2.2.2.2.2.2.2.2.2.1.c, .slice r37.1.2.2.2.2.2.2.2.2.2.2.2.1.a r37.1.2.2.2.2.2.2.2.2.2.2.2.1.n r37.1.2.2.2.2.2.2.2.2.2.2.2.1.c] fun w39 =>
  LoadA w39 ⟨b3, 0, none⟩ [.int .i64, .int .i64, .int .i64, .int .i64, .int .i64, .int .i64, .sl, .sl, .bool, .int .i64, .sl, .sl] fun (x40 : Int × Int × Int × Int × Int × Int × SlV × SlV × Bool × Int × SlV × SlV × Unit) =>
  K ((x40.1, x40.2.1, x40.2.2.1, x40.2.2.2.1, x40.2.2.2.2.1, x40.2.2.2.2.2.1, x40.2.2.2.2.2.2.1, x40.2.2.2.2.2.2.2.1, x40.2.2.2.2.2.2.2.2.1, x40.2.2.2.2.2.2.2.2.2.1, x40.2.2.2.2.2.2.2.2.2.2.1, x40.2.2.2.2.2.2.2.2.2.2.2.1, ()), (5 : Int), ()) w39)
  (LoadA w32 ⟨b1, 0, none⟩ [.int .i64, .int .i64, .int .i64, .int .i64, .int .i64, .int .i64, .sl, .sl, .bool, .int .i64, .sl, .sl] fun (x41 : Int × Int × Int × Int × Int × Int × SlV × SlV × Bool × Int × SlV × SlV × Unit) =>
  CallV Tryz.prog 80 #[.agg #[.int .i64 x41.1, .int .i64 x41.2.1, .int .i64 x41.2.2.1, .int .i64 x41.2.2.2.1, .int .i64 x41.2.2.2.2.1, .int .i64 x41.2.2.2.2.2.1, .slice x41.2.2.2.2.2.2.1.a x41.2.2.2.2.2.2.1.n x41.2.2.2.2.2.2.1.c, .slice x41.2.2.2.2.2.2.2.1.a x41.2.2.2.2.2.2.2.1.n x41.2.2.2.2.2.2.2.1.c, .bool x41.2.2.2.2.2.2.2.2.1, .int .i64 x41.2.2.2.2.2.2.2.2.2.1, .slice x41.2.2.2.2.2.2.2.2.2.2.1.a x41.2.2.2.2.2.2.2.2.2.2.1.n x41.2.2.2.2.2.2.2.2.2.2.1.c, .slice x41.2.2.2.2.2.2.2.2.2.2.2.1.a x41.2.2.2.2.2.2.2.2.2.2.2.1.n x41.2.2.2.2.2.2.2.2.2.2.2.1.c], .int .i64 p1, .int .i64 5, .int .i64 0] w32 [.agg [.int .i64, .int .i64, .int .i64, .int .i64, .int .i64, .int .i64, .sl, .sl, .bool, .int .i64, .sl, .sl]] fun (r42 : (Int × Int × Int × Int × Int × Int × SlV × SlV × Bool × Int × SlV × SlV × Unit) × Unit) w43 =>
  StoreV w43 ⟨b3, 0, none⟩ [.int .i64 r42.1.1, .int .i64 r42.1.2.1, .int .i64 r42.1.2.2.1, .int .i64 r42.1.2.2.2.1, .int .i64 r42.1.2.2.2.2.1, .int .i64 r42.1.2.2.2.2.2.1, .slice r42.1.2.2.2.2.2.2.1.a r42.1.2.2.2.2.2.2.1.n r42.1.2.2.2.2.2.2.1.c, .slice r42.1.2.2.2.2.2.2.2.1.a r42.1.2.2.2.2.2.2.2.1.n r42.1.2.2.2.2.2.2.2.1.c, .bool r42.1.2.2.2.2.2.2.2.2.1, .int .i64 r42.1.2.2.2.2.2.2.2.2.2.1, .slice r42.1.2.2.2.2.2.2.2.2.2.2.1.a r42.1.2.2.2.2.2.2.2.2.2.2.1.n r42.1.2.2.2.2.2.2.2.2.2.2.1.c, .slice r42.1.2.2.2.2.2.2.2.2.2.2.2.1.a r42.1.2.2.2.2.2.2.2.2.2.2.2.1.n r42.1.2.2.2.2.2.2.2.2.2.2.2.1.c] fun w44 =>
  LoadA w44 ⟨b3, 0, none⟩ [.int .i64, .int .i64, .int .i64, .int .i64, .int .i64, .int .i64, .sl, .sl, .bool, .int .i64, .sl, .sl] fun (x45 : Int × Int × Int × Int × Int × Int × SlV × SlV × Bool × Int × SlV × SlV × Unit) =>
  K ((x45.1, x45.2.1, x45.2.2.1, x45.2.2.2.1, x45.2.2.2.2.1, x45.2.2.2.2.2.1, x45.2.2.2.2.2.2.1, x45.2.2.2.2.2.2.2.1, x45.2.2.2.2.2.2.2.2.1, x45.2.2.2.2.2.2.2.2.2.1, x45.2.2.2.2.2.2.2.2.2.2.1, x45.2.2.2.2.2.2.2.2.2.2.2.1, ()), (17 : Int), ()) w44))))
theorem ref24_Destroy.vc (p0_0 p0_1 p0_2 p0_3 p0_4 p0_5 : Int) (a0_6 : Option Addr) (n0_6 c0_6 : Nat) (a0_7 : Option Addr) (n0_7 c0_7 : Nat) (p0_8 : Bool) (p0_9 : Int) (a0_10 : Option Addr) (n0_10 c0_10 : Nat) (a0_11 : Option Addr) (n0_11 c0_11 : Nat) (p1 : Int) (w : World) (K : (Int × Int × Int × Int × Int × Int × SlV × SlV × Bool × Int × SlV × SlV × Unit) × Int × Unit → World → Prop) (h : ref24_Destroy.P p0_0 p0_1 p0_2 p0_3 p0_4 p0_5 a0_6 n0_6 c0_6 a0_7 n0_7 c0_7 p0_8 p0_9 a0_10 n0_10 c0_10 a0_11 n0_11 c0_11 p1 w K) : CallV Tryz.prog 36 #[.agg #[.int .i64 p0_0, .int .i64 p0_1, .int .i64 p0_2, .int .i64 p0_3, .int .i64 p0_4, .int .i64 p0_5, .slice a0_6 n0_6 c0_6, .slice a0_7 n0_7 c0_7, .bool p0_8, .int .i64 p0_9, .slice a0_10 n0_10 c0_10, .slice a0_11 n0_11 c0_11], .int .i64 p1] w [.agg [.int .i64, .int .i64, .int .i64, .int .i64, .int .i64, .int .i64, .sl, .sl, .bool, .int .i64, .sl, .sl], .one (.int .i64)] K := by
  refine vcFun.of (A := ref24_Destroy.A) (wr := false) okf_ok follows h Tryz.func36 ?_
  kernel_rfl
def ref24_Program.A : Ann := .two .no (.two .no (.two .no (.two .no (.two (.draw (.take 0 (.take 1 (.take 2 (.take 3 (.take 4 (.take 5 (.both 6 (.both 7 (.take 8 (.take 9 (.take 10 (.eff 11 (.eff 12 (.take 13 (.done))))))) 11 (.eff 7 (.take 8 (.take 9 (.take 10 (.eff 12 (.take 13 (.done)))))))) 11 (.eff 6 (.eff 7 (.take 8 (.take 9 (.take 10 (.eff 12 (.take 13 (.done)))))))))))))))) .no))))
def ref24_Program.P (p0_0 p0_1 p0_2 p0_3 p0_4 p0_5 : Int) (a0_6 : Option Addr) (n0_6 c0_6 : Nat) (a0_7 : Option Addr) (n0_7 c0_7 : Nat) (p0_8 : Bool) (p0_9 : Int) (a0_10 : Option Addr) (n0_10 c0_10 : Nat) (a0_11 : Option Addr) (n0_11 c0_11 : Nat) (p1_0 p1_1 : Int) (a2 : Option Addr) (n2 c2 : Nat) (w : World) (K : (Int × Int × Int × Int × Int × Int × SlV × SlV × Bool × Int × SlV × SlV × Unit) × Int × Unit → World → Prop) : Prop :=
  NewV #[.int .i64 p0_0, .int .i64 p0_1, .int .i64 p0_2, .int .i64 p0_3, .int .i64 p0_4, .int .i64 p0_5, .slice a0_6 n0_6 c0_6, .slice a0_7 n0_7 c0_7, .bool p0_8, .int .i64 p0_9, .slice a0_10 n0_10 c0_10, .slice a0_11 n0_11 c0_11] 38 w fun b1 w2 =>
  NewV #[.int .i64 p1_0, .int .i64 p1_1] 160 w2 fun b3 w4 =>
  NewV #[.int .i64 0, .int .i64 0, .int .i64 0, .int .i64 0, .int .i64 0, .int .i64 0, .slice none 0 0, .slice none 0 0, .bool false, .int .i64 0, .slice none 0 0, .slice none 0 0] 38 w4 fun b5 w6 =>
  LoadA w6 ⟨b1, 0, none⟩ [.int .i64, .int .i64, .int .i64, .int .i64, .int .i64, .int .i64, .sl, .sl, .bool, .int .i64] fun (x7 : Int × Int × Int × Int × Int × Int × SlV × SlV × Bool × Int × Unit) =>
  LoadA w6 ⟨b3, 0, none⟩ [.int .i64, .int .i64] fun (x8 : Int × Int × Unit) =>
  CallV Tryz.prog 94 #[.agg #[.int .i64 x7.1, .int .i64 x7.2.1, .int .i64 x7.2.2.1, .int .i64 x7.2.2.2.1, .int .i64 x7.2.2.2.2.1, .int .i64 x7.2.2.2.2.2.1, .slice x7.2.2.2.2.2.2.1.a x7.2.2.2.2.2.2.1.n x7.2.2.2.2.2.2.1.c, .slice x7.2.2.2.2.2.2.2.1.a x7.2.2.2.2.2.2.2.1.n x7.2.2.2.2.2.2.2.1.c, .bool x7.2.2.2.2.2.2.2.2.1, .int .i64 x7.2.2.2.2.2.2.2.2.2.1], .agg #[.int .i64 x8.1, .int .i64 x8.2.1], .slice a2 n2 c2] w6 [.agg [.int .i64, .int .i64, .int .i64, .int .i64, .int .i64, .int .i64, .sl, .sl, .bool, .int .i64], .one (.int .i64)] fun (r9 : (Int × Int × Int × Int × Int × Int × SlV × SlV × Bool × Int × Unit) × Int × Unit) w10 =>
  NewV #[.int .i64 0, .int .i64 0, .int .i64 0, .int .i64 0, .int .i64 0, .int .i64 0, .slice none 0 0, .slice none 0 0, .bool false, .int .i64 0] 34 w10 fun b11 w12 =>
  StoreV w12 ⟨b11, 0, none⟩ [.int .i64 r9.1.1, .int .i64 r9.1.2.1, .int .i64 r9.1.2.2.1, .int .i64 r9.1.2.2.2.1, .int .i64 r9.1.2.2.2.2.1, .int .i64 r9.1.2.2.2.2.2.1, .slice r9.1.2.2.2.2.2.2.1.a r9.1.2.2.2.2.2.2.1.n r9.1.2.2.2.2.2.2.1.c, .slice r9.1.2.2.2.2.2.2.2.1.a r9.1.2.2.2.2.2.2.2.1.n r9.1.2.2.2.2.2.2.2.1.c, .bool r9.1.2.2.2.2.2.2.2.2.1, .int .i64 r9.1.2.2.2.2.2.2.2.2.2.1] fun w13 =>
  LoadA w13 ⟨b11, 0, none⟩ [.int .i64, .int .i64, .int .i64, .int .i64, .int .i64, .int .i64, .sl, .sl, .bool, .int .i64] fun (x14 : Int × Int × Int × Int × Int × Int × SlV × SlV × Bool × Int × Unit) =>
  StoreV w13 ⟨b1, 0, none⟩ [.int .i64 x14.1, .int .i64 x14.2.1, .int .i64 x14.2.2.1, .int .i64 x14.2.2.2.1, .int .i64 x14.2.2.2.2.1, .int .i64 x14.2.2.2.2.2.1, .slice x14.2.2.2.2.2.2.1.a x14.2.2.2.2.2.2.1.n x14.2.2.2.2.2.2.1.c, .slice x14.2.2.2.2.2.2.2.1.a x14.2.2.2.2.2.2.2.1.n x14.2.2.2.2.2.2.2.1.c, .bool x14.2.2.2.2.2.2.2.2.1, .int .i64 x14.2.2.2.2.2.2.2.2.2.1] fun w15 =>
  cond (r9.2.1 != 0)
  (LoadA w15 ⟨b1, 0, none⟩ [.int .i64, .int .i64, .int .i64, .int .i64, .int .i64, .int .i64, .sl, .sl, .bool, .int .i64, .sl, .sl] fun (x16 : Int × Int × Int × Int × Int × Int × SlV × SlV × Bool × Int × SlV × SlV × Unit) =>
  StoreV w15 ⟨b5, 0, none⟩ [.int .i64 x16.1, .int .i64 x16.2.1, .int .i64 x16.2.2.1, .int .i64 x16.2.2.2.1, .int .i64 x16.2.2.2.2.1, .int .i64 x16.2.2.2.2.2.1, .slice x16.2.2.2.2.2.2.1.a x16.2.2.2.2.2.2.1.n x16.2.2.2.2.2.2.1.c, .slice x16.2.2.2.2.2.2.2.1.a x16.2.2.2.2.2.2.2.1.n x16.2.2.2.2.2.2.2.1.c, .bool x16.2.2.2.2.2.2.2.2.1, .int .i64 x16.2.2.2.2.2.2.2.2.2.1, .slice x16.2.2.2.2.2.2.2.2.2.2.1.a x16.2.2.2.2.2.2.2.2.2.2.1.n x16.2.2.2.2.2.2.2.2.2.2.1.c, .slice x16.2.2.2.2.2.2.2.2.2.2.2.1.a x16.2.2.2.2.2.2.2.2.2.2.2.1.n x16.2.2.2.2.2.2.2.2.2.2.2.1.c] fun w17 =>
  LoadA w17 ⟨b5, 0, none⟩ [.int .i64, .int .i64, .int .i64, .int .i64, .int .i64, .int .i64, .sl, .sl, .bool, .int .i64, .sl, .sl] fun (x18 : Int × Int × Int × Int × Int × Int × SlV × SlV × Bool × Int × SlV × SlV × Unit) =>
  K ((x18.1, x18.2.1, x18.2.2.1, x18.2.2.2.1, x18.2.2.2.2.1, x18.2.2.2.2.2.1, x18.2.2.2.2.2.2.1, x18.2.2.2.2.2.2.2.1, x18.2.2.2.2.2.2.2.2.1, x18.2.2.2.2.2.2.2.2.2.1, x18.2.2.2.2.2.2.2.2.2.2.1, x18.2.2.2.2.2.2.2.2.2.2.2.1, ()), r9.2.1, ()) w17)
  (DrawV fun D19 =>
  (D19 b1 ∧ LoadA w15.drew ⟨b1, 0, none⟩ [.int .i64, .int .i64, .int .i64, .int .i64, .int .i64, .int .i64, .sl, .sl, .bool, .int .i64] fun (x20 : Int × Int × Int × Int × Int × Int × SlV × SlV × Bool × Int × Unit) =>
  (D19 b3 ∧ LoadA w15.drew ⟨b3, 0, none⟩ [.int .i64, .int .i64] fun (x21 : Int × Int × Unit) =>
  (D19 b1 ∧ LoadA w15.drew ⟨b1, 0, none⟩ [.int .i64, .int .i64, .int .i64, .int .i64, .int .i64, .int .i64] fun (x22 : Int × Int × Int × Int × Int × Int × Unit) =>
  ((CallV Tryz.prog 95 #[.agg #[.int .i64 x22.1, .int .i64 x22.2.1, .int .i64 x22.2.2.1, .int .i64 x22.2.2.2.1, .int .i64 x22.2.2.2.2.1, .int .i64 x22.2.2.2.2.2.1]] w15.drew [.one .sl] fun (r23 : SlV × Unit) w24 =>
  KeepOn D19 w15.drew w24 ∧
  ((CallV Tryz.prog 94 #[.agg #[.int .i64 x20.1, .int .i64 x20.2.1, .int .i64 x20.2.2.1, .int .i64 x20.2.2.2.1, .int .i64 x20.2.2.2.2.1, .int .i64 x20.2.2.2.2.2.1, .slice x20.2.2.2.2.2.2.1.a x20.2.2.2.2.2.2.1.n x20.2.2.2.2.2.2.1.c, .slice x20.2.2.2.2.2.2.2.1.a x20.2.2.2.2.2.2.2.1.n x20.2.2.2.2.2.2.2.1.c, .bool x20.2.2.2.2.2.2.2.2.1, .int .i64 x20.2.2.2.2.2.2.2.2.2.1], .agg #[.int .i64 x21.1, .int .i64 x21.2.1], .slice r23.1.a r23.1.n r23.1.c] w24 [.agg [.int .i64, .int .i64, .int .i64, .int .i64, .int .i64, .int .i64, .sl, .sl, .bool, .int .i64], .one (.int .i64)] fun (r25 : (Int × Int × Int × Int × Int × Int × SlV × SlV × Bool × Int × Unit) × Int × Unit) w26 =>
  KeepOn D19 w15.drew w26 ∧
  NewV #[.int .i64 0, .int .i64 0, .int .i64 0, .int .i64 0, .int .i64 0, .int .i64 0, .slice none 0 0, .slice none 0 0, .bool false, .int .i64 0] 34 w26 fun b27 w28 =>
  KeepOn D19 w15.drew w28 ∧
  StoreV w28 ⟨b27, 0, none⟩ [.int .i64 r25.1.1, .int .i64 r25.1.2.1, .int .i64 r25.1.2.2.1, .int .i64 r25.1.2.2.2.1, .int .i64 r25.1.2.2.2.2.1, .int .i64 r25.1.2.2.2.2.2.1, .slice r25.1.2.2.2.2.2.2.1.a r25.1.2.2.2.2.2.2.1.n r25.1.2.2.2.2.2.2.1.c, .slice r25.1.2.2.2.2.2.2.2.1.a r25.1.2.2.2.2.2.2.2.1.n r25.1.2.2.2.2.2.2.2.1.c, .bool r25.1.2.2.2.2.2.2.2.2.1, .int .i64 r25.1.2.2.2.2.2.2.2.2.2.1] fun w29 =>
  KeepOn D19 w15.drew w29 ∧
  LoadA w29 ⟨b27, 0, none⟩ [.int .i64, .int .i64, .int .i64, .int .i64, .int .i64, .int .i64, .sl, .sl, .bool, .int .i64] fun (x30 : Int × Int × Int × Int × Int × Int × SlV × SlV × Bool × Int × Unit) =>
  StoreV w29 ⟨b1, 0, none⟩ [.int .i64 x30.1, .int .i64 x30.2.1, .int .i64 x30.2.2.1, .int .i64 x30.2.2.2.1, .int .i64 x30.2.2.2.2.1, .int .i64 x30.2.2.2.2.2.1, .slice x30.2.2.2.2.2.2.1.a x30.2.2.2.2.2.2.1.n x30.2.2.2.2.2.2.1.c, .slice x30.2.2.2.2.2.2.2.1.a x30.2.2.2.2.2.2.2.1.n x30.2.2.2.2.2.2.2.1.c, .bool x30.2.2.2.2.2.2.2.2.1, .int .i64 x30.2.2.2.2.2.2.2.2.2.1] fun w31 =>
  LoadA w31 ⟨b1, 0, none⟩ [.int .i64, .int .i64, .int .i64, .int .i64, .int .i64, .int .i64, .sl, .sl, .bool, .int .i64, .sl, .sl] fun (x32 : Int × Int × Int × Int × Int × Int × SlV × SlV × Bool × Int × SlV × SlV × Unit) =>
  StoreV w31 ⟨b5, 0, none⟩ [.int .i64 x32.1, .int .i64 x32.2.1, .int .i64 x32.2.2.1, .int .i64 x32.2.2.2.1, .int .i64 x32.2.2.2.2.1, .int .i64 x32.2.2.2.2.2.1, .slice x32.2.2.2.2.2.2.1.a x32.2.2.2.2.2.2.1.n x32.2.2.2.2.2.2.1.c, .slice x32.2.2.2.2.2.2.2.1.a x32.2.2.2.2.2.2.2.1.n x32.2.2.2.2.2.2.2.1.c, .bool x32.2.2.2.2.2.2.2.2.1, .int .i64 x32.2.2.2.2.2.2.2.2.2.1, .slice x32.2.2.2.2.2.2.2.2.2.2.1.a x32.2.2.2.2.2.2.2.2.2.2.1.n x32.2.2.2.2.2.2.2.2.2.2.1.c, .slice x32.2.2.2.2.2.2.2.2.2.2.2.1.a x32.2.2.2.2.2.2.2.2.2.2.2.1.n x32.2.2.2.2.2.2.2.2.2.2.2.1.c] fun w33 =>
  LoadA w33 ⟨b5, 0, none⟩ [.int .i64, .int .i64, .int .i64, .int .i64, .int .i64, .int .i64, .sl, .sl, .bool, .int .i64, .sl, .sl] fun (x34 : Int × Int × Int × Int × Int × Int × SlV × SlV × Bool × Int × SlV × SlV × Unit) =>
  K ((x34.1, x34.2.1, x34.2.2.1, x34.2.2.2.1, x34.2.2.2.2.1, x34.2.2.2.2.2.1, x34.2.2.2.2.2.2.1, x34.2.2.2.2.2.2.2.1, x34.2.2.2.2.2.2.2.2.1, x34.2.2.2.2.2.2.2.2.2.1, x34.2.2.2.2.2.2.2.2.2.2.1, x34.2.2.2.2.2.2.2.2.2.2.2.1, ()), r25.2.1, ()) w33) ∧
  (NewV #[.int .i64 0, .int .i64 0, .int .i64 0, .int .i64 0, .int .i64 0, .int .i64 0, .slice none 0 0, .slice none 0 0, .bool false, .int .i64 0] 34 w24 fun b35 w36 =>
  KeepOn D19 w15.drew w36 ∧
  CallV Tryz.prog 94 #[.agg #[.int .i64 x20.1, .int .i64 x20.2.1, .int .i64 x20.2.2.1, .int .i64 x20.2.2.2.1, .int .i64 x20.2.2.2.2.1, .int .i64 x20.2.2.2.2.2.1, .slice x20.2.2.2.2.2.2.1.a x20.2.2.2.2.2.2.1.n x20.2.2.2.2.2.2.1.c, .slice x20.2.2.2.2.2.2.2.1.a x20.2.2.2.2.2.2.2.1.n x20.2.2.2.2.2.2.2.1.c, .bool x20.2.2.2.2.2.2.2.2.1, .int .i64 x20.2.2.2.2.2.2.2.2.2.1], .agg #[.int .i64 x21.1, .int .i64 x21.2.1], .slice r23.1.a r23.1.n r23.1.c] w36 [.agg [.int .i64, .int .i64, .int .i64, .int .i64, .int .i64, .int .i64, .sl, .sl, .bool, .int .i64], .one (.int .i64)] fun (r37 : (Int × Int × Int × Int × Int × Int × SlV × SlV × Bool × Int × Unit) × Int × Unit) w38 =>
  KeepOn D19 w15.drew w38 ∧
  StoreV w38 ⟨b35, 0, none⟩ [.int .i64 r37.1.1, .int .i64 r37.1.2.1, .int .i64 r37.1.2.2.1, .int .i64 r37.1.2.2.2.1, .int .i64 r37.1.2.2.2.2.1, .int .i64 r37.1.2.2.2.2.2.1, .slice r37.1.2.2.2.2.2.2.1.a r37.1.2.2.2.2.2.2.1.n r37.1.2.2.2.2.2.2.1.c, .slice r37.1.2.2.2.2.2.2.2.1.a r37.1.2.2.2.2.2.2.2.1.n r37.1.2.2.2.2.2.2.2.1.c, .bool r37.1.2.2.2.2.2.2.2.2.1, .int .i64 r37.1.2.2.2.2.2.2.2.2.2.1] fun w39 =>
  KeepOn D19 w15.drew w39 ∧
  LoadA w39 ⟨b35, 0, none⟩ [.int .i64, .int .i64, .int .i64, .int .i64, .int .i64, .int .i64, .sl, .sl, .bool, .int .i64] fun (x40 : Int × Int × Int × Int × Int × Int × SlV × SlV × Bool × Int × Unit) =>
  StoreV w39 ⟨b1, 0, none⟩ [.int .i64 x40.1, .int .i64 x40.2.1, .int .i64 x40.2.2.1, .int .i64 x40.2.2.2.1, .int .i64 x40.2.2.2.2.1, .int .i64 x40.2.2.2.2.2.1, .slice x40.2.2.2.2.2.2.1.a x40.2.2.2.2.2.2.1.n x40.2.2.2.2.2.2.1.c, .slice x40.2.2.2.2.2.2.2.1.a x40.2.2.2.2.2.2.2.1.n x40.2.2.2.2.2.2.2.1.c, .bool x40.2.2.2.2.2.2.2.2.1, .int .i64 x40.2.2.2.2.2.2.2.2.2.1] fun w41 =>
  LoadA w41 ⟨b1, 0, none⟩ [.int .i64, .int .i64, .int .i64, .int .i64, .int .i64, .int .i64, .sl, .sl, .bool, .int .i64, .sl, .sl] fun (x42 : Int × Int × Int × Int × Int × Int × SlV × SlV × Bool × Int × SlV × SlV × Unit) =>
  StoreV w41 ⟨b5, 0, none⟩ [.int .i64 x42.1, .int .i64 x42.2.1, .int .i64 x42.2.2.1, .int .i64 x42.2.2.2.1, .int .i64 x42.2.2.2.2.1, .int .i64 x42.2.2.2.2.2.1, .slice x42.2.2.2.2.2.2.1.a x42.2.2.2.2.2.2.1.n x42.2.2.2.2.2.2.1.c, .slice x42.2.2.2.2.2.2.2.1.a x42.2.2.2.2.2.2.2.1.n x42.2.2.2.2.2.2.2.1.c, .bool x42.2.2.2.2.2.2.2.2.1, .int .i64 x42.2.2.2.2.2.2.2.2.2.1, .slice x42.2.2.2.2.2.2.2.2.2.2.1.a x42.2.2.2.2.2.2.2.2.2.2.1.n x42.2.2.2.2.2.2.2.2.2.2.1.c, .slice x42.2.2.2.2.2.2.2.2.2.2.2.1.a x42.2.2.2.2.2.2.2.2.2.2.2.1.n x42.2.2.2.2.2.2.2.2.2.2.2.1.c] fun w43 =>
  LoadA w43 ⟨b5, 0, none⟩ [.int .i64, .int .i64, .int .i64, .int .i64, .int .i64, .int .i64, .sl, .sl, .bool, .int .i64, .sl, .sl] fun (x44 : Int × Int × Int × Int × Int × Int × SlV × SlV × Bool × Int × SlV × SlV × Unit) =>
  K ((x44.1, x44.2.1, x44.2.2.1, x44.2.2.2.1, x44.2.2.2.2.1, x44.2.2.2.2.2.1, x44.2.2.2.2.2.2.1, x44.2.2.2.2.2.2.2.1, x44.2.2.2.2.2.2.2.2.1, x44.2.2.2.2.2.2.2.2.2.1, x44.2.2.2.2.2.2.2.2.2.2.1, x44.2.2.2.2.2.2.2.2.2.2.2.1, ()), r37.2.1, ()) w43))) ∧
  (NewV #[.int .i64 0, .int .i64 0, .int .i64 0, .int .i64 0, .int .i64 0, .int .i64 0, .slice none 0 0, .slice none 0 0, .bool false, .int .i64 0] 34 w15.drew fun b45 w46 =>
  KeepOn D19 w15.drew w46 ∧
  CallV Tryz.prog 95 #[.agg #[.int .i64 x22.1, .int .i64 x22.2.1, .int .i64 x22.2.2.1, .int .i64 x22.2.2.2.1, .int .i64 x22.2.2.2.2.1, .int .i64 x22.2.2.2.2.2.1]] w46 [.one .sl] fun (r47 : SlV × Unit) w48 =>
  KeepOn D19 w15.drew w48 ∧
  CallV Tryz.prog 94 #[.agg #[.int .i64 x20.1, .int .i64 x20.2.1, .int .i64 x20.2.2.1, .int .i64 x20.2.2.2.1, .int .i64 x20.2.2.2.2.1, .int .i64 x20.2.2.2.2.2.1, .slice x20.2.2.2.2.2.2.1.a x20.2.2.2.2.2.2.1.n x20.2.2.2.2.2.2.1.c, .slice x20.2.2.2.2.2.2.2.1.a x20.2.2.2.2.2.2.2.1.n x20.2.2.2.2.2.2.2.1.c, .bool x20.2.2.2.2.2.2.2.2.1, .int .i64 x20.2.2.2.2.2.2.2.2.2.1], .agg #[.int .i64 x21.1, .int .i64 x21.2.1], .slice r47.1.a r47.1.n r47.1.c] w48 [.agg [.int .i64, .int .i64, .int .i64, .int .i64, .int .i64, .int .i64, .sl, .sl, .bool, .int .i64], .one (.int .i64)] fun (r49 : (Int × Int × Int × Int × Int × Int × SlV × SlV × Bool × Int × Unit) × Int × Unit) w50 =>
  KeepOn D19 w15.drew w50 ∧
  StoreV w50 ⟨b45, 0, none⟩ [.int .i64 r49.1.1, .int .i64 r49.1.2.1, .int .i64 r49.1.2.2.1, .int .i64 r49.1.2.2.2.1, .int .i64 r49.1.2.2.2.2.1, .int .i64 r49.1.2.2.2.2.2.1, .slice r49.1.2.2.2.2.2.2.1.a r49.1.2.2.2.2.2.2.1.n r49.1.2.2.2.2.2.2.1.c, .slice r49.1.2.2.2.2.2.2.2.1.a r49.1.2.2.2.2.2.2.2.1.n r49.1.2.2.2.2.2.2.2.1.c, .bool r49.1.2.2.2.2.2.2.2.2.1, .int .i64 r49.1.2.2.2.2.2.2.2.2.2.1] fun w51 =>
  KeepOn D19 w15.drew w51 ∧
  LoadA w51 ⟨b45, 0, none⟩ [.int .i64, .int .i64, .int .i64, .int .i64, .int .i64, .int .i64, .sl, .sl, .bool, .int .i64] fun (x52 : Int × Int × Int × Int × Int × Int × SlV × SlV × Bool × Int × Unit) =>
  StoreV w51 ⟨b1, 0, none⟩ [.int .i64 x52.1, .int .i64 x52.2.1, .int .i64 x52.2.2.1, .int .i64 x52.2.2.2.1, .int .i64 x52.2.2.2.2.1, .int .i64 x52.2.2.2.2.2.1, .slice x52.2.2.2.2.2.2.1.a x52.2.2.2.2.2.2.1.n x52.2.2.2.2.2.2.1.c, .slice x52.2.2.2.2.2.2.2.1.a x52.2.2.2.2.2.2.2.1.n x52.2.2.2.2.2.2.2.1.c, .bool x52.2.2.2.2.2.2.2.2.1, .int .i64 x52.2.2.2.2.2.2.2.2.2.1] fun w53 =>
  LoadA w53 ⟨b1, 0, none⟩ [.int .i64, .int .i64, .int .i64, .int .i64, .int .i64, .int .i64, .sl, .sl, .bool, .int .i64, .sl, .sl] fun (x54 : Int × Int × Int × Int × Int × Int × SlV × SlV × Bool × Int × SlV × SlV × Unit) =>
  StoreV w53 ⟨b5, 0, none⟩ [.int .i64 x54.1, .int .i64 x54.2.1, .int .i64 x54.2.2.1, .int .i64 x54.2.2.2.1, .int .i64 x54.2.2.2.2.1, .int .i64 x54.2.2.2.2.2.1, .slice x54.2.2.2.2.2.2.1.a x54.2.2.2.2.2.2.1.n x54.2.2.2.2.2.2.1.c, .slice x54.2.2.2.2.2.2.2.1.a x54.2.2.2.2.2.2.2.1.n x54.2.2.2.2.2.2.2.1.c, .bool x54.2.2.2.2.2.2.2.2.1, .int .i64 x54.2.2.2.2.2.2.2.2.2.1, .slice x54.2.2.2.2.2.2.2.2.2.2.1.a x54.2.2.2.2.2.2.2.2.2.2.1.n x54.2.2.2.2.2.2.2.2.2.2.1.c, .slice x54.2.2.2.2.2.2.2.2.2.2.2.1.a x54.2.2.2.2.2.2.2.2.2.2.2.1.n x54.2.2.2.2.2.2.2.2.2.2.2.1.c] fun w55 =>
  LoadA w55 ⟨b5, 0, none⟩ [.int .i64, .int .i64, .int .i64, .int .i64, .int .i64, .int .i64, .sl, .sl, .bool, .int .i64, .sl, .sl] fun (x56 : Int × Int × Int × Int × Int × Int × SlV × SlV × Bool × Int × SlV × SlV × Unit) =>
  K ((x56.1, x56.2.1, x56.2.2.1, x56.2.2.2.1, x56.2.2.2.2.1, x56.2.2.2.2.2.1, x56.2.2.2.2.2.2.1, x56.2.2.2.2.2.2.2.1, x56.2.2.2.2.2.2.2.2.1, x56.2.2.2.2.2.2.2.2.2.1, x56.2.2.2.2.2.2.2.2.2.2.1, x56.2.2.2.2.2.2.2.2.2.2.2.1, ()), r49.2.1, ()) w55))))))
theorem ref24_Program.vc (p0_0 p0_1 p0_2 p0_3 p0_4 p0_5 : Int) (a0_6 : Option Addr) (n0_6 c0_6 : Nat) (a0_7 : Option Addr) (n0_7 c0_7 : Nat) (p0_8 : Bool) (p0_9 : Int) (a0_10 : Option Addr) (n0_10 c0_10 : Nat) (a0_11 : Option Addr) (n0_11 c0_11 : Nat) (p1_0 p1_1 : Int) (a2 : Option Addr) (n2 c2 : Nat) (w : World) (K : (Int × Int × Int × Int × Int × Int × SlV × SlV × Bool × Int × SlV × SlV × Unit) × Int × Unit → World → Prop) (h : ref24_Program.P p0_0 p0_1 p0_2 p0_3 p0_4 p0_5 a0_6 n0_6 c0_6 a0_7 n0_7 c0_7 p0_8 p0_9 a0_10 n0_10 c0_10 a0_11 n0_11 c0_11 p1_0 p1_1 a2 n2 c2 w K) : CallV Tryz.prog 87 #[.agg #[.int .i64 p0_0, .int .i64 p0_1, .int .i64 p0_2, .int .i64 p0_3, .int .i64 p0_4, .int .i64 p0_5, .slice a0_6 n0_6 c0_6, .slice a0_7 n0_7 c0_7, .bool p0_8, .int .i64 p0_9, .slice a0_10 n0_10 c0_10, .slice a0_11 n0_11 c0_11], .agg #[.int .i64 p1_0, .int .i64 p1_1], .slice a2 n2 c2] w [.agg [.int .i64, .int .i64, .int .i64, .int .i64, .int .i64, .int .i64, .sl, .sl, .bool, .int .i64, .sl, .sl], .one (.int .i64)] K := by
  refine vcFun.of (A := ref24_Program.A) (wr := false) okf_ok follows h Tryz.func87 ?_
  kernel_rfl
def ref24_Copied.A : Ann := .no
def ref24_Copied.P (a0 : Option Addr) (n0 c0 : Nat) (w : World) (K : SlV × Unit → World → Prop) : Prop :=
  NewV #[] 5 w fun b1 w2 =>
  Rng .i64 (((n0 : Nat) : Int) - 8) ∧
  ((0 : Int) ≤ (((n0 : Nat) : Int) - 8) ∧ (((n0 : Nat) : Int) - 8) ≤ ((c0 : Nat) : Int)) ∧
  SubK a0 0 c0 1 fun a3 =>
  AppS w2 a3 (((((n0 : Nat) : Int) - 8).toNat) - 0) 1 fun ns8 =>
  AppV w2 5 1 1 (some ⟨b1, 0, none⟩) 0 0 ns8 (((((n0 : Nat) : Int) - 8).toNat) - 0) fun a4 n5 c6 w7 =>
  CallV Tryz.prog 122 #[.int .u8 255, .int .i64 8] w7 [.one .sl] fun (r9 : SlV × Unit) w10 =>
  AppS w10 r9.1.a r9.1.n 1 fun ns15 =>
  AppV w10 5 1 1 a4 n5 c6 ns15 r9.1.n fun a11 n12 c13 w14 =>
  K ((⟨a11, n12, c13⟩ : SlV), ()) w14
theorem ref24_Copied.vc (a0 : Option Addr) (n0 c0 : Nat) (w : World) (K : SlV × Unit → World → Prop) (h : ref24_Copied.P a0 n0 c0 w K) : CallV Tryz.prog 90 #[.slice a0 n0 c0] w [.one .sl] K := by
  refine vcFun.of (A := ref24_Copied.A) (wr := false) okf_ok follows h Tryz.func90 ?_
  kernel_rfl
def ref24_Seal.A : Ann := .two .no (.two (.draw (.take 0 (.take 1 (.take 2 (.take 3 (.take 4 (.take 5 (.take 6 (.take 7 (.both 8 (.both 9 (.take 10 (.take 11 (.take 12 (.eff 13 (.eff 14 (.take 15 (.done))))))) 13 (.eff 9 (.take 10 (.take 11 (.take 12 (.eff 14 (.take 15 (.done)))))))) 13 (.eff 8 (.eff 9 (.take 10 (.take 11 (.take 12 (.eff 14 (.take 15 (.done)))))))))))))))))) .no)
def ref24_Seal.P (p0_0 p0_1 p0_2 p0_3 p0_4 p0_5 : Int) (a0_6 : Option Addr) (n0_6 c0_6 : Nat) (a0_7 : Option Addr) (n0_7 c0_7 : Nat) (p0_8 : Bool) (p0_9 : Int) (a0_10 : Option Addr) (n0_10 c0_10 : Nat) (a0_11 : Option Addr) (n0_11 c0_11 : Nat) (p1 : Int) (w : World) (K : (Int × Int × Int × Int × Int × Int × SlV × SlV × Bool × Int × SlV × SlV × Unit) × Int × Unit → World → Prop) : Prop :=
  NewV #[.int .i64 p0_0, .int .i64 p0_1, .int .i64 p0_2, .int .i64 p0_3, .int .i64 p0_4, .int .i64 p0_5, .slice a0_6 n0_6 c0_6, .slice a0_7 n0_7 c0_7, .bool p0_8, .int .i64 p0_9, .slice a0_10 n0_10 c0_10, .slice a0_11 n0_11 c0_11] 38 w fun b1 w2 =>
  NewV #[.int .i64 0, .int .i64 0, .int .i64 0, .int .i64 0, .int .i64 0, .int .i64 0, .slice none 0 0, .slice none 0 0, .bool false, .int .i64 0, .slice none 0 0, .slice none 0 0] 38 w2 fun b3 w4 =>
  DrawV fun D5 =>
  (D5 b1 ∧ LoadA w4.drew ⟨b1, 0, none⟩ [.int .i64, .int .i64, .int .i64, .int .i64, .int .i64, .int .i64, .sl, .sl, .bool, .int .i64] fun (x6 : Int × Int × Int × Int × Int × Int × SlV × SlV × Bool × Int × Unit) =>
  Rng .i64 ((4 : Int) + p1) ∧
  (D5 b1 ∧ LoadA w4.drew ⟨b1, 0, none⟩ [.int .i64, .int .i64, .int .i64, .int .i64, .int .i64, .int .i64] fun (x7 : Int × Int × Int × Int × Int × Int × Unit) =>
  ((CallV Tryz.prog 95 #[.agg #[.int .i64 x7.1, .int .i64 x7.2.1, .int .i64 x7.2.2.1, .int .i64 x7.2.2.2.1, .int .i64 x7.2.2.2.2.1, .int .i64 x7.2.2.2.2.2.1]] w4.drew [.one .sl] fun (r8 : SlV × Unit) w9 =>
  KeepOn D5 w4.drew w9 ∧
  ((CallV Tryz.prog 94 #[.agg #[.int .i64 x6.1, .int .i64 x6.2.1, .int .i64 x6.2.2.1, .int .i64 x6.2.2.2.1, .int .i64 x6.2.2.2.2.1, .int .i64 x6.2.2.2.2.2.1, .slice x6.2.2.2.2.2.2.1.a x6.2.2.2.2.2.2.1.n x6.2.2.2.2.2.2.1.c, .slice x6.2.2.2.2.2.2.2.1.a x6.2.2.2.2.2.2.2.1.n x6.2.2.2.2.2.2.2.1.c, .bool x6.2.2.2.2.2.2.2.2.1, .int .i64 x6.2.2.2.2.2.2.2.2.2.1], .agg #[.int .i64 ((4 : Int) + p1), .int .i64 0], .slice r8.1.a r8.1.n r8.1.c] w9 [.agg [.int .i64, .int .i64, .int .i64, .int .i64, .int .i64, .int .i64, .sl, .sl, .bool, .int .i64], .one (.int .i64)] fun (r10 : (Int × Int × Int × Int × Int × Int × SlV × SlV × Bool × Int × Unit) × Int × Unit) w11 =>
  KeepOn D5 w4.drew w11 ∧
  NewV #[.int .i64 0, .int .i64 0, .int .i64 0, .int .i64 0, .int .i64 0, .int .i64 0, .slice none 0 0, .slice none 0 0, .bool false, .int .i64 0] 34 w11 fun b12 w13 =>
  KeepOn D5 w4.drew w13 ∧
  StoreV w13 ⟨b12, 0, none⟩ [.int .i64 r10.1.1, .int .i64 r10.1.2.1, .int .i64 r10.1.2.2.1, .int .i64 r10.1.2.2.2.1, .int .i64 r10.1.2.2.2.2.1, .int .i64 r10.1.2.2.2.2.2.1, .slice r10.1.2.2.2.2.2.2.1.a r10.1.2.2.2.2.2.2.1.n r10.1.2.2.2.2.2.2.1.c, .slice r10.1.2.2.2.2.2.2.2.1.a r10.1.2.2.2.2.2.2.2.1.n r10.1.2.2.2.2.2.2.2.1.c, .bool r10.1.2.2.2.2.2.2.2.2.1, .int .i64 r10.1.2.2.2.2.2.2.2.2.2.1] fun w14 =>
  KeepOn D5 w4.drew w14 ∧
  LoadA w14 ⟨b12, 0, none⟩ [.int .i64, .int .i64, .int .i64, .int .i64, .int .i64, .int .i64, .sl, .sl, .bool, .int .i64] fun (x15 : Int × Int × Int × Int × Int × Int × SlV × SlV × Bool × Int × Unit) =>
  StoreV w14 ⟨b1, 0, none⟩ [.int .i64 x15.1, .int .i64 x15.2.1, .int .i64 x15.2.2.1, .int .i64 x15.2.2.2.1, .int .i64 x15.2.2.2.2.1, .int .i64 x15.2.2.2.2.2.1, .slice x15.2.2.2.2.2.2.1.a x15.2.2.2.2.2.2.1.n x15.2.2.2.2.2.2.1.c, .slice x15.2.2.2.2.2.2.2.1.a x15.2.2.2.2.2.2.2.1.n x15.2.2.2.2.2.2.2.1.c, .bool x15.2.2.2.2.2.2.2.2.1, .int .i64 x15.2.2.2.2.2.2.2.2.2.1] fun w16 =>
  LoadA w16 ⟨b1, 0, none⟩ [.int .i64, .int .i64, .int .i64, .int .i64, .int .i64, .int .i64, .sl, .sl, .bool, .int .i64, .sl, .sl] fun (x17 : Int × Int × Int × Int × Int × Int × SlV × SlV × Bool × Int × SlV × SlV × Unit) =>
  StoreV w16 ⟨b3, 0, none⟩ [.int .i64 x17.1, .int .i64 x17.2.1, .int .i64 x17.2.2.1, .int .i64 x17.2.2.2.1, .int .i64 x17.2.2.2.2.1, .int .i64 x17.2.2.2.2.2.1, .slice x17.2.2.2.2.2.2.1.a x17.2.2.2.2.2.2.1.n x17.2.2.2.2.2.2.1.c, .slice x17.2.2.2.2.2.2.2.1.a x17.2.2.2.2.2.2.2.1.n x17.2.2.2.2.2.2.2.1.c, .bool x17.2.2.2.2.2.2.2.2.1, .int .i64 x17.2.2.2.2.2.2.2.2.2.1, .slice x17.2.2.2.2.2.2.2.2.2.2.1.a x17.2.2.2.2.2.2.2.2.2.2.1.n x17.2.2.2.2.2.2.2.2.2.2.1.c, .slice x17.2.2.2.2.2.2.2.2.2.2.2.1.a x17.2.2.2.2.2.2.2.2.2.2.2.1.n x17.2.2.2.2.2.2.2.2.2.2.2.1.c] fun w18 =>
  LoadA w18 ⟨b3, 0, none⟩ [.int .i64, .int .i64, .int .i64, .int .i64, .int .i64, .int .i64, .sl, .sl, .bool, .int .i64, .sl, .sl] fun (x19 : Int × Int × Int × Int × Int × Int × SlV × SlV × Bool × Int × SlV × SlV × Unit) =>
  K ((x19.1, x19.2.1, x19.2.2.1, x19.2.2.2.1, x19.2.2.2.2.1, x19.2.2.2.2.2.1, x19.2.2.2.2.2.2.1, x19.2.2.2.2.2.2.2.1, x19.2.2.2.2.2.2.2.2.1, x19.2.2.2.2.2.2.2.2.2.1, x19.2.2.2.2.2.2.2.2.2.2.1, x19.2.2.2.2.2.2.2.2.2.2.2.1, ()), r10.2.1, ()) w18) ∧
  (NewV #[.int .i64 0, .int .i64 0, .int .i64 0, .int .i64 0, .int .i64 0, .int .i64 0, .slice none 0 0, .slice none 0 0, .bool false, .int .i64 0] 34 w9 fun b20 w21 =>
  KeepOn D5 w4.drew w21 ∧
  CallV Tryz.prog 94 #[.agg #[.int .i64 x6.1, .int .i64 x6.2.1, .int .i64 x6.2.2.1, .int .i64 x6.2.2.2.1, .int .i64 x6.2.2.2.2.1, .int .i64 x6.2.2.2.2.2.1, .slice x6.2.2.2.2.2.2.1.a x6.2.2.2.2.2.2.1.n x6.2.2.2.2.2.2.1.c, .slice x6.2.2.2.2.2.2.2.1.a x6.2.2.2.2.2.2.2.1.n x6.2.2.2.2.2.2.2.1.c, .bool x6.2.2.2.2.2.2.2.2.1, .int .i64 x6.2.2.2.2.2.2.2.2.2.1], .agg #[.int .i64 ((4 : Int) + p1), .int .i64 0], .slice r8.1.a r8.1.n r8.1.c] w21 [.agg [.int .i64, .int .i64, .int .i64, .int .i64, .int .i64, .int .i64, .sl, .sl, .bool, .int .i64], .one (.int .i64)] fun (r22 : (Int × Int × Int × Int × Int × Int × SlV × SlV × Bool × Int × Unit) × Int × Unit) w23 =>
  KeepOn D5 w4.drew w23 ∧
  StoreV w23 ⟨b20, 0, none⟩ [.int .i64 r22.1.1, .int .i64 r22.1.2.1, .int .i64 r22.1.2.2.1, .int .i64 r22.1.2.2.2.1, .int .i64 r22.1.2.2.2.2.1, .int .i64 r22.1.2.2.2.2.2.1, .slice r22.1.2.2.2.2.2.2.1.a r22.1.2.2.2.2.2.2.1.n r22.1.2.2.2.2.2.2.1.c, .slice r22.1.2.2.2.2.2.2.2.1.a r22.1.2.2.2.2.2.2.2.1.n r22.1.2.2.2.2.2.2.2.1.c, .bool r22.1.2.2.2.2.2.2.2.2.1, .int .i64 r22.1.2.2.2.2.2.2.2.2.2.1] fun w24 =>
  KeepOn D5 w4.drew w24 ∧
  LoadA w24 ⟨b20, 0, none⟩ [.int .i64, .int .i64, .int .i64, .int .i64, .int .i64, .int .i64, .sl, .sl, .bool, .int .i64] fun (x25 : Int × Int × Int × Int × Int × Int × SlV × SlV × Bool × Int × Unit) =>
  StoreV w24 ⟨b1, 0, none⟩ [.int .i64 x25.1, .int .i64 x25.2.1, .int .i64 x25.2.2.1, .int .i64 x25.2.2.2.1, .int .i64 x25.2.2.2.2.1, .int .i64 x25.2.2.2.2.2.1, .slice x25.2.2.2.2.2.2.1.a x25.2.2.2.2.2.2.1.n x25.2.2.2.2.2.2.1.c, .slice x25.2.2.2.2.2.2.2.1.a x25.2.2.2.2.2.2.2.1.n x25.2.2.2.2.2.2.2.1.c, .bool x25.2.2.2.2.2.2.2.2.1, .int .i64 x25.2.2.2.2.2.2.2.2.2.1] fun w26 =>
  LoadA w26 ⟨b1, 0, none⟩ [.int .i64, .int .i64, .int .i64, .int .i64, .int .i64, .int .i64, .sl, .sl, .bool, .int .i64, .sl, .sl] fun (x27 : Int × Int × Int × Int × Int × Int × SlV × SlV × Bool × Int × SlV × SlV × Unit) =>
  StoreV w26 ⟨b3, 0, none⟩ [.int .i64 x27.1, .int .i64 x27.2.1, .int .i64 x27.2.2.1, .int .i64 x27.2.2.2.1, .int .i64 x27.2.2.2.2.1, .int .i64 x27.2.2.2.2.2.1, .slice x27.2.2.2.2.2.2.1.a x27.2.2.2.2.2.2.1.n x27.2.2.2.2.2.2.1.c, .slice x27.2.2.2.2.2.2.2.1.a x27.2.2.2.2.2.2.2.1.n x27.2.2.2.2.2.2.2.1.c, .bool x27.2.2.2.2.2.2.2.2.1, .int .i64 x27.2.2.2.2.2.2.2.2.2.1, .slice x27.2.2.2.2.2.2.2.2.2.2.1.a x27.2.2.2.2.2.2.2.2.2.2.1.n x27.2.2.2.2.2.2.2.2.2.2.1.c, .slice x27.2.2.2.2.2.2.2.2.2.2.2.1.a x27.2.2.2.2.2.2.2.2.2.2.2.1.n x27.2.2.2.2.2.2.2.2.2.2.2.1.c] fun w28 =>
  LoadA w28 ⟨b3, 0, none⟩ [.int .i64, .int .i64, .int .i64, .int .i64, .int .i64, .int .i64, .sl, .sl, .bool, .int .i64, .sl, .sl] fun (x29 : Int × Int × Int × Int × Int × Int × SlV × SlV × Bool × Int × SlV × SlV × Unit) =>
  K ((x29.1, x29.2.1, x29.2.2.1, x29.2.2.2.1, x29.2.2.2.2.1, x29.2.2.2.2.2.1, x29.2.2.2.2.2.2.1, x29.2.2.2.2.2.2.2.1, x29.2.2.2.2.2.2.2.2.1, x29.2.2.2.2.2.2.2.2.2.1, x29.2.2.2.2.2.2.2.2.2.2.1, x29.2.2.2.2.2.2.2.2.2.2.2.1, ()), r22.2.1, ()) w28))) ∧
  (NewV #[.int .i64 0, .int .i64 0, .int .i64 0, .int .i64 0, .int .i64 0, .int .i64 0, .slice none 0 0, .slice none 0 0, .bool false, .int .i64 0] 34 w4.drew fun b30 w31 =>
  KeepOn D5 w4.drew w31 ∧
  CallV Tryz.prog 95 #[.agg #[.int .i64 x7.1, .int .i64 x7.2.1, .int .i64 x7.2.2.1, .int .i64 x7.2.2.2.1, .int .i64 x7.2.2.2.2.1, .int .i64 x7.2.2.2.2.2.1]] w31 [.one .sl] fun (r32 : SlV × Unit) w33 =>
  KeepOn D5 w4.drew w33 ∧
  CallV Tryz.prog 94 #[.agg #[.int .i64 x6.1, .int .i64 x6.2.1, .int .i64 x6.2.2.1, .int .i64 x6.2.2.2.1, .int .i64 x6.2.2.2.2.1, .int .i64 x6.2.2.2.2.2.1, .slice x6.2.2.2.2.2.2.1.a x6.2.2.2.2.2.2.1.n x6.2.2.2.2.2.2.1.c, .slice x6.2.2.2.2.2.2.2.1.a x6.2.2.2.2.2.2.2.1.n x6.2.2.2.2.2.2.2.1.c, .bool x6.2.2.2.2.2.2.2.2.1, .int .i64 x6.2.2.2.2.2.2.2.2.2.1], .agg #[.int .i64 ((4 : Int) + p1), .int .i64 0], .slice r32.1.a r32.1.n r32.1.c] w33 [.agg [.int .i64, .int .i64, .int .i64, .int .i64, .int .i64, .int .i64, .sl, .sl, .bool, .int .i64], .one (.int .i64)] fun (r34 : (Int × Int × Int × Int × Int × Int × SlV × SlV × Bool × Int × Unit) × Int × Unit) w35 =>
  KeepOn D5 w4.drew w35 ∧
  StoreV w35 ⟨b30, 0, none⟩ [.int .i64 r34.1.1, .int .i64 r34.1.2.1, .int .i64 r34.1.2.2.1, .int .i64 r34.1.2.2.2.1, .int .i64 r34.1.2.2.2.2.1, .int .i64 r34.1.2.2.2.2.2.1, .slice r34.1.2.2.2.2.2.2.1.a r34.1.2.2.2.2.2.2.1.n r34.1.2.2.2.2.2.2.1.c, .slice r34.1.2.2.2.2.2.2.2.1.a r34.1.2.2.2.2.2.2.2.1.n r34.1.2.2.2.2.2.2.2.1.c, .bool r34.1.2.2.2.2.2.2.2.2.1, .int .i64 r34.1.2.2.2.2.2.2.2.2.2.1] fun w36 =>
  KeepOn D5 w4.drew w36 ∧
  LoadA w36 ⟨b30, 0, none⟩ [.int .i64, .int .i64, .int .i64, .int .i64, .int .i64, .int .i64, .sl, .sl, .bool, .int .i64] fun (x37 : Int × Int × Int × Int × Int × Int × SlV × SlV × Bool × Int × Unit) =>
  StoreV w36 ⟨b1, 0, none⟩ [.int .i64 x37.1, .int .i64 x37.2.1, .int .i64 x37.2.2.1, .int .i64 x37.2.2.2.1, .int .i64 x37.2.2.2.2.1, .int .i64 x37.2.2.2.2.2.1, .slice x37.2.2.2.2.2.2.1.a x37.2.2.2.2.2.2.1.n x37.2.2.2.2.2.2.1.c, .slice x37.2.2.2.2.2.2.2.1.a x37.2.2.2.2.2.2.2.1.n x37.2.2.2.2.2.2.2.1.c, .bool x37.2.2.2.2.2.2.2.2.1, .int .i64 x37.2.2.2.2.2.2.2.2.2.1] fun w38 =>
  LoadA w38 ⟨b1, 0, none⟩ [.int .i64, .int .i64, .int .i64, .int .i64, .int .i64, .int .i64, .sl, .sl, .bool, .int .i64, .sl, .sl] fun (x39 : Int × Int × Int × Int × Int × Int × SlV × SlV × Bool × Int × SlV × SlV × Unit) =>
  StoreV w38 ⟨b3, 0, none⟩ [.int .i64 x39.1, .int .i64 x39.2.1, .int .i64 x39.2.2.1, .int .i64 x39.2.2.2.1, .int .i64 x39.2.2.2.2.1, .int .i64 x39.2.2.2.2.2.1, .slice x39.2.2.2.2.2.2.1.a x39.2.2.2.2.2.2.1.n x39.2.2.2.2.2.2.1.c, .slice x39.2.2.2.2.2.2.2.1.a x39.2.2.2.2.2.2.2.1.n x39.2.2.2.2.2.2.2.1.c, .bool x39.2.2.2.2.2.2.2.2.1, .int .i64 x39.2.2.2.2.2.2.2.2.2.1, .slice x39.2.2.2.2.2.2.2.2.2.2.1.a x39.2.2.2.2.2.2.2.2.2.2.1.n x39.2.2.2.2.2.2.2.2.2.2.1.c, .slice x39.2.2.2.2.2.2.2.2.2.2.2.1.a x39.2.2.2.2.2.2.2.2.2.2.2.1.n x39.2.2.2.2.2.2.2.2.2.2.2.1.c] fun w40 =>
  LoadA w40 ⟨b3, 0, none⟩ [.int .i64, .int .i64, .int .i64, .int .i64, .int .i64, .int .i64, .sl, .sl, .bool, .int .i64, .sl, .sl] fun (x41 : Int × Int × Int × Int × Int × Int × SlV × SlV × Bool × Int × SlV × SlV × Unit) =>
  K ((x41.1, x41.2.1, x41.2.2.1, x41.2.2.2.1, x41.2.2.2.2.1, x41.2.2.2.2.2.1, x41.2.2.2.2.2.2.1, x41.2.2.2.2.2.2.2.1, x41.2.2.2.2.2.2.2.2.1, x41.2.2.2.2.2.2.2.2.2.1, x41.2.2.2.2.2.2.2.2.2.2.1, x41.2.2.2.2.2.2.2.2.2.2.2.1, ()), r34.2.1, ()) w40))))
theorem ref24_Seal.vc (p0_0 p0_1 p0_2 p0_3 p0_4 p0_5 : Int) (a0_6 : Option Addr) (n0_6 c0_6 : Nat) (a0_7 : Option Addr) (n0_7 c0_7 : Nat) (p0_8 : Bool) (p0_9 : Int) (a0_10 : Option Addr) (n0_10 c0_10 : Nat) (a0_11 : Option Addr) (n0_11 c0_11 : Nat) (p1 : Int) (w : World) (K : (Int × Int × Int × Int × Int × Int × SlV × SlV × Bool × Int × SlV × SlV × Unit) × Int × Unit → World → Prop) (h : ref24_Seal.P p0_0 p0_1 p0_2 p0_3 p0_4 p0_5 a0_6 n0_6 c0_6 a0_7 n0_7 c0_7 p0_8 p0_9 a0_10 n0_10 c0_10 a0_11 n0_11 c0_11 p1 w K) : CallV Tryz.prog 41 #[.agg #[.int .i64 p0_0, .int .i64 p0_1, .int .i64 p0_2, .int .i64 p0_3, .int .i64 p0_4, .int .i64 p0_5, .slice a0_6 n0_6 c0_6, .slice a0_7 n0_7 c0_7, .bool p0_8, .int .i64 p0_9, .slice a0_10 n0_10 c0_10, .slice a0_11 n0_11 c0_11], .int .i64 p1] w [.agg [.int .i64, .int .i64, .int .i64, .int .i64, .int .i64, .int .i64, .sl, .sl, .bool, .int .i64, .sl, .sl], .one (.int .i64)] K := by
  refine vcFun.of (A := ref24_Seal.A) (wr := false) okf_ok follows h Tryz.func41 ?_
  kernel_rfl
def ref24_first.A : Ann := .two .no (.two (.draw (.take 0 (.take 1 (.take 2 (.take 3 (.take 4 (.take 5 (.take 6 (.take 7 (.take 8 (.both 9 (.both 10 (.take 11 (.take 12 (.take 13 (.eff 14 (.eff 15 (.take 16 (.done))))))) 14 (.eff 10 (.take 11 (.take 12 (.take 13 (.eff 15 (.take 16 (.done)))))))) 14 (.eff 9 (.eff 10 (.take 11 (.take 12 (.take 13 (.eff 15 (.take 16 (.done))))))))))))))))))) .no)
def ref24_first.P (p0_0 p0_1 p0_2 p0_3 p0_4 p0_5 : Int) (a0_6 : Option Addr) (n0_6 c0_6 : Nat) (a0_7 : Option Addr) (n0_7 c0_7 : Nat) (p0_8 : Bool) (p0_9 : Int) (a0_10 : Option Addr) (n0_10 c0_10 : Nat) (a0_11 : Option Addr) (n0_11 c0_11 : Nat) (p1 p2_0 p2_1 p2_2 p2_3 p2_4 p2_5 : Int) (p3 : Bool) (w : World) (K : (Int × Int × Int × Int × Int × Int × SlV × SlV × Bool × Int × SlV × SlV × Unit) × Int × Unit → World → Prop) : Prop :=
  NewV #[.int .i64 p0_0, .int .i64 p0_1, .int .i64 p0_2, .int .i64 p0_3, .int .i64 p0_4, .int .i64 p0_5, .slice a0_6 n0_6 c0_6, .slice a0_7 n0_7 c0_7, .bool p0_8, .int .i64 p0_9, .slice a0_10 n0_10 c0_10, .slice a0_11 n0_11 c0_11] 38 w fun b1 w2 =>
  NewV #[.int .i64 p2_0, .int .i64 p2_1, .int .i64 p2_2, .int .u32 p2_3, .int .u64 p2_4, .int .u64 p2_5] 46 w2 fun b3 w4 =>
  NewV #[.int .i64 0, .int .i64 0, .int .i64 0, .int .i64 0, .int .i64 0, .int .i64 0, .slice none 0 0, .slice none 0 0, .bool false, .int .i64 0, .slice none 0 0, .slice none 0 0] 38 w4 fun b5 w6 =>
  DrawV fun D7 =>
  (D7 b1 ∧ LoadA w6.drew ⟨b1, 0, none⟩ [.int .i64, .int .i64, .int .i64, .int .i64, .int .i64, .int .i64, .sl, .sl, .bool, .int .i64] fun (x8 : Int × Int × Int × Int × Int × Int × SlV × SlV × Bool × Int × Unit) =>
  Rng .i64 ((4 : Int) + p1) ∧
  (D7 b1 ∧ LoadA w6.drew ⟨b1, 0, none⟩ [.int .i64, .int .i64, .int .i64, .int .i64, .int .i64, .int .i64] fun (x9 : Int × Int × Int × Int × Int × Int × Unit) =>
  (D7 b3 ∧ LoadA w6.drew ⟨b3, 0, none⟩ [.int .i64, .int .i64, .int .i64, .int .u32, .int .u64, .int .u64] fun (x10 : Int × Int × Int × Int × Int × Int × Unit) =>
  ((CallV Tryz.prog 88 #[.agg #[.int .i64 x9.1, .int .i64 x9.2.1, .int .i64 x9.2.2.1, .int .i64 x9.2.2.2.1, .int .i64 x9.2.2.2.2.1, .int .i64 x9.2.2.2.2.2.1], .agg #[.int .i64 x10.1, .int .i64 x10.2.1, .int .i64 x10.2.2.1, .int .u32 x10.2.2.2.1, .int .u64 x10.2.2.2.2.1, .int .u64 x10.2.2.2.2.2.1], .slice none 0 0, .slice none 0 0] w6.drew [.one .sl] fun (r11 : SlV × Unit) w12 =>
  KeepOn D7 w6.drew w12 ∧
  ((CallV Tryz.prog 94 #[.agg #[.int .i64 x8.1, .int .i64 x8.2.1, .int .i64 x8.2.2.1, .int .i64 x8.2.2.2.1, .int .i64 x8.2.2.2.2.1, .int .i64 x8.2.2.2.2.2.1, .slice x8.2.2.2.2.2.2.1.a x8.2.2.2.2.2.2.1.n x8.2.2.2.2.2.2.1.c, .slice x8.2.2.2.2.2.2.2.1.a x8.2.2.2.2.2.2.2.1.n x8.2.2.2.2.2.2.2.1.c, .bool x8.2.2.2.2.2.2.2.2.1, .int .i64 x8.2.2.2.2.2.2.2.2.2.1], .agg #[.int .i64 ((4 : Int) + p1), .int .i64 0], .slice r11.1.a r11.1.n r11.1.c] w12 [.agg [.int .i64, .int .i64, .int .i64, .int .i64, .int .i64, .int .i64, .sl, .sl, .bool, .int .i64], .one (.int .i64)] fun (r13 : (Int × Int × Int × Int × Int × Int × SlV × SlV × Bool × Int × Unit) × Int × Unit) w14 =>
  KeepOn D7 w6.drew w14 ∧
  NewV #[.int .i64 0, .int .i64 0, .int .i64 0, .int .i64 0, .int .i64 0, .int .i64 0, .slice none 0 0, .slice none 0 0, .bool false, .int .i64 0] 34 w14 fun b15 w16 =>
  KeepOn D7 w6.drew w16 ∧
  StoreV w16 ⟨b15, 0, none⟩ [.int .i64 r13.1.1, .int .i64 r13.1.2.1, .int .i64 r13.1.2.2.1, .int .i64 r13.1.2.2.2.1, .int .i64 r13.1.2.2.2.2.1, .int .i64 r13.1.2.2.2.2.2.1, .slice r13.1.2.2.2.2.2.2.1.a r13.1.2.2.2.2.2.2.1.n r13.1.2.2.2.2.2.2.1.c, .slice r13.1.2.2.2.2.2.2.2.1.a r13.1.2.2.2.2.2.2.2.1.n r13.1.2.2.2.2.2.2.2.1.c, .bool r13.1.2.2.2.2.2.2.2.2.1, .int .i64 r13.1.2.2.2.2.2.2.2.2.2.1] fun w17 =>
  KeepOn D7 w6.drew w17 ∧
  LoadA w17 ⟨b15, 0, none⟩ [.int .i64, .int .i64, .int .i64, .int .i64, .int .i64, .int .i64, .sl, .sl, .bool, .int .i64] fun (x18 : Int × Int × Int × Int × Int × Int × SlV × SlV × Bool × Int × Unit) =>
  StoreV w17 ⟨b1, 0, none⟩ [.int .i64 x18.1, .int .i64 x18.2.1, .int .i64 x18.2.2.1, .int .i64 x18.2.2.2.1, .int .i64 x18.2.2.2.2.1, .int .i64 x18.2.2.2.2.2.1, .slice x18.2.2.2.2.2.2.1.a x18.2.2.2.2.2.2.1.n x18.2.2.2.2.2.2.1.c, .slice x18.2.2.2.2.2.2.2.1.a x18.2.2.2.2.2.2.2.1.n x18.2.2.2.2.2.2.2.1.c, .bool x18.2.2.2.2.2.2.2.2.1, .int .i64 x18.2.2.2.2.2.2.2.2.2.1] fun w19 =>
  cond (r13.2.1 != 0)
  (LoadA w19 ⟨b1, 0, none⟩ [.int .i64, .int .i64, .int .i64, .int .i64, .int .i64, .int .i64, .sl, .sl, .bool, .int .i64, .sl, .sl] fun (x20 : Int × Int × Int × Int × Int × Int × SlV × SlV × Bool × Int × SlV × SlV × Unit) =>
  StoreV w19 ⟨b5, 0, none⟩ [.int .i64 x20.1, .int .i64 x20.2.1, .int .i64 x20.2.2.1, .int .i64 x20.2.2.2.1, .int .i64 x20.2.2.2.2.1, .int .i64 x20.2.2.2.2.2.1, .slice x20.2.2.2.2.2.2.1.a x20.2.2.2.2.2.2.1.n x20.2.2.2.2.2.2.1.c, .slice x20.2.2.2.2.2.2.2.1.a x20.2.2.2.2.2.2.2.1.n x20.2.2.2.2.2.2.2.1.c, .bool x20.2.2.2.2.2.2.2.2.1, .int .i64 x20.2.2.2.2.2.2.2.2.2.1, .slice x20.2.2.2.2.2.2.2.2.2.2.1.a x20.2.2.2.2.2.2.2.2.2.2.1.n x20.2.2.2.2.2.2.2.2.2.2.1.c, .slice x20.2.2.2.2.2.2.2.2.2.2.2.1.a x20.2.2.2.2.2.2.2.2.2.2.2.1.n x20.2.2.2.2.2.2.2.2.2.2.2.1.c] fun w21 =>
  LoadA w21 ⟨b5, 0, none⟩ [.int .i64, .int .i64, .int .i64, .int .i64, .int .i64, .int .i64, .sl, .sl, .bool, .int .i64, .sl, .sl] fun (x22 : Int × Int × Int × Int × Int × Int × SlV × SlV × Bool × Int × SlV × SlV × Unit) =>
  K ((x22.1, x22.2.1, x22.2.2.1, x22.2.2.2.1, x22.2.2.2.2.1, x22.2.2.2.2.2.1, x22.2.2.2.2.2.2.1, x22.2.2.2.2.2.2.2.1, x22.2.2.2.2.2.2.2.2.1, x22.2.2.2.2.2.2.2.2.2.1, x22.2.2.2.2.2.2.2.2.2.2.1, x22.2.2.2.2.2.2.2.2.2.2.2.1, ()), r13.2.1, ()) w21)
  (cond (!p3)
  (LoadA w19 ⟨b1, 0, none⟩ [.int .i64, .int .i64, .int .i64, .int .i64, .int .i64, .int .i64, .sl, .sl, .bool, .int .i64, .sl, .sl] fun (x23 : Int × Int × Int × Int × Int × Int × SlV × SlV × Bool × Int × SlV × SlV × Unit) =>
  StoreV w19 ⟨b5, 0, none⟩ [.int .i64 x23.1, .int .i64 x23.2.1, .int .i64 x23.2.2.1, .int .i64 x23.2.2.2.1, .int .i64 x23.2.2.2.2.1, .int .i64 x23.2.2.2.2.2.1, .slice x23.2.2.2.2.2.2.1.a x23.2.2.2.2.2.2.1.n x23.2.2.2.2.2.2.1.c, .slice x23.2.2.2.2.2.2.2.1.a x23.2.2.2.2.2.2.2.1.n x23.2.2.2.2.2.2.2.1.c, .bool x23.2.2.2.2.2.2.2.2.1, .int .i64 x23.2.2.2.2.2.2.2.2.2.1, .slice x23.2.2.2.2.2.2.2.2.2.2.1.a x23.2.2.2.2.2.2.2.2.2.2.1.n x23.2.2.2.2.2.2.2.2.2.2.1.c, .slice x23.2.2.2.2.2.2.2.2.2.2.2.1.a x23.2.2.2.2.2.2.2.2.2.2.2.1.n x23.2.2.2.2.2.2.2.2.2.2.2.1.c] fun w24 =>
  LoadA w24 ⟨b5, 0, none⟩ [.int .i64, .int .i64, .int .i64, .int .i64, .int .i64, .int .i64, .sl, .sl, .bool, .int .i64, .sl, .sl] fun (x25 : Int × Int × Int × Int × Int × Int × SlV × SlV × Bool × Int × SlV × SlV × Unit) =>
  K ((x25.1, x25.2.1, x25.2.2.1, x25.2.2.2.1, x25.2.2.2.2.1, x25.2.2.2.2.2.1, x25.2.2.2.2.2.2.1, x25.2.2.2.2.2.2.2.1, x25.2.2.2.2.2.2.2.2.1, x25.2.2.2.2.2.2.2.2.2.1, x25.2.2.2.2.2.2.2.2.2.2.1, x25.2.2.2.2.2.2.2.2.2.2.2.1, ()), r13.2.1, ()) w24)
  (LoadA w19 ⟨b1, 0, none⟩ [.int .i64, .int .i64, .int .i64, .int .i64, .int .i64, .int .i64, .sl, .sl, .bool, .int .i64, .sl, .sl] fun (x26 : Int × Int × Int × Int × Int × Int × SlV × SlV × Bool × Int × SlV × SlV × Unit) =>
  CallV Tryz.prog 41 #[.agg #[.int .i64 x26.1, .int .i64 x26.2.1, .int .i64 x26.2.2.1, .int .i64 x26.2.2.2.1, .int .i64 x26.2.2.2.2.1, .int .i64 x26.2.2.2.2.2.1, .slice x26.2.2.2.2.2.2.1.a x26.2.2.2.2.2.2.1.n x26.2.2.2.2.2.2.1.c, .slice x26.2.2.2.2.2.2.2.1.a x26.2.2.2.2.2.2.2.1.n x26.2.2.2.2.2.2.2.1.c, .bool x26.2.2.2.2.2.2.2.2.1, .int .i64 x26.2.2.2.2.2.2.2.2.2.1, .slice x26.2.2.2.2.2.2.2.2.2.2.1.a x26.2.2.2.2.2.2.2.2.2.2.1.n x26.2.2.2.2.2.2.2.2.2.2.1.c, .slice x26.2.2.2.2.2.2.2.2.2.2.2.1.a x26.2.2.2.2.2.2.2.2.2.2.2.1.n x26.2.2.2.2.2.2.2.2.2.2.2.1.c], .int .i64 p1] w19 [.agg [.int .i64, .int .i64, .int .i64, .int .i64, .int .i64, .int .i64, .sl, .sl, .bool, .int .i64, .sl, .sl], .one (.int .i64)] fun (r27 : (Int × Int × Int × Int × Int × Int × SlV × SlV × Bool × Int × SlV × SlV × Unit) × Int × Unit) w28 =>
  StoreV w28 ⟨b5, 0, none⟩ [.int .i64 r27.1.1, .int .i64 r27.1.2.1, .int .i64 r27.1.2.2.1, .int .i64 r27.1.2.2.2.1, .int .i64 r27.1.2.2.2.2.1, .int .i64 r27.1.2.2.2.2.2.1, .slice r27.1.2.2.2.2.2.2.1.a r27.1.2.2.2.2.2.2.1.n r27.1.2.2.2.2.2.2.1.c, .slice r27.1.2.2.2.2.2.2.2.1.a r27.1.2.2.2.2.2.2.2.1.n r27.1.2.2.2.2.2.2.2.1.c, .bool r27.1.2.2.2.2.2.2.2.2.1, .int .i64 r27.1.2.2.2.2.2.2.2.2.2.1, .slice r27.1.2.2.2.2.2.2.2.2.2.2.1.a r27.1.2.2.2.2.2.2.2.2.2.2.1.n r27.1.2.2.2.2.2.2.2.2.2.2.1.c, .slice r27.1.2.2.2.2.2.2.2.2.2.2.2.1.a r27.1.2.2.2.2.2.2.2.2.2.2.2.1.n r27.1.2.2.2.2.2.2.2.2.2.2.2.1.c] fun w29 =>
  LoadA w29 ⟨b5, 0, none⟩ [.int .i64, .int .i64, .int .i64, .int .i64, .int .i64, .int .i64, .sl, .sl, .bool, .int .i64, .sl, .sl] fun (x30 : Int × Int × Int × Int × Int × Int × SlV × SlV × Bool × Int × SlV × SlV × Unit) =>
  K ((x30.1, x30.2.1, x30.2.2.1, x30.2.2.2.1, x30.2.2.2.2.1, x30.2.2.2.2.2.1, x30.2.2.2.2.2.2.1, x30.2.2.2.2.2.2.2.1, x30.2.2.2.2.2.2.2.2.1, x30.2.2.2.2.2.2.2.2.2.1, x30.2.2.2.2.2.2.2.2.2.2.1, x30.2.2.2.2.2.2.2.2.2.2.2.1, ()), r27.2.1, ()) w29))) ∧
  (NewV #[.int .i64 0, .int .i64 0, .int .i64 0, .int .i64 0, .int .i64 0, .int .i64 0, .slice none 0 0, .slice none 0 0, .bool false, .int .i64 0] 34 w12 fun b31 w32 =>
  KeepOn D7 w6.drew w32 ∧
  CallV Tryz.prog 94 #[.agg #[.int .i64 x8.1, .int .i64 x8.2.1, .int .i64 x8.2.2.1, .int .i64 x8.2.2.2.1, .int .i64 x8.2.2.2.2.1, .int .i64 x8.2.2.2.2.2.1, .slice x8.2.2.2.2.2.2.1.a x8.2.2.2.2.2.2.1.n x8.2.2.2.2.2.2.1.c, .slice x8.2.2.2.2.2.2.2.1.a x8.2.2.2.2.2.2.2.1.n x8.2.2.2.2.2.2.2.1.c, .bool x8.2.2.2.2.2.2.2.2.1, .int .i64 x8.2.2.2.2.2.2.2.2.2.1], .agg #[.int .i64 ((4 : Int) + p1), .int .i64 0], .slice r11.1.a r11.1.n r11.1.c] w32 [.agg [.int .i64, .int .i64, .int .i64, .int .i64, .int .i64, .int .i64, .sl, .sl, .bool, .int .i64], .one (.int .i64)] fun (r33 : (Int × Int × Int × Int × Int × Int × SlV × SlV × Bool × Int × Unit) × Int × Unit) w34 =>
  KeepOn D7 w6.drew w34 ∧
  StoreV w34 ⟨b31, 0, none⟩ [.int .i64 r33.1.1, .int .i64 r33.1.2.1, .int .i64 r33.1.2.2.1, .int .i64 r33.1.2.2.2.1, .int .i64 r33.1.2.2.2.2.1, .int .i64 r33.1.2.2.2.2.2.1, .slice r33.1.2.2.2.2.2.2.1.a r33.1.2.2.2.2.2.2.1.n r33.1.2.2.2.2.2.2.1.c, .slice r33.1.2.2.2.2.2.2.2.1.a r33.1.2.2.2.2.2.2.2.1.n r33.1.2.2.2.2.2.2.2.1.c, .bool r33.1.2.2.2.2.2.2.2.2.1, .int .i64 r33.1.2.2.2.2.2.2.2.2.2.1] fun w35 =>
  KeepOn D7 w6.drew w35 ∧
  LoadA w35 ⟨b31, 0, none⟩ [.int .i64, .int .i64, .int .i64, .int .i64, .int .i64, .int .i64, .sl, .sl, .bool, .int .i64] fun (x36 : Int × Int × Int × Int × Int × Int × SlV × SlV × Bool × Int × Unit) =>
  StoreV w35 ⟨b1, 0, none⟩ [.int .i64 x36.1, .int .i64 x36.2.1, .int .i64 x36.2.2.1, .int .i64 x36.2.2.2.1, .int .i64 x36.2.2.2.2.1, .int .i64 x36.2.2.2.2.2.1, .slice x36.2.2.2.2.2.2.1.a x36.2.2.2.2.2.2.1.n x36.2.2.2.2.2.2.1.c, .slice x36.2.2.2.2.2.2.2.1.a x36.2.2.2.2.2.2.2.1.n x36.2.2.2.2.2.2.2.1.c, .bool x36.2.2.2.2.2.2.2.2.1, .int .i64 x36.2.2.2.2.2.2.2.2.2.1] fun w37 =>
  cond (r33.2.1 != 0)
  (LoadA w37 ⟨b1, 0, none⟩ [.int .i64, .int .i64, .int .i64, .int .i64, .int .i64, .int .i64, .sl, .sl, .bool, .int .i64, .sl, .sl] fun (x38 : Int × Int × Int × Int × Int × Int × SlV × SlV × Bool × Int × SlV × SlV × Unit) =>
  StoreV w37 ⟨b5, 0, none⟩ [.int .i64 x38.1, .int .i64 x38.2.1, .int .i64 x38.2.2.1, .int .i64 x38.2.2.2.1, .int .i64 x38.2.2.2.2.1, .int .i64 x38.2.2.2.2.2.1, .slice x38.2.2.2.2.2.2.1.a x38.2.2.2.2.2.2.1.n x38.2.2.2.2.2.2.1.c, .slice x38.2.2.2.2.2.2.2.1.a x38.2.2.2.2.2.2.2.1.n x38.2.2.2.2.2.2.2.1.c, .bool x38.2.2.2.2.2.2.2.2.1, .int .i64 x38.2.2.2.2.2.2.2.2.2.1, .slice x38.2.2.2.2.2.2.2.2.2.2.1.a x38.2.2.2.2.2.2.2.2.2.2.1.n x38.2.2.2.2.2.2.2.2.2.2.1.c, .slice x38.2.2.2.2.2.2.2.2.2.2.2.1.a x38.2.2.2.2.2.2.2.2.2.2.2.1.n x38.2.2.2.2.2.2.2.2.2.2.2.1.c] fun w39 =>
  LoadA w39 ⟨b5, 0, none⟩ [.int .i64, .int .i64, .int .i64, .int .i64, .int .i64, .int .i64, .sl, .sl, .bool, .int .i64, .sl, .sl] fun (x40 : Int × Int × Int × Int × Int × Int × SlV × SlV × Bool × Int × SlV × SlV × Unit) =>
  K ((x40.1, x40.2.1, x40.2.2.1, x40.2.2.2.1, x40.2.2.2.2.1, x40.2.2.2.2.2.1, x40.2.2.2.2.2.2.1, x40.2.2.2.2.2.2.2.1, x40.2.2.2.2.2.2.2.2.1, x40.2.2.2.2.2.2.2.2.2.1, x40.2.2.2.2.2.2.2.2.2.2.1, x40.2.2.2.2.2.2.2.2.2.2.2.1, ()), r33.2.1, ()) w39)
  (cond (!p3)
  (LoadA w37 ⟨b1, 0, none⟩ [.int .i64, .int .i64, .int .i64, .int .i64, .int .i64, .int .i64, .sl, .sl, .bool, .int .i64, .sl, .sl] fun (x41 : Int × Int × Int × Int × Int × Int × SlV × SlV × Bool × Int × SlV × SlV × Unit) =>
  StoreV w37 ⟨b5, 0, none⟩ [.int .i64 x41.1, .int .i64 x41.2.1, .int .i64 x41.2.2.1, .int .i64 x41.2.2.2.1, .int .i64 x41.2.2.2.2.1, .int .i64 x41.2.2.2.2.2.1, .slice x41.2.2.2.2.2.2.1.a x41.2.2.2.2.2.2.1.n x41.2.2.2.2.2.2.1.c, .slice x41.2.2.2.2.2.2.2.1.a x41.2.2.2.2.2.2.2.1.n x41.2.2.2.2.2.2.2.1.c, .bool x41.2.2.2.2.2.2.2.2.1, .int .i64 x41.2.2.2.2.2.2.2.2.2.1, .slice x41.2.2.2.2.2.2.2.2.2.2.1.a x41.2.2.2.2.2.2.2.2.2.2.1.n x41.2.2.2.2.2.2.2.2.2.2.1.c, .slice x41.2.2.2.2.2.2.2.2.2.2.2.1.a x41.2.2.2.2.2.2.2.2.2.2.2.1.n x41.2.2.2.2.2.2.2.2.2.2.2.1.c] fun w42 =>
  LoadA w42 ⟨b5, 0, none⟩ [.int .i64, .int .i64, .int .i64, .int .i64, .int .i64, .int .i64, .sl, .sl, .bool, .int .i64, .sl, .sl] fun (x43 : Int × Int × Int × Int × Int × Int × SlV × SlV × Bool × Int × SlV × SlV × Unit) =>
  K ((x43.1, x43.2.1, x43.2.2.1, x43.2.2.2.1, x43.2.2.2.2.1, x43.2.2.2.2.2.1, x43.2.2.2.2.2.2.1, x43.2.2.2.2.2.2.2.1, x43.2.2.2.2.2.2.2.2.1, x43.2.2.2.2.2.2.2.2.2.1, x43.2.2.2.2.2.2.2.2.2.2.1, x43.2.2.2.2.2.2.2.2.2.2.2.1, ()), r33.2.1, ()) w42)
  (LoadA w37 ⟨b1, 0, none⟩ [.int .i64, .int .i64, .int .i64, .int .i64, .int .i64, .int .i64, .sl, .sl, .bool, .int .i64, .sl, .sl] fun (x44 : Int × Int × Int × Int × Int × Int × SlV × SlV × Bool × Int × SlV × SlV × Unit) =>
  CallV Tryz.prog 41 #[.agg #[.int .i64 x44.1, .int .i64 x44.2.1, .int .i64 x44.2.2.1, .int .i64 x44.2.2.2.1, .int .i64 x44.2.2.2.2.1, .int .i64 x44.2.2.2.2.2.1, .slice x44.2.2.2.2.2.2.1.a x44.2.2.2.2.2.2.1.n x44.2.2.2.2.2.2.1.c, .slice x44.2.2.2.2.2.2.2.1.a x44.2.2.2.2.2.2.2.1.n x44.2.2.2.2.2.2.2.1.c, .bool x44.2.2.2.2.2.2.2.2.1, .int .i64 x44.2.2.2.2.2.2.2.2.2.1, .slice x44.2.2.2.2.2.2.2.2.2.2.1.a x44.2.2.2.2.2.2.2.2.2.2.1.n x44.2.2.2.2.2.2.2.2.2.2.1.c, .slice x44.2.2.2.2.2.2.2.2.2.2.2.1.a x44.2.2.2.2.2.2.2.2.2.2.2.1.n x44.2.2.2.2.2.2.2.2.2.2.2.1.c], .int .i64 p1] w37 [.agg [.int .i64, .int .i64, .int .i64, .int .i64, .int .i64, .int .i64, .sl, .sl, .bool, .int .i64, .sl, .sl], .one (.int .i64)] fun (r45 : (Int × Int × Int × Int × Int × Int × SlV × SlV × Bool × Int × SlV × SlV × Unit) × Int × Unit) w46 =>
  StoreV w46 ⟨b5, 0, none⟩ [.int .i64 r45.1.1, .int .i64 r45.1.2.1, .int .i64 r45.1.2.2.1, .int .i64 r45.1.2.2.2.1, .int .i64 r45.1.2.2.2.2.1, .int .i64 r45.1.2.2.2.2.2.1, .slice r45.1.2.2.2.2.2.2.1.a r45.1.2.2.2.2.2.2.1.n r45.1.2.2.2.2.2.2.1.c, .slice r45.1.2.2.2.2.2.2.2.1.a r45.1.2.2.2.2.2.2.2.1.n r45.1.2.2.2.2.2.2.2.1.c, .bool r45.1.2.2.2.2.2.2.2.2.1, .int .i64 r45.1.2.2.2.2.2.2.2.2.2.1, .slice r45.1.2.2.2.2.2.2.2.2.2.2.1.a r45.1.2.2.2.2.2.2.2.2.2.2.1.n r45.1.2.2.2.2.2.2.2.2.2.2.1.c, .slice r45.1.2.2.2.2.2.2.2.2.2.2.2.1.a r45.1.2.2.2.2.2.2.2.2.2.2.2.1.n r45.1.2.2.2.2.2.2.2.2.2.2.2.1.c] fun w47 =>
  LoadA w47 ⟨b5, 0, none⟩ [.int .i64, .int .i64, .int .i64, .int .i64, .int .i64, .int .i64, .sl, .sl, .bool, .int .i64, .sl, .sl] fun (x48 : Int × Int × Int × Int × Int × Int × SlV × SlV × Bool × Int × SlV × SlV × Unit) =>
  K ((x48.1, x48.2.1, x48.2.2.1, x48.2.2.2.1, x48.2.2.2.2.1, x48.2.2.2.2.2.1, x48.2.2.2.2.2.2.1, x48.2.2.2.2.2.2.2.1, x48.2.2.2.2.2.2.2.2.1, x48.2.2.2.2.2.2.2.2.2.1, x48.2.2.2.2.2.2.2.2.2.2.1, x48.2.2.2.2.2.2.2.2.2.2.2.1, ()), r45.2.1, ()) w47))))) ∧
  (NewV #[.int .i64 0, .int .i64 0, .int .i64 0, .int .i64 0, .int .i64 0, .int .i64 0, .slice none 0 0, .slice none 0 0, .bool false, .int .i64 0] 34 w6.drew fun b49 w50 =>
  KeepOn D7 w6.drew w50 ∧
  CallV Tryz.prog 88 #[.agg #[.int .i64 x9.1, .int .i64 x9.2.1, .int .i64 x9.2.2.1, .int .i64 x9.2.2.2.1, .int .i64 x9.2.2.2.2.1, .int .i64 x9.2.2.2.2.2.1], .agg #[.int .i64 x10.1, .int .i64 x10.2.1, .int .i64 x10.2.2.1, .int .u32 x10.2.2.2.1, .int .u64 x10.2.2.2.2.1, .int .u64 x10.2.2.2.2.2.1], .slice none 0 0, .slice none 0 0] w50 [.one .sl] fun (r51 : SlV × Unit) w52 =>
  KeepOn D7 w6.drew w52 ∧
  CallV Tryz.prog 94 #[.agg #[.int .i64 x8.1, .int .i64 x8.2.1, .int .i64 x8.2.2.1, .int .i64 x8.2.2.2.1, .int .i64 x8.2.2.2.2.1, .int .i64 x8.2.2.2.2.2.1, .slice x8.2.2.2.2.2.2.1.a x8.2.2.2.2.2.2.1.n x8.2.2.2.2.2.2.1.c, .slice x8.2.2.2.2.2.2.2.1.a x8.2.2.2.2.2.2.2.1.n x8.2.2.2.2.2.2.2.1.c, .bool x8.2.2.2.2.2.2.2.2.1, .int .i64 x8.2.2.2.2.2.2.2.2.2.1], .agg #[.int .i64 ((4 : Int) + p1), .int .i64 0], .slice r51.1.a r51.1.n r51.1.c] w52 [.agg [.int .i64, .int .i64, .int .i64, .int .i64, .int .i64, .int .i64, .sl, .sl, .bool, .int .i64], .one (.int .i64)] fun (r53 : (Int × Int × Int × Int × Int × Int × SlV × SlV × Bool × Int × Unit) × Int × Unit) w54 =>
  KeepOn D7 w6.drew w54 ∧
  StoreV w54 ⟨b49, 0, none⟩ [.int .i64 r53.1.1, .int .i64 r53.1.2.1, .int .i64 r53.1.2.2.1, .int .i64 r53.1.2.2.2.1, .int .i64 r53.1.2.2.2.2.1, .int .i64 r53.1.2.2.2.2.2.1, .slice r53.1.2.2.2.2.2.2.1.a r53.1.2.2.2.2.2.2.1.n r53.1.2.2.2.2.2.2.1.c, .slice r53.1.2.2.2.2.2.2.2.1.a r53.1.2.2.2.2.2.2.2.1.n r53.1.2.2.2.2.2.2.2.1.c, .bool r53.1.2.2.2.2.2.2.2.2.1, .int .i64 r53.1.2.2.2.2.2.2.2.2.2.1] fun w55 =>
  KeepOn D7 w6.drew w55 ∧
  LoadA w55 ⟨b49, 0, none⟩ [.int .i64, .int .i64, .int .i64, .int .i64, .int .i64, .int .i64, .sl, .sl, .bool, .int .i64] fun (x56 : Int × Int × Int × Int × Int × Int × SlV × SlV × Bool × Int × Unit) =>
  StoreV w55 ⟨b1, 0, none⟩ [.int .i64 x56.1, .int .i64 x56.2.1, .int .i64 x56.2.2.1, .int .i64 x56.2.2.2.1, .int .i64 x56.2.2.2.2.1, .int .i64 x56.2.2.2.2.2.1, .slice x56.2.2.2.2.2.2.1.a x56.2.2.2.2.2.2.1.n x56.2.2.2.2.2.2.1.c, .slice x56.2.2.2.2.2.2.2.1.a x56.2.2.2.2.2.2.2.1.n x56.2.2.2.2.2.2.2.1.c, .bool x56.2.2.2.2.2.2.2.2.1, .int .i64 x56.2.2.2.2.2.2.2.2.2.1] fun w57 =>
  cond (r53.2.1 != 0)
  (LoadA w57 ⟨b1, 0, none⟩ [.int .i64, .int .i64, .int .i64, .int .i64, .int .i64, .int .i64, .sl, .sl, .bool, .int .i64, .sl, .sl] fun (x58 : Int × Int × Int × Int × Int × Int × SlV × SlV × Bool × Int × SlV × SlV × Unit) =>
  StoreV w57 ⟨b5, 0, none⟩ [.int .i64 x58.1, .int .i64 x58.2.1, .int .i64 x58.2.2.1, .int .i64 x58.2.2.2.1, .int .i64 x58.2.2.2.2.1, .int .i64 x58.2.2.2.2.2.1, .slice x58.2.2.2.2.2.2.1.a x58.2.2.2.2.2.2.1.n x58.2.2.2.2.2.2.1.c, .slice x58.2.2.2.2.2.2.2.1.a x58.2.2.2.2.2.2.2.1.n x58.2.2.2.2.2.2.2.1.c, .bool x58.2.2.2.2.2.2.2.2.1, .int .i64 x58.2.2.2.2.2.2.2.2.2.1, .slice x58.2.2.2.2.2.2.2.2.2.2.1.a x58.2.2.2.2.2.2.2.2.2.2.1.n x58.2.2.2.2.2.2.2.2.2.2.1.c, .slice x58.2.2.2.2.2.2.2.2.2.2.2.1.a x58.2.2.2.2.2.2.2.2.2.2.2.1.n x58.2.2.2.2.2.2.2.2.2.2.2.1.c] fun w59 =>
  LoadA w59 ⟨b5, 0, none⟩ [.int .i64, .int .i64, .int .i64, .int .i64, .int .i64, .int .i64, .sl, .sl, .bool, .int .i64, .sl, .sl] fun (x60 : Int × Int × Int × Int × Int × Int × SlV × SlV × Bool × Int × SlV × SlV × Unit) =>
  K ((x60.1, x60.2.1, x60.2.2.1, x60.2.2.2.1, x60.2.2.2.2.1, x60.2.2.2.2.2.1, x60.2.2.2.2.2.2.1, x60.2.2.2.2.2.2.2.1, x60.2.2.2.2.2.2.2.2.1, x60.2.2.2.2.2.2.2.2.2.1, x60.2.2.2.2.2.2.2.2.2.2.1, x60.2.2.2.2.2.2.2.2.2.2.2.1, ()), r53.2.1, ()) w59)
  (cond (!p3)
  (LoadA w57 ⟨b1, 0, none⟩ [.int .i64, .int .i64, .int .i64, .int .i64, .int .i64, .int .i64, .sl, .sl, .bool, .int .i64, .sl, .sl] fun (x61 : Int × Int × Int × Int × Int × Int × SlV × SlV × Bool × Int × SlV × SlV × Unit) =>
  StoreV w57 ⟨b5, 0, none⟩ [.int .i64 x61.1, .int .i64 x61.2.1, .int .i64 x61.2.2.1, .int .i64 x61.2.2.2.1, .int .i64 x61.2.2.2.2.1, .int .i64 x61.2.2.2.2.2.1, .slice x61.2.2.2.2.2.2.1.a x61.2.2.2.2.2.2.1.n x61.2.2.2.2.2.2.1.c, .slice x61.2.2.2.2.2.2.2.1.a x61.2.2.2.2.2.2.2.1.n x61.2.2.2.2.2.2.2.1.c, .bool x61.2.2.2.2.2.2.2.2.1, .int .i64 x61.2.2.2.2.2.2.2.2.2.1, .slice x61.2.2.2.2.2.2.2.2.2.2.1.a x61.2.2.2.2.2.2.2.2.2.2.1.n x61.2.2.2.2.2.2.2.2.2.2.1.c, .slice x61.2.2.2.2.2.2.2.2.2.2.2.1.a x61.2.2.2.2.2.2.2.2.2.2.2.1.n x61.2.2.2.2.2.2.2.2.2.2.2.1.c] fun w62 =>
  LoadA w62 ⟨b5, 0, none⟩ [.int .i64, .int .i64, .int .i64, .int .i64, .int .i64, .int .i64, .sl, .sl, .bool, .int .i64, .sl, .sl] fun (x63 : Int × Int × Int × Int × Int × Int × SlV × SlV × Bool × Int × SlV × SlV × Unit) =>
  K ((x63.1, x63.2.1, x63.2.2.1, x63.2.2.2.1, x63.2.2.2.2.1, x63.2.2.2.2.2.1, x63.2.2.2.2.2.2.1, x63.2.2.2.2.2.2.2.1, x63.2.2.2.2.2.2.2.2.1, x63.2.2.2.2.2.2.2.2.2.1, x63.2.2.2.2.2.2.2.2.2.2.1, x63.2.2.2.2.2.2.2.2.2.2.2.1, ()), r53.2.1, ()) w62)
  (LoadA w57 ⟨b1, 0, none⟩ [.int .i64, .int .i64, .int .i64, .int .i64, .int .i64, .int .i64, .sl, .sl, .bool, .int .i64, .sl, .sl] fun (x64 : Int × Int × Int × Int × Int × Int × SlV × SlV × Bool × Int × SlV × SlV × Unit) =>
  CallV Tryz.prog 41 #[.agg #[.int .i64 x64.1, .int .i64 x64.2.1, .int .i64 x64.2.2.1, .int .i64 x64.2.2.2.1, .int .i64 x64.2.2.2.2.1, .int .i64 x64.2.2.2.2.2.1, .slice x64.2.2.2.2.2.2.1.a x64.2.2.2.2.2.2.1.n x64.2.2.2.2.2.2.1.c, .slice x64.2.2.2.2.2.2.2.1.a x64.2.2.2.2.2.2.2.1.n x64.2.2.2.2.2.2.2.1.c, .bool x64.2.2.2.2.2.2.2.2.1, .int .i64 x64.2.2.2.2.2.2.2.2.2.1, .slice x64.2.2.2.2.2.2.2.2.2.2.1.a x64.2.2.2.2.2.2.2.2.2.2.1.n x64.2.2.2.2.2.2.2.2.2.2.1.c, .slice x64.2.2.2.2.2.2.2.2.2.2.2.1.a x64.2.2.2.2.2.2.2.2.2.2.2.1.n x64.2.2.2.2.2.2.2.2.2.2.2.1.c], .int .i64 p1] w57 [.agg [.int .i64, .int .i64, .int .i64, .int .i64, .int .i64, .int .i64, .sl, .sl, .bool, .int .i64, .sl, .sl], .one (.int .i64)] fun (r65 : (Int × Int × Int × Int × Int × Int × SlV × SlV × Bool × Int × SlV × SlV × Unit) × Int × Unit) w66 =>
  StoreV w66 ⟨b5, 0, none⟩ [.int .i64 r65.1.1, .int .i64 r65.1.2.1, .int .i64 r65.1.2.2.1, .int .i64 r65.1.2.2.2.1, .int .i64 r65.1.2.2.2.2.1, .int .i64 r65.1.2.2.2.2.2.1, .slice r65.1.2.2.2.2.2.2.1.a r65.1.2.2.2.2.2.2.1.n r65.1.2.2.2.2.2.2.1.c, .slice r65.1.2.2.2.2.2.2.2.1.a r65.1.2.2.2.2.2.2.2.1.n r65.1.2.2.2.2.2.2.2.1.c, .bool r65.1.2.2.2.2.2.2.2.2.1, .int .i64 r65.1.2.2.2.2.2.2.2.2.2.1, .slice r65.1.2.2.2.2.2.2.2.2.2.2.1.a r65.1.2.2.2.2.2.2.2.2.2.2.1.n r65.1.2.2.2.2.2.2.2.2.2.2.1.c, .slice r65.1.2.2.2.2.2.2.2.2.2.2.2.1.a r65.1.2.2.2.2.2.2.2.2.2.2.2.1.n r65.1.2.2.2.2.2.2.2.2.2.2.2.1.c] fun w67 =>
  LoadA w67 ⟨b5, 0, none⟩ [.int .i64, .int .i64, .int .i64, .int .i64, .int .i64, .int .i64, .sl, .sl, .bool, .int .i64, .sl, .sl] fun (x68 : Int × Int × Int × Int × Int × Int × SlV × SlV × Bool × Int × SlV × SlV × Unit) =>
  K ((x68.1, x68.2.1, x68.2.2.1, x68.2.2.2.1, x68.2.2.2.2.1, x68.2.2.2.2.2.1, x68.2.2.2.2.2.2.1, x68.2.2.2.2.2.2.2.1, x68.2.2.2.2.2.2.2.2.1, x68.2.2.2.2.2.2.2.2.2.1, x68.2.2.2.2.2.2.2.2.2.2.1, x68.2.2.2.2.2.2.2.2.2.2.2.1, ()), r65.2.1, ()) w67)))))))
theorem ref24_first.vc (p0_0 p0_1 p0_2 p0_3 p0_4 p0_5 : Int) (a0_6 : Option Addr) (n0_6 c0_6 : Nat) (a0_7 : Option Addr) (n0_7 c0_7 : Nat) (p0_8 : Bool) (p0_9 : Int) (a0_10 : Option Addr) (n0_10 c0_10 : Nat) (a0_11 : Option Addr) (n0_11 c0_11 : Nat) (p1 p2_0 p2_1 p2_2 p2_3 p2_4 p2_5 : Int) (p3 : Bool) (w : World) (K : (Int × Int × Int × Int × Int × Int × SlV × SlV × Bool × Int × SlV × SlV × Unit) × Int × Unit → World → Prop) (h : ref24_first.P p0_0 p0_1 p0_2 p0_3 p0_4 p0_5 a0_6 n0_6 c0_6 a0_7 n0_7 c0_7 p0_8 p0_9 a0_10 n0_10 c0_10 a0_11 n0_11 c0_11 p1 p2_0 p2_1 p2_2 p2_3 p2_4 p2_5 p3 w K) : CallV Tryz.prog 138 #[.agg #[.int .i64 p0_0, .int .i64 p0_1, .int .i64 p0_2, .int .i64 p0_3, .int .i64 p0_4, .int .i64 p0_5, .slice a0_6 n0_6 c0_6, .slice a0_7 n0_7 c0_7, .bool p0_8, .int .i64 p0_9, .slice a0_10 n0_10 c0_10, .slice a0_11 n0_11 c0_11], .int .i64 p1, .agg #[.int .i64 p2_0, .int .i64 p2_1, .int .i64 p2_2, .int .u32 p2_3, .int .u64 p2_4, .int .u64 p2_5], .bool p3] w [.agg [.int .i64, .int .i64, .int .i64, .int .i64, .int .i64, .int .i64, .sl, .sl, .bool, .int .i64, .sl, .sl], .one (.int .i64)] K := by
  refine vcFun.of (A := ref24_first.A) (wr := false) okf_ok follows h Tryz.func138 ?_
  kernel_rfl
def ref24_Open.A : Ann := .two .no (.two (.two .no (.one (.loop [9, 10, 11, 12, 13, 14, 15, 16, 17, 18, 19, 20, 21, 22, 23, 24, 25, 26, 27, 28, 29, 30, 31, 32, 33, 34, 35, 36, 37, 38, 39, 40, 41, 42, 43, 44, 45, 46, 47, 48, 49, 50, 51, 52, 53, 54, 55, 56, 57, 58, 59, 60, 61, 62, 63, 64, 65, 66, 67, 68, 69, 70, 71, 72, 73, 74, 75, 76, 77, 78, 79, 80, 81, 82, 83, 84, 85, 86, 87, 88, 89, 90, 91, 92, 93, 94, 95, 96, 97, 98, 99, 100, 101, 102, 103, 104, 105, 106, 107, 108, 109, 110] [(9, .one (.int .i64))] (.two .no (.two (.one (.two .no (.two .no (.two .no (.two (.draw (.take 0 (.take 1 (.take 2 (.take 3 (.take 4 (.take 5 (.take 6 (.take 7 (.take 8 (.take 9 (.take 10 (.take 11 (.take 12 (.eff 13 (.eff 14 (.done))))))))))))))))) .no))))) .no))))) .no)
def ref24_Open.P (p0_0 p0_1 p0_2 p0_3 p0_4 p0_5 : Int) (a0_6 : Option Addr) (n0_6 c0_6 : Nat) (a0_7 : Option Addr) (n0_7 c0_7 : Nat) (p0_8 : Bool) (p0_9 : Int) (a0_10 : Option Addr) (n0_10 c0_10 : Nat) (a0_11 : Option Addr) (n0_11 c0_11 : Nat) (p1 p2_0 p2_1 p2_2 p2_3 p2_4 p2_5 : Int) (p3 : Bool) (w : World) (K : (Int × Int × Int × Int × Int × Int × SlV × SlV × Bool × Int × SlV × SlV × Int × Int × Unit) × Unit → World → Prop) : Prop :=
  NewV #[.int .i64 p0_0, .int .i64 p0_1, .int .i64 p0_2, .int .i64 p0_3, .int .i64 p0_4, .int .i64 p0_5, .slice a0_6 n0_6 c0_6, .slice a0_7 n0_7 c0_7, .bool p0_8, .int .i64 p0_9, .slice a0_10 n0_10 c0_10, .slice a0_11 n0_11 c0_11] 38 w fun b1 w2 =>
  NewV #[.int .i64 p2_0, .int .i64 p2_1, .int .i64 p2_2, .int .u32 p2_3, .int .u64 p2_4, .int .u64 p2_5] 46 w2 fun b3 w4 =>
  NewV #[.int .i64 0, .int .i64 0, .int .i64 0, .int .i64 0, .int .i64 0, .int .i64 0, .slice none 0 0, .slice none 0 0, .bool false, .int .i64 0, .slice none 0 0, .slice none 0 0, .int .i64 0, .int .i64 0] 153 w4 fun b5 w6 =>
  LoopV [.one (.int .i64)] ((0 : Int), ()) w6 fun (z7 : Int × Unit) w8 (K9 : Int × Unit → World → Prop) =>
  cond (decide (z7.1 < 128))
  (LoadS w8 ⟨b1, 10, none⟩ .sl fun (x10 : SlV) =>
  CallV Tryz.prog 137 #[.slice x10.a x10.n x10.c] w8 [.one (.int .i64)] fun (r11 : Int × Unit) w12 =>
  cond (decide (r11.1 < 0))
  (LoadA w12 ⟨b1, 0, none⟩ [.int .i64, .int .i64, .int .i64, .int .i64, .int .i64, .int .i64, .sl, .sl, .bool, .int .i64, .sl, .sl] fun (x13 : Int × Int × Int × Int × Int × Int × SlV × SlV × Bool × Int × SlV × SlV × Unit) =>
  StoreV w12 ⟨b5, 0, none⟩ [.int .i64 x13.1, .int .i64 x13.2.1, .int .i64 x13.2.2.1, .int .i64 x13.2.2.2.1, .int .i64 x13.2.2.2.2.1, .int .i64 x13.2.2.2.2.2.1, .slice x13.2.2.2.2.2.2.1.a x13.2.2.2.2.2.2.1.n x13.2.2.2.2.2.2.1.c, .slice x13.2.2.2.2.2.2.2.1.a x13.2.2.2.2.2.2.2.1.n x13.2.2.2.2.2.2.2.1.c, .bool x13.2.2.2.2.2.2.2.2.1, .int .i64 x13.2.2.2.2.2.2.2.2.2.1, .slice x13.2.2.2.2.2.2.2.2.2.2.1.a x13.2.2.2.2.2.2.2.2.2.2.1.n x13.2.2.2.2.2.2.2.2.2.2.1.c, .slice x13.2.2.2.2.2.2.2.2.2.2.2.1.a x13.2.2.2.2.2.2.2.2.2.2.2.1.n x13.2.2.2.2.2.2.2.2.2.2.2.1.c, .int .i64 0, .int .i64 19] fun w14 =>
  LoadA w14 ⟨b5, 0, none⟩ [.int .i64, .int .i64, .int .i64, .int .i64, .int .i64, .int .i64, .sl, .sl, .bool, .int .i64, .sl, .sl, .int .i64, .int .i64] fun (x15 : Int × Int × Int × Int × Int × Int × SlV × SlV × Bool × Int × SlV × SlV × Int × Int × Unit) =>
  K ((x15.1, x15.2.1, x15.2.2.1, x15.2.2.2.1, x15.2.2.2.2.1, x15.2.2.2.2.2.1, x15.2.2.2.2.2.2.1, x15.2.2.2.2.2.2.2.1, x15.2.2.2.2.2.2.2.2.1, x15.2.2.2.2.2.2.2.2.2.1, x15.2.2.2.2.2.2.2.2.2.2.1, x15.2.2.2.2.2.2.2.2.2.2.2.1, x15.2.2.2.2.2.2.2.2.2.2.2.2.1, x15.2.2.2.2.2.2.2.2.2.2.2.2.2.1, ()), ()) w14)
  (LoadS w12 ⟨b1, 10, none⟩ .sl fun (x16 : SlV) =>
  (0 ≤ r11.1 ∧ r11.1 < ((x16.n : Nat) : Int)) ∧ ∃ q17 : Addr, x16.a = some q17 ∧
  LoadS w12 ((q17.add (r11.1.toNat * 9)).add 5) .bool fun (x18 : Bool) =>
  cond (!x18)
  (LoadA w12 ⟨b1, 0, none⟩ [.int .i64, .int .i64, .int .i64, .int .i64, .int .i64, .int .i64, .sl, .sl, .bool, .int .i64, .sl, .sl] fun (x19 : Int × Int × Int × Int × Int × Int × SlV × SlV × Bool × Int × SlV × SlV × Unit) =>
  CallV Tryz.prog 36 #[.agg #[.int .i64 x19.1, .int .i64 x19.2.1, .int .i64 x19.2.2.1, .int .i64 x19.2.2.2.1, .int .i64 x19.2.2.2.2.1, .int .i64 x19.2.2.2.2.2.1, .slice x19.2.2.2.2.2.2.1.a x19.2.2.2.2.2.2.1.n x19.2.2.2.2.2.2.1.c, .slice x19.2.2.2.2.2.2.2.1.a x19.2.2.2.2.2.2.2.1.n x19.2.2.2.2.2.2.2.1.c, .bool x19.2.2.2.2.2.2.2.2.1, .int .i64 x19.2.2.2.2.2.2.2.2.2.1, .slice x19.2.2.2.2.2.2.2.2.2.2.1.a x19.2.2.2.2.2.2.2.2.2.2.1.n x19.2.2.2.2.2.2.2.2.2.2.1.c, .slice x19.2.2.2.2.2.2.2.2.2.2.2.1.a x19.2.2.2.2.2.2.2.2.2.2.2.1.n x19.2.2.2.2.2.2.2.2.2.2.2.1.c], .int .i64 r11.1] w12 [.agg [.int .i64, .int .i64, .int .i64, .int .i64, .int .i64, .int .i64, .sl, .sl, .bool, .int .i64, .sl, .sl], .one (.int .i64)] fun (r20 : (Int × Int × Int × Int × Int × Int × SlV × SlV × Bool × Int × SlV × SlV × Unit) × Int × Unit) w21 =>
  NewV #[.int .i64 0, .int .i64 0, .int .i64 0, .int .i64 0, .int .i64 0, .int .i64 0, .slice none 0 0, .slice none 0 0, .bool false, .int .i64 0, .slice none 0 0, .slice none 0 0] 38 w21 fun b22 w23 =>
  StoreV w23 ⟨b22, 0, none⟩ [.int .i64 r20.1.1, .int .i64 r20.1.2.1, .int .i64 r20.1.2.2.1, .int .i64 r20.1.2.2.2.1, .int .i64 r20.1.2.2.2.2.1, .int .i64 r20.1.2.2.2.2.2.1, .slice r20.1.2.2.2.2.2.2.1.a r20.1.2.2.2.2.2.2.1.n r20.1.2.2.2.2.2.2.1.c, .slice r20.1.2.2.2.2.2.2.2.1.a r20.1.2.2.2.2.2.2.2.1.n r20.1.2.2.2.2.2.2.2.1.c, .bool r20.1.2.2.2.2.2.2.2.2.1, .int .i64 r20.1.2.2.2.2.2.2.2.2.2.1, .slice r20.1.2.2.2.2.2.2.2.2.2.2.1.a r20.1.2.2.2.2.2.2.2.2.2.2.1.n r20.1.2.2.2.2.2.2.2.2.2.2.1.c, .slice r20.1.2.2.2.2.2.2.2.2.2.2.2.1.a r20.1.2.2.2.2.2.2.2.2.2.2.2.1.n r20.1.2.2.2.2.2.2.2.2.2.2.2.1.c] fun w24 =>
  LoadA w24 ⟨b22, 0, none⟩ [.int .i64, .int .i64, .int .i64, .int .i64, .int .i64, .int .i64, .sl, .sl, .bool, .int .i64, .sl, .sl] fun (x25 : Int × Int × Int × Int × Int × Int × SlV × SlV × Bool × Int × SlV × SlV × Unit) =>
  StoreV w24 ⟨b1, 0, none⟩ [.int .i64 x25.1, .int .i64 x25.2.1, .int .i64 x25.2.2.1, .int .i64 x25.2.2.2.1, .int .i64 x25.2.2.2.2.1, .int .i64 x25.2.2.2.2.2.1, .slice x25.2.2.2.2.2.2.1.a x25.2.2.2.2.2.2.1.n x25.2.2.2.2.2.2.1.c, .slice x25.2.2.2.2.2.2.2.1.a x25.2.2.2.2.2.2.2.1.n x25.2.2.2.2.2.2.2.1.c, .bool x25.2.2.2.2.2.2.2.2.1, .int .i64 x25.2.2.2.2.2.2.2.2.2.1, .slice x25.2.2.2.2.2.2.2.2.2.2.1.a x25.2.2.2.2.2.2.2.2.2.2.1.n x25.2.2.2.2.2.2.2.2.2.2.1.c, .slice x25.2.2.2.2.2.2.2.2.2.2.2.1.a x25.2.2.2.2.2.2.2.2.2.2.2.1.n x25.2.2.2.2.2.2.2.2.2.2.2.1.c] fun w26 =>
  cond (r20.2.1 == 4)
  (LoadA w26 ⟨b1, 0, none⟩ [.int .i64, .int .i64, .int .i64, .int .i64, .int .i64, .int .i64, .sl, .sl, .bool, .int .i64, .sl, .sl] fun (x27 : Int × Int × Int × Int × Int × Int × SlV × SlV × Bool × Int × SlV × SlV × Unit) =>
  StoreV w26 ⟨b5, 0, none⟩ [.int .i64 x27.1, .int .i64 x27.2.1, .int .i64 x27.2.2.1, .int .i64 x27.2.2.2.1, .int .i64 x27.2.2.2.2.1, .int .i64 x27.2.2.2.2.2.1, .slice x27.2.2.2.2.2.2.1.a x27.2.2.2.2.2.2.1.n x27.2.2.2.2.2.2.1.c, .slice x27.2.2.2.2.2.2.2.1.a x27.2.2.2.2.2.2.2.1.n x27.2.2.2.2.2.2.2.1.c, .bool x27.2.2.2.2.2.2.2.2.1, .int .i64 x27.2.2.2.2.2.2.2.2.2.1, .slice x27.2.2.2.2.2.2.2.2.2.2.1.a x27.2.2.2.2.2.2.2.2.2.2.1.n x27.2.2.2.2.2.2.2.2.2.2.1.c, .slice x27.2.2.2.2.2.2.2.2.2.2.2.1.a x27.2.2.2.2.2.2.2.2.2.2.2.1.n x27.2.2.2.2.2.2.2.2.2.2.2.1.c, .int .i64 0, .int .i64 r20.2.1] fun w28 =>
  LoadA w28 ⟨b5, 0, none⟩ [.int .i64, .int .i64, .int .i64, .int .i64, .int .i64, .int .i64, .sl, .sl, .bool, .int .i64, .sl, .sl, .int .i64, .int .i64] fun (x29 : Int × Int × Int × Int × Int × Int × SlV × SlV × Bool × Int × SlV × SlV × Int × Int × Unit) =>
  K ((x29.1, x29.2.1, x29.2.2.1, x29.2.2.2.1, x29.2.2.2.2.1, x29.2.2.2.2.2.1, x29.2.2.2.2.2.2.1, x29.2.2.2.2.2.2.2.1, x29.2.2.2.2.2.2.2.2.1, x29.2.2.2.2.2.2.2.2.2.1, x29.2.2.2.2.2.2.2.2.2.2.1, x29.2.2.2.2.2.2.2.2.2.2.2.1, x29.2.2.2.2.2.2.2.2.2.2.2.2.1, x29.2.2.2.2.2.2.2.2.2.2.2.2.2.1, ()), ()) w28)
  (cond (r20.2.1 != 0)
  (Rng .i64 (z7.1 + 1) ∧
  K9 (z7.1 + 1, ()) w26)
  (DrawV fun D30 =>
  (D30 b1 ∧ LoadS w26.drew ⟨b1, 10, none⟩ .sl fun (x31 : SlV) =>
  (0 ≤ r11.1 ∧ r11.1 < ((x31.n : Nat) : Int)) ∧ ∃ q32 : Addr, x31.a = some q32 ∧
  (D30 ((q32.add (r11.1.toNat * 9)).add 3).block ∧ LoadS w26.drew ((q32.add (r11.1.toNat * 9)).add 3) (.int .i64) fun (x33 : Int) =>
  (D30 b3 ∧ LoadS w26.drew ⟨b3, 4, none⟩ (.int .u64) fun (x34 : Int) =>
  (D30 b3 ∧ LoadS w26.drew ⟨b3, 5, none⟩ (.int .u64) fun (x35 : Int) =>
  NewV #[.int .i64 0, .int .i64 0, .int .i64 0, .int .u32 0, .int .u64 0, .int .u64 0] 46 w26.drew fun b36 w37 =>
  KeepOn D30 w26.drew w37 ∧
  StoreV w37 ⟨b36, 0, none⟩ [.int .i64 3, .int .i64 p1, .int .i64 0, .int .u32 (IntKind.u32.wrap x33), .int .u64 x34, .int .u64 x35] fun w38 =>
  KeepOn D30 w26.drew w38 ∧
  LoadA w38 ⟨b1, 0, none⟩ [.int .i64, .int .i64, .int .i64, .int .i64, .int .i64, .int .i64, .sl, .sl, .bool, .int .i64, .sl, .sl] fun (x39 : Int × Int × Int × Int × Int × Int × SlV × SlV × Bool × Int × SlV × SlV × Unit) =>
  LoadA w38 ⟨b36, 0, none⟩ [.int .i64, .int .i64, .int .i64, .int .u32, .int .u64, .int .u64] fun (x40 : Int × Int × Int × Int × Int × Int × Unit) =>
  CallV Tryz.prog 138 #[.agg #[.int .i64 x39.1, .int .i64 x39.2.1, .int .i64 x39.2.2.1, .int .i64 x39.2.2.2.1, .int .i64 x39.2.2.2.2.1, .int .i64 x39.2.2.2.2.2.1, .slice x39.2.2.2.2.2.2.1.a x39.2.2.2.2.2.2.1.n x39.2.2.2.2.2.2.1.c, .slice x39.2.2.2.2.2.2.2.1.a x39.2.2.2.2.2.2.2.1.n x39.2.2.2.2.2.2.2.1.c, .bool x39.2.2.2.2.2.2.2.2.1, .int .i64 x39.2.2.2.2.2.2.2.2.2.1, .slice x39.2.2.2.2.2.2.2.2.2.2.1.a x39.2.2.2.2.2.2.2.2.2.2.1.n x39.2.2.2.2.2.2.2.2.2.2.1.c, .slice x39.2.2.2.2.2.2.2.2.2.2.2.1.a x39.2.2.2.2.2.2.2.2.2.2.2.1.n x39.2.2.2.2.2.2.2.2.2.2.2.1.c], .int .i64 r11.1, .agg #[.int .i64 x40.1, .int .i64 x40.2.1, .int .i64 x40.2.2.1, .int .u32 x40.2.2.2.1, .int .u64 x40.2.2.2.2.1, .int .u64 x40.2.2.2.2.2.1], .bool p3] w38 [.agg [.int .i64, .int .i64, .int .i64, .int .i64, .int .i64, .int .i64, .sl, .sl, .bool, .int .i64, .sl, .sl], .one (.int .i64)] fun (r41 : (Int × Int × Int × Int × Int × Int × SlV × SlV × Bool × Int × SlV × SlV × Unit) × Int × Unit) w42 =>
  NewV #[.int .i64 0, .int .i64 0, .int .i64 0, .int .i64 0, .int .i64 0, .int .i64 0, .slice none 0 0, .slice none 0 0, .bool false, .int .i64 0, .slice none 0 0, .slice none 0 0] 38 w42 fun b43 w44 =>
  StoreV w44 ⟨b43, 0, none⟩ [.int .i64 r41.1.1, .int .i64 r41.1.2.1, .int .i64 r41.1.2.2.1, .int .i64 r41.1.2.2.2.1, .int .i64 r41.1.2.2.2.2.1, .int .i64 r41.1.2.2.2.2.2.1, .slice r41.1.2.2.2.2.2.2.1.a r41.1.2.2.2.2.2.2.1.n r41.1.2.2.2.2.2.2.1.c, .slice r41.1.2.2.2.2.2.2.2.1.a r41.1.2.2.2.2.2.2.2.1.n r41.1.2.2.2.2.2.2.2.1.c, .bool r41.1.2.2.2.2.2.2.2.2.1, .int .i64 r41.1.2.2.2.2.2.2.2.2.2.1, .slice r41.1.2.2.2.2.2.2.2.2.2.2.1.a r41.1.2.2.2.2.2.2.2.2.2.2.1.n r41.1.2.2.2.2.2.2.2.2.2.2.1.c, .slice r41.1.2.2.2.2.2.2.2.2.2.2.2.1.a r41.1.2.2.2.2.2.2.2.2.2.2.2.1.n r41.1.2.2.2.2.2.2.2.2.2.2.2.1.c] fun w45 =>
  LoadA w45 ⟨b43, 0, none⟩ [.int .i64, .int .i64, .int .i64, .int .i64, .int .i64, .int .i64, .sl, .sl, .bool, .int .i64, .sl, .sl] fun (x46 : Int × Int × Int × Int × Int × Int × SlV × SlV × Bool × Int × SlV × SlV × Unit) =>
  StoreV w45 ⟨b1, 0, none⟩ [.int .i64 x46.1, .int .i64 x46.2.1, .int .i64 x46.2.2.1, .int .i64 x46.2.2.2.1, .int .i64 x46.2.2.2.2.1, .int .i64 x46.2.2.2.2.2.1, .slice x46.2.2.2.2.2.2.1.a x46.2.2.2.2.2.2.1.n x46.2.2.2.2.2.2.1.c, .slice x46.2.2.2.2.2.2.2.1.a x46.2.2.2.2.2.2.2.1.n x46.2.2.2.2.2.2.2.1.c, .bool x46.2.2.2.2.2.2.2.2.1, .int .i64 x46.2.2.2.2.2.2.2.2.2.1, .slice x46.2.2.2.2.2.2.2.2.2.2.1.a x46.2.2.2.2.2.2.2.2.2.2.1.n x46.2.2.2.2.2.2.2.2.2.2.1.c, .slice x46.2.2.2.2.2.2.2.2.2.2.2.1.a x46.2.2.2.2.2.2.2.2.2.2.2.1.n x46.2.2.2.2.2.2.2.2.2.2.2.1.c] fun w47 =>
  cond (r41.2.1 == 4)
  (LoadA w47 ⟨b1, 0, none⟩ [.int .i64, .int .i64, .int .i64, .int .i64, .int .i64, .int .i64, .sl, .sl, .bool, .int .i64, .sl, .sl] fun (x48 : Int × Int × Int × Int × Int × Int × SlV × SlV × Bool × Int × SlV × SlV × Unit) =>
  StoreV w47 ⟨b5, 0, none⟩ [.int .i64 x48.1, .int .i64 x48.2.1, .int .i64 x48.2.2.1, .int .i64 x48.2.2.2.1, .int .i64 x48.2.2.2.2.1, .int .i64 x48.2.2.2.2.2.1, .slice x48.2.2.2.2.2.2.1.a x48.2.2.2.2.2.2.1.n x48.2.2.2.2.2.2.1.c, .slice x48.2.2.2.2.2.2.2.1.a x48.2.2.2.2.2.2.2.1.n x48.2.2.2.2.2.2.2.1.c, .bool x48.2.2.2.2.2.2.2.2.1, .int .i64 x48.2.2.2.2.2.2.2.2.2.1, .slice x48.2.2.2.2.2.2.2.2.2.2.1.a x48.2.2.2.2.2.2.2.2.2.2.1.n x48.2.2.2.2.2.2.2.2.2.2.1.c, .slice x48.2.2.2.2.2.2.2.2.2.2.2.1.a x48.2.2.2.2.2.2.2.2.2.2.2.1.n x48.2.2.2.2.2.2.2.2.2.2.2.1.c, .int .i64 0, .int .i64 r41.2.1] fun w49 =>
  LoadA w49 ⟨b5, 0, none⟩ [.int .i64, .int .i64, .int .i64, .int .i64, .int .i64, .int .i64, .sl, .sl, .bool, .int .i64, .sl, .sl, .int .i64, .int .i64] fun (x50 : Int × Int × Int × Int × Int × Int × SlV × SlV × Bool × Int × SlV × SlV × Int × Int × Unit) =>
  K ((x50.1, x50.2.1, x50.2.2.1, x50.2.2.2.1, x50.2.2.2.2.1, x50.2.2.2.2.2.1, x50.2.2.2.2.2.2.1, x50.2.2.2.2.2.2.2.1, x50.2.2.2.2.2.2.2.2.1, x50.2.2.2.2.2.2.2.2.2.1, x50.2.2.2.2.2.2.2.2.2.2.1, x50.2.2.2.2.2.2.2.2.2.2.2.1, x50.2.2.2.2.2.2.2.2.2.2.2.2.1, x50.2.2.2.2.2.2.2.2.2.2.2.2.2.1, ()), ()) w49)
  (cond (r41.2.1 == 0)
  (LoadA w47 ⟨b1, 0, none⟩ [.int .i64, .int .i64, .int .i64, .int .i64, .int .i64, .int .i64, .sl, .sl, .bool, .int .i64, .sl, .sl] fun (x51 : Int × Int × Int × Int × Int × Int × SlV × SlV × Bool × Int × SlV × SlV × Unit) =>
  CallV Tryz.prog 80 #[.agg #[.int .i64 x51.1, .int .i64 x51.2.1, .int .i64 x51.2.2.1, .int .i64 x51.2.2.2.1, .int .i64 x51.2.2.2.2.1, .int .i64 x51.2.2.2.2.2.1, .slice x51.2.2.2.2.2.2.1.a x51.2.2.2.2.2.2.1.n x51.2.2.2.2.2.2.1.c, .slice x51.2.2.2.2.2.2.2.1.a x51.2.2.2.2.2.2.2.1.n x51.2.2.2.2.2.2.2.1.c, .bool x51.2.2.2.2.2.2.2.2.1, .int .i64 x51.2.2.2.2.2.2.2.2.2.1, .slice x51.2.2.2.2.2.2.2.2.2.2.1.a x51.2.2.2.2.2.2.2.2.2.2.1.n x51.2.2.2.2.2.2.2.2.2.2.1.c, .slice x51.2.2.2.2.2.2.2.2.2.2.2.1.a x51.2.2.2.2.2.2.2.2.2.2.2.1.n x51.2.2.2.2.2.2.2.2.2.2.2.1.c], .int .i64 r11.1, .int .i64 1, .int .i64 p1] w47 [.agg [.int .i64, .int .i64, .int .i64, .int .i64, .int .i64, .int .i64, .sl, .sl, .bool, .int .i64, .sl, .sl]] fun (r52 : (Int × Int × Int × Int × Int × Int × SlV × SlV × Bool × Int × SlV × SlV × Unit) × Unit) w53 =>
  StoreV w53 ⟨b1, 0, none⟩ [.int .i64 r52.1.1, .int .i64 r52.1.2.1, .int .i64 r52.1.2.2.1, .int .i64 r52.1.2.2.2.1, .int .i64 r52.1.2.2.2.2.1, .int .i64 r52.1.2.2.2.2.2.1, .slice r52.1.2.2.2.2.2.2.1.a r52.1.2.2.2.2.2.2.1.n r52.1.2.2.2.2.2.2.1.c, .slice r52.1.2.2.2.2.2.2.2.1.a r52.1.2.2.2.2.2.2.2.1.n r52.1.2.2.2.2.2.2.2.1.c, .bool r52.1.2.2.2.2.2.2.2.2.1, .int .i64 r52.1.2.2.2.2.2.2.2.2.2.1, .slice r52.1.2.2.2.2.2.2.2.2.2.2.1.a r52.1.2.2.2.2.2.2.2.2.2.2.1.n r52.1.2.2.2.2.2.2.2.2.2.2.1.c, .slice r52.1.2.2.2.2.2.2.2.2.2.2.2.1.a r52.1.2.2.2.2.2.2.2.2.2.2.2.1.n r52.1.2.2.2.2.2.2.2.2.2.2.2.1.c] fun w54 =>
  NewV #[] 46 w54 fun b55 w56 =>
  LoadS w56 ⟨b1, 11, none⟩ .sl fun (x57 : SlV) =>
  AppS w56 x57.a x57.n 6 fun ns62 =>
  AppV w56 46 6 48 (some ⟨b55, 0, none⟩) 0 0 ns62 x57.n fun a58 n59 c60 w61 =>
  StoreV w61 ⟨b1, 11, none⟩ [.slice a58 n59 c60] fun w63 =>
  LoadS w63 ⟨b1, 11, none⟩ .sl fun (x64 : SlV) =>
  LoadA w63 ⟨b36, 0, none⟩ [.int .i64, .int .i64, .int .i64, .int .u32, .int .u64, .int .u64] fun (x65 : Int × Int × Int × Int × Int × Int × Unit) =>
  (0 ≤ r11.1 ∧ r11.1 < ((x64.n : Nat) : Int)) ∧ ∃ q66 : Addr, x64.a = some q66 ∧
  StoreV w63 (q66.add (r11.1.toNat * 6)) [.int .i64 x65.1, .int .i64 x65.2.1, .int .i64 x65.2.2.1, .int .u32 x65.2.2.2.1, .int .u64 x65.2.2.2.2.1, .int .u64 x65.2.2.2.2.2.1] fun w67 =>
  LoadA w67 ⟨b1, 0, none⟩ [.int .i64, .int .i64, .int .i64, .int .i64, .int .i64, .int .i64, .sl, .sl, .bool, .int .i64, .sl, .sl] fun (x68 : Int × Int × Int × Int × Int × Int × SlV × SlV × Bool × Int × SlV × SlV × Unit) =>
  StoreV w67 ⟨b5, 0, none⟩ [.int .i64 x68.1, .int .i64 x68.2.1, .int .i64 x68.2.2.1, .int .i64 x68.2.2.2.1, .int .i64 x68.2.2.2.2.1, .int .i64 x68.2.2.2.2.2.1, .slice x68.2.2.2.2.2.2.1.a x68.2.2.2.2.2.2.1.n x68.2.2.2.2.2.2.1.c, .slice x68.2.2.2.2.2.2.2.1.a x68.2.2.2.2.2.2.2.1.n x68.2.2.2.2.2.2.2.1.c, .bool x68.2.2.2.2.2.2.2.2.1, .int .i64 x68.2.2.2.2.2.2.2.2.2.1, .slice x68.2.2.2.2.2.2.2.2.2.2.1.a x68.2.2.2.2.2.2.2.2.2.2.1.n x68.2.2.2.2.2.2.2.2.2.2.1.c, .slice x68.2.2.2.2.2.2.2.2.2.2.2.1.a x68.2.2.2.2.2.2.2.2.2.2.2.1.n x68.2.2.2.2.2.2.2.2.2.2.2.1.c, .int .i64 r11.1, .int .i64 0] fun w69 =>
  LoadA w69 ⟨b5, 0, none⟩ [.int .i64, .int .i64, .int .i64, .int .i64, .int .i64, .int .i64, .sl, .sl, .bool, .int .i64, .sl, .sl, .int .i64, .int .i64] fun (x70 : Int × Int × Int × Int × Int × Int × SlV × SlV × Bool × Int × SlV × SlV × Int × Int × Unit) =>
  K ((x70.1, x70.2.1, x70.2.2.1, x70.2.2.2.1, x70.2.2.2.2.1, x70.2.2.2.2.2.1, x70.2.2.2.2.2.2.1, x70.2.2.2.2.2.2.2.1, x70.2.2.2.2.2.2.2.2.1, x70.2.2.2.2.2.2.2.2.2.1, x70.2.2.2.2.2.2.2.2.2.2.1, x70.2.2.2.2.2.2.2.2.2.2.2.1, x70.2.2.2.2.2.2.2.2.2.2.2.2.1, x70.2.2.2.2.2.2.2.2.2.2.2.2.2.1, ()), ()) w69)
  (LoadA w47 ⟨b1, 0, none⟩ [.int .i64, .int .i64, .int .i64, .int .i64, .int .i64, .int .i64, .sl, .sl, .bool, .int .i64, .sl, .sl] fun (x71 : Int × Int × Int × Int × Int × Int × SlV × SlV × Bool × Int × SlV × SlV × Unit) =>
  CallV Tryz.prog 80 #[.agg #[.int .i64 x71.1, .int .i64 x71.2.1, .int .i64 x71.2.2.1, .int .i64 x71.2.2.2.1, .int .i64 x71.2.2.2.2.1, .int .i64 x71.2.2.2.2.2.1, .slice x71.2.2.2.2.2.2.1.a x71.2.2.2.2.2.2.1.n x71.2.2.2.2.2.2.1.c, .slice x71.2.2.2.2.2.2.2.1.a x71.2.2.2.2.2.2.2.1.n x71.2.2.2.2.2.2.2.1.c, .bool x71.2.2.2.2.2.2.2.2.1, .int .i64 x71.2.2.2.2.2.2.2.2.2.1, .slice x71.2.2.2.2.2.2.2.2.2.2.1.a x71.2.2.2.2.2.2.2.2.2.2.1.n x71.2.2.2.2.2.2.2.2.2.2.1.c, .slice x71.2.2.2.2.2.2.2.2.2.2.2.1.a x71.2.2.2.2.2.2.2.2.2.2.2.1.n x71.2.2.2.2.2.2.2.2.2.2.2.1.c], .int .i64 r11.1, .int .i64 4, .int .i64 0] w47 [.agg [.int .i64, .int .i64, .int .i64, .int .i64, .int .i64, .int .i64, .sl, .sl, .bool, .int .i64, .sl, .sl]] fun (r72 : (Int × Int × Int × Int × Int × Int × SlV × SlV × Bool × Int × SlV × SlV × Unit) × Unit) w73 =>
  StoreV w73 ⟨b1, 0, none⟩ [.int .i64 r72.1.1, .int .i64 r72.1.2.1, .int .i64 r72.1.2.2.1, .int .i64 r72.1.2.2.2.1, .int .i64 r72.1.2.2.2.2.1, .int .i64 r72.1.2.2.2.2.2.1, .slice r72.1.2.2.2.2.2.2.1.a r72.1.2.2.2.2.2.2.1.n r72.1.2.2.2.2.2.2.1.c, .slice r72.1.2.2.2.2.2.2.2.1.a r72.1.2.2.2.2.2.2.2.1.n r72.1.2.2.2.2.2.2.2.1.c, .bool r72.1.2.2.2.2.2.2.2.2.1, .int .i64 r72.1.2.2.2.2.2.2.2.2.2.1, .slice r72.1.2.2.2.2.2.2.2.2.2.2.1.a r72.1.2.2.2.2.2.2.2.2.2.2.1.n r72.1.2.2.2.2.2.2.2.2.2.2.1.c, .slice r72.1.2.2.2.2.2.2.2.2.2.2.2.1.a r72.1.2.2.2.2.2.2.2.2.2.2.2.1.n r72.1.2.2.2.2.2.2.2.2.2.2.2.1.c] fun w74 =>
  LoadA w74 ⟨b1, 0, none⟩ [.int .i64, .int .i64, .int .i64, .int .i64, .int .i64, .int .i64, .sl, .sl, .bool, .int .i64, .sl, .sl] fun (x75 : Int × Int × Int × Int × Int × Int × SlV × SlV × Bool × Int × SlV × SlV × Unit) =>
  CallV Tryz.prog 36 #[.agg #[.int .i64 x75.1, .int .i64 x75.2.1, .int .i64 x75.2.2.1, .int .i64 x75.2.2.2.1, .int .i64 x75.2.2.2.2.1, .int .i64 x75.2.2.2.2.2.1, .slice x75.2.2.2.2.2.2.1.a x75.2.2.2.2.2.2.1.n x75.2.2.2.2.2.2.1.c, .slice x75.2.2.2.2.2.2.2.1.a x75.2.2.2.2.2.2.2.1.n x75.2.2.2.2.2.2.2.1.c, .bool x75.2.2.2.2.2.2.2.2.1, .int .i64 x75.2.2.2.2.2.2.2.2.2.1, .slice x75.2.2.2.2.2.2.2.2.2.2.1.a x75.2.2.2.2.2.2.2.2.2.2.1.n x75.2.2.2.2.2.2.2.2.2.2.1.c, .slice x75.2.2.2.2.2.2.2.2.2.2.2.1.a x75.2.2.2.2.2.2.2.2.2.2.2.1.n x75.2.2.2.2.2.2.2.2.2.2.2.1.c], .int .i64 r11.1] w74 [.agg [.int .i64, .int .i64, .int .i64, .int .i64, .int .i64, .int .i64, .sl, .sl, .bool, .int .i64, .sl, .sl], .one (.int .i64)] fun (r76 : (Int × Int × Int × Int × Int × Int × SlV × SlV × Bool × Int × SlV × SlV × Unit) × Int × Unit) w77 =>
  NewV #[.int .i64 0, .int .i64 0, .int .i64 0, .int .i64 0, .int .i64 0, .int .i64 0, .slice none 0 0, .slice none 0 0, .bool false, .int .i64 0, .slice none 0 0, .slice none 0 0] 38 w77 fun b78 w79 =>
  StoreV w79 ⟨b78, 0, none⟩ [.int .i64 r76.1.1, .int .i64 r76.1.2.1, .int .i64 r76.1.2.2.1, .int .i64 r76.1.2.2.2.1, .int .i64 r76.1.2.2.2.2.1, .int .i64 r76.1.2.2.2.2.2.1, .slice r76.1.2.2.2.2.2.2.1.a r76.1.2.2.2.2.2.2.1.n r76.1.2.2.2.2.2.2.1.c, .slice r76.1.2.2.2.2.2.2.2.1.a r76.1.2.2.2.2.2.2.2.1.n r76.1.2.2.2.2.2.2.2.1.c, .bool r76.1.2.2.2.2.2.2.2.2.1, .int .i64 r76.1.2.2.2.2.2.2.2.2.2.1, .slice r76.1.2.2.2.2.2.2.2.2.2.2.1.a r76.1.2.2.2.2.2.2.2.2.2.2.1.n r76.1.2.2.2.2.2.2.2.2.2.2.1.c, .slice r76.1.2.2.2.2.2.2.2.2.2.2.2.1.a r76.1.2.2.2.2.2.2.2.2.2.2.2.1.n r76.1.2.2.2.2.2.2.2.2.2.2.2.1.c] fun w80 =>
  LoadA w80 ⟨b78, 0, none⟩ [.int .i64, .int .i64, .int .i64, .int .i64, .int .i64, .int .i64, .sl, .sl, .bool, .int .i64, .sl, .sl] fun (x81 : Int × Int × Int × Int × Int × Int × SlV × SlV × Bool × Int × SlV × SlV × Unit) =>
  StoreV w80 ⟨b1, 0, none⟩ [.int .i64 x81.1, .int .i64 x81.2.1, .int .i64 x81.2.2.1, .int .i64 x81.2.2.2.1, .int .i64 x81.2.2.2.2.1, .int .i64 x81.2.2.2.2.2.1, .slice x81.2.2.2.2.2.2.1.a x81.2.2.2.2.2.2.1.n x81.2.2.2.2.2.2.1.c, .slice x81.2.2.2.2.2.2.2.1.a x81.2.2.2.2.2.2.2.1.n x81.2.2.2.2.2.2.2.1.c, .bool x81.2.2.2.2.2.2.2.2.1, .int .i64 x81.2.2.2.2.2.2.2.2.2.1, .slice x81.2.2.2.2.2.2.2.2.2.2.1.a x81.2.2.2.2.2.2.2.2.2.2.1.n x81.2.2.2.2.2.2.2.2.2.2.1.c, .slice x81.2.2.2.2.2.2.2.2.2.2.2.1.a x81.2.2.2.2.2.2.2.2.2.2.2.1.n x81.2.2.2.2.2.2.2.2.2.2.2.1.c] fun w82 =>
  cond (r76.2.1 == 4)
  (LoadA w82 ⟨b1, 0, none⟩ [.int .i64, .int .i64, .int .i64, .int .i64, .int .i64, .int .i64, .sl, .sl, .bool, .int .i64, .sl, .sl] fun (x83 : Int × Int × Int × Int × Int × Int × SlV × SlV × Bool × Int × SlV × SlV × Unit) =>
  StoreV w82 ⟨b5, 0, none⟩ [.int .i64 x83.1, .int .i64 x83.2.1, .int .i64 x83.2.2.1, .int .i64 x83.2.2.2.1, .int .i64 x83.2.2.2.2.1, .int .i64 x83.2.2.2.2.2.1, .slice x83.2.2.2.2.2.2.1.a x83.2.2.2.2.2.2.1.n x83.2.2.2.2.2.2.1.c, .slice x83.2.2.2.2.2.2.2.1.a x83.2.2.2.2.2.2.2.1.n x83.2.2.2.2.2.2.2.1.c, .bool x83.2.2.2.2.2.2.2.2.1, .int .i64 x83.2.2.2.2.2.2.2.2.2.1, .slice x83.2.2.2.2.2.2.2.2.2.2.1.a x83.2.2.2.2.2.2.2.2.2.2.1.n x83.2.2.2.2.2.2.2.2.2.2.1.c, .slice x83.2.2.2.2.2.2.2.2.2.2.2.1.a x83.2.2.2.2.2.2.2.2.2.2.2.1.n x83.2.2.2.2.2.2.2.2.2.2.2.1.c, .int .i64 0, .int .i64 r76.2.1] fun w84 =>
  LoadA w84 ⟨b5, 0, none⟩ [.int .i64, .int .i64, .int .i64, .int .i64, .int .i64, .int .i64, .sl, .sl, .bool, .int .i64, .sl, .sl, .int .i64, .int .i64] fun (x85 : Int × Int × Int × Int × Int × Int × SlV × SlV × Bool × Int × SlV × SlV × Int × Int × Unit) =>
  K ((x85.1, x85.2.1, x85.2.2.1, x85.2.2.2.1, x85.2.2.2.2.1, x85.2.2.2.2.2.1, x85.2.2.2.2.2.2.1, x85.2.2.2.2.2.2.2.1, x85.2.2.2.2.2.2.2.2.1, x85.2.2.2.2.2.2.2.2.2.1, x85.2.2.2.2.2.2.2.2.2.2.1, x85.2.2.2.2.2.2.2.2.2.2.2.1, x85.2.2.2.2.2.2.2.2.2.2.2.2.1, x85.2.2.2.2.2.2.2.2.2.2.2.2.2.1, ()), ()) w84)
  (Rng .i64 (z7.1 + 1) ∧
  K9 (z7.1 + 1, ()) w82))))))))))
  (DrawV fun D86 =>
  (D86 b1 ∧ LoadS w12.drew ⟨b1, 10, none⟩ .sl fun (x87 : SlV) =>
  (0 ≤ r11.1 ∧ r11.1 < ((x87.n : Nat) : Int)) ∧ ∃ q88 : Addr, x87.a = some q88 ∧
  (D86 ((q88.add (r11.1.toNat * 9)).add 3).block ∧ LoadS w12.drew ((q88.add (r11.1.toNat * 9)).add 3) (.int .i64) fun (x89 : Int) =>
  (D86 b3 ∧ LoadS w12.drew ⟨b3, 4, none⟩ (.int .u64) fun (x90 : Int) =>
  (D86 b3 ∧ LoadS w12.drew ⟨b3, 5, none⟩ (.int .u64) fun (x91 : Int) =>
  NewV #[.int .i64 0, .int .i64 0, .int .i64 0, .int .u32 0, .int .u64 0, .int .u64 0] 46 w12.drew fun b92 w93 =>
  KeepOn D86 w12.drew w93 ∧
  StoreV w93 ⟨b92, 0, none⟩ [.int .i64 3, .int .i64 p1, .int .i64 0, .int .u32 (IntKind.u32.wrap x89), .int .u64 x90, .int .u64 x91] fun w94 =>
  KeepOn D86 w12.drew w94 ∧
  LoadA w94 ⟨b1, 0, none⟩ [.int .i64, .int .i64, .int .i64, .int .i64, .int .i64, .int .i64, .sl, .sl, .bool, .int .i64, .sl, .sl] fun (x95 : Int × Int × Int × Int × Int × Int × SlV × SlV × Bool × Int × SlV × SlV × Unit) =>
  LoadA w94 ⟨b92, 0, none⟩ [.int .i64, .int .i64, .int .i64, .int .u32, .int .u64, .int .u64] fun (x96 : Int × Int × Int × Int × Int × Int × Unit) =>
  CallV Tryz.prog 138 #[.agg #[.int .i64 x95.1, .int .i64 x95.2.1, .int .i64 x95.2.2.1, .int .i64 x95.2.2.2.1, .int .i64 x95.2.2.2.2.1, .int .i64 x95.2.2.2.2.2.1, .slice x95.2.2.2.2.2.2.1.a x95.2.2.2.2.2.2.1.n x95.2.2.2.2.2.2.1.c, .slice x95.2.2.2.2.2.2.2.1.a x95.2.2.2.2.2.2.2.1.n x95.2.2.2.2.2.2.2.1.c, .bool x95.2.2.2.2.2.2.2.2.1, .int .i64 x95.2.2.2.2.2.2.2.2.2.1, .slice x95.2.2.2.2.2.2.2.2.2.2.1.a x95.2.2.2.2.2.2.2.2.2.2.1.n x95.2.2.2.2.2.2.2.2.2.2.1.c, .slice x95.2.2.2.2.2.2.2.2.2.2.2.1.a x95.2.2.2.2.2.2.2.2.2.2.2.1.n x95.2.2.2.2.2.2.2.2.2.2.2.1.c], .int .i64 r11.1, .agg #[.int .i64 x96.1, .int .i64 x96.2.1, .int .i64 x96.2.2.1, .int .u32 x96.2.2.2.1, .int .u64 x96.2.2.2.2.1, .int .u64 x96.2.2.2.2.2.1], .bool p3] w94 [.agg [.int .i64, .int .i64, .int .i64, .int .i64, .int .i64, .int .i64, .sl, .sl, .bool, .int .i64, .sl, .sl], .one (.int .i64)] fun (r97 : (Int × Int × Int × Int × Int × Int × SlV × SlV × Bool × Int × SlV × SlV × Unit) × Int × Unit) w98 =>
  NewV #[.int .i64 0, .int .i64 0, .int .i64 0, .int .i64 0, .int .i64 0, .int .i64 0, .slice none 0 0, .slice none 0 0, .bool false, .int .i64 0, .slice none 0 0, .slice none 0 0] 38 w98 fun b99 w100 =>
  StoreV w100 ⟨b99, 0, none⟩ [.int .i64 r97.1.1, .int .i64 r97.1.2.1, .int .i64 r97.1.2.2.1, .int .i64 r97.1.2.2.2.1, .int .i64 r97.1.2.2.2.2.1, .int .i64 r97.1.2.2.2.2.2.1, .slice r97.1.2.2.2.2.2.2.1.a r97.1.2.2.2.2.2.2.1.n r97.1.2.2.2.2.2.2.1.c, .slice r97.1.2.2.2.2.2.2.2.1.a r97.1.2.2.2.2.2.2.2.1.n r97.1.2.2.2.2.2.2.2.1.c, .bool r97.1.2.2.2.2.2.2.2.2.1, .int .i64 r97.1.2.2.2.2.2.2.2.2.2.1, .slice r97.1.2.2.2.2.2.2.2.2.2.2.1.a r97.1.2.2.2.2.2.2.2.2.2.2.1.n r97.1.2.2.2.2.2.2.2.2.2.2.1.c, .slice r97.1.2.2.2.2.2.2.2.2.2.2.2.1.a r97.1.2.2.2.2.2.2.2.2.2.2.2.1.n r97.1.2.2.2.2.2.2.2.2.2.2.2.1.c] fun w101 =>
  LoadA w101 ⟨b99, 0, none⟩ [.int .i64, .int .i64, .int .i64, .int .i64, .int .i64, .int .i64, .sl, .sl, .bool, .int .i64, .sl, .sl] fun (x102 : Int × Int × Int × Int × Int × Int × SlV × SlV × Bool × Int × SlV × SlV × Unit) =>
  StoreV w101 ⟨b1, 0, none⟩ [.int .i64 x102.1, .int .i64 x102.2.1, .int .i64 x102.2.2.1, .int .i64 x102.2.2.2.1, .int .i64 x102.2.2.2.2.1, .int .i64 x102.2.2.2.2.2.1, .slice x102.2.2.2.2.2.2.1.a x102.2.2.2.2.2.2.1.n x102.2.2.2.2.2.2.1.c, .slice x102.2.2.2.2.2.2.2.1.a x102.2.2.2.2.2.2.2.1.n x102.2.2.2.2.2.2.2.1.c, .bool x102.2.2.2.2.2.2.2.2.1, .int .i64 x102.2.2.2.2.2.2.2.2.2.1, .slice x102.2.2.2.2.2.2.2.2.2.2.1.a x102.2.2.2.2.2.2.2.2.2.2.1.n x102.2.2.2.2.2.2.2.2.2.2.1.c, .slice x102.2.2.2.2.2.2.2.2.2.2.2.1.a x102.2.2.2.2.2.2.2.2.2.2.2.1.n x102.2.2.2.2.2.2.2.2.2.2.2.1.c] fun w103 =>
  cond (r97.2.1 == 4)
  (LoadA w103 ⟨b1, 0, none⟩ [.int .i64, .int .i64, .int .i64, .int .i64, .int .i64, .int .i64, .sl, .sl, .bool, .int .i64, .sl, .sl] fun (x104 : Int × Int × Int × Int × Int × Int × SlV × SlV × Bool × Int × SlV × SlV × Unit) =>
  StoreV w103 ⟨b5, 0, none⟩ [.int .i64 x104.1, .int .i64 x104.2.1, .int .i64 x104.2.2.1, .int .i64 x104.2.2.2.1, .int .i64 x104.2.2.2.2.1, .int .i64 x104.2.2.2.2.2.1, .slice x104.2.2.2.2.2.2.1.a x104.2.2.2.2.2.2.1.n x104.2.2.2.2.2.2.1.c, .slice x104.2.2.2.2.2.2.2.1.a x104.2.2.2.2.2.2.2.1.n x104.2.2.2.2.2.2.2.1.c, .bool x104.2.2.2.2.2.2.2.2.1, .int .i64 x104.2.2.2.2.2.2.2.2.2.1, .slice x104.2.2.2.2.2.2.2.2.2.2.1.a x104.2.2.2.2.2.2.2.2.2.2.1.n x104.2.2.2.2.2.2.2.2.2.2.1.c, .slice x104.2.2.2.2.2.2.2.2.2.2.2.1.a x104.2.2.2.2.2.2.2.2.2.2.2.1.n x104.2.2.2.2.2.2.2.2.2.2.2.1.c, .int .i64 0, .int .i64 r97.2.1] fun w105 =>
  LoadA w105 ⟨b5, 0, none⟩ [.int .i64, .int .i64, .int .i64, .int .i64, .int .i64, .int .i64, .sl, .sl, .bool, .int .i64, .sl, .sl, .int .i64, .int .i64] fun (x106 : Int × Int × Int × Int × Int × Int × SlV × SlV × Bool × Int × SlV × SlV × Int × Int × Unit) =>
  K ((x106.1, x106.2.1, x106.2.2.1, x106.2.2.2.1, x106.2.2.2.2.1, x106.2.2.2.2.2.1, x106.2.2.2.2.2.2.1, x106.2.2.2.2.2.2.2.1, x106.2.2.2.2.2.2.2.2.1, x106.2.2.2.2.2.2.2.2.2.1, x106.2.2.2.2.2.2.2.2.2.2.1, x106.2.2.2.2.2.2.2.2.2.2.2.1, x106.2.2.2.2.2.2.2.2.2.2.2.2.1, x106.2.2.2.2.2.2.2.2.2.2.2.2.2.1, ()), ()) w105)
  (cond (r97.2.1 == 0)
  (LoadA w103 ⟨b1, 0, none⟩ [.int .i64, .int .i64, .int .i64, .int .i64, .int .i64, .int .i64, .sl, .sl, .bool, .int .i64, .sl, .sl] fun (x107 : Int × Int × Int × Int × Int × Int × SlV × SlV × Bool × Int × SlV × SlV × Unit) =>
  CallV Tryz.prog 80 #[.agg #[.int .i64 x107.1, .int .i64 x107.2.1, .int .i64 x107.2.2.1, .int .i64 x107.2.2.2.1, .int .i64 x107.2.2.2.2.1, .int .i64 x107.2.2.2.2.2.1, .slice x107.2.2.2.2.2.2.1.a x107.2.2.2.2.2.2.1.n x107.2.2.2.2.2.2.1.c, .slice x107.2.2.2.2.2.2.2.1.a x107.2.2.2.2.2.2.2.1.n x107.2.2.2.2.2.2.2.1.c, .bool x107.2.2.2.2.2.2.2.2.1, .int .i64 x107.2.2.2.2.2.2.2.2.2.1, .slice x107.2.2.2.2.2.2.2.2.2.2.1.a x107.2.2.2.2.2.2.2.2.2.2.1.n x107.2.2.2.2.2.2.2.2.2.2.1.c, .slice x107.2.2.2.2.2.2.2.2.2.2.2.1.a x107.2.2.2.2.2.2.2.2.2.2.2.1.n x107.2.2.2.2.2.2.2.2.2.2.2.1.c], .int .i64 r11.1, .int .i64 1, .int .i64 p1] w103 [.agg [.int .i64, .int .i64, .int .i64, .int .i64, .int .i64, .int .i64, .sl, .sl, .bool, .int .i64, .sl, .sl]] fun (r108 : (Int × Int × Int × Int × Int × Int × SlV × SlV × Bool × Int × SlV × SlV × Unit) × Unit) w109 =>
  StoreV w109 ⟨b1, 0, none⟩ [.int .i64 r108.1.1, .int .i64 r108.1.2.1, .int .i64 r108.1.2.2.1, .int .i64 r108.1.2.2.2.1, .int .i64 r108.1.2.2.2.2.1, .int .i64 r108.1.2.2.2.2.2.1, .slice r108.1.2.2.2.2.2.2.1.a r108.1.2.2.2.2.2.2.1.n r108.1.2.2.2.2.2.2.1.c, .slice r108.1.2.2.2.2.2.2.2.1.a r108.1.2.2.2.2.2.2.2.1.n r108.1.2.2.2.2.2.2.2.1.c, .bool r108.1.2.2.2.2.2.2.2.2.1, .int .i64 r108.1.2.2.2.2.2.2.2.2.2.1, .slice r108.1.2.2.2.2.2.2.2.2.2.2.1.a r108.1.2.2.2.2.2.2.2.2.2.2.1.n r108.1.2.2.2.2.2.2.2.2.2.2.1.c, .slice r108.1.2.2.2.2.2.2.2.2.2.2.2.1.a r108.1.2.2.2.2.2.2.2.2.2.2.2.1.n r108.1.2.2.2.2.2.2.2.2.2.2.2.1.c] fun w110 =>
  NewV #[] 46 w110 fun b111 w112 =>
  LoadS w112 ⟨b1, 11, none⟩ .sl fun (x113 : SlV) =>
  AppS w112 x113.a x113.n 6 fun ns118 =>
  AppV w112 46 6 48 (some ⟨b111, 0, none⟩) 0 0 ns118 x113.n fun a114 n115 c116 w117 =>
  StoreV w117 ⟨b1, 11, none⟩ [.slice a114 n115 c116] fun w119 =>
  LoadS w119 ⟨b1, 11, none⟩ .sl fun (x120 : SlV) =>
  LoadA w119 ⟨b92, 0, none⟩ [.int .i64, .int .i64, .int .i64, .int .u32, .int .u64, .int .u64] fun (x121 : Int × Int × Int × Int × Int × Int × Unit) =>
  (0 ≤ r11.1 ∧ r11.1 < ((x120.n : Nat) : Int)) ∧ ∃ q122 : Addr, x120.a = some q122 ∧
  StoreV w119 (q122.add (r11.1.toNat * 6)) [.int .i64 x121.1, .int .i64 x121.2.1, .int .i64 x121.2.2.1, .int .u32 x121.2.2.2.1, .int .u64 x121.2.2.2.2.1, .int .u64 x121.2.2.2.2.2.1] fun w123 =>
  LoadA w123 ⟨b1, 0, none⟩ [.int .i64, .int .i64, .int .i64, .int .i64, .int .i64, .int .i64, .sl, .sl, .bool, .int .i64, .sl, .sl] fun (x124 : Int × Int × Int × Int × Int × Int × SlV × SlV × Bool × Int × SlV × SlV × Unit) =>
  StoreV w123 ⟨b5, 0, none⟩ [.int .i64 x124.1, .int .i64 x124.2.1, .int .i64 x124.2.2.1, .int .i64 x124.2.2.2.1, .int .i64 x124.2.2.2.2.1, .int .i64 x124.2.2.2.2.2.1, .slice x124.2.2.2.2.2.2.1.a x124.2.2.2.2.2.2.1.n x124.2.2.2.2.2.2.1.c, .slice x124.2.2.2.2.2.2.2.1.a x124.2.2.2.2.2.2.2.1.n x124.2.2.2.2.2.2.2.1.c, .bool x124.2.2.2.2.2.2.2.2.1, .int .i64 x124.2.2.2.2.2.2.2.2.2.1, .slice x124.2.2.2.2.2.2.2.2.2.2.1.a x124.2.2.2.2.2.2.2.2.2.2.1.n x124.2.2.2.2.2.2.2.2.2.2.1.c, .slice x124.2.2.2.2.2.2.2.2.2.2.2.1.a x124.2.2.2.2.2.2.2.2.2.2.2.1.n x124.2.2.2.2.2.2.2.2.2.2.2.1.c, .int .i64 r11.1, .int .i64 0] fun w125 =>
  LoadA w125 ⟨b5, 0, none⟩ [.int .i64, .int .i64, .int .i64, .int .i64, .int .i64, .int .i64, .sl, .sl, .bool, .int .i64, .sl, .sl, .int .i64, .int .i64] fun (x126 : Int × Int × Int × Int × Int × Int × SlV × SlV × Bool × Int × SlV × SlV × Int × Int × Unit) =>
  K ((x126.1, x126.2.1, x126.2.2.1, x126.2.2.2.1, x126.2.2.2.2.1, x126.2.2.2.2.2.1, x126.2.2.2.2.2.2.1, x126.2.2.2.2.2.2.2.1, x126.2.2.2.2.2.2.2.2.1, x126.2.2.2.2.2.2.2.2.2.1, x126.2.2.2.2.2.2.2.2.2.2.1, x126.2.2.2.2.2.2.2.2.2.2.2.1, x126.2.2.2.2.2.2.2.2.2.2.2.2.1, x126.2.2.2.2.2.2.2.2.2.2.2.2.2.1, ()), ()) w125)
  (LoadA w103 ⟨b1, 0, none⟩ [.int .i64, .int .i64, .int .i64, .int .i64, .int .i64, .int .i64, .sl, .sl, .bool, .int .i64, .sl, .sl] fun (x127 : Int × Int × Int × Int × Int × Int × SlV × SlV × Bool × Int × SlV × SlV × Unit) =>
  CallV Tryz.prog 80 #[.agg #[.int .i64 x127.1, .int .i64 x127.2.1, .int .i64 x127.2.2.1, .int .i64 x127.2.2.2.1, .int .i64 x127.2.2.2.2.1, .int .i64 x127.2.2.2.2.2.1, .slice x127.2.2.2.2.2.2.1.a x127.2.2.2.2.2.2.1.n x127.2.2.2.2.2.2.1.c, .slice x127.2.2.2.2.2.2.2.1.a x127.2.2.2.2.2.2.2.1.n x127.2.2.2.2.2.2.2.1.c, .bool x127.2.2.2.2.2.2.2.2.1, .int .i64 x127.2.2.2.2.2.2.2.2.2.1, .slice x127.2.2.2.2.2.2.2.2.2.2.1.a x127.2.2.2.2.2.2.2.2.2.2.1.n x127.2.2.2.2.2.2.2.2.2.2.1.c, .slice x127.2.2.2.2.2.2.2.2.2.2.2.1.a x127.2.2.2.2.2.2.2.2.2.2.2.1.n x127.2.2.2.2.2.2.2.2.2.2.2.1.c], .int .i64 r11.1, .int .i64 4, .int .i64 0] w103 [.agg [.int .i64, .int .i64, .int .i64, .int .i64, .int .i64, .int .i64, .sl, .sl, .bool, .int .i64, .sl, .sl]] fun (r128 : (Int × Int × Int × Int × Int × Int × SlV × SlV × Bool × Int × SlV × SlV × Unit) × Unit) w129 =>
  StoreV w129 ⟨b1, 0, none⟩ [.int .i64 r128.1.1, .int .i64 r128.1.2.1, .int .i64 r128.1.2.2.1, .int .i64 r128.1.2.2.2.1, .int .i64 r128.1.2.2.2.2.1, .int .i64 r128.1.2.2.2.2.2.1, .slice r128.1.2.2.2.2.2.2.1.a r128.1.2.2.2.2.2.2.1.n r128.1.2.2.2.2.2.2.1.c, .slice r128.1.2.2.2.2.2.2.2.1.a r128.1.2.2.2.2.2.2.2.1.n r128.1.2.2.2.2.2.2.2.1.c, .bool r128.1.2.2.2.2.2.2.2.2.1, .int .i64 r128.1.2.2.2.2.2.2.2.2.2.1, .slice r128.1.2.2.2.2.2.2.2.2.2.2.1.a r128.1.2.2.2.2.2.2.2.2.2.2.1.n r128.1.2.2.2.2.2.2.2.2.2.2.1.c, .slice r128.1.2.2.2.2.2.2.2.2.2.2.2.1.a r128.1.2.2.2.2.2.2.2.2.2.2.2.1.n r128.1.2.2.2.2.2.2.2.2.2.2.2.1.c] fun w130 =>
  LoadA w130 ⟨b1, 0, none⟩ [.int .i64, .int .i64, .int .i64, .int .i64, .int .i64, .int .i64, .sl, .sl, .bool, .int .i64, .sl, .sl] fun (x131 : Int × Int × Int × Int × Int × Int × SlV × SlV × Bool × Int × SlV × SlV × Unit) =>
  CallV Tryz.prog 36 #[.agg #[.int .i64 x131.1, .int .i64 x131.2.1, .int .i64 x131.2.2.1, .int .i64 x131.2.2.2.1, .int .i64 x131.2.2.2.2.1, .int .i64 x131.2.2.2.2.2.1, .slice x131.2.2.2.2.2.2.1.a x131.2.2.2.2.2.2.1.n x131.2.2.2.2.2.2.1.c, .slice x131.2.2.2.2.2.2.2.1.a x131.2.2.2.2.2.2.2.1.n x131.2.2.2.2.2.2.2.1.c, .bool x131.2.2.2.2.2.2.2.2.1, .int .i64 x131.2.2.2.2.2.2.2.2.2.1, .slice x131.2.2.2.2.2.2.2.2.2.2.1.a x131.2.2.2.2.2.2.2.2.2.2.1.n x131.2.2.2.2.2.2.2.2.2.2.1.c, .slice x131.2.2.2.2.2.2.2.2.2.2.2.1.a x131.2.2.2.2.2.2.2.2.2.2.2.1.n x131.2.2.2.2.2.2.2.2.2.2.2.1.c], .int .i64 r11.1] w130 [.agg [.int .i64, .int .i64, .int .i64, .int .i64, .int .i64, .int .i64, .sl, .sl, .bool, .int .i64, .sl, .sl], .one (.int .i64)] fun (r132 : (Int × Int × Int × Int × Int × Int × SlV × SlV × Bool × Int × SlV × SlV × Unit) × Int × Unit) w133 =>
  NewV #[.int .i64 0, .int .i64 0, .int .i64 0, .int .i64 0, .int .i64 0, .int .i64 0, .slice none 0 0, .slice none 0 0, .bool false, .int .i64 0, .slice none 0 0, .slice none 0 0] 38 w133 fun b134 w135 =>
  StoreV w135 ⟨b134, 0, none⟩ [.int .i64 r132.1.1, .int .i64 r132.1.2.1, .int .i64 r132.1.2.2.1, .int .i64 r132.1.2.2.2.1, .int .i64 r132.1.2.2.2.2.1, .int .i64 r132.1.2.2.2.2.2.1, .slice r132.1.2.2.2.2.2.2.1.a r132.1.2.2.2.2.2.2.1.n r132.1.2.2.2.2.2.2.1.c, .slice r132.1.2.2.2.2.2.2.2.1.a r132.1.2.2.2.2.2.2.2.1.n r132.1.2.2.2.2.2.2.2.1.c, .bool r132.1.2.2.2.2.2.2.2.2.1, .int .i64 r132.1.2.2.2.2.2.2.2.2.2.1, .slice r132.1.2.2.2.2.2.2.2.2.2.2.1.a r132.1.2.2.2.2.2.2.2.2.2.2.1.n r132.1.2.2.2.2.2.2.2.2.2.2.1.c, .slice r132.1.2.2.2.2.2.2.2.2.2.2.2.1.a r132.1.2.2.2.2.2.2.2.2.2.2.2.1.n r132.1.2.2.2.2.2.2.2.2.2.2.2.1.c] fun w136 =>
  LoadA w136 ⟨b134, 0, none⟩ [.int .i64, .int .i64, .int .i64, .int .i64, .int .i64, .int .i64, .sl, .sl, .bool, .int .i64, .sl, .sl] fun (x137 : Int × Int × Int × Int × Int × Int × SlV × SlV × Bool × Int × SlV × SlV × Unit) =>
  StoreV w136 ⟨b1, 0, none⟩ [.int .i64 x137.1, .int .i64 x137.2.1, .int .i64 x137.2.2.1, .int .i64 x137.2.2.2.1, .int .i64 x137.2.2.2.2.1, .int .i64 x137.2.2.2.2.2.1, .slice x137.2.2.2.2.2.2.1.a x137.2.2.2.2.2.2.1.n x137.2.2.2.2.2.2.1.c, .slice x137.2.2.2.2.2.2.2.1.a x137.2.2.2.2.2.2.2.1.n x137.2.2.2.2.2.2.2.1.c, .bool x137.2.2.2.2.2.2.2.2.1, .int .i64 x137.2.2.2.2.2.2.2.2.2.1, .slice x137.2.2.2.2.2.2.2.2.2.2.1.a x137.2.2.2.2.2.2.2.2.2.2.1.n x137.2.2.2.2.2.2.2.2.2.2.1.c, .slice x137.2.2.2.2.2.2.2.2.2.2.2.1.a x137.2.2.2.2.2.2.2.2.2.2.2.1.n x137.2.2.2.2.2.2.2.2.2.2.2.1.c] fun w138 =>
  cond (r132.2.1 == 4)
  (LoadA w138 ⟨b1, 0, none⟩ [.int .i64, .int .i64, .int .i64, .int .i64, .int .i64, .int .i64, .sl, .sl, .bool, .int .i64, .sl, .sl] fun (x139 : Int × Int × Int × Int × Int × Int × SlV × SlV × Bool × Int × SlV × SlV × Unit) =>
  StoreV w138 ⟨b5, 0, none⟩ [.int .i64 x139.1, .int .i64 x139.2.1, .int .i64 x139.2.2.1, .int .i64 x139.2.2.2.1, .int .i64 x139.2.2.2.2.1, .int .i64 x139.2.2.2.2.2.1, .slice x139.2.2.2.2.2.2.1.a x139.2.2.2.2.2.2.1.n x139.2.2.2.2.2.2.1.c, .slice x139.2.2.2.2.2.2.2.1.a x139.2.2.2.2.2.2.2.1.n x139.2.2.2.2.2.2.2.1.c, .bool x139.2.2.2.2.2.2.2.2.1, .int .i64 x139.2.2.2.2.2.2.2.2.2.1, .slice x139.2.2.2.2.2.2.2.2.2.2.1.a x139.2.2.2.2.2.2.2.2.2.2.1.n x139.2.2.2.2.2.2.2.2.2.2.1.c, .slice x139.2.2.2.2.2.2.2.2.2.2.2.1.a x139.2.2.2.2.2.2.2.2.2.2.2.1.n x139.2.2.2.2.2.2.2.2.2.2.2.1.c, .int .i64 0, .int .i64 r132.2.1] fun w140 =>
  LoadA w140 ⟨b5, 0, none⟩ [.int .i64, .int .i64, .int .i64, .int .i64, .int .i64, .int .i64, .sl, .sl, .bool, .int .i64, .sl, .sl, .int .i64, .int .i64] fun (x141 : Int × Int × Int × Int × Int × Int × SlV × SlV × Bool × Int × SlV × SlV × Int × Int × Unit) =>
  K ((x141.1, x141.2.1, x141.2.2.1, x141.2.2.2.1, x141.2.2.2.2.1, x141.2.2.2.2.2.1, x141.2.2.2.2.2.2.1, x141.2.2.2.2.2.2.2.1, x141.2.2.2.2.2.2.2.2.1, x141.2.2.2.2.2.2.2.2.2.1, x141.2.2.2.2.2.2.2.2.2.2.1, x141.2.2.2.2.2.2.2.2.2.2.2.1, x141.2.2.2.2.2.2.2.2.2.2.2.2.1, x141.2.2.2.2.2.2.2.2.2.2.2.2.2.1, ()), ()) w140)
  (Rng .i64 (z7.1 + 1) ∧
  K9 (z7.1 + 1, ()) w138))))))))))
  (LoadA w8 ⟨b1, 0, none⟩ [.int .i64, .int .i64, .int .i64, .int .i64, .int .i64, .int .i64, .sl, .sl, .bool, .int .i64, .sl, .sl] fun (x142 : Int × Int × Int × Int × Int × Int × SlV × SlV × Bool × Int × SlV × SlV × Unit) =>
  StoreV w8 ⟨b5, 0, none⟩ [.int .i64 x142.1, .int .i64 x142.2.1, .int .i64 x142.2.2.1, .int .i64 x142.2.2.2.1, .int .i64 x142.2.2.2.2.1, .int .i64 x142.2.2.2.2.2.1, .slice x142.2.2.2.2.2.2.1.a x142.2.2.2.2.2.2.1.n x142.2.2.2.2.2.2.1.c, .slice x142.2.2.2.2.2.2.2.1.a x142.2.2.2.2.2.2.2.1.n x142.2.2.2.2.2.2.2.1.c, .bool x142.2.2.2.2.2.2.2.2.1, .int .i64 x142.2.2.2.2.2.2.2.2.2.1, .slice x142.2.2.2.2.2.2.2.2.2.2.1.a x142.2.2.2.2.2.2.2.2.2.2.1.n x142.2.2.2.2.2.2.2.2.2.2.1.c, .slice x142.2.2.2.2.2.2.2.2.2.2.2.1.a x142.2.2.2.2.2.2.2.2.2.2.2.1.n x142.2.2.2.2.2.2.2.2.2.2.2.1.c, .int .i64 0, .int .i64 19] fun w143 =>
  LoadA w143 ⟨b5, 0, none⟩ [.int .i64, .int .i64, .int .i64, .int .i64, .int .i64, .int .i64, .sl, .sl, .bool, .int .i64, .sl, .sl, .int .i64, .int .i64] fun (x144 : Int × Int × Int × Int × Int × Int × SlV × SlV × Bool × Int × SlV × SlV × Int × Int × Unit) =>
  K ((x144.1, x144.2.1, x144.2.2.1, x144.2.2.2.1, x144.2.2.2.2.1, x144.2.2.2.2.2.1, x144.2.2.2.2.2.2.1, x144.2.2.2.2.2.2.2.1, x144.2.2.2.2.2.2.2.2.1, x144.2.2.2.2.2.2.2.2.2.1, x144.2.2.2.2.2.2.2.2.2.2.1, x144.2.2.2.2.2.2.2.2.2.2.2.1, x144.2.2.2.2.2.2.2.2.2.2.2.2.1, x144.2.2.2.2.2.2.2.2.2.2.2.2.2.1, ()), ()) w143)
theorem ref24_Open.vc (p0_0 p0_1 p0_2 p0_3 p0_4 p0_5 : Int) (a0_6 : Option Addr) (n0_6 c0_6 : Nat) (a0_7 : Option Addr) (n0_7 c0_7 : Nat) (p0_8 : Bool) (p0_9 : Int) (a0_10 : Option Addr) (n0_10 c0_10 : Nat) (a0_11 : Option Addr) (n0_11 c0_11 : Nat) (p1 p2_0 p2_1 p2_2 p2_3 p2_4 p2_5 : Int) (p3 : Bool) (w : World) (K : (Int × Int × Int × Int × Int × Int × SlV × SlV × Bool × Int × SlV × SlV × Int × Int × Unit) × Unit → World → Prop) (h : ref24_Open.P p0_0 p0_1 p0_2 p0_3 p0_4 p0_5 a0_6 n0_6 c0_6 a0_7 n0_7 c0_7 p0_8 p0_9 a0_10 n0_10 c0_10 a0_11 n0_11 c0_11 p1 p2_0 p2_1 p2_2 p2_3 p2_4 p2_5 p3 w K) : CallV Tryz.prog 83 #[.agg #[.int .i64 p0_0, .int .i64 p0_1, .int .i64 p0_2, .int .i64 p0_3, .int .i64 p0_4, .int .i64 p0_5, .slice a0_6 n0_6 c0_6, .slice a0_7 n0_7 c0_7, .bool p0_8, .int .i64 p0_9, .slice a0_10 n0_10 c0_10, .slice a0_11 n0_11 c0_11], .int .i64 p1, .agg #[.int .i64 p2_0, .int .i64 p2_1, .int .i64 p2_2, .int .u32 p2_3, .int .u64 p2_4, .int .u64 p2_5], .bool p3] w [.agg [.int .i64, .int .i64, .int .i64, .int .i64, .int .i64, .int .i64, .sl, .sl, .bool, .int .i64, .sl, .sl, .int .i64, .int .i64]] K := by
  refine vcFun.of (A := ref24_Open.A) (wr := false) okf_ok follows h Tryz.func83 ?_
  kernel_rfl
end Go.Proofs.YtlpeoaphdmfjdaaGreat.Vc
/-! The contracts of layer 24: the document's pool: a block changed, destroyed. -/
namespace Go.Proofs.YtlpeoaphdmfjdaaGreat.Vc
open Go Go.Eng Go.RowKit
abbrev plV (B : SlP TBd.T) (f : SlP TF.T) (C : CD) (l o : SlV) : List Value := [.int .i64 C.g.b, .int .i64 C.g.p, .int .i64 C.g.s, .int .i64 C.g.sp, .int .i64 C.g.wr, .int .i64 C.g.ro, .slice B.a B.n B.c, .slice f.a f.n f.c, .bool C.off, .int .i64 (C.ops : Int), .slice l.a l.n l.c, .slice o.a o.n o.c]
abbrev plVal (B : SlP TBd.T) (f : SlP TF.T) (C : CD) (l o : SlV) : Value := .agg #[.int .i64 C.g.b, .int .i64 C.g.p, .int .i64 C.g.s, .int .i64 C.g.sp, .int .i64 C.g.wr, .int .i64 C.g.ro, .slice B.a B.n B.c, .slice f.a f.n f.c, .bool C.off, .int .i64 (C.ops : Int), .slice l.a l.n l.c, .slice o.a o.n o.c]
abbrev plT (B : SlP TBd.T) (f : SlP TF.T) (C : CD) (l o : SlV) : Int × Int × Int × Int × Int × Int × SlV × SlV × Bool × Int × SlV × SlV × Unit := (C.g.b, C.g.p, C.g.s, C.g.sp, C.g.wr, C.g.ro, ⟨B.a, B.n, B.c⟩, ⟨f.a, f.n, f.c⟩, C.off, (C.ops : Int), l, o, ())
abbrev zPL : List Value := [.int .i64 0, .int .i64 0, .int .i64 0, .int .i64 0, .int .i64 0, .int .i64 0, .slice none 0 0, .slice none 0 0, .bool false, .int .i64 0, .slice none 0 0, .slice none 0 0]
abbrev SH12 : List SS := [.int .i64, .int .i64, .int .i64, .int .i64, .int .i64, .int .i64, .sl, .sl, .bool, .int .i64, .sl, .sl]
abbrev rpS (B : SlP TBd.T) (l o : SlV) (L : List Blk) (O : List Hd) (Rs : List Asr) : List Asr := RdT (Ty.sl TBd) B :: OwnA 103 9 l.a l.n l.c (bvs L) :: OwnA 46 6 o.a o.n o.c (O.flatMap Hd.vs) :: Rs
section
variable {E : Nat → Prop} {w0 w w' : World} {Rs : List Asr}
theorem _root_.Go.Eng.Sep.sp (i : Nat) {b : Nat} {e : TypeId} {vs news vs' : List Value} (S : Sep E w0 w Rs) (hi : Rs[i]? = some (BoxA b e vs)) (hl : Nat.ble news.length vs.length = true) (he : news ++ vs.drop news.length = vs') {K : World → Prop}
    (hk : ∀ w', Sep E w0 w' (Rs.set i (BoxA b e vs')) → Fr (fun k => k = b) w w' → K w') : StoreV w ⟨b, 0, none⟩ news K := by
  refine S.store i hi 0 (by have := Nat.le_of_ble_eq_true hl; omega) fun w' S' f => hk w' ?_ f
  rw [← he]
  simpa using S'
theorem Fr.box {b : Nat} (h : Fr NoB w0 w) (hz : w0.heap.size ≤ b) (f : Fr (fun k => k = b) w w') : Fr NoB w0 w' := h.trans' f fun i hi => .inr (by rw [hi]; exact hz)
theorem Fr.nw {b : Nat} (h : Fr NoB w0 w) (hz : w.heap.size ≤ b) : w0.heap.size ≤ b := Nat.le_trans h.size hz
theorem LF_in {f : SlP TF.T} (hf : LF.rd w0 (fun k => ¬ E k) f) (S : Sep E w0 w Rs) : LF.rd w All f := LF.rd_mono (fun _ _ _ => trivial) (LF.rd_kp (fun k hk hl => S.fr.block k hl hk) hf)
end
theorem Do24_c {w : World} {x : Blk} {k n : Int} (hx : 0 ≤ x.er ∧ x.er ≤ 1000000000) (hk1 : 1 ≤ k ∧ k ≤ 5) :
    CallV Tryz.prog 43 #[x.val, .int .i64 k, .int .i64 n] w [.agg [.int .i64, .int .i64, .int .i64, .int .i64, .bool, .bool, .bool, .bool, .bool]] fun r w' => r.1 = (doB k n x).tup ∧ Ext w w' := by
  apply ref21_Do.vc
  unfold ref21_Do.P doB
  have S := Sep.start NoB w
  refine S.newB fun b1 w1 S f1 _ => ?_
  refine S.newB fun b3 w3 S f3 _ => ?_
  refine cond_eq (fun hk => ?_) (fun hk => ?_)
  · rw [if_pos hk]
    (repeat ((first | refine S.newB fun _ _ S f _ => ?_ | refine S.la0 rfl ?_ | refine S.la1 rfl ?_ | refine S.la2 rfl ?_ | refine S.la3 rfl ?_ | refine S.la4 rfl ?_ | refine S.la5 rfl ?_ | refine S.ld0 rfl rfl ?_ | refine S.ld1 rfl rfl ?_ | refine S.ld2 rfl rfl ?_ | refine S.ld3 rfl rfl ?_ | refine S.ld4 rfl rfl ?_ | refine S.ld5 rfl rfl ?_ | refine S.st0 (by rfl) fun _ S f => ?_ | refine S.st1 (by rfl) fun _ S f => ?_ | refine S.st2 (by rfl) fun _ S f => ?_ | refine S.st3 (by rfl) fun _ S f => ?_ | refine S.st4 (by rfl) fun _ S f => ?_ | refine S.st5 (by rfl) fun _ S f => ?_ | refine S.su0 (by rfl) fun _ S f => ?_ | refine S.su1 (by rfl) fun _ S f => ?_ | refine S.su2 (by rfl) fun _ S f => ?_ | refine S.su3 (by rfl) fun _ S f => ?_ | refine S.su4 (by rfl) fun _ S f => ?_ | refine S.su5 (by rfl) fun _ S f => ?_ | refine ⟨by decide, ?_⟩); try dsimp only [List.set_cons_zero, List.set_cons_succ, cond_true, cond_false, Bool.not_true, Bool.not_false]))
    exact ⟨rfl, S.ext⟩
  rw [if_neg hk]
  refine cond_eq (fun hk => ?_) (fun hk => ?_)
  · rw [if_pos hk]
    (repeat ((first | refine S.newB fun _ _ S f _ => ?_ | refine S.la0 rfl ?_ | refine S.la1 rfl ?_ | refine S.la2 rfl ?_ | refine S.la3 rfl ?_ | refine S.la4 rfl ?_ | refine S.la5 rfl ?_ | refine S.ld0 rfl rfl ?_ | refine S.ld1 rfl rfl ?_ | refine S.ld2 rfl rfl ?_ | refine S.ld3 rfl rfl ?_ | refine S.ld4 rfl rfl ?_ | refine S.ld5 rfl rfl ?_ | refine S.st0 (by rfl) fun _ S f => ?_ | refine S.st1 (by rfl) fun _ S f => ?_ | refine S.st2 (by rfl) fun _ S f => ?_ | refine S.st3 (by rfl) fun _ S f => ?_ | refine S.st4 (by rfl) fun _ S f => ?_ | refine S.st5 (by rfl) fun _ S f => ?_ | refine S.su0 (by rfl) fun _ S f => ?_ | refine S.su1 (by rfl) fun _ S f => ?_ | refine S.su2 (by rfl) fun _ S f => ?_ | refine S.su3 (by rfl) fun _ S f => ?_ | refine S.su4 (by rfl) fun _ S f => ?_ | refine S.su5 (by rfl) fun _ S f => ?_ | refine ⟨by decide, ?_⟩); try dsimp only [List.set_cons_zero, List.set_cons_succ, cond_true, cond_false, Bool.not_true, Bool.not_false]))
    exact ⟨rfl, S.ext⟩
  rw [if_neg hk]
  refine cond_eq (fun hk => ?_) (fun hk => ?_)
  · rw [if_pos hk]
    refine S.ld1 rfl rfl ⟨Rng.i64 (by omega) (by omega), S.ld1 rfl rfl ?_⟩
    (repeat ((first | refine S.newB fun _ _ S f _ => ?_ | refine S.la0 rfl ?_ | refine S.la1 rfl ?_ | refine S.la2 rfl ?_ | refine S.la3 rfl ?_ | refine S.la4 rfl ?_ | refine S.la5 rfl ?_ | refine S.ld0 rfl rfl ?_ | refine S.ld1 rfl rfl ?_ | refine S.ld2 rfl rfl ?_ | refine S.ld3 rfl rfl ?_ | refine S.ld4 rfl rfl ?_ | refine S.ld5 rfl rfl ?_ | refine S.st0 (by rfl) fun _ S f => ?_ | refine S.st1 (by rfl) fun _ S f => ?_ | refine S.st2 (by rfl) fun _ S f => ?_ | refine S.st3 (by rfl) fun _ S f => ?_ | refine S.st4 (by rfl) fun _ S f => ?_ | refine S.st5 (by rfl) fun _ S f => ?_ | refine S.su0 (by rfl) fun _ S f => ?_ | refine S.su1 (by rfl) fun _ S f => ?_ | refine S.su2 (by rfl) fun _ S f => ?_ | refine S.su3 (by rfl) fun _ S f => ?_ | refine S.su4 (by rfl) fun _ S f => ?_ | refine S.su5 (by rfl) fun _ S f => ?_ | refine ⟨by decide, ?_⟩); try dsimp only [List.set_cons_zero, List.set_cons_succ, cond_true, cond_false, Bool.not_true, Bool.not_false]))
    exact ⟨rfl, S.ext⟩
  rw [if_neg hk]
  refine cond_eq (fun hk => ?_) (fun hk => ?_)
  · rw [if_pos hk]
    (repeat ((first | refine S.newB fun _ _ S f _ => ?_ | refine S.la0 rfl ?_ | refine S.la1 rfl ?_ | refine S.la2 rfl ?_ | refine S.la3 rfl ?_ | refine S.la4 rfl ?_ | refine S.la5 rfl ?_ | refine S.ld0 rfl rfl ?_ | refine S.ld1 rfl rfl ?_ | refine S.ld2 rfl rfl ?_ | refine S.ld3 rfl rfl ?_ | refine S.ld4 rfl rfl ?_ | refine S.ld5 rfl rfl ?_ | refine S.st0 (by rfl) fun _ S f => ?_ | refine S.st1 (by rfl) fun _ S f => ?_ | refine S.st2 (by rfl) fun _ S f => ?_ | refine S.st3 (by rfl) fun _ S f => ?_ | refine S.st4 (by rfl) fun _ S f => ?_ | refine S.st5 (by rfl) fun _ S f => ?_ | refine S.su0 (by rfl) fun _ S f => ?_ | refine S.su1 (by rfl) fun _ S f => ?_ | refine S.su2 (by rfl) fun _ S f => ?_ | refine S.su3 (by rfl) fun _ S f => ?_ | refine S.su4 (by rfl) fun _ S f => ?_ | refine S.su5 (by rfl) fun _ S f => ?_ | refine ⟨by decide, ?_⟩); try dsimp only [List.set_cons_zero, List.set_cons_succ, cond_true, cond_false, Bool.not_true, Bool.not_false]))
    exact ⟨rfl, S.ext⟩
  rw [if_neg hk]
  refine cond_eq (fun hk => ?_) (fun hk => ?_)
  · rw [if_pos hk]
    (repeat ((first | refine S.newB fun _ _ S f _ => ?_ | refine S.la0 rfl ?_ | refine S.la1 rfl ?_ | refine S.la2 rfl ?_ | refine S.la3 rfl ?_ | refine S.la4 rfl ?_ | refine S.la5 rfl ?_ | refine S.ld0 rfl rfl ?_ | refine S.ld1 rfl rfl ?_ | refine S.ld2 rfl rfl ?_ | refine S.ld3 rfl rfl ?_ | refine S.ld4 rfl rfl ?_ | refine S.ld5 rfl rfl ?_ | refine S.st0 (by rfl) fun _ S f => ?_ | refine S.st1 (by rfl) fun _ S f => ?_ | refine S.st2 (by rfl) fun _ S f => ?_ | refine S.st3 (by rfl) fun _ S f => ?_ | refine S.st4 (by rfl) fun _ S f => ?_ | refine S.st5 (by rfl) fun _ S f => ?_ | refine S.su0 (by rfl) fun _ S f => ?_ | refine S.su1 (by rfl) fun _ S f => ?_ | refine S.su2 (by rfl) fun _ S f => ?_ | refine S.su3 (by rfl) fun _ S f => ?_ | refine S.su4 (by rfl) fun _ S f => ?_ | refine S.su5 (by rfl) fun _ S f => ?_ | refine ⟨by decide, ?_⟩); try dsimp only [List.set_cons_zero, List.set_cons_succ, cond_true, cond_false, Bool.not_true, Bool.not_false]))
    refine ⟨?_, S.ext⟩
    show _ = (sB (n == 1) x).tup
    unfold sB
    rfl
  omega
section
variable {E : Nat → Prop} {w0 w : World} {g : Geo} {n : Nat} {C : CD} {L : List Blk} {O : List Hd} {B : SlP TBd.T} {f : SlP TF.T} {l o : SlV} {Rs : List Asr}
theorem rp_n (S : Sep E w0 w (rpS B l o L O Rs)) : l.n = L.length ∧ o.n = O.length := by
  have h1 := (S.own 1 rfl).len
  have h2 := (S.own 2 rfl).len
  rw [bvs_len] at h1
  rw [flatF_len Hdv_len] at h2
  exact ⟨by omega, by omega⟩
theorem with24_c {b kd m : Int} (hb : 0 ≤ b ∧ b < (L.length : Int)) (hl : L.length ≤ 100) (hk : 1 ≤ kd ∧ kd ≤ 5) (her : ∀ x ∈ L, 0 ≤ x.er ∧ x.er ≤ 1000000000) (S : Sep E w0 w (rpS B l o L O Rs)) :
    CallV Tryz.prog 80 #[plVal B f C l o, .int .i64 b, .int .i64 kd, .int .i64 m] w [.agg SH12] fun r w' =>
      ∃ l' : SlV, r.1 = plT B f C l' o ∧ Sep E w0 w' (rpS B l' o (L.set b.toNat (doB kd m (gx L b.toNat))) O Rs) := by
  apply ref24_with.vc
  unfold ref24_with.P
  obtain ⟨hln, -⟩ := rp_n S
  refine S.newB fun b1 w1 S f1 _ => ?_
  refine S.newB fun b3 w3 S f3 _ => ?_
  refine S.newB fun b5 w5 S f5 _ => ?_
  have S := S.asOwn (sz := 9) (n := 0) rfl (by omega) oneAll.nil
  refine S.ld2 (j := 10) rfl rfl ?_
  have ho := S.own 4 rfl
  refine AppS.of (news := bvs L) (by rw [bvs_len, hln]) ho.rd ?_
  refine S.ap0 (by rw [bvs_len, hln]) (bvs_one L) (by dsimp only; omega) (by dsimp only; omega) fun a' c' w6 S f6 => ?_
  dsimp only [List.nil_append] at S ⊢
  rw [Nat.zero_add] at S ⊢
  obtain ⟨q, hq, hc, hqb⟩ := nthB (i := b) 0 S rfl hb.1 (by omega)
  refine ⟨⟨hb.1, by omega⟩, q, hq, (gx L b.toNat).tup, hc, ?_⟩
  have hx := her (gx L b.toNat) (List.mem_of_getElem? (some_getD (by omega)))
  refine (Do24_c (n := m) hx hk).mono ?_
  rintro ⟨x, ⟨⟩⟩ w7 ⟨h7, x7⟩
  dsimp only at h7 ⊢
  subst h7
  have S := S.stepE x7
  refine ⟨⟨hb.1, by omega⟩, S.putF (f := Blk.vs) (fun _ => rfl) vs_one (by decide) ⟨hb.1, by omega⟩ (doB kd m (gx L b.toNat)) fun w8 S f8 => ?_⟩
  refine S.su2 (by rfl) fun w9 S f9 => ?_
  dsimp only [List.set_cons_zero, List.set_cons_succ] at S
  refine S.la2 rfl (S.st1 (by rfl) fun w10 S f10 => S.la1 rfl ?_)
  exact ⟨⟨a', l.n, c'⟩, rfl, (S.fro [1, 1, 2] rfl).tail.tail.tail.fro [1] rfl⟩
theorem rDestroy24_c {b : Int} (h : PI g n C L O) (ho : C.ops + 2 ≤ 1000000) (hb : 0 ≤ b ∧ b < (n : Int)) (hdb : B.l.map bdOf = C.bs) (hf : LF.rd w0 (fun k => ¬ E k) f) (hdf : fds f = C.pl) (S : Sep E w0 w (rpS B l o L O Rs)) :
    CallV Tryz.prog 36 #[plVal B f C l o, .int .i64 b] w [.agg SH12, .one (.int .i64)] fun r w' =>
      ∃ (B' : SlP TBd.T) (l' : SlV), r.1 = plT B' f (dstP C L b).1 l' o ∧ r.2.1 = (dstP C L b).2.2 ∧ B'.l.map bdOf = (dstP C L b).1.bs ∧ Sep E w0 w' (rpS B' l' o (dstP C L b).2.1 O Rs) := by
  apply ref24_Destroy.vc
  unfold ref24_Destroy.P
  have hll := h.ll
  have hle := h.le
  have hin : inB b L.length := ⟨hb.1, by omega⟩
  have rg : Rng .i64 ((4 : Int) + b) := Rng.i64 (by omega) (by omega)
  refine S.newB fun b1 w1 S f1 _ => ?_
  refine S.newB fun b3 w3 S f3 _ => ?_
  refine S.lb1 (o := 0) rfl ⟨rg, ?_⟩
  obtain ⟨o1, o2, o3⟩ := eraC_ok h.ok (4 + b) (by omega)
  refine refCall (l := [.agg SH10, .one (.int .i64)]) (get := fun r => r.1) (C' := (eraC C (4 + b)).1) (Q := fun r => r.2.1 = (eraC C (4 + b)).2) (S.fro [2] rfl) hdb (LF_in hf S) hdf (fun H hH hR => rErase13_c hH hR h.ok (by omega)) ?_
  clear S
  rintro ⟨r1, e, ⟨⟩⟩ w5 B1 hr hq hdb1 x5 S
  dsimp only at hr hq
  subst hr; subst hq
  have S := S.fro [1, 1] rfl
  dsimp only
  refine S.newB fun b8 w6 S f6 _ => ?_
  refine S.st0 (by rfl) fun w7 S f7 => S.la0 rfl ?_
  refine S.sp 2 rfl rfl rfl fun w8 S f8 => ?_
  have S := S.tail
  clear f1 f3 f6 f7 f8
  refine cond_eq (fun (h0 : (eraC C (4 + b)).2 = 0) => ?_) (fun (h0 : (eraC C (4 + b)).2 ≠ 0) => ?_)
  · refine S.la1 rfl ?_
    refine (with24_c (b := b) (kd := 3) (m := 0) (C := (eraC C (4 + b)).1) (f := f) ⟨hb.1, by omega⟩ (by omega) (by omega) h.erL (S.fro [2, 2, 2] rfl)).mono ?_
    rintro ⟨r, ⟨⟩⟩ w9 ⟨l', hr, S⟩
    dsimp only at hr
    subst hr
    have S := S.fro [3] rfl
    refine S.st0 (by rfl) fun w10 S f10 => S.la0 rfl ?_
    unfold dstP
    rw [if_neg (by omega), if_pos h0]
    refine ⟨B1, l', rfl, rfl, hdb1, ?_⟩
    dsimp only
    unfold chL
    rw [if_pos hin]
    exact (S.fro [4] rfl).tail.tail
  refine cond_ne (fun (hne : (eraC C (4 + b)).2 ≠ 5) => ?_) (fun (hq : (eraC C (4 + b)).2 = 5) => ?_)
  · refine S.la1 rfl (S.st0 (by rfl) fun w10 S f10 => S.la0 rfl ?_)
    unfold dstP
    rw [if_neg hne, if_neg h0]
    exact ⟨B1, l, rfl, rfl, hdb1, S.tail.tail⟩
  refine S.la1 rfl ?_
  refine (with24_c (b := b) (kd := 4) (m := 0) (C := (eraC C (4 + b)).1) (f := f) ⟨hb.1, by omega⟩ (by omega) (by omega) h.erL (S.fro [2, 2, 2] rfl)).mono ?_
  clear S
  rintro ⟨r, ⟨⟩⟩ w9 ⟨l1, hr, S⟩
  dsimp only at hr
  subst hr
  have S := S.fro [3, 3] rfl
  have hL1 : L.set b.toNat (doB 4 0 (gx L b.toNat)) = chL b L.length fB L := by unfold chL; rw [if_pos hin]; rfl
  rw [hL1] at S
  refine S.st1 (by rfl) fun w10 S f10 => S.lb1 (o := 0) rfl ⟨rg, ?_⟩
  refine refCall (l := [.agg SH10, .one (.int .i64)]) (get := fun r => r.1) (C' := (scrC (eraC C (4 + b)).1 (4 + b)).1) (Q := fun r => r.2.1 = (scrC (eraC C (4 + b)).1 (4 + b)).2) (S.fro [2] rfl) hdb1 (LF_in hf S) (hdf.trans (eraC_k C (4 + b)).2.symm) (fun H hH hR => rScrub13_c hH hR o1 (by omega)) ?_
  clear S
  rintro ⟨r1, e, ⟨⟩⟩ w11 B2 hr hq2 hdb2 x11 S
  dsimp only at hr hq2
  subst hr; subst hq2
  have S := S.fro [1, 1] rfl
  dsimp only
  refine S.newB fun b28 w12 S f12 _ => ?_
  refine S.st0 (by rfl) fun w13 S f13 => S.la0 rfl ?_
  refine S.sp 2 rfl rfl rfl fun w14 S f14 => ?_
  have S := S.tail
  have her1 : ∀ x ∈ chL b L.length fB L, 0 ≤ x.er ∧ x.er ≤ 1000000000 := chL_er (fun _ => rfl) h.erL (by omega)
  have hlen1 := chL_len b L.length fB L
  unfold dstP
  rw [if_pos hq]
  refine cond_eq (fun (h4 : (scrC (eraC C (4 + b)).1 (4 + b)).2 = 4) => ?_) (fun (h4 : (scrC (eraC C (4 + b)).1 (4 + b)).2 ≠ 4) => ?_)
  · refine S.la1 rfl (S.st0 (by rfl) fun w15 S f15 => S.la0 rfl ?_)
    rw [if_pos h4]
    exact ⟨B2, l1, rfl, h4, hdb2, S.tail.tail⟩
  rw [if_neg h4]
  have fin : ∀ {mm : Int} {m : Bool}, doB 5 mm = sB m → (chL b L.length fB L).set b.toNat (doB 5 mm (gx (chL b L.length fB L) b.toNat)) = chL b L.length (sB m) (chL b L.length fB L) := fun hm => by
    conv => rhs; unfold chL
    rw [if_pos hin, hm]
    rfl
  refine cond_eq (fun (h6 : (scrC (eraC C (4 + b)).1 (4 + b)).2 = 0) => ?_) (fun (h6 : (scrC (eraC C (4 + b)).1 (4 + b)).2 ≠ 0) => ?_)
  · refine S.la1 rfl ?_
    refine (with24_c (b := b) (kd := 5) (m := 1) (C := (scrC (eraC C (4 + b)).1 (4 + b)).1) (f := f) ⟨hb.1, by omega⟩ (by omega) (by omega) her1 (S.fro [2, 2, 2] rfl)).mono ?_
    rintro ⟨r, ⟨⟩⟩ w15 ⟨l', hr, S⟩
    dsimp only at hr
    subst hr
    have S := S.fro [3, 3] rfl
    refine S.st0 (by rfl) fun w16 S f16 => S.la0 rfl ?_
    rw [fin (m := true) rfl] at S
    refine ⟨B2, l', rfl, (if_pos h6).symm, hdb2, ?_⟩
    dsimp only
    rw [h6]
    exact S.tail.tail
  · refine S.la1 rfl ?_
    refine (with24_c (b := b) (kd := 5) (m := 0) (C := (scrC (eraC C (4 + b)).1 (4 + b)).1) (f := f) ⟨hb.1, by omega⟩ (by omega) (by omega) her1 (S.fro [2, 2, 2] rfl)).mono ?_
    rintro ⟨r, ⟨⟩⟩ w15 ⟨l', hr, S⟩
    dsimp only at hr
    subst hr
    have S := S.fro [3, 3] rfl
    refine S.st0 (by rfl) fun w16 S f16 => S.la0 rfl ?_
    rw [fin (m := false) rfl] at S
    refine ⟨B2, l', rfl, (if_neg h6).symm, hdb2, ?_⟩
    dsimp only
    rw [beq_false_of_ne h6]
    exact S.tail.tail
end
end Go.Proofs.YtlpeoaphdmfjdaaGreat.Vc
/-! The contracts of layer 24: the document's pool: a page programmed, a block sealed, begun. -/
namespace Go.Proofs.YtlpeoaphdmfjdaaGreat.Vc
open Go Go.Eng Go.RowKit
section
variable {E : Nat → Prop} {w0 w : World} {g : Geo} {n : Nat} {C : CD} {L : List Blk} {O : List Hd} {B : SlP TBd.T} {f : SlP TF.T} {l o : SlV} {Rs : List Asr}
theorem rdL_ints {dd : SlP Int} (S : Sep E w0 w Rs) (i : Nat) (hi : Rs[i]? = some (RdL [dd])) : Ints w .u8 dd.a dd.n dd.c dd.l ∧ Byt dd.l := by
  obtain ⟨G, hG, -⟩ := S.get hi
  exact ⟨Ty.ints (hG _ (List.mem_singleton.2 rfl)), Ty.byt (hG _ (List.mem_singleton.2 rfl))⟩
def RpR (E : Nat → Prop) (w0 w' : World) (f : SlP TF.T) (o : SlV) (C' : CD) (L' : List Blk) (O' : List Hd) (Rs : List Asr) (l : SlV) (r : Int × Int × Int × Int × Int × Int × SlV × SlV × Bool × Int × SlV × SlV × Unit) : Prop :=
  ∃ B' : SlP TBd.T, r = plT B' f C' l o ∧ B'.l.map bdOf = C'.bs ∧ Sep E w0 w' (rpS B' l o L' O' Rs)
theorem rProgram24_c {bl pa : Int} {dd : SlP Int} (h : PI g n C L O) (ho : C.ops + 2 ≤ 1000000) (hdb : B.l.map bdOf = C.bs) (hf : LF.rd w0 (fun k => ¬ E k) f) (hdf : fds f = C.pl) (S : Sep E w0 w (rpS B l o L O (RdL [dd] :: Rs))) :
    CallV Tryz.prog 87 #[plVal B f C l o, .agg #[.int .i64 bl, .int .i64 pa], .slice dd.a dd.n dd.c] w [.agg SH12, .one (.int .i64)] fun r w' =>
      r.2.1 = (prgP C bl pa dd.l).2 ∧ RpR E w0 w' f o (prgP C bl pa dd.l).1 L O (RdL [dd] :: Rs) l r.1 ∧ Fr NoB w w' := by
  apply ref24_Program.vc
  unfold ref24_Program.P
  have Z := Fr.refl NoB w
  refine S.newB fun b1 w101 S f101 z101 => ?_
  have qb1 := Fr.nw Z z101
  have Z := Z.trans f101
  refine S.newB fun b3 w102 S f102 z102 => ?_
  have qb3 := Fr.nw Z z102
  have Z := Z.trans f102
  refine S.newB fun b5 w103 S f103 z103 => ?_
  have qb5 := Fr.nw Z z103
  have Z := Z.trans f103
  refine S.lb2 (o := 0) rfl ?_
  refine S.la1 rfl ?_
  have bx := (rdL_ints S 6 rfl).2
  have hx104 := rdL_ints S 6 rfl
  have S := S.fro [3] rfl
  refine refCall (l := [.agg SH10, .one (.int .i64)]) (get := fun r => r.1) (C' := (progC C (bl) (pa) dd.l).1) (Q := fun r => r.2.1 = (progC C (bl) (pa) dd.l).2) S hdb (LF_in hf S) hdf (fun H hH hR => rProgram13_c (bl := bl) (pa := pa) hH hR h.ok (by omega) hx104.1 hx104.2) ?_
  rintro ⟨_, _, ⟨⟩⟩ w104 B1 hr104 hq104 hdb104 x104 S
  dsimp only at hr104 hq104
  subst hr104; subst hq104
  dsimp only
  have Z := Z.trans (.of x104)
  have S := S.fro [1, 1, 1] rfl
  obtain ⟨h1, o1, o2⟩ := h.prog bl pa bx (by omega)
  unfold prgP
  refine S.newB fun b11 w105 S f105 z105 => ?_
  have qb11 := Fr.nw Z z105
  have Z := Z.trans f105
  refine S.st0 (by rfl) fun w106 S f106 => ?_
  have Z := Fr.box Z qb11 f106
  refine S.la0 rfl ?_
  refine S.sp 3 rfl rfl rfl fun w107 S f107 => ?_
  dsimp only [List.set_cons_zero, List.set_cons_succ] at S
  have Z := Fr.box Z qb1 f107
  have S := (S.fro [] rfl).tail
  refine cond_ne (fun (hne : (progC C bl pa dd.l).2 ≠ 0) => ?_) (fun (h0 : (progC C bl pa dd.l).2 = 0) => ?_)
  · refine S.la2 rfl ?_
    refine S.st0 (by rfl) fun w108 S f108 => ?_
    have Z := Fr.box Z qb5 f108
    refine S.la0 rfl ?_
    rw [if_neg hne]
    have S := (S.fro [] rfl).tail.tail.tail
    exact ⟨rfl, ⟨B1, rfl, hdb104, S⟩, Z⟩
  rw [if_pos h0]
  have hR : Right (progC C bl pa dd.l).1.g := h1.ok.g
  have hg1 : (progC C bl pa dd.l).1.g = C.g := (progC_k C bl pa dd.l).1
  have hdf1 : fds f = (progC C bl pa dd.l).1.pl := hdf.trans (progC_k C bl pa dd.l).2.symm
  rw [← hg1]
  generalize (progC C bl pa dd.l).1 = C1 at *
  refine S.reg fun D hD hkeep S T => ?_
  have X := T.fr
  have Z := Z.trans (.drew _ _)
  clear T
  refine ⟨hD _ S.bl2, S.lb2 (o := 0) rfl ⟨hD _ S.bl1, S.la1 rfl ⟨hD _ S.bl2, S.lb2 (o := 0) rfl ?_⟩⟩⟩
  refine ⟨?_, ?_⟩
  · refine (rCommit15_c (g := C1.g) hR).mono ?_
    rintro ⟨⟨va, vn, vc⟩, ⟨⟩⟩ w109 r109
    dsimp only at r109 ⊢
    have S := res_rdL S r109 (comL_byt C1.g)
    have X := X.trans (.of r109.ext)
    refine ⟨hkeep _ X, ?_⟩
    have Z := Z.trans (.of r109.ext)
    refine ⟨?_, ?_⟩
    · have hx110 := rdL_ints S 0 rfl
      have S := S.fro [4] rfl
      refine refCall (l := [.agg SH10, .one (.int .i64)]) (get := fun r => r.1) (C' := (progC C1 (bl) (pa) (comL C1.g)).1) (Q := fun r => r.2.1 = (progC C1 (bl) (pa) (comL C1.g)).2) S hdb104 (LF_in hf S) hdf1 (fun H hH hR => rProgram13_c (bl := bl) (pa := pa) hH hR h1.ok (by omega) hx110.1 hx110.2) ?_
      rintro ⟨_, _, ⟨⟩⟩ w110 B2 hr110 hq110 hdb110 x110 S
      dsimp only at hr110 hq110
      subst hr110; subst hq110
      dsimp only
      have Z := Z.trans (.of x110)
      have X := X.trans (.of x110)
      refine ⟨hkeep _ X, ?_⟩
      have S := S.fro [1, 1, 1, 1] rfl
      refine S.newB fun bx w111 S f111 z111 => ?_
      have qbx := Fr.nw Z z111
      have Z := Z.trans f111
      have ybx := Fr.nw X z111
      have X := X.trans f111
      refine ⟨hkeep _ X, ?_⟩
      refine S.st0 (by rfl) fun w112 S f112 => ?_
      have Z := Fr.box Z qbx f112
      have X := Fr.box X ybx f112
      refine ⟨hkeep _ X, ?_⟩
      refine S.la0 rfl ?_
      refine S.sp 4 rfl rfl rfl fun w113 S f113 => ?_
      dsimp only [List.set_cons_zero, List.set_cons_succ] at S
      have Z := Fr.box Z qb1 f113
      refine S.la4 rfl ?_
      refine S.st2 (by rfl) fun w114 S f114 => ?_
      have Z := Fr.box Z qb5 f114
      refine S.la2 rfl ?_
      have S := (S.fro [] rfl).tail.tail.tail.tail.tail
      exact ⟨rfl, ⟨B2, rfl, hdb110, S⟩, Z⟩
    · refine S.newB fun bx w115 S f115 z115 => ?_
      have qbx := Fr.nw Z z115
      have Z := Z.trans f115
      have ybx := Fr.nw X z115
      have X := X.trans f115
      refine ⟨hkeep _ X, ?_⟩
      have hx116 := rdL_ints S 1 rfl
      have S := S.fro [5] rfl
      refine refCall (l := [.agg SH10, .one (.int .i64)]) (get := fun r => r.1) (C' := (progC C1 (bl) (pa) (comL C1.g)).1) (Q := fun r => r.2.1 = (progC C1 (bl) (pa) (comL C1.g)).2) S hdb104 (LF_in hf S) hdf1 (fun H hH hR => rProgram13_c (bl := bl) (pa := pa) hH hR h1.ok (by omega) hx116.1 hx116.2) ?_
      rintro ⟨_, _, ⟨⟩⟩ w116 B2 hr116 hq116 hdb116 x116 S
      dsimp only at hr116 hq116
      subst hr116; subst hq116
      dsimp only
      have Z := Z.trans (.of x116)
      have X := X.trans (.of x116)
      refine ⟨hkeep _ X, ?_⟩
      have S := S.fro [1, 1, 1, 1, 1] rfl
      refine S.st0 (by rfl) fun w117 S f117 => ?_
      have Z := Fr.box Z qbx f117
      have X := Fr.box X ybx f117
      refine ⟨hkeep _ X, ?_⟩
      refine S.la0 rfl ?_
      refine S.sp 4 rfl rfl rfl fun w118 S f118 => ?_
      dsimp only [List.set_cons_zero, List.set_cons_succ] at S
      have Z := Fr.box Z qb1 f118
      refine S.la4 rfl ?_
      refine S.st2 (by rfl) fun w119 S f119 => ?_
      have Z := Fr.box Z qb5 f119
      refine S.la2 rfl ?_
      have S := (S.fro [] rfl).tail.tail.tail.tail.tail
      exact ⟨rfl, ⟨B2, rfl, hdb116, S⟩, Z⟩
  · refine S.newB fun bx w120 S f120 z120 => ?_
    have qbx := Fr.nw Z z120
    have Z := Z.trans f120
    have ybx := Fr.nw X z120
    have X := X.trans f120
    refine ⟨hkeep _ X, ?_⟩
    refine (rCommit15_c (g := C1.g) hR).mono ?_
    rintro ⟨⟨va, vn, vc⟩, ⟨⟩⟩ w121 r121
    dsimp only at r121 ⊢
    have S := res_rdL S r121 (comL_byt C1.g)
    have X := X.trans (.of r121.ext)
    refine ⟨hkeep _ X, ?_⟩
    have Z := Z.trans (.of r121.ext)
    have hx122 := rdL_ints S 0 rfl
    have S := S.fro [5] rfl
    refine refCall (l := [.agg SH10, .one (.int .i64)]) (get := fun r => r.1) (C' := (progC C1 (bl) (pa) (comL C1.g)).1) (Q := fun r => r.2.1 = (progC C1 (bl) (pa) (comL C1.g)).2) S hdb104 (LF_in hf S) hdf1 (fun H hH hR => rProgram13_c (bl := bl) (pa := pa) hH hR h1.ok (by omega) hx122.1 hx122.2) ?_
    rintro ⟨_, _, ⟨⟩⟩ w122 B2 hr122 hq122 hdb122 x122 S
    dsimp only at hr122 hq122
    subst hr122; subst hq122
    dsimp only
    have Z := Z.trans (.of x122)
    have X := X.trans (.of x122)
    refine ⟨hkeep _ X, ?_⟩
    have S := S.fro [1, 1, 1, 1, 1] rfl
    refine S.st1 (by rfl) fun w123 S f123 => ?_
    have Z := Fr.box Z qbx f123
    have X := Fr.box X ybx f123
    refine ⟨hkeep _ X, ?_⟩
    refine S.la1 rfl ?_
    refine S.sp 4 rfl rfl rfl fun w124 S f124 => ?_
    dsimp only [List.set_cons_zero, List.set_cons_succ] at S
    have Z := Fr.box Z qb1 f124
    refine S.la4 rfl ?_
    refine S.st2 (by rfl) fun w125 S f125 => ?_
    have Z := Fr.box Z qb5 f125
    refine S.la2 rfl ?_
    have S := (S.fro [1] rfl).tail.tail.tail.tail.tail
    exact ⟨rfl, ⟨B2, rfl, hdb122, S⟩, Z⟩
theorem rSeal24_c {b : Int} (h : PI g n C L O) (ho : C.ops + 1 ≤ 1000000) (hb : -4 ≤ b ∧ b ≤ 1000000) (hdb : B.l.map bdOf = C.bs) (hf : LF.rd w0 (fun k => ¬ E k) f) (hdf : fds f = C.pl) (S : Sep E w0 w (rpS B l o L O Rs)) :
    CallV Tryz.prog 41 #[plVal B f C l o, .int .i64 b] w [.agg SH12, .one (.int .i64)] fun r w' =>
      r.2.1 = (selP C b).2 ∧ RpR E w0 w' f o (selP C b).1 L O Rs l r.1 := by
  apply ref24_Seal.vc
  unfold ref24_Seal.P
  have rg : Rng .i64 ((4 : Int) + b) := Rng.i64 (by omega) (by omega)
  have hR : Right C.g := h.ok.g
  refine S.newB fun b1 w301 S f301 z301 => ?_
  refine S.newB fun b3 w302 S f302 z302 => ?_
  refine S.reg fun D hD hkeep S T => ?_
  have X := T.fr
  clear T
  refine ⟨hD _ S.bl1, S.lb1 (o := 0) rfl ⟨rg, hD _ S.bl1, S.lb1 (o := 0) rfl ?_⟩⟩
  refine ⟨?_, ?_⟩
  · refine (rCommit15_c (g := C.g) hR).mono ?_
    rintro ⟨⟨va, vn, vc⟩, ⟨⟩⟩ w303 r303
    dsimp only at r303 ⊢
    have S := res_rdL S r303 (comL_byt C.g)
    have X := X.trans (.of r303.ext)
    refine ⟨hkeep _ X, ?_⟩
    refine ⟨?_, ?_⟩
    · have hx304 := rdL_ints S 0 rfl
      have S := S.fro [3] rfl
      refine refCall (l := [.agg SH10, .one (.int .i64)]) (get := fun r => r.1) (C' := (progC C (4 + b) (0) (comL C.g)).1) (Q := fun r => r.2.1 = (progC C (4 + b) (0) (comL C.g)).2) S hdb (LF_in hf S) hdf (fun H hH hR => rProgram13_c (bl := 4 + b) (pa := 0) hH hR h.ok (by omega) hx304.1 hx304.2) ?_
      rintro ⟨_, _, ⟨⟩⟩ w304 B2 hr304 hq304 hdb304 x304 S
      dsimp only at hr304 hq304
      subst hr304; subst hq304
      dsimp only
      have X := X.trans (.of x304)
      refine ⟨hkeep _ X, ?_⟩
      have S := S.fro [1, 1, 1] rfl
      refine S.newB fun bx w305 S f305 z305 => ?_
      have ybx := Fr.nw X z305
      have X := X.trans f305
      refine ⟨hkeep _ X, ?_⟩
      refine S.st0 (by rfl) fun w306 S f306 => ?_
      have X := Fr.box X ybx f306
      refine ⟨hkeep _ X, ?_⟩
      refine S.la0 rfl ?_
      refine S.sp 3 rfl rfl rfl fun w307 S f307 => ?_
      dsimp only [List.set_cons_zero, List.set_cons_succ] at S
      refine S.la3 rfl ?_
      refine S.st2 (by rfl) fun w308 S f308 => ?_
      refine S.la2 rfl ?_
      have S := (S.fro [] rfl).tail.tail.tail.tail
      exact ⟨rfl, B2, rfl, hdb304, S⟩
    · refine S.newB fun bx w309 S f309 z309 => ?_
      have ybx := Fr.nw X z309
      have X := X.trans f309
      refine ⟨hkeep _ X, ?_⟩
      have hx310 := rdL_ints S 1 rfl
      have S := S.fro [4] rfl
      refine refCall (l := [.agg SH10, .one (.int .i64)]) (get := fun r => r.1) (C' := (progC C (4 + b) (0) (comL C.g)).1) (Q := fun r => r.2.1 = (progC C (4 + b) (0) (comL C.g)).2) S hdb (LF_in hf S) hdf (fun H hH hR => rProgram13_c (bl := 4 + b) (pa := 0) hH hR h.ok (by omega) hx310.1 hx310.2) ?_
      rintro ⟨_, _, ⟨⟩⟩ w310 B2 hr310 hq310 hdb310 x310 S
      dsimp only at hr310 hq310
      subst hr310; subst hq310
      dsimp only
      have X := X.trans (.of x310)
      refine ⟨hkeep _ X, ?_⟩
      have S := S.fro [1, 1, 1, 1] rfl
      refine S.st0 (by rfl) fun w311 S f311 => ?_
      have X := Fr.box X ybx f311
      refine ⟨hkeep _ X, ?_⟩
      refine S.la0 rfl ?_
      refine S.sp 3 rfl rfl rfl fun w312 S f312 => ?_
      dsimp only [List.set_cons_zero, List.set_cons_succ] at S
      refine S.la3 rfl ?_
      refine S.st2 (by rfl) fun w313 S f313 => ?_
      refine S.la2 rfl ?_
      have S := (S.fro [] rfl).tail.tail.tail.tail
      exact ⟨rfl, B2, rfl, hdb310, S⟩
  · refine S.newB fun bx w314 S f314 z314 => ?_
    have ybx := Fr.nw X z314
    have X := X.trans f314
    refine ⟨hkeep _ X, ?_⟩
    refine (rCommit15_c (g := C.g) hR).mono ?_
    rintro ⟨⟨va, vn, vc⟩, ⟨⟩⟩ w315 r315
    dsimp only at r315 ⊢
    have S := res_rdL S r315 (comL_byt C.g)
    have X := X.trans (.of r315.ext)
    refine ⟨hkeep _ X, ?_⟩
    have hx316 := rdL_ints S 0 rfl
    have S := S.fro [4] rfl
    refine refCall (l := [.agg SH10, .one (.int .i64)]) (get := fun r => r.1) (C' := (progC C (4 + b) (0) (comL C.g)).1) (Q := fun r => r.2.1 = (progC C (4 + b) (0) (comL C.g)).2) S hdb (LF_in hf S) hdf (fun H hH hR => rProgram13_c (bl := 4 + b) (pa := 0) hH hR h.ok (by omega) hx316.1 hx316.2) ?_
    rintro ⟨_, _, ⟨⟩⟩ w316 B2 hr316 hq316 hdb316 x316 S
    dsimp only at hr316 hq316
    subst hr316; subst hq316
    dsimp only
    have X := X.trans (.of x316)
    refine ⟨hkeep _ X, ?_⟩
    have S := S.fro [1, 1, 1, 1] rfl
    refine S.st1 (by rfl) fun w317 S f317 => ?_
    have X := Fr.box X ybx f317
    refine ⟨hkeep _ X, ?_⟩
    refine S.la1 rfl ?_
    refine S.sp 3 rfl rfl rfl fun w318 S f318 => ?_
    dsimp only [List.set_cons_zero, List.set_cons_succ] at S
    refine S.la3 rfl ?_
    refine S.st2 (by rfl) fun w319 S f319 => ?_
    refine S.la2 rfl ?_
    have S := (S.fro [1] rfl).tail.tail.tail.tail
    exact ⟨rfl, B2, rfl, hdb316, S⟩
end
end Go.Proofs.YtlpeoaphdmfjdaaGreat.Vc
/-! The contracts of layer 21: what the document's ledger tells. -/
namespace Go.Proofs.YtlpeoaphdmfjdaaGreat.Vc
open Go Go.Eng Go.RowKit
section
variable {E : Nat → Prop} {w0 w : World} {Rs : List Asr} {e2 : TypeId} {a : Option Addr} {n c : Nat} {L : List Blk}
def erLe (x y : Blk) : Bool := decide (x.er ≤ y.er)
theorem rPick_c (hn : n ≤ 1000000) (S : Sep E w0 w (OwnA e2 9 a n c (bvs L) :: Rs)) :
    CallV Tryz.prog 137 #[.slice a n c] w [.one (.int .i64)] fun r w' => r.1 = dnT L (fun _ x => freeB x) erLe n n ∧ Ext w w' := by
  apply ref21_Pick.vc
  unfold ref21_Pick.P
  refine ⟨Rng.i64 (by omega) (by omega), ?_⟩
  refine Loop1 (fun (v : Int × Int × Unit) w' => ∃ k : Nat, k ≤ n ∧ v.2.1 = (n : Int) - 1 - k ∧ v.1 = dnT L (fun _ x => freeB x) erLe n k ∧ Ext w w') (fun (v : Int × Int × Unit) _ => (v.2.1 + 1).toNat) ⟨0, by omega, by dsimp only; omega, rfl, Ext.refl _⟩ ?_
  rintro ⟨(t : Int), (z : Int), ⟨⟩⟩ w4 ⟨k, hk, hz, ht, x4⟩
  dsimp only at hz ht ⊢
  have S := S.stepE x4
  refine cond_d (fun hlt => ?_) (fun hge => ⟨by rw [ht]; congr 1; omega, x4⟩)
  have tb := dnT_bd (L := L) (m := fun _ x => freeB x) (le := erLe) (n := n) k hk
  rw [← ht] at tb
  have hzn : z.toNat = n - 1 - k := by omega
  have no : ∀ {w' : World}, ¬ (freeB (gx L (n - 1 - k)) = true ∧ (dnT L (fun _ x => freeB x) erLe n k < 0 ∨ erLe (gx L (n - 1 - k)) (gx L (dnT L (fun _ x => freeB x) erLe n k).toNat) = true)) → Ext w w' →
      Rng .i64 (z - 1) ∧ (∃ j : Nat, j ≤ n ∧ z - 1 = (n : Int) - 1 - j ∧ t = dnT L (fun _ x => freeB x) erLe n j ∧ Ext w w') ∧ (z - 1 + 1).toNat < (z + 1).toNat :=
    fun h x => ⟨Rng.i64 (by omega) (by omega), ⟨k + 1, by omega, by push_cast; omega, by show t = if _ then _ else _; rw [if_neg h]; exact ht, x⟩, by omega⟩
  have yes : ∀ {w' : World}, (freeB (gx L (n - 1 - k)) = true ∧ (dnT L (fun _ x => freeB x) erLe n k < 0 ∨ erLe (gx L (n - 1 - k)) (gx L (dnT L (fun _ x => freeB x) erLe n k).toNat) = true)) → Ext w w' →
      Rng .i64 (z - 1) ∧ (∃ j : Nat, j ≤ n ∧ z - 1 = (n : Int) - 1 - j ∧ z = dnT L (fun _ x => freeB x) erLe n j ∧ Ext w w') ∧ (z - 1 + 1).toNat < (z + 1).toNat :=
    fun h x => ⟨Rng.i64 (by omega) (by omega), ⟨k + 1, by omega, by push_cast; omega, by show z = if _ then _ else _; rw [if_pos h]; omega, x⟩, by omega⟩
  refine S.reg fun D hD hkeep S T => ?_
  have X := x4.trans (Ext.drew w4)
  obtain ⟨q, hq, hc, hb⟩ := nthB (i := z) 0 S rfl (by omega) (by omega)
  rw [hzn] at hc
  have hbd : ∀ j, D ((q.add (z.toNat * 9)).add j).block := fun j => by rw [add_block, add_block]; exact hD _ hb
  refine ⟨⟨by omega, by omega⟩, q, hq, hbd 4, ldc (by rw [hzn]; exact hc) 4 (h := .bool) rfl (cond_of (fun h1 => ?_) fun h1 => no (fun h => ?_) X)⟩
  case refine_2 => have h := h.1; unfold freeB at h; rw [h1] at h; cases h
  refine ⟨⟨by omega, by omega⟩, q, hq, hbd 6, ldc (by rw [hzn]; exact hc) 6 (h := .bool) rfl (cond_of (fun h2 => ?_) fun h2 => no (fun h => ?_) X)⟩
  case refine_2 => have h := h.1; unfold freeB at h; rw [h1, h2] at h; cases h
  have hf : freeB (gx L (n - 1 - k)) = true := by unfold freeB; rw [h1, h2]; rfl
  refine cond_d (fun h0 => yes ⟨hf, .inl (by omega)⟩ X) (fun h0 => ?_)
  obtain ⟨q2, hq2, hc2, hb2⟩ := nthB (i := t) 0 S rfl (by omega) (by omega)
  rw [hq] at hq2
  cases hq2
  refine ⟨⟨by omega, by omega⟩, q, hq, hbd 3, ldc (by rw [hzn]; exact hc) 3 (h := .int .i64) rfl ?_⟩
  refine ⟨⟨by omega, by omega⟩, q, hq, by rw [add_block, add_block]; exact hD _ hb, ldc hc2 3 (h := .int .i64) rfl ?_⟩
  refine cond_d (fun h3 => yes ⟨hf, .inr (by rw [← ht]; exact decide_eq_true h3)⟩ X) (fun h3 => no (fun h => ?_) X)
  rcases h.2 with k | k
  · omega
  · rw [← ht] at k; exact h3 (of_decide_eq_true k)
end
end Go.Proofs.YtlpeoaphdmfjdaaGreat.Vc
/-! The contracts of layer 24: the document's pool: a block begun, opened. -/
namespace Go.Proofs.YtlpeoaphdmfjdaaGreat.Vc
open Go Go.Eng Go.RowKit
section
variable {E : Nat → Prop} {w0 w : World} {g : Geo} {n : Nat} {C : CD} {L : List Blk} {O : List Hd} {B : SlP TBd.T} {f : SlP TF.T} {l o : SlV} {Rs : List Asr}
theorem rFirst24_c {b : Int} {hd : Hd} {sl : Bool} (h : PI g n C L O) (hr : hd.rng) (hH : HRight hd) (ho : C.ops + 2 ≤ 1000000) (hb : -4 ≤ b ∧ b ≤ 1000000) (hdb : B.l.map bdOf = C.bs) (hf : LF.rd w0 (fun k => ¬ E k) f) (hdf : fds f = C.pl) (S : Sep E w0 w (rpS B l o L O Rs)) :
    CallV Tryz.prog 138 #[plVal B f C l o, .int .i64 b, hd.val, .bool sl] w [.agg SH12, .one (.int .i64)] fun r w' =>
      r.2.1 = (fstP C b hd sl).2 ∧ RpR E w0 w' f o (fstP C b hd sl).1 L O Rs l r.1 := by
  apply ref24_first.vc
  unfold ref24_first.P
  have rg : Rng .i64 ((4 : Int) + b) := Rng.i64 (by omega) (by omega)
  have hR : Right C.g := h.ok.g
  have bm : Byt (mkL C.g hd [] []) := mkL_byt hr hH Byt.nil Byt.nil
  obtain ⟨h1, o1, o2⟩ := h.prog (4 + b) 0 bm (by omega)
  have hdf1 : fds f = (progC C (4 + b) 0 (mkL C.g hd [] [])).1.pl := hdf.trans (progC_k C (4 + b) 0 _).2.symm
  unfold fstP
  refine S.newB fun b1 w101 S f101 z101 => ?_
  refine S.newB fun b3 w102 S f102 z102 => ?_
  refine S.newB fun b5 w103 S f103 z103 => ?_
  refine S.reg fun D hD hkeep S T => ?_
  have X := T.fr
  clear T
  refine ⟨hD _ S.bl2, S.lb2 (o := 0) rfl ⟨rg, hD _ S.bl2, S.lb2 (o := 0) rfl ⟨hD _ S.bl1, S.la1 rfl ?_⟩⟩⟩
  refine ⟨?_, ?_⟩
  · refine (rMake_c (g := C.g) (h := hd) hr intsNil intsNil ⟨hR, ⟨hH, .inl rfl⟩, .inl rfl⟩).mono ?_
    rintro ⟨⟨va, vn, vc⟩, ⟨⟩⟩ w104 r104
    dsimp only at r104 ⊢
    have S := res_rdL S r104 bm
    have X := X.trans (.of r104.ext)
    refine ⟨hkeep _ X, ?_⟩
    refine ⟨?_, ?_⟩
    · have hx105 := rdL_ints S 0 rfl
      have S := S.fro [4] rfl
      refine refCall (l := [.agg SH10, .one (.int .i64)]) (get := fun r => r.1) (C' := (progC C (4 + b) (0) (mkL C.g hd [] [])).1) (Q := fun r => r.2.1 = (progC C (4 + b) (0) (mkL C.g hd [] [])).2) S hdb (LF_in hf S) hdf (fun H hH hR => rProgram13_c (bl := 4 + b) (pa := 0) hH hR h.ok (by omega) hx105.1 hx105.2) ?_
      rintro ⟨_, _, ⟨⟩⟩ w105 B2 hr105 hq105 hdb105 x105 S
      dsimp only at hr105 hq105
      subst hr105; subst hq105
      dsimp only
      have X := X.trans (.of x105)
      refine ⟨hkeep _ X, ?_⟩
      have S := S.fro [1, 1, 1, 1] rfl
      refine S.newB fun bx w106 S f106 z106 => ?_
      have ybx := Fr.nw X z106
      have X := X.trans f106
      refine ⟨hkeep _ X, ?_⟩
      refine S.st0 (by rfl) fun w107 S f107 => ?_
      have X := Fr.box X ybx f107
      refine ⟨hkeep _ X, ?_⟩
      refine S.la0 rfl ?_
      refine S.sp 4 rfl rfl rfl fun w108 S f108 => ?_
      dsimp only [List.set_cons_zero, List.set_cons_succ] at S
      have S := (S.fro [] rfl).tail.tail
      refine cond_ne (fun (hne : (progC C (4 + b) 0 (mkL C.g hd [] [])).2 ≠ 0) => ?_) (fun (h0 : (progC C (4 + b) 0 (mkL C.g hd [] [])).2 = 0) => ?_)
      · refine S.la2 rfl ?_
        refine S.st0 (by rfl) fun w109 S f109 => ?_
        refine S.la0 rfl ?_
        have S := (S.fro [] rfl).tail.tail.tail
        rw [if_neg (fun x => hne x.1)]
        exact ⟨rfl, B2, rfl, hdb105, S⟩
      refine cond_of (fun hs => ?_) (fun hs => ?_)
      · refine S.la2 rfl ?_
        refine S.st0 (by rfl) fun w110 S f110 => ?_
        refine S.la0 rfl ?_
        have S := (S.fro [] rfl).tail.tail.tail
        have hs' : sl = false := by simpa using hs
        rw [if_neg (fun x => by rw [hs'] at x; cases x.2)]
        exact ⟨rfl, B2, rfl, hdb105, S⟩
      have hs' : sl = true := by simpa using hs
      rw [if_pos ⟨h0, hs'⟩]
      refine S.la2 rfl ?_
      have S := S.fro [3, 3, 3] rfl
      refine (rSeal24_c (b := b) h1 (by omega) hb hdb105 hf hdf1 S).mono ?_
      rintro ⟨_, _, ⟨⟩⟩ w111 ⟨hq111, B3, hr111, hdb111, S⟩
      dsimp only at hq111 hr111
      subst hr111; subst hq111
      dsimp only
      have S := S.fro [3, 3, 3] rfl
      refine S.st0 (by rfl) fun w112 S f112 => ?_
      refine S.la0 rfl ?_
      have S := (S.fro [] rfl).tail.tail.tail
      exact ⟨rfl, B3, rfl, hdb111, S⟩
    · refine S.newB fun bx w113 S f113 z113 => ?_
      have ybx := Fr.nw X z113
      have X := X.trans f113
      refine ⟨hkeep _ X, ?_⟩
      have hx114 := rdL_ints S 1 rfl
      have S := S.fro [5] rfl
      refine refCall (l := [.agg SH10, .one (.int .i64)]) (get := fun r => r.1) (C' := (progC C (4 + b) (0) (mkL C.g hd [] [])).1) (Q := fun r => r.2.1 = (progC C (4 + b) (0) (mkL C.g hd [] [])).2) S hdb (LF_in hf S) hdf (fun H hH hR => rProgram13_c (bl := 4 + b) (pa := 0) hH hR h.ok (by omega) hx114.1 hx114.2) ?_
      rintro ⟨_, _, ⟨⟩⟩ w114 B2 hr114 hq114 hdb114 x114 S
      dsimp only at hr114 hq114
      subst hr114; subst hq114
      dsimp only
      have X := X.trans (.of x114)
      refine ⟨hkeep _ X, ?_⟩
      have S := S.fro [1, 1, 1, 1, 1] rfl
      refine S.st0 (by rfl) fun w115 S f115 => ?_
      have X := Fr.box X ybx f115
      refine ⟨hkeep _ X, ?_⟩
      refine S.la0 rfl ?_
      refine S.sp 4 rfl rfl rfl fun w116 S f116 => ?_
      dsimp only [List.set_cons_zero, List.set_cons_succ] at S
      have S := (S.fro [] rfl).tail.tail
      refine cond_ne (fun (hne : (progC C (4 + b) 0 (mkL C.g hd [] [])).2 ≠ 0) => ?_) (fun (h0 : (progC C (4 + b) 0 (mkL C.g hd [] [])).2 = 0) => ?_)
      · refine S.la2 rfl ?_
        refine S.st0 (by rfl) fun w117 S f117 => ?_
        refine S.la0 rfl ?_
        have S := (S.fro [] rfl).tail.tail.tail
        rw [if_neg (fun x => hne x.1)]
        exact ⟨rfl, B2, rfl, hdb114, S⟩
      refine cond_of (fun hs => ?_) (fun hs => ?_)
      · refine S.la2 rfl ?_
        refine S.st0 (by rfl) fun w118 S f118 => ?_
        refine S.la0 rfl ?_
        have S := (S.fro [] rfl).tail.tail.tail
        have hs' : sl = false := by simpa using hs
        rw [if_neg (fun x => by rw [hs'] at x; cases x.2)]
        exact ⟨rfl, B2, rfl, hdb114, S⟩
      have hs' : sl = true := by simpa using hs
      rw [if_pos ⟨h0, hs'⟩]
      refine S.la2 rfl ?_
      have S := S.fro [3, 3, 3] rfl
      refine (rSeal24_c (b := b) h1 (by omega) hb hdb114 hf hdf1 S).mono ?_
      rintro ⟨_, _, ⟨⟩⟩ w119 ⟨hq119, B3, hr119, hdb119, S⟩
      dsimp only at hq119 hr119
      subst hr119; subst hq119
      dsimp only
      have S := S.fro [3, 3, 3] rfl
      refine S.st0 (by rfl) fun w120 S f120 => ?_
      refine S.la0 rfl ?_
      have S := (S.fro [] rfl).tail.tail.tail
      exact ⟨rfl, B3, rfl, hdb119, S⟩
  · refine S.newB fun bx w121 S f121 z121 => ?_
    have ybx := Fr.nw X z121
    have X := X.trans f121
    refine ⟨hkeep _ X, ?_⟩
    refine (rMake_c (g := C.g) (h := hd) hr intsNil intsNil ⟨hR, ⟨hH, .inl rfl⟩, .inl rfl⟩).mono ?_
    rintro ⟨⟨va, vn, vc⟩, ⟨⟩⟩ w122 r122
    dsimp only at r122 ⊢
    have S := res_rdL S r122 bm
    have X := X.trans (.of r122.ext)
    refine ⟨hkeep _ X, ?_⟩
    have hx123 := rdL_ints S 0 rfl
    have S := S.fro [5] rfl
    refine refCall (l := [.agg SH10, .one (.int .i64)]) (get := fun r => r.1) (C' := (progC C (4 + b) (0) (mkL C.g hd [] [])).1) (Q := fun r => r.2.1 = (progC C (4 + b) (0) (mkL C.g hd [] [])).2) S hdb (LF_in hf S) hdf (fun H hH hR => rProgram13_c (bl := 4 + b) (pa := 0) hH hR h.ok (by omega) hx123.1 hx123.2) ?_
    rintro ⟨_, _, ⟨⟩⟩ w123 B2 hr123 hq123 hdb123 x123 S
    dsimp only at hr123 hq123
    subst hr123; subst hq123
    dsimp only
    have X := X.trans (.of x123)
    refine ⟨hkeep _ X, ?_⟩
    have S := S.fro [1, 1, 1, 1, 1] rfl
    refine S.st1 (by rfl) fun w124 S f124 => ?_
    have X := Fr.box X ybx f124
    refine ⟨hkeep _ X, ?_⟩
    refine S.la1 rfl ?_
    refine S.sp 4 rfl rfl rfl fun w125 S f125 => ?_
    dsimp only [List.set_cons_zero, List.set_cons_succ] at S
    have S := (S.fro [1] rfl).tail.tail
    refine cond_ne (fun (hne : (progC C (4 + b) 0 (mkL C.g hd [] [])).2 ≠ 0) => ?_) (fun (h0 : (progC C (4 + b) 0 (mkL C.g hd [] [])).2 = 0) => ?_)
    · refine S.la2 rfl ?_
      refine S.st0 (by rfl) fun w126 S f126 => ?_
      refine S.la0 rfl ?_
      have S := (S.fro [] rfl).tail.tail.tail
      rw [if_neg (fun x => hne x.1)]
      exact ⟨rfl, B2, rfl, hdb123, S⟩
    refine cond_of (fun hs => ?_) (fun hs => ?_)
    · refine S.la2 rfl ?_
      refine S.st0 (by rfl) fun w127 S f127 => ?_
      refine S.la0 rfl ?_
      have S := (S.fro [] rfl).tail.tail.tail
      have hs' : sl = false := by simpa using hs
      rw [if_neg (fun x => by rw [hs'] at x; cases x.2)]
      exact ⟨rfl, B2, rfl, hdb123, S⟩
    have hs' : sl = true := by simpa using hs
    rw [if_pos ⟨h0, hs'⟩]
    refine S.la2 rfl ?_
    have S := S.fro [3, 3, 3] rfl
    refine (rSeal24_c (b := b) h1 (by omega) hb hdb123 hf hdf1 S).mono ?_
    rintro ⟨_, _, ⟨⟩⟩ w128 ⟨hq128, B3, hr128, hdb128, S⟩
    dsimp only at hq128 hr128
    subst hr128; subst hq128
    dsimp only
    have S := S.fro [3, 3, 3] rfl
    refine S.st0 (by rfl) fun w129 S f129 => ?_
    refine S.la0 rfl ?_
    have S := (S.fro [] rfl).tail.tail.tail
    exact ⟨rfl, B3, rfl, hdb128, S⟩
abbrev SH14 : List SS := [.int .i64, .int .i64, .int .i64, .int .i64, .int .i64, .int .i64, .sl, .sl, .bool, .int .i64, .sl, .sl, .int .i64, .int .i64]
abbrev gotT (B : SlP TBd.T) (f : SlP TF.T) (C : CD) (l o : SlV) (b e : Int) : Int × Int × Int × Int × Int × Int × SlV × SlV × Bool × Int × SlV × SlV × Int × Int × Unit := (C.g.b, C.g.p, C.g.s, C.g.sp, C.g.wr, C.g.ro, ⟨B.a, B.n, B.c⟩, ⟨f.a, f.n, f.c⟩, C.off, (C.ops : Int), l, o, b, e, ())
theorem dstP_k (C : CD) (L : List Blk) (b : Int) : (dstP C L b).1.pl = C.pl := by
  unfold dstP
  split
  · split
    · exact (scrC_k _ _).2.trans (eraC_k _ _).2
    · exact (scrC_k _ _).2.trans (eraC_k _ _).2
  · exact (eraC_k _ _).2
theorem fstP_k (C : CD) (b : Int) (h : Hd) (sl : Bool) : (fstP C b h sl).1.pl = C.pl := by
  unfold fstP
  split
  · exact (progC_k _ _ _ _).2.trans (progC_k _ _ _ _).2
  · exact (progC_k _ _ _ _).2
theorem pick_dn (L : List Blk) : dnT L (fun _ x => freeB x) erLe L.length L.length = pickT L L.length := (best_dn (m := fun _ x => freeB x) (ah := fun x y => decide (x.er < y.er)) (le := erLe) (key := fun x => x.er) (fun _ _ => rfl) (fun _ _ => rfl) L.length).symm
theorem rOpen24_c {ns : Int} {od : Hd} {sl : Bool} (h : PI g n C L O) (hn : 0 ≤ ns ∧ ns < 4) (hr : od.rng) (ho : C.ops + 768 ≤ 1000000) (hdb : B.l.map bdOf = C.bs) (hf : LF.rd w0 (fun k => ¬ E k) f) (hdf : fds f = C.pl) (S : Sep E w0 w (rpS B l o L O Rs)) :
    CallV Tryz.prog 83 #[plVal B f C l o, .int .i64 ns, od.val, .bool sl] w [.agg SH14] fun r w' =>
      ∃ (B' : SlP TBd.T) (l' o' : SlV), r.1 = gotT B' f (opnP ns od sl 128 C L O).1.1 l' o' (opnP ns od sl 128 C L O).2.1 (opnP ns od sl 128 C L O).2.2 ∧ B'.l.map bdOf = (opnP ns od sl 128 C L O).1.1.bs ∧ Sep E w0 w' (rpS B' l' o' (opnP ns od sl 128 C L O).1.2.1 (opnP ns od sl 128 C L O).1.2.2 Rs) := by
  apply ref24_Open.vc
  unfold ref24_Open.P
  refine S.newB fun b1 w301 S f301 z301 => ?_
  refine S.newB fun b3 w302 S f302 z302 => ?_
  refine S.newB fun b5 w303 S f303 z303 => ?_
  generalize hX : opnP ns od sl 128 C L O = X
  refine Loop1 (fun (v : Int × Unit) w' => ∃ (k : Nat) (C : CD) (L : List Blk) (O : List Hd) (B : SlP TBd.T) (l o : SlV), v.1 = 128 - (k : Int) ∧ k ≤ 128 ∧ PI g n C L O ∧ C.ops + 6 * k ≤ 1000000 ∧ opnP ns od sl k C L O = X ∧ B.l.map bdOf = C.bs ∧ fds f = C.pl ∧ Sep E w0 w' (BoxA b5 153 (zPL ++ [.int .i64 0, .int .i64 0]) :: BoxA b3 46 od.vs :: BoxA b1 38 (plV B f C l o) :: rpS B l o L O Rs)) (fun (v : Int × Unit) _ => (128 - v.1).toNat)
    ⟨128, C, L, O, B, l, o, rfl, by omega, h, by omega, hX, hdb, hdf, S⟩ ?_
  clear S h hX ho hdb hdf
  rintro ⟨(v : Int), ⟨⟩⟩ w2 ⟨k, C, L, O, B, l, o, hv, hk, h, ho, hX, hdb, hdf, S⟩
  dsimp only at hv
  subst hv
  obtain ⟨hln, hon⟩ := rp_n (S.fro [3, 3, 3] rfl)
  refine cond_d (fun hlt => ?_) (fun hge => ?_)
  case refine_2 =>
    have : k = 0 := by omega
    subst this
    refine S.la2 rfl (S.sp 0 rfl rfl rfl fun w3 S f3 => S.la0 rfl ?_)
    rw [← hX]
    exact ⟨B, l, o, rfl, hdb, S.tail.tail.tail⟩
  obtain ⟨k, rfl⟩ : ∃ m, k = m + 1 := ⟨k - 1, by omega⟩
  have hll := h.ll
  have hol := h.ol
  have hle := h.le
  refine S.ld2 (j := 10) rfl rfl ?_
  refine (rPick_c (L := L) (by omega) (S.fro [4] rfl)).mono ?_
  rintro ⟨(b : Int), ⟨⟩⟩ w3 ⟨h3, x3⟩
  dsimp only at h3 ⊢
  rw [hln, pick_dn] at h3
  have S := S.stepE x3
  unfold opnP at hX
  have hbd := bestT_bd (L := L) (m := fun _ x => freeB x) (ah := fun x y => decide (x.er < y.er)) L.length
  have hbd : -1 ≤ pickT L L.length ∧ pickT L L.length < (L.length : Int) := hbd
  rw [← h3] at hX hbd
  clear h3
  refine cond_d (fun hneg => ?_) (fun hneg => ?_)
  · rw [if_pos hneg] at hX
    refine S.la2 rfl (S.st0 (by rfl) fun w4 S f4 => S.la0 rfl ?_)
    rw [← hX]
    exact ⟨B, l, o, rfl, hdb, S.tail.tail.tail⟩
  rw [if_neg hneg] at hX
  have hb : 0 ≤ b ∧ b < (n : Int) := ⟨by omega, by omega⟩
  obtain ⟨q, hq, hc, hqb⟩ := nthB (i := b) 4 S rfl hb.1 (by omega)
  refine S.ld2 (j := 10) rfl rfl ⟨⟨hb.1, by first | omega | (dsimp only; omega)⟩, q, hq, ldc hc 5 (h := .bool) rfl ?_⟩
  have nxt : ∀ {w' : World} {C' : CD} {L : List Blk} {O : List Hd} {B : SlP TBd.T} {l o : SlV}, PI g n C' L O → C'.ops ≤ C.ops + 6 → opnP ns od sl k C' L O = X → B.l.map bdOf = C'.bs → fds f = C'.pl → Sep E w0 w' (BoxA b5 153 (zPL ++ [.int .i64 0, .int .i64 0]) :: BoxA b3 46 od.vs :: BoxA b1 38 (plV B f C' l o) :: rpS B l o L O Rs) →
      Rng .i64 (128 - ((k + 1 : Nat) : Int) + 1) ∧ (∃ (k2 : Nat) (C : CD) (L : List Blk) (O : List Hd) (B : SlP TBd.T) (l o : SlV), 128 - ((k + 1 : Nat) : Int) + 1 = 128 - (k2 : Int) ∧ k2 ≤ 128 ∧ PI g n C L O ∧ C.ops + 6 * k2 ≤ 1000000 ∧ opnP ns od sl k2 C L O = X ∧ B.l.map bdOf = C.bs ∧ fds f = C.pl ∧ Sep E w0 w' (BoxA b5 153 (zPL ++ [.int .i64 0, .int .i64 0]) :: BoxA b3 46 od.vs :: BoxA b1 38 (plV B f C l o) :: rpS B l o L O Rs)) ∧ (128 - (128 - ((k + 1 : Nat) : Int) + 1)).toNat < (128 - (128 - ((k + 1 : Nat) : Int))).toNat :=
    fun h1 h2 h3 h4 h5 S => ⟨Rng.i64 (by omega) (by omega), ⟨k, _, _, _, _, _, _, by push_cast; omega, by omega, h1, by omega, h3, h4, h5, S⟩, by omega⟩
  refine cond_of (fun hcl => ?_) (fun hcl => ?_)
  · have hcl' : ¬ (gx L b.toNat).cl = true := by simpa using hcl
    rw [if_neg hcl'] at hX
    refine S.la2 rfl ?_
    have S := S.fro [3, 3, 3] rfl
    refine (rDestroy24_c (b := b) h (by omega) hb hdb hf hdf S).mono ?_
    rintro ⟨_, (e1 : Int), ⟨⟩⟩ w304 ⟨B1, l1, hr1, hq1, hdb1, S⟩
    dsimp only at hr1 hq1
    subst hr1
    dsimp only
    have S := S.fro [3, 3, 3] rfl
    refine S.newB fun bx w305 S f305 z305 => ?_
    refine S.st0 (by rfl) fun w306 S f306 => ?_
    refine S.la0 rfl ?_
    refine S.st3 (by rfl) fun w307 S f307 => ?_
    have S := (S.fro [] rfl).tail
    obtain ⟨q1, q2, q3⟩ := h.dst b (by omega)
    have hdf1 : fds f = (dstP C L b).1.pl := hdf.trans (dstP_k ..).symm
    generalize dstP C L b = R at hX hq1 hdb1 q1 q2 q3 hdf1 S
    obtain ⟨C1, L1, e⟩ := R
    dsimp only at hX hq1 hdb1 q1 q2 q3 hdf1 S
    subst hq1
    refine cond_eq (fun h4 => ?_) (fun h4 => ?_)
    · refine S.la2 rfl ?_
      refine S.st0 (by rfl) fun w308 S f308 => ?_
      refine S.la0 rfl ?_
      rw [if_neg (by omega), if_pos h4] at hX
      rw [← hX]
      subst h4
      exact ⟨B1, l1, o, rfl, hdb1, S.tail.tail.tail⟩
    refine cond_ne (fun h0 => ?_) (fun h0 => ?_)
    · rw [if_neg h0, if_neg h4] at hX
      exact nxt q1 (by omega) hX hdb1 hdf1 S
    rw [if_pos h0] at hX
    clear h0 h4
    obtain ⟨hln1, hon1⟩ := rp_n (S.fro [3, 3, 3] rfl)
    refine S.reg fun D hD hkeep S T => ?_
    have X := T.fr
    clear T
    have hllq := q1.ll
    obtain ⟨qa, hqa, hca, hqba⟩ := nthB (i := b) 4 S rfl hb.1 (by omega)
    refine ⟨hD _ S.bl2, S.ld2 (j := 10) rfl rfl ⟨⟨hb.1, by first | omega | (dsimp only; omega)⟩, qa, hqa, by rw [add_block, add_block]; exact hD _ hqba, ldc hca 3 (h := .int .i64) rfl ⟨hD _ S.bl1, S.ld1 (j := 4) rfl rfl ⟨hD _ S.bl1, S.ld1 (j := 5) rfl rfl ?_⟩⟩⟩⟩
    refine S.newB fun bh w310 S f310 z310 => ?_
    have ybh := Fr.nw X z310
    have X := X.trans f310
    refine ⟨hkeep _ X, ?_⟩
    refine S.st0 (by rfl) fun w311 S f311 => ?_
    have X := Fr.box X ybh f311
    refine ⟨hkeep _ X, ?_⟩
    refine S.la3 rfl ?_
    refine S.la0 rfl ?_
    have S := S.fro [4, 4, 4] rfl
    have hfst := rFirst24_c (b := b) (hd := begH L1 b ns od) (sl := sl) (o := o) q1 (begH_rng L1 b hn hr) (begH_right L1 b hn) (by omega) ⟨by omega, by omega⟩ hdb1 hf hdf1 S
    refine hfst.mono ?_
    clear hfst
    rintro ⟨_, (e2 : Int), ⟨⟩⟩ w309 ⟨hq2, B2, hr2, hdb2, S⟩
    dsimp only at hq2 hr2
    subst hr2
    dsimp only
    have S := S.fro [3, 3, 3, 3] rfl
    obtain ⟨r1, r2, r3⟩ := q1.fst b (begH_rng L1 b hn hr) (begH_right L1 b (o := od) hn) sl (by omega)
    have hdf2 : fds f = (fstP C1 b (begH L1 b ns od) sl).1.pl := hdf1.trans (fstP_k ..).symm
    unfold begP at hX
    refine S.newB fun bx w312 S f312 z312 => ?_
    refine S.st0 (by rfl) fun w313 S f313 => ?_
    refine S.la0 rfl ?_
    refine S.st4 (by rfl) fun w314 S f314 => ?_
    have S := (S.fro [] rfl).tail
    generalize fstP C1 b (begH L1 b ns od) sl = Z at hX hq2 hdb2 r1 r2 r3 hdf2 S
    obtain ⟨C2, e3⟩ := Z
    dsimp only at hX hq2 hdb2 r1 r2 r3 hdf2 S
    subst hq2
    refine cond_eq (fun h4 => ?_) (fun h4 => ?_)
    · refine S.la3 rfl ?_
      refine S.st1 (by rfl) fun w315 S f315 => ?_
      refine S.la1 rfl ?_
      have h0' : ¬ e2 = 0 := by omega
      simp only [if_neg h0', if_pos h4] at hX
      have S := (S.fro [] rfl).tail
      rw [← hX]
      subst h4
      exact ⟨B2, l1, o, rfl, hdb2, S.tail.tail.tail⟩
    refine cond_eq (fun h0 => ?_) (fun h0 => ?_)
    · simp only [if_pos h0] at hX
      refine S.la3 rfl ?_
      have S := S.fro [4, 4, 4] rfl
      refine (with24_c (b := b) (kd := 1) (m := ns) (C := C2) (f := f) (o := o) ⟨hb.1, by have := r1.ll; omega⟩ (by have := r1.ll; omega) (by omega) r1.erL S).mono ?_
      rintro ⟨_, ⟨⟩⟩ w316 ⟨l3, hr3, S⟩
      dsimp only at hr3
      subst hr3
      have S := S.fro [3, 3, 3, 3] rfl
      refine S.st3 (by rfl) fun w317 S f317 => ?_
      refine S.newB fun bo w318 S f318 z318 => ?_
      have S := S.asOwn (sz := 6) (n := 0) rfl (by omega) oneAll.nil
      refine S.ld4 (j := 11) rfl rfl ?_
      have hO := S.own 7 rfl
      refine AppS.of (news := O.flatMap Hd.vs) (by rw [flatF_len Hdv_len, hon1]) hO.rd ?_
      refine S.ap0 (by rw [flatF_len Hdv_len, hon1]) (flatF_one Hdv_one O) (by dsimp only; omega) (by dsimp only; omega) fun a319 c319 w319 S f319 => ?_
      dsimp only [List.nil_append] at S ⊢
      rw [Nat.zero_add] at S ⊢
      refine S.su4 (by rfl) fun w320 S f320 => ?_
      dsimp only [List.set_cons_zero, List.set_cons_succ] at S
      refine S.ld4 (j := 11) rfl rfl ?_
      refine S.la1 rfl ?_
      refine ⟨⟨hb.1, by first | omega | (dsimp only; omega)⟩, S.putF Hdv_len Hdv_one (by decide) ⟨hb.1, by omega⟩ (begH L1 b ns od) fun w321 S f321 => ?_⟩
      refine S.la4 rfl ?_
      refine S.st2 (by rfl) fun w322 S f322 => ?_
      refine S.la2 rfl ?_
      rw [← hX]
      have S := (S.fro [1, 6] rfl).tail.tail
      have S := S.fro [1, 1, 1, 1, 1] rfl
      refine ⟨B2, l3, ⟨a319, o.n, c319⟩, rfl, hdb2, ?_⟩
      have hin : inB b L1.length := ⟨hb.1, by have := r1.ll; omega⟩
      unfold chL
      rw [if_pos hin]
      exact S.tail.tail.tail
    simp only [if_neg h0, if_neg h4] at hX
    have hin : inB b L1.length := ⟨hb.1, by have := r1.ll; omega⟩
    have hl2 : L1.length = L.length := r1.ll.trans h.ll.symm
    have S := (S.fro [] rfl).tail
    refine S.la2 rfl ?_
    have S := S.fro [3, 3, 3] rfl
    refine (with24_c (b := b) (kd := 4) (m := 0) (C := C2) (f := f) (o := o) ⟨hb.1, by have := r1.ll; omega⟩ (by have := r1.ll; omega) (by omega) r1.erL S).mono ?_
    rintro ⟨_, ⟨⟩⟩ w323 ⟨l3, hr3, S⟩
    dsimp only at hr3
    subst hr3
    have S := S.fro [3, 3, 3] rfl
    refine S.st2 (by rfl) fun w324 S f324 => ?_
    refine S.la2 rfl ?_
    have hL1 : L1.set b.toNat (doB 4 0 (gx L1 b.toNat)) = chL b L.length fB L1 := by unfold chL; rw [if_pos (show inB b L.length from ⟨hb.1, by omega⟩)]; rfl
    rw [hL1] at S
    have r4 := r1.chL b (φ := fB) (fun _ => rfl)
    rw [hl2] at r4
    have S := S.fro [3, 3, 3] rfl
    refine (rDestroy24_c (b := b) r4 (by omega) hb hdb2 hf hdf2 S).mono ?_
    rintro ⟨_, (e5 : Int), ⟨⟩⟩ w325 ⟨B4, l4, hr4, hq4, hdb4, S⟩
    dsimp only at hr4 hq4
    subst hr4
    dsimp only
    have S := S.fro [3, 3, 3] rfl
    refine S.newB fun bx w326 S f326 z326 => ?_
    refine S.st0 (by rfl) fun w327 S f327 => ?_
    refine S.la0 rfl ?_
    refine S.st3 (by rfl) fun w328 S f328 => ?_
    have S := (S.fro [] rfl).tail
    obtain ⟨d1, d2, d3⟩ := r4.dst b (by omega)
    have hdf4 : fds f = (dstP C2 (chL b L.length fB L1) b).1.pl := hdf2.trans (dstP_k ..).symm
    generalize dstP C2 (chL b L.length fB L1) b = Y at hX hq4 hdb4 d1 d2 d3 hdf4 S
    obtain ⟨C3, L3, e6⟩ := Y
    dsimp only at hX hq4 hdb4 d1 d2 d3 hdf4 S
    subst hq4
    refine cond_eq (fun h4 => ?_) (fun h4 => ?_)
    · refine S.la2 rfl ?_
      refine S.st0 (by rfl) fun w329 S f329 => ?_
      refine S.la0 rfl ?_
      rw [if_pos h4] at hX
      rw [← hX]
      subst h4
      exact ⟨B4, l4, o, rfl, hdb4, S.tail.tail.tail⟩
    · rw [if_neg h4] at hX
      exact nxt d1 (by omega) hX hdb4 hdf4 S
  · have hcl' : (gx L b.toNat).cl = true := by simpa using hcl
    rw [if_pos hcl'] at hX
    dsimp only at hX
    rw [if_pos rfl] at hX
    obtain ⟨hln1, hon1⟩ := rp_n (S.fro [3, 3, 3] rfl)
    refine S.reg fun D hD hkeep S T => ?_
    have X := T.fr
    clear T
    have hllq := h.ll
    obtain ⟨qa, hqa, hca, hqba⟩ := nthB (i := b) 4 S rfl hb.1 (by omega)
    refine ⟨hD _ S.bl2, S.ld2 (j := 10) rfl rfl ⟨⟨hb.1, by first | omega | (dsimp only; omega)⟩, qa, hqa, by rw [add_block, add_block]; exact hD _ hqba, ldc hca 3 (h := .int .i64) rfl ⟨hD _ S.bl1, S.ld1 (j := 4) rfl rfl ⟨hD _ S.bl1, S.ld1 (j := 5) rfl rfl ?_⟩⟩⟩⟩
    refine S.newB fun bh w331 S f331 z331 => ?_
    have ybh := Fr.nw X z331
    have X := X.trans f331
    refine ⟨hkeep _ X, ?_⟩
    refine S.st0 (by rfl) fun w332 S f332 => ?_
    have X := Fr.box X ybh f332
    refine ⟨hkeep _ X, ?_⟩
    refine S.la3 rfl ?_
    refine S.la0 rfl ?_
    have S := S.fro [4, 4, 4] rfl
    have hfst := rFirst24_c (b := b) (hd := begH L b ns od) (sl := sl) (o := o) h (begH_rng L b hn hr) (begH_right L b hn) (by omega) ⟨by omega, by omega⟩ hdb hf hdf S
    refine hfst.mono ?_
    clear hfst
    rintro ⟨_, (e2 : Int), ⟨⟩⟩ w330 ⟨hq2, B2, hr2, hdb2, S⟩
    dsimp only at hq2 hr2
    subst hr2
    dsimp only
    have S := S.fro [3, 3, 3, 3] rfl
    obtain ⟨r1, r2, r3⟩ := h.fst b (begH_rng L b hn hr) (begH_right L b (o := od) hn) sl (by omega)
    have hdf2 : fds f = (fstP C b (begH L b ns od) sl).1.pl := hdf.trans (fstP_k ..).symm
    unfold begP at hX
    refine S.newB fun bx w333 S f333 z333 => ?_
    refine S.st0 (by rfl) fun w334 S f334 => ?_
    refine S.la0 rfl ?_
    refine S.st4 (by rfl) fun w335 S f335 => ?_
    have S := (S.fro [] rfl).tail
    generalize fstP C b (begH L b ns od) sl = Z at hX hq2 hdb2 r1 r2 r3 hdf2 S
    obtain ⟨C2, e3⟩ := Z
    dsimp only at hX hq2 hdb2 r1 r2 r3 hdf2 S
    subst hq2
    refine cond_eq (fun h4 => ?_) (fun h4 => ?_)
    · refine S.la3 rfl ?_
      refine S.st1 (by rfl) fun w336 S f336 => ?_
      refine S.la1 rfl ?_
      have h0' : ¬ e2 = 0 := by omega
      simp only [if_neg h0', if_pos h4] at hX
      have S := (S.fro [] rfl).tail
      rw [← hX]
      subst h4
      exact ⟨B2, l, o, rfl, hdb2, S.tail.tail.tail⟩
    refine cond_eq (fun h0 => ?_) (fun h0 => ?_)
    · simp only [if_pos h0] at hX
      refine S.la3 rfl ?_
      have S := S.fro [4, 4, 4] rfl
      refine (with24_c (b := b) (kd := 1) (m := ns) (C := C2) (f := f) (o := o) ⟨hb.1, by have := r1.ll; omega⟩ (by have := r1.ll; omega) (by omega) r1.erL S).mono ?_
      rintro ⟨_, ⟨⟩⟩ w337 ⟨l3, hr3, S⟩
      dsimp only at hr3
      subst hr3
      have S := S.fro [3, 3, 3, 3] rfl
      refine S.st3 (by rfl) fun w338 S f338 => ?_
      refine S.newB fun bo w339 S f339 z339 => ?_
      have S := S.asOwn (sz := 6) (n := 0) rfl (by omega) oneAll.nil
      refine S.ld4 (j := 11) rfl rfl ?_
      have hO := S.own 7 rfl
      refine AppS.of (news := O.flatMap Hd.vs) (by rw [flatF_len Hdv_len, hon1]) hO.rd ?_
      refine S.ap0 (by rw [flatF_len Hdv_len, hon1]) (flatF_one Hdv_one O) (by dsimp only; omega) (by dsimp only; omega) fun a340 c340 w340 S f340 => ?_
      dsimp only [List.nil_append] at S ⊢
      rw [Nat.zero_add] at S ⊢
      refine S.su4 (by rfl) fun w341 S f341 => ?_
      dsimp only [List.set_cons_zero, List.set_cons_succ] at S
      refine S.ld4 (j := 11) rfl rfl ?_
      refine S.la1 rfl ?_
      refine ⟨⟨hb.1, by first | omega | (dsimp only; omega)⟩, S.putF Hdv_len Hdv_one (by decide) ⟨hb.1, by omega⟩ (begH L b ns od) fun w342 S f342 => ?_⟩
      refine S.la4 rfl ?_
      refine S.st2 (by rfl) fun w343 S f343 => ?_
      refine S.la2 rfl ?_
      rw [← hX]
      have S := (S.fro [1, 6] rfl).tail.tail
      have S := S.fro [1, 1, 1, 1, 1] rfl
      refine ⟨B2, l3, ⟨a340, o.n, c340⟩, rfl, hdb2, ?_⟩
      have hin : inB b L.length := ⟨hb.1, by have := r1.ll; omega⟩
      unfold chL
      rw [if_pos hin]
      exact S.tail.tail.tail
    simp only [if_neg h0, if_neg h4] at hX
    have hin : inB b L.length := ⟨hb.1, by have := r1.ll; omega⟩
    have hl2 : L.length = L.length := r1.ll.trans h.ll.symm
    have S := (S.fro [] rfl).tail
    refine S.la2 rfl ?_
    have S := S.fro [3, 3, 3] rfl
    refine (with24_c (b := b) (kd := 4) (m := 0) (C := C2) (f := f) (o := o) ⟨hb.1, by have := r1.ll; omega⟩ (by have := r1.ll; omega) (by omega) r1.erL S).mono ?_
    rintro ⟨_, ⟨⟩⟩ w344 ⟨l3, hr3, S⟩
    dsimp only at hr3
    subst hr3
    have S := S.fro [3, 3, 3] rfl
    refine S.st2 (by rfl) fun w345 S f345 => ?_
    refine S.la2 rfl ?_
    have hL1 : L.set b.toNat (doB 4 0 (gx L b.toNat)) = chL b L.length fB L := by unfold chL; rw [if_pos (show inB b L.length from ⟨hb.1, by omega⟩)]; rfl
    rw [hL1] at S
    have r4 := r1.chL b (φ := fB) (fun _ => rfl)
    rw [hl2] at r4
    have S := S.fro [3, 3, 3] rfl
    refine (rDestroy24_c (b := b) r4 (by omega) hb hdb2 hf hdf2 S).mono ?_
    rintro ⟨_, (e5 : Int), ⟨⟩⟩ w346 ⟨B4, l4, hr4, hq4, hdb4, S⟩
    dsimp only at hr4 hq4
    subst hr4
    dsimp only
    have S := S.fro [3, 3, 3] rfl
    refine S.newB fun bx w347 S f347 z347 => ?_
    refine S.st0 (by rfl) fun w348 S f348 => ?_
    refine S.la0 rfl ?_
    refine S.st3 (by rfl) fun w349 S f349 => ?_
    have S := (S.fro [] rfl).tail
    obtain ⟨d1, d2, d3⟩ := r4.dst b (by omega)
    have hdf4 : fds f = (dstP C2 (chL b L.length fB L) b).1.pl := hdf2.trans (dstP_k ..).symm
    generalize dstP C2 (chL b L.length fB L) b = Y at hX hq4 hdb4 d1 d2 d3 hdf4 S
    obtain ⟨C3, L3, e6⟩ := Y
    dsimp only at hX hq4 hdb4 d1 d2 d3 hdf4 S
    subst hq4
    refine cond_eq (fun h4 => ?_) (fun h4 => ?_)
    · refine S.la2 rfl ?_
      refine S.st0 (by rfl) fun w350 S f350 => ?_
      refine S.la0 rfl ?_
      rw [if_pos h4] at hX
      rw [← hX]
      subst h4
      exact ⟨B4, l4, o, rfl, hdb4, S.tail.tail.tail⟩
    · rw [if_neg h4] at hX
      exact nxt d1 (by omega) hX hdb4 hdf4 S
end
end Go.Proofs.YtlpeoaphdmfjdaaGreat.Vc
/-! What any parameter of a law is known to be, with the sizes of what it holds: structs, arrays and slices of whole numbers, texts, and of each other. -/
namespace Go.Proofs.YtlpeoaphdmfjdaaGreat.Vc
open Go Go.Eng Go.RowKit Go.ChangeShapes
def Ty.big : (t : Ty) → t.T → Prop
  | .int _, _ => True
  | .bool, _ => True
  | .str, (x : ByteArray) => x.size ≤ 140737488351232
  | .sl e, (x : SlP e.T) => x.n ≤ 140737488351232 ∧ ∀ y ∈ x.l, e.big y
  | .nil, _ => True
  | .cons a r, (x : a.T × r.T) => a.big x.1 ∧ r.big x.2
def posF (P : Program) (cf : Ty → TypeId → Bool) : Ty → List Field → Bool
  | .cons a r, f :: fs => cf a f.type && posF P cf r fs
  | _, _ => true
def posA (cf : Ty → TypeId → Bool) (e : TypeId) : Ty → Nat → Bool
  | .cons a r, n + 1 => cf a e && posA cf e r n
  | _, _ => true
def pos (P : Program) : Nat → Ty → TypeId → Bool
  | 0, _, _ => false
  | d + 1, t, i =>
    match P.underlying i, t with
    | some (.slice e), .sl t => pos P d t e && Nat.ble 1 (P.bytesOf e)
    | some (.struct fs), t => posF P (pos P d) t fs.toList
    | some (.array n e), t => posA (pos P d) e t n
    | _, _ => true
section
variable {H : Type} {enc : TypeId × Value → H} {P : Program} {w : World}
def Fit (l : List Nat) : Prop := l.all (· ≤ reachBytes) = true
theorem Fit.app {l m : List Nat} : Fit (l ++ m) ↔ Fit l ∧ Fit m := by unfold Fit; rw [List.all_append, Bool.and_eq_true]
theorem Fit.cons {a : Nat} {m : List Nat} : Fit (a :: m) ↔ a ≤ reachBytes ∧ Fit m := by unfold Fit; rw [List.all_cons, Bool.and_eq_true]; simp
def OpensS (enc : TypeId × Value → H) (P : Program) (w : World) (d : Nat) : Prop :=
  ∀ (ty : Ty) (t : TypeId) (fuel : Nat) (cs : List Value) (x : DataW H × List MemPlace), conf P d ty t = true → pos P d ty t = true → DataW.trod enc P w 0 (fun _ => true) true fuel t cs = some x →
    ∃ v : ty.T, cs = ty.vs v ∧ ty.ok w v ∧ (Fit (x.1.weights P t) → ty.big v)
theorem openFS {d : Nat} (ih : OpensS enc P w d) {n : Nat} {cs : List Value} : ∀ (ty : Ty) (fs : List Field) (o : Nat) (xs : List (DataW H × List MemPlace)), confF P (conf P d) ty fs o = true → posF P (pos P d) ty fs = true → cs.length = o + ty.n → xs.length = fs.length →
    (∀ (i : Nat) (f : Field), fs[i]? = some f → DataW.trod enc P w 0 (fun _ => true) true n f.type ((cs.drop f.offset).take (P.cellsOf f.type)) = xs[i]?) →
    ∃ v : ty.T, cs.drop o = ty.vs v ∧ ty.ok w v ∧ (Fit (DataW.weightsEach P (fs.map (·.type)) (xs.map (·.1))) → ty.big v)
  | .nil, [], o, xs, hc, hp, hl, hx, hf => ⟨(), by simp [Ty.vs, hl, Ty.n], trivial, fun _ => trivial⟩
  | .cons a r, f :: fs, o, x :: xs, hc, hp, hl, hx, hf => by
    simp only [confF, Bool.and_eq_true, beq_iff_eq] at hc
    simp only [posF, Bool.and_eq_true] at hp
    obtain ⟨⟨⟨h1, h2⟩, h3⟩, h4⟩ := hc
    have hy := hf 0 f rfl
    obtain ⟨v1, e1, o1, b1⟩ := ih a f.type n _ x h2 hp.1 hy
    obtain ⟨v2, e2, o2, b2⟩ := openFS ih r fs (o + a.n) xs h4 hp.2 (by rw [hl]; simp [Ty.n]; omega) (by simpa using hx) (fun i f' hf' => hf (i + 1) f' (by simpa using hf'))
    refine ⟨(v1, v2), ?_, ⟨o1, o2⟩, fun hw => ?_⟩
    · show _ = a.vs v1 ++ r.vs v2
      rw [← e1, ← e2, h1, h3, ← List.drop_drop, List.take_append_drop]
    · have hw' := Fit.app.1 (by simpa only [List.map_cons, DataW.weightsEach] using hw)
      exact ⟨b1 hw'.1, b2 hw'.2⟩
  | .cons _ _, _ :: _, _, [], _, _, _, hx, _ => by simp at hx
  | .int _, [], _, _, hc, _, _, _, _ => by simp [confF] at hc
  | .int _, _ :: _, _, _, hc, _, _, _, _ => by simp [confF] at hc
  | .bool, [], _, _, hc, _, _, _, _ => by simp [confF] at hc
  | .bool, _ :: _, _, _, hc, _, _, _, _ => by simp [confF] at hc
  | .str, [], _, _, hc, _, _, _, _ => by simp [confF] at hc
  | .str, _ :: _, _, _, hc, _, _, _, _ => by simp [confF] at hc
  | .sl _, [], _, _, hc, _, _, _, _ => by simp [confF] at hc
  | .sl _, _ :: _, _, _, hc, _, _, _, _ => by simp [confF] at hc
  | .nil, _ :: _, _, _, hc, _, _, _, _ => by simp [confF] at hc
  | .cons _ _, [], _, _, hc, _, _, _, _ => by simp [confF] at hc
theorem openAS {d : Nat} (ih : OpensS enc P w d) {n : Nat} {cs : List Value} {e : TypeId} : ∀ (ty : Ty) (m : Nat) (i : Nat) (xs : List (DataW H × List MemPlace)), confA P (conf P d) e ty m = true → posA (pos P d) e ty m = true → cs.length = i * P.cellsOf e + ty.n → xs.length = m →
    (∀ j, j < m → DataW.trod enc P w 0 (fun _ => true) true n e ((cs.drop ((i + j) * P.cellsOf e)).take (P.cellsOf e)) = xs[j]?) → ∃ v : ty.T, cs.drop (i * P.cellsOf e) = ty.vs v ∧ ty.ok w v ∧ (Fit (DataW.weightsAll P e (xs.map (·.1))) → ty.big v)
  | .nil, 0, i, xs, hc, hp, hl, hx, hf => ⟨(), by simp [Ty.vs, hl, Ty.n], trivial, fun _ => trivial⟩
  | .cons a r, m + 1, i, x :: xs, hc, hp, hl, hx, hf => by
    simp only [confA, Bool.and_eq_true, beq_iff_eq] at hc
    simp only [posA, Bool.and_eq_true] at hp
    obtain ⟨⟨h2, h3⟩, h4⟩ := hc
    have hy := hf 0 (by omega)
    obtain ⟨v1, e1, o1, b1⟩ := ih a e n _ x h2 hp.1 hy
    obtain ⟨v2, e2, o2, b2⟩ := openAS ih r m (i + 1) xs h4 hp.2 (by rw [hl, Nat.add_mul, h3]; simp [Ty.n]; omega) (by simpa using hx) (fun j hj => by
      have := hf (j + 1) (by omega)
      rw [show i + 1 + j = i + (j + 1) by omega]
      simpa using this)
    refine ⟨(v1, v2), ?_, ⟨o1, o2⟩, fun hw => ?_⟩
    · show _ = a.vs v1 ++ r.vs v2
      rw [← e1, ← e2, Nat.add_zero, Nat.add_mul, Nat.one_mul, ← List.drop_drop, List.take_append_drop]
    · have hw' := Fit.app.1 (by simpa only [List.map_cons, DataW.weightsAll] using hw)
      exact ⟨b1 hw'.1, b2 hw'.2⟩
  | .cons _ _, _ + 1, _, [], _, _, _, hx, _ => by simp at hx
  | .int _, 0, _, _, hc, _, _, _, _ => by simp [confA] at hc
  | .int _, _ + 1, _, _, hc, _, _, _, _ => by simp [confA] at hc
  | .bool, 0, _, _, hc, _, _, _, _ => by simp [confA] at hc
  | .bool, _ + 1, _, _, hc, _, _, _, _ => by simp [confA] at hc
  | .str, 0, _, _, hc, _, _, _, _ => by simp [confA] at hc
  | .str, _ + 1, _, _, hc, _, _, _, _ => by simp [confA] at hc
  | .sl _, 0, _, _, hc, _, _, _, _ => by simp [confA] at hc
  | .sl _, _ + 1, _, _, hc, _, _, _, _ => by simp [confA] at hc
  | .nil, _ + 1, _, _, hc, _, _, _, _ => by simp [confA] at hc
  | .cons _ _, 0, _, _, hc, _, _, _, _ => by simp [confA] at hc
theorem weightsAll_append (e : TypeId) (l m : List (DataW H)) : DataW.weightsAll P e (l ++ m) = DataW.weightsAll P e l ++ DataW.weightsAll P e m := by
  induction l with
  | nil => simp [DataW.weightsAll]
  | cons x l ih => simp only [List.cons_append, DataW.weightsAll, ih, List.append_assoc]
theorem openSS {d : Nat} (ih : OpensS enc P w d) {ty : Ty} {e : TypeId} (hc : conf P d ty e = true) (hp : pos P d ty e = true) (hn : P.cellsOf e = ty.n) {a : Addr} {m : Nat} : ∀ (elems : List (DataW H × List MemPlace)),
    (∀ i, i < elems.length → (w.cells? 0 (a.add (i * P.cellsOf e)) (P.cellsOf e)).bind (DataW.trod enc P w 0 (fun _ => true) true m e) = elems[i]?) →
    ∃ l : List ty.T, l.length = elems.length ∧ CellsAt w a (l.flatMap ty.vs) ∧ (∀ y ∈ l, ty.ok w y) ∧ (Fit (DataW.weightsAll P e (elems.map (·.1))) → ∀ y ∈ l, ty.big y) := by
  intro elems
  have key : ∀ (k : Nat) (elems : List (DataW H × List MemPlace)), elems.length = k → (∀ i, i < elems.length → (w.cells? 0 (a.add (i * P.cellsOf e)) (P.cellsOf e)).bind (DataW.trod enc P w 0 (fun _ => true) true m e) = elems[i]?) →
      ∃ l : List ty.T, l.length = elems.length ∧ CellsAt w a (l.flatMap ty.vs) ∧ (∀ y ∈ l, ty.ok w y) ∧ (Fit (DataW.weightsAll P e (elems.map (·.1))) → ∀ y ∈ l, ty.big y) := by
    intro k
    induction k with
    | zero =>
      intro elems hk _
      have := List.length_eq_zero_iff.1 hk
      subst this
      exact ⟨[], rfl, fun j v hv => by simp at hv, fun y hy => (List.not_mem_nil hy).elim, fun _ y hy => (List.not_mem_nil hy).elim⟩
    | succ k ih2 =>
      intro elems hk h
      have hne : elems ≠ [] := fun e0 => by rw [e0] at hk; simp at hk
      have hsplit := List.dropLast_concat_getLast hne
      have hlen1 : elems.dropLast.length = k := by simp [hk]
      obtain ⟨l, hl, hcl, hol, hbl⟩ := ih2 elems.dropLast hlen1 (fun i hi => by
        rw [h i (by omega), List.getElem?_eq_getElem (by omega), List.getElem?_eq_getElem hi, List.getElem_dropLast])
      have hy := h k (by omega)
      rw [List.getElem?_eq_getElem (by omega)] at hy
      have hlast : elems[k]'(by omega) = elems.getLast hne := by rw [List.getLast_eq_getElem]; congr 1; omega
      rw [hlast] at hy
      obtain ⟨c, hcs, ht⟩ := Option.bind_eq_some_iff.1 hy
      obtain ⟨v, e1, o1, b1⟩ := ih ty e m c _ hc hp ht
      obtain ⟨_, hlen, hcell⟩ := World.cells?_some hcs
      have hl' : l.length = k := by rw [hl, hlen1]
      refine ⟨l ++ [v], by simp [hl', hk], ?_, ?_, ?_⟩
      · rw [List.flatMap_append, List.flatMap_singleton]
        refine CellsAt.append' hcl ?_
        have : (l.flatMap ty.vs).length = k * P.cellsOf e := by
          rw [hn, ← hl']
          clear hcl hol hl hbl hl' hlast
          induction l with
          | nil => simp
          | cons z l ih3 => rw [List.flatMap_cons, List.length_append, Ty.vs_length, ih3, List.length_cons, Nat.add_mul]; omega
        rw [this]
        intro j u hu
        rw [← e1] at hu
        have hj : j < P.cellsOf e := by rw [← hlen]; exact (List.getElem?_eq_some_iff.1 hu).1
        rw [hcell j hj, hu]
      · intro y hy
        rcases List.mem_append.1 hy with h1 | h1
        · exact hol y h1
        · rw [List.mem_singleton.1 h1]; exact o1
      · intro hw
        rw [← hsplit, List.map_append, weightsAll_append] at hw
        obtain ⟨g1, g2⟩ := Fit.app.1 hw
        simp only [List.map_cons, List.map_nil, DataW.weightsAll, List.append_nil] at g2
        intro y hy
        rcases List.mem_append.1 hy with h1 | h1
        · exact hbl g1 y h1
        · rw [List.mem_singleton.1 h1]; exact b1 g2
  exact key _ elems rfl
theorem opensS : ∀ d : Nat, OpensS enc P w d
  | 0 => fun ty t fuel cs x hc => by simp [conf] at hc
  | d + 1 => by
    have ih := opensS d
    intro ty t fuel cs x hc hp h
    unfold conf at hc
    unfold pos at hp
    split at hc
    · rename_i k k' ht
      obtain ⟨n, rfl, _, hw⟩ := DataW.trod_int ht h
      have := of_decide_eq_true hc
      subst this
      exact ⟨n, rfl, wfRng hw, fun _ => trivial⟩
    · rename_i ht
      obtain ⟨b, rfl, _⟩ := DataW.trod_bool ht h
      exact ⟨b, rfl, trivial, fun _ => trivial⟩
    · rename_i ht
      obtain ⟨s, rfl, rfl, hs⟩ := DataW.trod_string ht h
      refine ⟨s, rfl, hs, fun hw => ?_⟩
      simp only [DataW.weights] at hw
      have := (Fit.cons.1 hw).1
      have e : reachBytes = 140737488351232 := by decide
      rw [e] at this
      simpa [Ty.big] using this
    · rename_i e t' ht
      rw [ht] at hp
      simp only [Bool.and_eq_true, beq_iff_eq] at hc hp
      obtain ⟨hc1, hc2⟩ := hc
      rcases DataW.trod_slice ht h with ⟨rfl, _⟩ | ⟨a, len, cap, elems, rest, n, _, rfl, rfl, hb, hl, hm, hlen, hel, _⟩
      · exact ⟨⟨none, 0, 0, []⟩, rfl, ⟨rfl, Nat.le_refl _, Nat.zero_le _, .inl ⟨rfl, rfl⟩, fun y hy => (List.not_mem_nil hy).elim⟩, fun _ => ⟨by show (0 : Nat) ≤ _; omega, fun y hy => (List.not_mem_nil hy).elim⟩⟩
      · obtain ⟨l, h1, h2, h3, h4⟩ := openSS ih hc1 hp.1 hc2 (a := a) (m := n) elems fun i hi => hel i (by omega)
        refine ⟨⟨some a, len, cap, l⟩, rfl, ⟨by rw [h1, hlen], hl, hm, .inr ⟨a, rfl, h2⟩, h3⟩, fun hw => ?_⟩
        simp only [DataW.weights, ht] at hw
        obtain ⟨g1, g2⟩ := Fit.cons.1 hw
        refine ⟨?_, h4 (Fit.app.1 g2).1⟩
        have hb1 : 1 ≤ P.bytesOf e := Nat.le_of_ble_eq_true hp.2
        rw [List.length_map, List.length_map, hlen] at g1
        have g3 : len * 1 ≤ (len + rest.length) * P.bytesOf e := Nat.mul_le_mul (by omega) hb1
        have : reachBytes = 140737488351232 := by decide
        show len ≤ _
        omega
    · rename_i ty _ _ fs ht
      rw [ht] at hp
      simp only [Bool.and_eq_true, beq_iff_eq] at hc
      obtain ⟨xs, n, _, rfl, hl, hlen, hf⟩ := DataW.trod_struct ht h
      obtain ⟨v, e1, o1, b1⟩ := openFS ih (n := n) (cs := cs) ty fs.toList 0 xs hc.1 (by simpa using hp) (by rw [hl, hc.2]; omega) (by simpa using hlen) fun i f hfi => hf i f (by simpa using hfi)
      refine ⟨v, by simpa using e1, o1, fun hw => b1 ?_⟩
      simpa only [DataW.weights, ht] using hw
    · rename_i ty _ _ n e ht
      rw [ht] at hp
      simp only [Bool.and_eq_true, beq_iff_eq] at hc
      obtain ⟨xs, m, _, rfl, hl, hlen, hf⟩ := DataW.trod_array ht h
      obtain ⟨v, e1, o1, b1⟩ := openAS ih (n := m) (cs := cs) ty n 0 xs hc.1 (by simpa using hp) (by rw [hl, hc.2]; omega) hlen fun j hj => by rw [Nat.zero_add]; exact hf j hj
      refine ⟨v, by simpa using e1, o1, fun hw => b1 ?_⟩
      simpa only [DataW.weights, ht] using hw
    · cases hc
theorem openAggS {ty : Ty} {t : TypeId} {cs : Array Value} {d : Nat} {x : DataW H} {ps : List MemPlace} (hc : conf P d ty t = true) (hp : pos P d ty t = true)
    {ts : List TypeId} {ds : List (DataW H)} {j : Nat} (htj : ts[j]? = some t) (hdj : ds[j]? = some x) (hsz : (DataW.weightsEach P ts ds).all (· ≤ reachBytes) = true)
    (h : DataW.Trod enc P w 0 (fun _ => true) true t (.agg cs) x ps) : ∃ v : ty.T, Value.agg cs = .agg (ty.vs v).toArray ∧ ty.ok w v ∧ ty.big v := by
  obtain ⟨fuel, hf⟩ := h
  obtain ⟨v, e, o, b⟩ := opensS d ty t fuel _ _ hc hp hf
  refine ⟨v, ?_, o, b (List.all_eq_true.2 fun n hn => List.all_eq_true.1 hsz n (DataW.weights_mem_each htj hdj n hn))⟩
  rw [← e]
  simp [Value.cells]
end
end Go.Proofs.YtlpeoaphdmfjdaaGreat.Vc
/-! What the laws of layer 13 share. -/
namespace Go.Proofs.YtlpeoaphdmfjdaaGreat.Vc
open Go Go.Eng Go.RowKit
theorem fds_byt {w : World} {G : Nat → Prop} {f : SlP TF.T} (hf : LF.rd w G f) : ∀ F ∈ fds f, Byt F.2.2.1 := fun F hF => by
  obtain ⟨x, hx, rfl⟩ := List.mem_map.1 hF
  rw [TF_dat]
  exact fun v hv => rng_u8 ((hf.2.2.2.2 x hx).2.2.1.2.2.2.2 v hv)
end Go.Proofs.YtlpeoaphdmfjdaaGreat.Vc
