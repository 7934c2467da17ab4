/- Texts in one: The plans of functions as plain statements, printed by wip/tools/vcgen.py; the kernel holds each to the code. The laws PageMakes and PageBlank of layer 15: each call gives true, and what it read stays. The law PageReads of layer 15: each call gives true, and what it read stays. The law HeadMarks of layer 14: each call gives true, and what it read stays. Parts of plans, cut out by wip/tools/vccut.py. The law PageBack of layer 15: each call gives true, and what it read stays. -/
import Derived.Test.YtfpkaebmiojicaaZPageBackc

/-! The plans of functions as plain statements, printed by wip/tools/vcgen.py; the kernel holds each to the code. -/
namespace Go.Proofs.Ytfpkaebmiojicaa.Vc
open Go Go.Eng
set_option linter.unusedVariables false

/-! ### nepenthe/nepenthelaw15.PageMakes: function 3 -/
def law15_PageMakes.A : Ann := .no
def law15_PageMakes.P (p0_0 : Int) (p0_1 : Int) (p0_2 : Int) (p0_3 : Int) (p0_4 : Int) (p0_5 : Int) (p1_0 : Int) (p1_1 : Int) (p1_2 : Int) (p1_3 : Int) (p1_4 : Int) (p1_5 : Int) (a2_0 : Option Addr) (n2_0 c2_0 : Nat) (a2_1 : Option Addr) (n2_1 c2_1 : Nat) (w : World) (K : Bool × Unit → World → Prop) : Prop :=
  NewV #[.int .i64 p0_0, .int .i64 p0_1, .int .i64 p0_2, .int .i64 p0_3, .int .i64 p0_4, .int .i64 p0_5] 23 w fun b1 w2 =>
  NewV #[.int .i64 p1_0, .int .i64 p1_1, .int .i64 p1_2, .int .u32 p1_3, .int .u64 p1_4, .int .u64 p1_5] 27 w2 fun b3 w4 =>
  NewV #[.slice a2_0 n2_0 c2_0, .slice a2_1 n2_1 c2_1] 29 w4 fun b5 w6 =>
  LoadA w6 ⟨b1, 0, none⟩ [.int .i64, .int .i64, .int .i64, .int .i64, .int .i64, .int .i64] fun (x7 : Int × Int × Int × Int × Int × Int × Unit) =>
  LoadA w6 ⟨b3, 0, none⟩ [.int .i64, .int .i64, .int .i64, .int .u32, .int .u64, .int .u64] fun (x8 : Int × Int × Int × Int × Int × Int × Unit) =>
  (0 ≤ (0 : Int) ∧ 0 < (2 : Int)) ∧
  LoadS w6 ⟨b5, 0, none⟩ .sl fun (x9 : SlV) =>
  (0 ≤ (1 : Int) ∧ 1 < (2 : Int)) ∧
  LoadS w6 ⟨b5, 1, none⟩ .sl fun (x10 : SlV) =>
  CallV Try.prog 15 #[.agg #[.int .i64 x7.1, .int .i64 x7.2.1, .int .i64 x7.2.2.1, .int .i64 x7.2.2.2.1, .int .i64 x7.2.2.2.2.1, .int .i64 x7.2.2.2.2.2.1], .agg #[.int .i64 x8.1, .int .i64 x8.2.1, .int .i64 x8.2.2.1, .int .u32 x8.2.2.2.1, .int .u64 x8.2.2.2.2.1, .int .u64 x8.2.2.2.2.2.1], .slice x9.a x9.n x9.c, .slice x10.a x10.n x10.c] w6 [.one .sl, .one (.int .i64)] fun (r11 : SlV × Int × Unit) w12 =>
  LoadA w12 ⟨b1, 0, none⟩ [.int .i64, .int .i64, .int .i64, .int .i64, .int .i64, .int .i64] fun (x13 : Int × Int × Int × Int × Int × Int × Unit) =>
  CallV Try.prog 16 #[.agg #[.int .i64 x13.1, .int .i64 x13.2.1, .int .i64 x13.2.2.1, .int .i64 x13.2.2.2.1, .int .i64 x13.2.2.2.2.1, .int .i64 x13.2.2.2.2.2.1]] w12 [.one .sl, .one (.int .i64)] fun (r14 : SlV × Int × Unit) w15 =>
  LoadA w15 ⟨b1, 0, none⟩ [.int .i64, .int .i64, .int .i64, .int .i64, .int .i64, .int .i64] fun (x16 : Int × Int × Int × Int × Int × Int × Unit) =>
  CallV Try.prog 17 #[.agg #[.int .i64 x16.1, .int .i64 x16.2.1, .int .i64 x16.2.2.1, .int .i64 x16.2.2.2.1, .int .i64 x16.2.2.2.2.1, .int .i64 x16.2.2.2.2.2.1]] w15 [.one .bool] fun (r17 : Bool × Unit) w18 =>
  cond (!r17.1)
  (cond (r11.2.1 == 2)
  (cond (r14.2.1 == 2)
  (Rng .i64 (((r11.1.n : Nat) : Int) + ((r14.1.n : Nat) : Int)) ∧
  cond ((((r11.1.n : Nat) : Int) + ((r14.1.n : Nat) : Int)) == 0)
  (CallV Try.prog 18 #[] w18 [.one .bool] fun (r19 : Bool × Unit) w20 =>
  K (r19.1, ()) w20)
  (K (false, ()) w18))
  (K (false, ()) w18))
  (K (false, ()) w18))
  (cond (r14.2.1 != 0)
  (K (false, ()) w18)
  (LoadA w18 ⟨b1, 0, none⟩ [.int .i64, .int .i64, .int .i64, .int .i64, .int .i64, .int .i64] fun (x21 : Int × Int × Int × Int × Int × Int × Unit) =>
  CallV Try.prog 20 #[.agg #[.int .i64 x21.1, .int .i64 x21.2.1, .int .i64 x21.2.2.1, .int .i64 x21.2.2.2.1, .int .i64 x21.2.2.2.2.1, .int .i64 x21.2.2.2.2.2.1]] w18 [.one .sl] fun (r22 : SlV × Unit) w23 =>
  CallV Try.prog 19 #[.slice r14.1.a r14.1.n r14.1.c, .slice r22.1.a r22.1.n r22.1.c] w23 [.one .bool] fun (r24 : Bool × Unit) w25 =>
  cond (!r24.1)
  (K (false, ()) w25)
  (LoadA w25 ⟨b1, 0, none⟩ [.int .i64, .int .i64, .int .i64, .int .i64, .int .i64, .int .i64] fun (x26 : Int × Int × Int × Int × Int × Int × Unit) =>
  LoadA w25 ⟨b3, 0, none⟩ [.int .i64, .int .i64, .int .i64, .int .u32, .int .u64, .int .u64] fun (x27 : Int × Int × Int × Int × Int × Int × Unit) =>
  (0 ≤ (0 : Int) ∧ 0 < (2 : Int)) ∧
  LoadS w25 ⟨b5, 0, none⟩ .sl fun (x28 : SlV) =>
  (0 ≤ (1 : Int) ∧ 1 < (2 : Int)) ∧
  LoadS w25 ⟨b5, 1, none⟩ .sl fun (x29 : SlV) =>
  CallV Try.prog 21 #[.agg #[.int .i64 x26.1, .int .i64 x26.2.1, .int .i64 x26.2.2.1, .int .i64 x26.2.2.2.1, .int .i64 x26.2.2.2.2.1, .int .i64 x26.2.2.2.2.2.1], .agg #[.int .i64 x27.1, .int .i64 x27.2.1, .int .i64 x27.2.2.1, .int .u32 x27.2.2.2.1, .int .u64 x27.2.2.2.2.1, .int .u64 x27.2.2.2.2.2.1], .slice x28.a x28.n x28.c, .slice x29.a x29.n x29.c] w25 [.one .bool] fun (r30 : Bool × Unit) w31 =>
  cond (!r30.1)
  (cond (r11.2.1 == 2)
  (cond (((r11.1.n : Nat) : Int) == 0)
  (CallV Try.prog 18 #[] w31 [.one .bool] fun (r32 : Bool × Unit) w33 =>
  K (r32.1, ()) w33)
  (K (false, ()) w31))
  (K (false, ()) w31))
  (cond (r11.2.1 == 0)
  (LoadA w31 ⟨b1, 0, none⟩ [.int .i64, .int .i64, .int .i64, .int .i64, .int .i64, .int .i64] fun (x34 : Int × Int × Int × Int × Int × Int × Unit) =>
  LoadA w31 ⟨b3, 0, none⟩ [.int .i64, .int .i64, .int .i64, .int .u32, .int .u64, .int .u64] fun (x35 : Int × Int × Int × Int × Int × Int × Unit) =>
  (0 ≤ (0 : Int) ∧ 0 < (2 : Int)) ∧
  LoadS w31 ⟨b5, 0, none⟩ .sl fun (x36 : SlV) =>
  (0 ≤ (1 : Int) ∧ 1 < (2 : Int)) ∧
  LoadS w31 ⟨b5, 1, none⟩ .sl fun (x37 : SlV) =>
  CallV Try.prog 22 #[.agg #[.int .i64 x34.1, .int .i64 x34.2.1, .int .i64 x34.2.2.1, .int .i64 x34.2.2.2.1, .int .i64 x34.2.2.2.2.1, .int .i64 x34.2.2.2.2.2.1], .agg #[.int .i64 x35.1, .int .i64 x35.2.1, .int .i64 x35.2.2.1, .int .u32 x35.2.2.2.1, .int .u64 x35.2.2.2.2.1, .int .u64 x35.2.2.2.2.2.1], .slice x36.a x36.n x36.c, .slice x37.a x37.n x37.c] w31 [.one .sl] fun (r38 : SlV × Unit) w39 =>
  CallV Try.prog 19 #[.slice r11.1.a r11.1.n r11.1.c, .slice r38.1.a r38.1.n r38.1.c] w39 [.one .bool] fun (r40 : Bool × Unit) w41 =>
  cond r40.1
  (CallV Try.prog 18 #[] w41 [.one .bool] fun (r42 : Bool × Unit) w43 =>
  K (r42.1, ()) w43)
  (K (false, ()) w41))
  (K (false, ()) w31)))))
theorem law15_PageMakes.vc (p0_0 : Int) (p0_1 : Int) (p0_2 : Int) (p0_3 : Int) (p0_4 : Int) (p0_5 : Int) (p1_0 : Int) (p1_1 : Int) (p1_2 : Int) (p1_3 : Int) (p1_4 : Int) (p1_5 : Int) (a2_0 : Option Addr) (n2_0 c2_0 : Nat) (a2_1 : Option Addr) (n2_1 c2_1 : Nat) (w : World) (K : Bool × Unit → World → Prop) (h : law15_PageMakes.P p0_0 p0_1 p0_2 p0_3 p0_4 p0_5 p1_0 p1_1 p1_2 p1_3 p1_4 p1_5 a2_0 n2_0 c2_0 a2_1 n2_1 c2_1 w K) : CallV Try.prog 3 #[.agg #[.int .i64 p0_0, .int .i64 p0_1, .int .i64 p0_2, .int .i64 p0_3, .int .i64 p0_4, .int .i64 p0_5], .agg #[.int .i64 p1_0, .int .i64 p1_1, .int .i64 p1_2, .int .u32 p1_3, .int .u64 p1_4, .int .u64 p1_5], .agg #[.slice a2_0 n2_0 c2_0, .slice a2_1 n2_1 c2_1]] w [.one .bool] K := by
  have e : vcFun Try.prog okf false Try.f3 law15_PageMakes.A #[.agg #[.int .i64 p0_0, .int .i64 p0_1, .int .i64 p0_2, .int .i64 p0_3, .int .i64 p0_4, .int .i64 p0_5], .agg #[.int .i64 p1_0, .int .i64 p1_1, .int .i64 p1_2, .int .u32 p1_3, .int .u64 p1_4, .int .u64 p1_5], .agg #[.slice a2_0 n2_0 c2_0, .slice a2_1 n2_1 c2_1]] w [.one .bool] K = law15_PageMakes.P p0_0 p0_1 p0_2 p0_3 p0_4 p0_5 p1_0 p1_1 p1_2 p1_3 p1_4 p1_5 a2_0 n2_0 c2_0 a2_1 n2_1 c2_1 w K := by kernel_rfl
  exact vcFun.calls okf_ok follows Try.func3 (e.symm ▸ h)

/-! ### nepenthe/nepenthelaw15.PageReads: function 4 -/
def law15_PageReads.A : Ann := .no
def law15_PageReads.P (p0_0 : Int) (p0_1 : Int) (p0_2 : Int) (p0_3 : Int) (p0_4 : Int) (p0_5 : Int) (a1 : Option Addr) (n1 c1 : Nat) (p2 : Int) (w : World) (K : Bool × Unit → World → Prop) : Prop :=
  NewV #[.int .i64 p0_0, .int .i64 p0_1, .int .i64 p0_2, .int .i64 p0_3, .int .i64 p0_4, .int .i64 p0_5] 23 w fun b1 w2 =>
  cond (decide (((n1 : Nat) : Int) > 5000))
  (CallV Try.prog 18 #[] w2 [.one .bool] fun (r3 : Bool × Unit) w4 =>
  K (r3.1, ()) w4)
  (LoadA w2 ⟨b1, 0, none⟩ [.int .i64, .int .i64, .int .i64, .int .i64, .int .i64, .int .i64] fun (x5 : Int × Int × Int × Int × Int × Int × Unit) =>
  CallV Try.prog 23 #[.agg #[.int .i64 x5.1, .int .i64 x5.2.1, .int .i64 x5.2.2.1, .int .i64 x5.2.2.2.1, .int .i64 x5.2.2.2.2.1, .int .i64 x5.2.2.2.2.2.1], .slice a1 n1 c1] w2 [.agg [.int .i64, .int .i64, .int .i64, .int .u32, .int .u64, .int .u64, .sl, .sl, .bool], .one (.int .i64)] fun (r6 : (Int × Int × Int × Int × Int × Int × SlV × SlV × Bool × Unit) × Int × Unit) w7 =>
  NewV #[.int .i64 0, .int .i64 0, .int .i64 0, .int .u32 0, .int .u64 0, .int .u64 0, .slice none 0 0, .slice none 0 0, .bool false] 42 w7 fun b8 w9 =>
  StoreV w9 ⟨b8, 0, none⟩ [.int .i64 r6.1.1, .int .i64 r6.1.2.1, .int .i64 r6.1.2.2.1, .int .u32 r6.1.2.2.2.1, .int .u64 r6.1.2.2.2.2.1, .int .u64 r6.1.2.2.2.2.2.1, .slice r6.1.2.2.2.2.2.2.1.a r6.1.2.2.2.2.2.2.1.n r6.1.2.2.2.2.2.2.1.c, .slice r6.1.2.2.2.2.2.2.2.1.a r6.1.2.2.2.2.2.2.2.1.n r6.1.2.2.2.2.2.2.2.1.c, .bool r6.1.2.2.2.2.2.2.2.2.1] fun w10 =>
  LoadA w10 ⟨b1, 0, none⟩ [.int .i64, .int .i64, .int .i64, .int .i64, .int .i64, .int .i64] fun (x11 : Int × Int × Int × Int × Int × Int × Unit) =>
  CallV Try.prog 24 #[.agg #[.int .i64 x11.1, .int .i64 x11.2.1, .int .i64 x11.2.2.1, .int .i64 x11.2.2.2.1, .int .i64 x11.2.2.2.2.1, .int .i64 x11.2.2.2.2.2.1], .slice a1 n1 c1, .int .i64 p2] w10 [.agg [.int .i64, .int .i64, .int .i64, .int .u32, .int .u64, .int .u64, .sl, .sl, .bool], .one .bool] fun (r12 : (Int × Int × Int × Int × Int × Int × SlV × SlV × Bool × Unit) × Bool × Unit) w13 =>
  NewV #[.int .i64 0, .int .i64 0, .int .i64 0, .int .u32 0, .int .u64 0, .int .u64 0, .slice none 0 0, .slice none 0 0, .bool false] 42 w13 fun b14 w15 =>
  StoreV w15 ⟨b14, 0, none⟩ [.int .i64 r12.1.1, .int .i64 r12.1.2.1, .int .i64 r12.1.2.2.1, .int .u32 r12.1.2.2.2.1, .int .u64 r12.1.2.2.2.2.1, .int .u64 r12.1.2.2.2.2.2.1, .slice r12.1.2.2.2.2.2.2.1.a r12.1.2.2.2.2.2.2.1.n r12.1.2.2.2.2.2.2.1.c, .slice r12.1.2.2.2.2.2.2.2.1.a r12.1.2.2.2.2.2.2.2.1.n r12.1.2.2.2.2.2.2.2.1.c, .bool r12.1.2.2.2.2.2.2.2.2.1] fun w16 =>
  CallV Try.prog 25 #[.slice a1 n1 c1] w16 [.one .bool] fun (r17 : Bool × Unit) w18 =>
  CallV Try.prog 26 #[.int .u8 255, .int .i64 ((n1 : Nat) : Int)] w18 [.one .sl] fun (r19 : SlV × Unit) w20 =>
  CallV Try.prog 19 #[.slice a1 n1 c1, .slice r19.1.a r19.1.n r19.1.c] w20 [.one .bool] fun (r21 : Bool × Unit) w22 =>
  cond (!(r17.1 == r21.1))
  (K (false, ()) w22)
  (LoadA w22 ⟨b1, 0, none⟩ [.int .i64, .int .i64, .int .i64, .int .i64, .int .i64, .int .i64] fun (x23 : Int × Int × Int × Int × Int × Int × Unit) =>
  CallV Try.prog 17 #[.agg #[.int .i64 x23.1, .int .i64 x23.2.1, .int .i64 x23.2.2.1, .int .i64 x23.2.2.2.1, .int .i64 x23.2.2.2.2.1, .int .i64 x23.2.2.2.2.2.1]] w22 [.one .bool] fun (r24 : Bool × Unit) w25 =>
  cond (!r24.1)
  (cond (r6.2.1 == 2)
  (cond (!r12.2.1)
  (LoadA w25 ⟨b8, 0, none⟩ [.int .i64, .int .i64, .int .i64, .int .u32, .int .u64, .int .u64, .sl, .sl, .bool] fun (x26 : Int × Int × Int × Int × Int × Int × SlV × SlV × Bool × Unit) =>
  CallV Try.prog 27 #[.agg #[.int .i64 x26.1, .int .i64 x26.2.1, .int .i64 x26.2.2.1, .int .u32 x26.2.2.2.1, .int .u64 x26.2.2.2.2.1, .int .u64 x26.2.2.2.2.2.1, .slice x26.2.2.2.2.2.2.1.a x26.2.2.2.2.2.2.1.n x26.2.2.2.2.2.2.1.c, .slice x26.2.2.2.2.2.2.2.1.a x26.2.2.2.2.2.2.2.1.n x26.2.2.2.2.2.2.2.1.c, .bool x26.2.2.2.2.2.2.2.2.1], .agg #[.int .i64 0, .int .i64 0, .int .i64 0, .int .u32 0, .int .u64 0, .int .u64 0, .slice none 0 0, .slice none 0 0, .bool false, .bool false]] w25 [.one .bool] fun (r27 : Bool × Unit) w28 =>
  cond r27.1
  (LoadA w28 ⟨b14, 0, none⟩ [.int .i64, .int .i64, .int .i64, .int .u32, .int .u64, .int .u64, .sl, .sl, .bool] fun (x29 : Int × Int × Int × Int × Int × Int × SlV × SlV × Bool × Unit) =>
  CallV Try.prog 27 #[.agg #[.int .i64 x29.1, .int .i64 x29.2.1, .int .i64 x29.2.2.1, .int .u32 x29.2.2.2.1, .int .u64 x29.2.2.2.2.1, .int .u64 x29.2.2.2.2.2.1, .slice x29.2.2.2.2.2.2.1.a x29.2.2.2.2.2.2.1.n x29.2.2.2.2.2.2.1.c, .slice x29.2.2.2.2.2.2.2.1.a x29.2.2.2.2.2.2.2.1.n x29.2.2.2.2.2.2.2.1.c, .bool x29.2.2.2.2.2.2.2.2.1], .agg #[.int .i64 0, .int .i64 0, .int .i64 0, .int .u32 0, .int .u64 0, .int .u64 0, .slice none 0 0, .slice none 0 0, .bool false, .bool false]] w28 [.one .bool] fun (r30 : Bool × Unit) w31 =>
  cond r30.1
  (CallV Try.prog 18 #[] w31 [.one .bool] fun (r32 : Bool × Unit) w33 =>
  K (r32.1, ()) w33)
  (K (false, ()) w31))
  (K (false, ()) w28))
  (K (false, ()) w25))
  (K (false, ()) w25))
  (LoadS w25 ⟨b1, 2, none⟩ (.int .i64) fun (x34 : Int) =>
  Rng .i64 (x34 + 88) ∧
  cond (((n1 : Nat) : Int) != (x34 + 88))
  (cond (r6.2.1 == 2)
  (cond (!r12.2.1)
  (LoadA w25 ⟨b8, 0, none⟩ [.int .i64, .int .i64, .int .i64, .int .u32, .int .u64, .int .u64, .sl, .sl, .bool] fun (x35 : Int × Int × Int × Int × Int × Int × SlV × SlV × Bool × Unit) =>
  CallV Try.prog 27 #[.agg #[.int .i64 x35.1, .int .i64 x35.2.1, .int .i64 x35.2.2.1, .int .u32 x35.2.2.2.1, .int .u64 x35.2.2.2.2.1, .int .u64 x35.2.2.2.2.2.1, .slice x35.2.2.2.2.2.2.1.a x35.2.2.2.2.2.2.1.n x35.2.2.2.2.2.2.1.c, .slice x35.2.2.2.2.2.2.2.1.a x35.2.2.2.2.2.2.2.1.n x35.2.2.2.2.2.2.2.1.c, .bool x35.2.2.2.2.2.2.2.2.1], .agg #[.int .i64 0, .int .i64 0, .int .i64 0, .int .u32 0, .int .u64 0, .int .u64 0, .slice none 0 0, .slice none 0 0, .bool false, .bool false]] w25 [.one .bool] fun (r36 : Bool × Unit) w37 =>
  cond r36.1
  (LoadA w37 ⟨b14, 0, none⟩ [.int .i64, .int .i64, .int .i64, .int .u32, .int .u64, .int .u64, .sl, .sl, .bool] fun (x38 : Int × Int × Int × Int × Int × Int × SlV × SlV × Bool × Unit) =>
  CallV Try.prog 27 #[.agg #[.int .i64 x38.1, .int .i64 x38.2.1, .int .i64 x38.2.2.1, .int .u32 x38.2.2.2.1, .int .u64 x38.2.2.2.2.1, .int .u64 x38.2.2.2.2.2.1, .slice x38.2.2.2.2.2.2.1.a x38.2.2.2.2.2.2.1.n x38.2.2.2.2.2.2.1.c, .slice x38.2.2.2.2.2.2.2.1.a x38.2.2.2.2.2.2.2.1.n x38.2.2.2.2.2.2.2.1.c, .bool x38.2.2.2.2.2.2.2.2.1], .agg #[.int .i64 0, .int .i64 0, .int .i64 0, .int .u32 0, .int .u64 0, .int .u64 0, .slice none 0 0, .slice none 0 0, .bool false, .bool false]] w37 [.one .bool] fun (r39 : Bool × Unit) w40 =>
  cond r39.1
  (CallV Try.prog 18 #[] w40 [.one .bool] fun (r41 : Bool × Unit) w42 =>
  K (r41.1, ()) w42)
  (K (false, ()) w40))
  (K (false, ()) w37))
  (K (false, ()) w25))
  (K (false, ()) w25))
  (LoadA w25 ⟨b1, 0, none⟩ [.int .i64, .int .i64, .int .i64, .int .i64, .int .i64, .int .i64] fun (x43 : Int × Int × Int × Int × Int × Int × Unit) =>
  CallV Try.prog 28 #[.agg #[.int .i64 x43.1, .int .i64 x43.2.1, .int .i64 x43.2.2.1, .int .i64 x43.2.2.2.1, .int .i64 x43.2.2.2.2.1, .int .i64 x43.2.2.2.2.2.1], .slice a1 n1 c1] w25 [.agg [.int .i64, .int .i64, .int .i64, .int .u32, .int .u64, .int .u64, .sl, .sl, .bool, .bool]] fun (r44 : (Int × Int × Int × Int × Int × Int × SlV × SlV × Bool × Bool × Unit) × Unit) w45 =>
  NewV #[.int .i64 0, .int .i64 0, .int .i64 0, .int .u32 0, .int .u64 0, .int .u64 0, .slice none 0 0, .slice none 0 0, .bool false, .bool false] 51 w45 fun b46 w47 =>
  StoreV w47 ⟨b46, 0, none⟩ [.int .i64 r44.1.1, .int .i64 r44.1.2.1, .int .i64 r44.1.2.2.1, .int .u32 r44.1.2.2.2.1, .int .u64 r44.1.2.2.2.2.1, .int .u64 r44.1.2.2.2.2.2.1, .slice r44.1.2.2.2.2.2.2.1.a r44.1.2.2.2.2.2.2.1.n r44.1.2.2.2.2.2.2.1.c, .slice r44.1.2.2.2.2.2.2.2.1.a r44.1.2.2.2.2.2.2.2.1.n r44.1.2.2.2.2.2.2.2.1.c, .bool r44.1.2.2.2.2.2.2.2.2.1, .bool r44.1.2.2.2.2.2.2.2.2.2.1] fun w48 =>
  LoadA w48 ⟨b1, 0, none⟩ [.int .i64, .int .i64, .int .i64, .int .i64, .int .i64, .int .i64] fun (x49 : Int × Int × Int × Int × Int × Int × Unit) =>
  CallV Try.prog 29 #[.agg #[.int .i64 x49.1, .int .i64 x49.2.1, .int .i64 x49.2.2.1, .int .i64 x49.2.2.2.1, .int .i64 x49.2.2.2.2.1, .int .i64 x49.2.2.2.2.2.1], .slice a1 n1 c1, .int .i64 p2] w48 [.agg [.int .i64, .int .i64, .int .i64, .int .u32, .int .u64, .int .u64, .sl, .sl, .bool, .bool]] fun (r50 : (Int × Int × Int × Int × Int × Int × SlV × SlV × Bool × Bool × Unit) × Unit) w51 =>
  NewV #[.int .i64 0, .int .i64 0, .int .i64 0, .int .u32 0, .int .u64 0, .int .u64 0, .slice none 0 0, .slice none 0 0, .bool false, .bool false] 51 w51 fun b52 w53 =>
  StoreV w53 ⟨b52, 0, none⟩ [.int .i64 r50.1.1, .int .i64 r50.1.2.1, .int .i64 r50.1.2.2.1, .int .u32 r50.1.2.2.2.1, .int .u64 r50.1.2.2.2.2.1, .int .u64 r50.1.2.2.2.2.2.1, .slice r50.1.2.2.2.2.2.2.1.a r50.1.2.2.2.2.2.2.1.n r50.1.2.2.2.2.2.2.1.c, .slice r50.1.2.2.2.2.2.2.2.1.a r50.1.2.2.2.2.2.2.2.1.n r50.1.2.2.2.2.2.2.2.1.c, .bool r50.1.2.2.2.2.2.2.2.2.1, .bool r50.1.2.2.2.2.2.2.2.2.2.1] fun w54 =>
  LoadS w54 ⟨b46, 9, none⟩ .bool fun (x55 : Bool) =>
  cond (!x55)
  (cond (r6.2.1 != 1)
  (K (false, ()) w54)
  (LoadS w54 ⟨b46, 9, none⟩ .bool fun (x56 : Bool) =>
  cond x56
  (cond (r6.2.1 != 0)
  (K (false, ()) w54)
  (LoadA w54 ⟨b8, 0, none⟩ [.int .i64, .int .i64, .int .i64, .int .u32, .int .u64, .int .u64, .sl, .sl, .bool] fun (x57 : Int × Int × Int × Int × Int × Int × SlV × SlV × Bool × Unit) =>
  LoadA w54 ⟨b46, 0, none⟩ [.int .i64, .int .i64, .int .i64, .int .u32, .int .u64, .int .u64, .sl, .sl, .bool, .bool] fun (x58 : Int × Int × Int × Int × Int × Int × SlV × SlV × Bool × Bool × Unit) =>
  CallV Try.prog 27 #[.agg #[.int .i64 x57.1, .int .i64 x57.2.1, .int .i64 x57.2.2.1, .int .u32 x57.2.2.2.1, .int .u64 x57.2.2.2.2.1, .int .u64 x57.2.2.2.2.2.1, .slice x57.2.2.2.2.2.2.1.a x57.2.2.2.2.2.2.1.n x57.2.2.2.2.2.2.1.c, .slice x57.2.2.2.2.2.2.2.1.a x57.2.2.2.2.2.2.2.1.n x57.2.2.2.2.2.2.2.1.c, .bool x57.2.2.2.2.2.2.2.2.1], .agg #[.int .i64 x58.1, .int .i64 x58.2.1, .int .i64 x58.2.2.1, .int .u32 x58.2.2.2.1, .int .u64 x58.2.2.2.2.1, .int .u64 x58.2.2.2.2.2.1, .slice x58.2.2.2.2.2.2.1.a x58.2.2.2.2.2.2.1.n x58.2.2.2.2.2.2.1.c, .slice x58.2.2.2.2.2.2.2.1.a x58.2.2.2.2.2.2.2.1.n x58.2.2.2.2.2.2.2.1.c, .bool x58.2.2.2.2.2.2.2.2.1, .bool x58.2.2.2.2.2.2.2.2.2.1]] w54 [.one .bool] fun (r59 : Bool × Unit) w60 =>
  cond r59.1
  (LoadS w60 ⟨b52, 9, none⟩ .bool fun (x61 : Bool) =>
  cond (r12.2.1 == x61)
  (LoadA w60 ⟨b14, 0, none⟩ [.int .i64, .int .i64, .int .i64, .int .u32, .int .u64, .int .u64, .sl, .sl, .bool] fun (x62 : Int × Int × Int × Int × Int × Int × SlV × SlV × Bool × Unit) =>
  LoadA w60 ⟨b52, 0, none⟩ [.int .i64, .int .i64, .int .i64, .int .u32, .int .u64, .int .u64, .sl, .sl, .bool, .bool] fun (x63 : Int × Int × Int × Int × Int × Int × SlV × SlV × Bool × Bool × Unit) =>
  CallV Try.prog 27 #[.agg #[.int .i64 x62.1, .int .i64 x62.2.1, .int .i64 x62.2.2.1, .int .u32 x62.2.2.2.1, .int .u64 x62.2.2.2.2.1, .int .u64 x62.2.2.2.2.2.1, .slice x62.2.2.2.2.2.2.1.a x62.2.2.2.2.2.2.1.n x62.2.2.2.2.2.2.1.c, .slice x62.2.2.2.2.2.2.2.1.a x62.2.2.2.2.2.2.2.1.n x62.2.2.2.2.2.2.2.1.c, .bool x62.2.2.2.2.2.2.2.2.1], .agg #[.int .i64 x63.1, .int .i64 x63.2.1, .int .i64 x63.2.2.1, .int .u32 x63.2.2.2.1, .int .u64 x63.2.2.2.2.1, .int .u64 x63.2.2.2.2.2.1, .slice x63.2.2.2.2.2.2.1.a x63.2.2.2.2.2.2.1.n x63.2.2.2.2.2.2.1.c, .slice x63.2.2.2.2.2.2.2.1.a x63.2.2.2.2.2.2.2.1.n x63.2.2.2.2.2.2.2.1.c, .bool x63.2.2.2.2.2.2.2.2.1, .bool x63.2.2.2.2.2.2.2.2.2.1]] w60 [.one .bool] fun (r64 : Bool × Unit) w65 =>
  cond r64.1
  (CallV Try.prog 18 #[] w65 [.one .bool] fun (r66 : Bool × Unit) w67 =>
  K (r66.1, ()) w67)
  (K (false, ()) w65))
  (K (false, ()) w60))
  (K (false, ()) w60)))
  (LoadA w54 ⟨b8, 0, none⟩ [.int .i64, .int .i64, .int .i64, .int .u32, .int .u64, .int .u64, .sl, .sl, .bool] fun (x68 : Int × Int × Int × Int × Int × Int × SlV × SlV × Bool × Unit) =>
  LoadA w54 ⟨b46, 0, none⟩ [.int .i64, .int .i64, .int .i64, .int .u32, .int .u64, .int .u64, .sl, .sl, .bool, .bool] fun (x69 : Int × Int × Int × Int × Int × Int × SlV × SlV × Bool × Bool × Unit) =>
  CallV Try.prog 27 #[.agg #[.int .i64 x68.1, .int .i64 x68.2.1, .int .i64 x68.2.2.1, .int .u32 x68.2.2.2.1, .int .u64 x68.2.2.2.2.1, .int .u64 x68.2.2.2.2.2.1, .slice x68.2.2.2.2.2.2.1.a x68.2.2.2.2.2.2.1.n x68.2.2.2.2.2.2.1.c, .slice x68.2.2.2.2.2.2.2.1.a x68.2.2.2.2.2.2.2.1.n x68.2.2.2.2.2.2.2.1.c, .bool x68.2.2.2.2.2.2.2.2.1], .agg #[.int .i64 x69.1, .int .i64 x69.2.1, .int .i64 x69.2.2.1, .int .u32 x69.2.2.2.1, .int .u64 x69.2.2.2.2.1, .int .u64 x69.2.2.2.2.2.1, .slice x69.2.2.2.2.2.2.1.a x69.2.2.2.2.2.2.1.n x69.2.2.2.2.2.2.1.c, .slice x69.2.2.2.2.2.2.2.1.a x69.2.2.2.2.2.2.2.1.n x69.2.2.2.2.2.2.2.1.c, .bool x69.2.2.2.2.2.2.2.2.1, .bool x69.2.2.2.2.2.2.2.2.2.1]] w54 [.one .bool] fun (r70 : Bool × Unit) w71 =>
  cond r70.1
  (LoadS w71 ⟨b52, 9, none⟩ .bool fun (x72 : Bool) =>
  cond (r12.2.1 == x72)
  (LoadA w71 ⟨b14, 0, none⟩ [.int .i64, .int .i64, .int .i64, .int .u32, .int .u64, .int .u64, .sl, .sl, .bool] fun (x73 : Int × Int × Int × Int × Int × Int × SlV × SlV × Bool × Unit) =>
  LoadA w71 ⟨b52, 0, none⟩ [.int .i64, .int .i64, .int .i64, .int .u32, .int .u64, .int .u64, .sl, .sl, .bool, .bool] fun (x74 : Int × Int × Int × Int × Int × Int × SlV × SlV × Bool × Bool × Unit) =>
  CallV Try.prog 27 #[.agg #[.int .i64 x73.1, .int .i64 x73.2.1, .int .i64 x73.2.2.1, .int .u32 x73.2.2.2.1, .int .u64 x73.2.2.2.2.1, .int .u64 x73.2.2.2.2.2.1, .slice x73.2.2.2.2.2.2.1.a x73.2.2.2.2.2.2.1.n x73.2.2.2.2.2.2.1.c, .slice x73.2.2.2.2.2.2.2.1.a x73.2.2.2.2.2.2.2.1.n x73.2.2.2.2.2.2.2.1.c, .bool x73.2.2.2.2.2.2.2.2.1], .agg #[.int .i64 x74.1, .int .i64 x74.2.1, .int .i64 x74.2.2.1, .int .u32 x74.2.2.2.1, .int .u64 x74.2.2.2.2.1, .int .u64 x74.2.2.2.2.2.1, .slice x74.2.2.2.2.2.2.1.a x74.2.2.2.2.2.2.1.n x74.2.2.2.2.2.2.1.c, .slice x74.2.2.2.2.2.2.2.1.a x74.2.2.2.2.2.2.2.1.n x74.2.2.2.2.2.2.2.1.c, .bool x74.2.2.2.2.2.2.2.2.1, .bool x74.2.2.2.2.2.2.2.2.2.1]] w71 [.one .bool] fun (r75 : Bool × Unit) w76 =>
  cond r75.1
  (CallV Try.prog 18 #[] w76 [.one .bool] fun (r77 : Bool × Unit) w78 =>
  K (r77.1, ()) w78)
  (K (false, ()) w76))
  (K (false, ()) w71))
  (K (false, ()) w71))))
  (LoadS w54 ⟨b46, 9, none⟩ .bool fun (x79 : Bool) =>
  cond x79
  (cond (r6.2.1 != 0)
  (K (false, ()) w54)
  (LoadA w54 ⟨b8, 0, none⟩ [.int .i64, .int .i64, .int .i64, .int .u32, .int .u64, .int .u64, .sl, .sl, .bool] fun (x80 : Int × Int × Int × Int × Int × Int × SlV × SlV × Bool × Unit) =>
  LoadA w54 ⟨b46, 0, none⟩ [.int .i64, .int .i64, .int .i64, .int .u32, .int .u64, .int .u64, .sl, .sl, .bool, .bool] fun (x81 : Int × Int × Int × Int × Int × Int × SlV × SlV × Bool × Bool × Unit) =>
  CallV Try.prog 27 #[.agg #[.int .i64 x80.1, .int .i64 x80.2.1, .int .i64 x80.2.2.1, .int .u32 x80.2.2.2.1, .int .u64 x80.2.2.2.2.1, .int .u64 x80.2.2.2.2.2.1, .slice x80.2.2.2.2.2.2.1.a x80.2.2.2.2.2.2.1.n x80.2.2.2.2.2.2.1.c, .slice x80.2.2.2.2.2.2.2.1.a x80.2.2.2.2.2.2.2.1.n x80.2.2.2.2.2.2.2.1.c, .bool x80.2.2.2.2.2.2.2.2.1], .agg #[.int .i64 x81.1, .int .i64 x81.2.1, .int .i64 x81.2.2.1, .int .u32 x81.2.2.2.1, .int .u64 x81.2.2.2.2.1, .int .u64 x81.2.2.2.2.2.1, .slice x81.2.2.2.2.2.2.1.a x81.2.2.2.2.2.2.1.n x81.2.2.2.2.2.2.1.c, .slice x81.2.2.2.2.2.2.2.1.a x81.2.2.2.2.2.2.2.1.n x81.2.2.2.2.2.2.2.1.c, .bool x81.2.2.2.2.2.2.2.2.1, .bool x81.2.2.2.2.2.2.2.2.2.1]] w54 [.one .bool] fun (r82 : Bool × Unit) w83 =>
  cond r82.1
  (LoadS w83 ⟨b52, 9, none⟩ .bool fun (x84 : Bool) =>
  cond (r12.2.1 == x84)
  (LoadA w83 ⟨b14, 0, none⟩ [.int .i64, .int .i64, .int .i64, .int .u32, .int .u64, .int .u64, .sl, .sl, .bool] fun (x85 : Int × Int × Int × Int × Int × Int × SlV × SlV × Bool × Unit) =>
  LoadA w83 ⟨b52, 0, none⟩ [.int .i64, .int .i64, .int .i64, .int .u32, .int .u64, .int .u64, .sl, .sl, .bool, .bool] fun (x86 : Int × Int × Int × Int × Int × Int × SlV × SlV × Bool × Bool × Unit) =>
  CallV Try.prog 27 #[.agg #[.int .i64 x85.1, .int .i64 x85.2.1, .int .i64 x85.2.2.1, .int .u32 x85.2.2.2.1, .int .u64 x85.2.2.2.2.1, .int .u64 x85.2.2.2.2.2.1, .slice x85.2.2.2.2.2.2.1.a x85.2.2.2.2.2.2.1.n x85.2.2.2.2.2.2.1.c, .slice x85.2.2.2.2.2.2.2.1.a x85.2.2.2.2.2.2.2.1.n x85.2.2.2.2.2.2.2.1.c, .bool x85.2.2.2.2.2.2.2.2.1], .agg #[.int .i64 x86.1, .int .i64 x86.2.1, .int .i64 x86.2.2.1, .int .u32 x86.2.2.2.1, .int .u64 x86.2.2.2.2.1, .int .u64 x86.2.2.2.2.2.1, .slice x86.2.2.2.2.2.2.1.a x86.2.2.2.2.2.2.1.n x86.2.2.2.2.2.2.1.c, .slice x86.2.2.2.2.2.2.2.1.a x86.2.2.2.2.2.2.2.1.n x86.2.2.2.2.2.2.2.1.c, .bool x86.2.2.2.2.2.2.2.2.1, .bool x86.2.2.2.2.2.2.2.2.2.1]] w83 [.one .bool] fun (r87 : Bool × Unit) w88 =>
  cond r87.1
  (CallV Try.prog 18 #[] w88 [.one .bool] fun (r89 : Bool × Unit) w90 =>
  K (r89.1, ()) w90)
  (K (false, ()) w88))
  (K (false, ()) w83))
  (K (false, ()) w83)))
  (LoadA w54 ⟨b8, 0, none⟩ [.int .i64, .int .i64, .int .i64, .int .u32, .int .u64, .int .u64, .sl, .sl, .bool] fun (x91 : Int × Int × Int × Int × Int × Int × SlV × SlV × Bool × Unit) =>
  LoadA w54 ⟨b46, 0, none⟩ [.int .i64, .int .i64, .int .i64, .int .u32, .int .u64, .int .u64, .sl, .sl, .bool, .bool] fun (x92 : Int × Int × Int × Int × Int × Int × SlV × SlV × Bool × Bool × Unit) =>
  CallV Try.prog 27 #[.agg #[.int .i64 x91.1, .int .i64 x91.2.1, .int .i64 x91.2.2.1, .int .u32 x91.2.2.2.1, .int .u64 x91.2.2.2.2.1, .int .u64 x91.2.2.2.2.2.1, .slice x91.2.2.2.2.2.2.1.a x91.2.2.2.2.2.2.1.n x91.2.2.2.2.2.2.1.c, .slice x91.2.2.2.2.2.2.2.1.a x91.2.2.2.2.2.2.2.1.n x91.2.2.2.2.2.2.2.1.c, .bool x91.2.2.2.2.2.2.2.2.1], .agg #[.int .i64 x92.1, .int .i64 x92.2.1, .int .i64 x92.2.2.1, .int .u32 x92.2.2.2.1, .int .u64 x92.2.2.2.2.1, .int .u64 x92.2.2.2.2.2.1, .slice x92.2.2.2.2.2.2.1.a x92.2.2.2.2.2.2.1.n x92.2.2.2.2.2.2.1.c, .slice x92.2.2.2.2.2.2.2.1.a x92.2.2.2.2.2.2.2.1.n x92.2.2.2.2.2.2.2.1.c, .bool x92.2.2.2.2.2.2.2.2.1, .bool x92.2.2.2.2.2.2.2.2.2.1]] w54 [.one .bool] fun (r93 : Bool × Unit) w94 =>
  cond r93.1
  (LoadS w94 ⟨b52, 9, none⟩ .bool fun (x95 : Bool) =>
  cond (r12.2.1 == x95)
  (LoadA w94 ⟨b14, 0, none⟩ [.int .i64, .int .i64, .int .i64, .int .u32, .int .u64, .int .u64, .sl, .sl, .bool] fun (x96 : Int × Int × Int × Int × Int × Int × SlV × SlV × Bool × Unit) =>
  LoadA w94 ⟨b52, 0, none⟩ [.int .i64, .int .i64, .int .i64, .int .u32, .int .u64, .int .u64, .sl, .sl, .bool, .bool] fun (x97 : Int × Int × Int × Int × Int × Int × SlV × SlV × Bool × Bool × Unit) =>
  CallV Try.prog 27 #[.agg #[.int .i64 x96.1, .int .i64 x96.2.1, .int .i64 x96.2.2.1, .int .u32 x96.2.2.2.1, .int .u64 x96.2.2.2.2.1, .int .u64 x96.2.2.2.2.2.1, .slice x96.2.2.2.2.2.2.1.a x96.2.2.2.2.2.2.1.n x96.2.2.2.2.2.2.1.c, .slice x96.2.2.2.2.2.2.2.1.a x96.2.2.2.2.2.2.2.1.n x96.2.2.2.2.2.2.2.1.c, .bool x96.2.2.2.2.2.2.2.2.1], .agg #[.int .i64 x97.1, .int .i64 x97.2.1, .int .i64 x97.2.2.1, .int .u32 x97.2.2.2.1, .int .u64 x97.2.2.2.2.1, .int .u64 x97.2.2.2.2.2.1, .slice x97.2.2.2.2.2.2.1.a x97.2.2.2.2.2.2.1.n x97.2.2.2.2.2.2.1.c, .slice x97.2.2.2.2.2.2.2.1.a x97.2.2.2.2.2.2.2.1.n x97.2.2.2.2.2.2.2.1.c, .bool x97.2.2.2.2.2.2.2.2.1, .bool x97.2.2.2.2.2.2.2.2.2.1]] w94 [.one .bool] fun (r98 : Bool × Unit) w99 =>
  cond r98.1
  (CallV Try.prog 18 #[] w99 [.one .bool] fun (r100 : Bool × Unit) w101 =>
  K (r100.1, ()) w101)
  (K (false, ()) w99))
  (K (false, ()) w94))
  (K (false, ()) w94)))))))
theorem law15_PageReads.vc (p0_0 : Int) (p0_1 : Int) (p0_2 : Int) (p0_3 : Int) (p0_4 : Int) (p0_5 : Int) (a1 : Option Addr) (n1 c1 : Nat) (p2 : Int) (w : World) (K : Bool × Unit → World → Prop) (h : law15_PageReads.P p0_0 p0_1 p0_2 p0_3 p0_4 p0_5 a1 n1 c1 p2 w K) : CallV Try.prog 4 #[.agg #[.int .i64 p0_0, .int .i64 p0_1, .int .i64 p0_2, .int .i64 p0_3, .int .i64 p0_4, .int .i64 p0_5], .slice a1 n1 c1, .int .i64 p2] w [.one .bool] K := by
  have e : vcFun Try.prog okf false Try.f4 law15_PageReads.A #[.agg #[.int .i64 p0_0, .int .i64 p0_1, .int .i64 p0_2, .int .i64 p0_3, .int .i64 p0_4, .int .i64 p0_5], .slice a1 n1 c1, .int .i64 p2] w [.one .bool] K = law15_PageReads.P p0_0 p0_1 p0_2 p0_3 p0_4 p0_5 a1 n1 c1 p2 w K := by kernel_rfl
  exact vcFun.calls okf_ok follows Try.func4 (e.symm ▸ h)

/-! ### nepenthe/nepenthelaw15.PageBlank: function 5 -/
def law15_PageBlank.A : Ann := .no
def law15_PageBlank.P (p0_0 : Int) (p0_1 : Int) (p0_2 : Int) (p0_3 : Int) (p0_4 : Int) (p0_5 : Int) (p1 : Int) (w : World) (K : Bool × Unit → World → Prop) : Prop :=
  NewV #[.int .i64 p0_0, .int .i64 p0_1, .int .i64 p0_2, .int .i64 p0_3, .int .i64 p0_4, .int .i64 p0_5] 23 w fun b1 w2 =>
  LoadA w2 ⟨b1, 0, none⟩ [.int .i64, .int .i64, .int .i64, .int .i64, .int .i64, .int .i64] fun (x3 : Int × Int × Int × Int × Int × Int × Unit) =>
  CallV Try.prog 17 #[.agg #[.int .i64 x3.1, .int .i64 x3.2.1, .int .i64 x3.2.2.1, .int .i64 x3.2.2.2.1, .int .i64 x3.2.2.2.2.1, .int .i64 x3.2.2.2.2.2.1]] w2 [.one .bool] fun (r4 : Bool × Unit) w5 =>
  cond (!r4.1)
  (CallV Try.prog 18 #[] w5 [.one .bool] fun (r6 : Bool × Unit) w7 =>
  K (r6.1, ()) w7)
  (LoadS w5 ⟨b1, 2, none⟩ (.int .i64) fun (x8 : Int) =>
  Rng .i64 (x8 + 88) ∧
  CallV Try.prog 26 #[.int .u8 255, .int .i64 (x8 + 88)] w5 [.one .sl] fun (r9 : SlV × Unit) w10 =>
  LoadA w10 ⟨b1, 0, none⟩ [.int .i64, .int .i64, .int .i64, .int .i64, .int .i64, .int .i64] fun (x11 : Int × Int × Int × Int × Int × Int × Unit) =>
  CallV Try.prog 23 #[.agg #[.int .i64 x11.1, .int .i64 x11.2.1, .int .i64 x11.2.2.1, .int .i64 x11.2.2.2.1, .int .i64 x11.2.2.2.2.1, .int .i64 x11.2.2.2.2.2.1], .slice r9.1.a r9.1.n r9.1.c] w10 [.agg [.int .i64, .int .i64, .int .i64, .int .u32, .int .u64, .int .u64, .sl, .sl, .bool], .one (.int .i64)] fun (r12 : (Int × Int × Int × Int × Int × Int × SlV × SlV × Bool × Unit) × Int × Unit) w13 =>
  NewV #[.int .i64 0, .int .i64 0, .int .i64 0, .int .u32 0, .int .u64 0, .int .u64 0, .slice none 0 0, .slice none 0 0, .bool false] 42 w13 fun b14 w15 =>
  StoreV w15 ⟨b14, 0, none⟩ [.int .i64 r12.1.1, .int .i64 r12.1.2.1, .int .i64 r12.1.2.2.1, .int .u32 r12.1.2.2.2.1, .int .u64 r12.1.2.2.2.2.1, .int .u64 r12.1.2.2.2.2.2.1, .slice r12.1.2.2.2.2.2.2.1.a r12.1.2.2.2.2.2.2.1.n r12.1.2.2.2.2.2.2.1.c, .slice r12.1.2.2.2.2.2.2.2.1.a r12.1.2.2.2.2.2.2.2.1.n r12.1.2.2.2.2.2.2.2.1.c, .bool r12.1.2.2.2.2.2.2.2.2.1] fun w16 =>
  LoadA w16 ⟨b1, 0, none⟩ [.int .i64, .int .i64, .int .i64, .int .i64, .int .i64, .int .i64] fun (x17 : Int × Int × Int × Int × Int × Int × Unit) =>
  CallV Try.prog 24 #[.agg #[.int .i64 x17.1, .int .i64 x17.2.1, .int .i64 x17.2.2.1, .int .i64 x17.2.2.2.1, .int .i64 x17.2.2.2.2.1, .int .i64 x17.2.2.2.2.2.1], .slice r9.1.a r9.1.n r9.1.c, .int .i64 p1] w16 [.agg [.int .i64, .int .i64, .int .i64, .int .u32, .int .u64, .int .u64, .sl, .sl, .bool], .one .bool] fun (r18 : (Int × Int × Int × Int × Int × Int × SlV × SlV × Bool × Unit) × Bool × Unit) w19 =>
  NewV #[.int .i64 0, .int .i64 0, .int .i64 0, .int .u32 0, .int .u64 0, .int .u64 0, .slice none 0 0, .slice none 0 0, .bool false] 42 w19 fun b20 w21 =>
  StoreV w21 ⟨b20, 0, none⟩ [.int .i64 r18.1.1, .int .i64 r18.1.2.1, .int .i64 r18.1.2.2.1, .int .u32 r18.1.2.2.2.1, .int .u64 r18.1.2.2.2.2.1, .int .u64 r18.1.2.2.2.2.2.1, .slice r18.1.2.2.2.2.2.2.1.a r18.1.2.2.2.2.2.2.1.n r18.1.2.2.2.2.2.2.1.c, .slice r18.1.2.2.2.2.2.2.2.1.a r18.1.2.2.2.2.2.2.2.1.n r18.1.2.2.2.2.2.2.2.1.c, .bool r18.1.2.2.2.2.2.2.2.2.1] fun w22 =>
  cond (r12.2.1 == 1)
  (cond (!r18.2.1)
  (CallV Try.prog 25 #[.slice r9.1.a r9.1.n r9.1.c] w22 [.one .bool] fun (r23 : Bool × Unit) w24 =>
  cond r23.1
  (CallV Try.prog 18 #[] w24 [.one .bool] fun (r25 : Bool × Unit) w26 =>
  K (r25.1, ()) w26)
  (K (false, ()) w24))
  (K (false, ()) w22))
  (K (false, ()) w22))
theorem law15_PageBlank.vc (p0_0 : Int) (p0_1 : Int) (p0_2 : Int) (p0_3 : Int) (p0_4 : Int) (p0_5 : Int) (p1 : Int) (w : World) (K : Bool × Unit → World → Prop) (h : law15_PageBlank.P p0_0 p0_1 p0_2 p0_3 p0_4 p0_5 p1 w K) : CallV Try.prog 5 #[.agg #[.int .i64 p0_0, .int .i64 p0_1, .int .i64 p0_2, .int .i64 p0_3, .int .i64 p0_4, .int .i64 p0_5], .int .i64 p1] w [.one .bool] K := by
  have e : vcFun Try.prog okf false Try.f5 law15_PageBlank.A #[.agg #[.int .i64 p0_0, .int .i64 p0_1, .int .i64 p0_2, .int .i64 p0_3, .int .i64 p0_4, .int .i64 p0_5], .int .i64 p1] w [.one .bool] K = law15_PageBlank.P p0_0 p0_1 p0_2 p0_3 p0_4 p0_5 p1 w K := by kernel_rfl
  exact vcFun.calls okf_ok follows Try.func5 (e.symm ▸ h)

/-! ### nepenthe/nepenthelaw15.PageBack: function 6 -/
def law15_PageBack.A : Ann := .two .no (.two .no (.two .no (.two .no (.two .no (.two .no (.two (.draw (.take 0 (.take 1 (.take 2 (.both 3 (.both 4 (.take 5 (.take 6 (.take 7 (.eff 8 (.eff 9 (.take 10 (.done))))))) 8 (.eff 4 (.take 5 (.take 6 (.take 7 (.eff 9 (.take 10 (.done)))))))) 8 (.eff 3 (.eff 4 (.take 5 (.take 6 (.take 7 (.eff 9 (.take 10 (.done))))))))))))) (.join [6, 52, 53, 54, 55, 56, 57, 58, 59, 60, 61, 62, 63, 64, 65, 66, 67, 68, 69, 70, 71, 72, 73, 74, 75, 76, 77, 78, 79, 80, 81, 82] [] .no .no)))))))
def law15_PageBack.P (p0_0 : Int) (p0_1 : Int) (p0_2 : Int) (p0_3 : Int) (p0_4 : Int) (p0_5 : Int) (p1_0 : Int) (p1_1 : Int) (p1_2 : Int) (p1_3 : Int) (p1_4 : Int) (p1_5 : Int) (a2_0 : Option Addr) (n2_0 c2_0 : Nat) (a2_1 : Option Addr) (n2_1 c2_1 : Nat) (w : World) (K : Bool × Unit → World → Prop) : Prop :=
  NewV #[.int .i64 p0_0, .int .i64 p0_1, .int .i64 p0_2, .int .i64 p0_3, .int .i64 p0_4, .int .i64 p0_5] 23 w fun b1 w2 =>
  NewV #[.int .i64 p1_0, .int .i64 p1_1, .int .i64 p1_2, .int .u32 p1_3, .int .u64 p1_4, .int .u64 p1_5] 27 w2 fun b3 w4 =>
  NewV #[.slice a2_0 n2_0 c2_0, .slice a2_1 n2_1 c2_1] 29 w4 fun b5 w6 =>
  LoadA w6 ⟨b1, 0, none⟩ [.int .i64, .int .i64, .int .i64, .int .i64, .int .i64, .int .i64] fun (x7 : Int × Int × Int × Int × Int × Int × Unit) =>
  LoadA w6 ⟨b3, 0, none⟩ [.int .i64, .int .i64, .int .i64, .int .u32, .int .u64, .int .u64] fun (x8 : Int × Int × Int × Int × Int × Int × Unit) =>
  (0 ≤ (0 : Int) ∧ 0 < (2 : Int)) ∧
  LoadS w6 ⟨b5, 0, none⟩ .sl fun (x9 : SlV) =>
  (0 ≤ (1 : Int) ∧ 1 < (2 : Int)) ∧
  LoadS w6 ⟨b5, 1, none⟩ .sl fun (x10 : SlV) =>
  CallV Try.prog 15 #[.agg #[.int .i64 x7.1, .int .i64 x7.2.1, .int .i64 x7.2.2.1, .int .i64 x7.2.2.2.1, .int .i64 x7.2.2.2.2.1, .int .i64 x7.2.2.2.2.2.1], .agg #[.int .i64 x8.1, .int .i64 x8.2.1, .int .i64 x8.2.2.1, .int .u32 x8.2.2.2.1, .int .u64 x8.2.2.2.2.1, .int .u64 x8.2.2.2.2.2.1], .slice x9.a x9.n x9.c, .slice x10.a x10.n x10.c] w6 [.one .sl, .one (.int .i64)] fun (r11 : SlV × Int × Unit) w12 =>
  cond (r11.2.1 != 0)
  (CallV Try.prog 18 #[] w12 [.one .bool] fun (r13 : Bool × Unit) w14 =>
  K (r13.1, ()) w14)
  (LoadA w12 ⟨b1, 0, none⟩ [.int .i64, .int .i64, .int .i64, .int .i64, .int .i64, .int .i64] fun (x15 : Int × Int × Int × Int × Int × Int × Unit) =>
  CallV Try.prog 16 #[.agg #[.int .i64 x15.1, .int .i64 x15.2.1, .int .i64 x15.2.2.1, .int .i64 x15.2.2.2.1, .int .i64 x15.2.2.2.2.1, .int .i64 x15.2.2.2.2.2.1]] w12 [.one .sl, .one (.int .i64)] fun (r16 : SlV × Int × Unit) w17 =>
  cond (((r16.1.n : Nat) : Int) != ((r11.1.n : Nat) : Int))
  (K (false, ()) w17)
  (LoadA w17 ⟨b1, 0, none⟩ [.int .i64, .int .i64, .int .i64, .int .i64, .int .i64, .int .i64] fun (x18 : Int × Int × Int × Int × Int × Int × Unit) =>
  CallV Try.prog 23 #[.agg #[.int .i64 x18.1, .int .i64 x18.2.1, .int .i64 x18.2.2.1, .int .i64 x18.2.2.2.1, .int .i64 x18.2.2.2.2.1, .int .i64 x18.2.2.2.2.2.1], .slice r11.1.a r11.1.n r11.1.c] w17 [.agg [.int .i64, .int .i64, .int .i64, .int .u32, .int .u64, .int .u64, .sl, .sl, .bool], .one (.int .i64)] fun (r19 : (Int × Int × Int × Int × Int × Int × SlV × SlV × Bool × Unit) × Int × Unit) w20 =>
  NewV #[.int .i64 0, .int .i64 0, .int .i64 0, .int .u32 0, .int .u64 0, .int .u64 0, .slice none 0 0, .slice none 0 0, .bool false] 42 w20 fun b21 w22 =>
  StoreV w22 ⟨b21, 0, none⟩ [.int .i64 r19.1.1, .int .i64 r19.1.2.1, .int .i64 r19.1.2.2.1, .int .u32 r19.1.2.2.2.1, .int .u64 r19.1.2.2.2.2.1, .int .u64 r19.1.2.2.2.2.2.1, .slice r19.1.2.2.2.2.2.2.1.a r19.1.2.2.2.2.2.2.1.n r19.1.2.2.2.2.2.2.1.c, .slice r19.1.2.2.2.2.2.2.2.1.a r19.1.2.2.2.2.2.2.2.1.n r19.1.2.2.2.2.2.2.2.1.c, .bool r19.1.2.2.2.2.2.2.2.2.1] fun w23 =>
  DrawV fun D24 =>
  (D24 b1 ∧ LoadA w23.drew ⟨b1, 0, none⟩ [.int .i64, .int .i64, .int .i64, .int .i64, .int .i64, .int .i64] fun (x25 : Int × Int × Int × Int × Int × Int × Unit) =>
  ((CallV Try.prog 30 #[.slice r11.1.a r11.1.n r11.1.c, .slice r16.1.a r16.1.n r16.1.c] w23.drew [.one .sl] fun (r26 : SlV × Unit) w27 =>
  KeepOn D24 w23.drew w27 ∧
  ((CallV Try.prog 23 #[.agg #[.int .i64 x25.1, .int .i64 x25.2.1, .int .i64 x25.2.2.1, .int .i64 x25.2.2.2.1, .int .i64 x25.2.2.2.2.1, .int .i64 x25.2.2.2.2.2.1], .slice r26.1.a r26.1.n r26.1.c] w27 [.agg [.int .i64, .int .i64, .int .i64, .int .u32, .int .u64, .int .u64, .sl, .sl, .bool], .one (.int .i64)] fun (r28 : (Int × Int × Int × Int × Int × Int × SlV × SlV × Bool × Unit) × Int × Unit) w29 =>
  KeepOn D24 w23.drew w29 ∧
  NewV #[.int .i64 0, .int .i64 0, .int .i64 0, .int .u32 0, .int .u64 0, .int .u64 0, .slice none 0 0, .slice none 0 0, .bool false] 42 w29 fun b30 w31 =>
  KeepOn D24 w23.drew w31 ∧
  StoreV w31 ⟨b30, 0, none⟩ [.int .i64 r28.1.1, .int .i64 r28.1.2.1, .int .i64 r28.1.2.2.1, .int .u32 r28.1.2.2.2.1, .int .u64 r28.1.2.2.2.2.1, .int .u64 r28.1.2.2.2.2.2.1, .slice r28.1.2.2.2.2.2.2.1.a r28.1.2.2.2.2.2.2.1.n r28.1.2.2.2.2.2.2.1.c, .slice r28.1.2.2.2.2.2.2.2.1.a r28.1.2.2.2.2.2.2.2.1.n r28.1.2.2.2.2.2.2.2.1.c, .bool r28.1.2.2.2.2.2.2.2.2.1] fun w32 =>
  KeepOn D24 w23.drew w32 ∧
  JoinV [] (fun (v34 : Unit) w35 =>
  LoadS w35 ⟨b21, 6, none⟩ .sl fun (x36 : SlV) =>
  LoadS w35 ⟨b30, 6, none⟩ .sl fun (x37 : SlV) =>
  CallV Try.prog 19 #[.slice x36.a x36.n x36.c, .slice x37.a x37.n x37.c] w35 [.one .bool] fun (r38 : Bool × Unit) w39 =>
  cond r38.1
  (LoadS w39 ⟨b21, 7, none⟩ .sl fun (x40 : SlV) =>
  LoadS w39 ⟨b30, 7, none⟩ .sl fun (x41 : SlV) =>
  CallV Try.prog 19 #[.slice x40.a x40.n x40.c, .slice x41.a x41.n x41.c] w39 [.one .bool] fun (r42 : Bool × Unit) w43 =>
  cond r42.1
  ((0 ≤ (0 : Int) ∧ 0 < (2 : Int)) ∧
  LoadS w43 ⟨b5, 0, none⟩ .sl fun (x44 : SlV) =>
  cond (((x44.n : Nat) : Int) == 0)
  ((0 ≤ (1 : Int) ∧ 1 < (2 : Int)) ∧
  LoadS w43 ⟨b5, 1, none⟩ .sl fun (x45 : SlV) =>
  cond (((x45.n : Nat) : Int) == 0)
  (CallV Try.prog 18 #[] w43 [.one .bool] fun (r46 : Bool × Unit) w47 =>
  K (r46.1, ()) w47)
  (LoadS w43 ⟨b21, 7, none⟩ .sl fun (x48 : SlV) =>
  (0 ≤ (1 : Int) ∧ 1 < (2 : Int)) ∧
  LoadS w43 ⟨b5, 1, none⟩ .sl fun (x49 : SlV) =>
  CallV Try.prog 19 #[.slice x48.a x48.n x48.c, .slice x49.a x49.n x49.c] w43 [.one .bool] fun (r50 : Bool × Unit) w51 =>
  cond r50.1
  (CallV Try.prog 18 #[] w51 [.one .bool] fun (r52 : Bool × Unit) w53 =>
  K (r52.1, ()) w53)
  (K (false, ()) w51)))
  (LoadS w43 ⟨b21, 6, none⟩ .sl fun (x54 : SlV) =>
  (0 ≤ (0 : Int) ∧ 0 < (2 : Int)) ∧
  LoadS w43 ⟨b5, 0, none⟩ .sl fun (x55 : SlV) =>
  CallV Try.prog 19 #[.slice x54.a x54.n x54.c, .slice x55.a x55.n x55.c] w43 [.one .bool] fun (r56 : Bool × Unit) w57 =>
  cond r56.1
  ((0 ≤ (1 : Int) ∧ 1 < (2 : Int)) ∧
  LoadS w57 ⟨b5, 1, none⟩ .sl fun (x58 : SlV) =>
  cond (((x58.n : Nat) : Int) == 0)
  (CallV Try.prog 18 #[] w57 [.one .bool] fun (r59 : Bool × Unit) w60 =>
  K (r59.1, ()) w60)
  (LoadS w57 ⟨b21, 7, none⟩ .sl fun (x61 : SlV) =>
  (0 ≤ (1 : Int) ∧ 1 < (2 : Int)) ∧
  LoadS w57 ⟨b5, 1, none⟩ .sl fun (x62 : SlV) =>
  CallV Try.prog 19 #[.slice x61.a x61.n x61.c, .slice x62.a x62.n x62.c] w57 [.one .bool] fun (r63 : Bool × Unit) w64 =>
  cond r63.1
  (CallV Try.prog 18 #[] w64 [.one .bool] fun (r65 : Bool × Unit) w66 =>
  K (r65.1, ()) w66)
  (K (false, ()) w64)))
  (K (false, ()) w57)))
  (K (false, ()) w43))
  (K (false, ()) w39)) fun (J33 : Unit → World → Prop) =>
  cond (r19.2.1 != 0)
  (K (false, ()) w32)
  (cond (r28.2.1 != 0)
  (K (false, ()) w32)
  (LoadS w32 ⟨b21, 8, none⟩ .bool fun (x67 : Bool) =>
  cond x67
  (K (false, ()) w32)
  (LoadS w32 ⟨b30, 8, none⟩ .bool fun (x68 : Bool) =>
  cond (!x68)
  (K (false, ()) w32)
  (LoadA w32 ⟨b21, 0, none⟩ [.int .i64, .int .i64, .int .i64, .int .u32, .int .u64, .int .u64] fun (x69 : Int × Int × Int × Int × Int × Int × Unit) =>
  LoadA w32 ⟨b3, 0, none⟩ [.int .i64, .int .i64, .int .i64, .int .u32, .int .u64, .int .u64] fun (x70 : Int × Int × Int × Int × Int × Int × Unit) =>
  AggEq Try.prog 27 #[.int .i64 x69.1, .int .i64 x69.2.1, .int .i64 x69.2.2.1, .int .u32 x69.2.2.2.1, .int .u64 x69.2.2.2.2.1, .int .u64 x69.2.2.2.2.2.1] #[.int .i64 x70.1, .int .i64 x70.2.1, .int .i64 x70.2.2.1, .int .u32 x70.2.2.2.1, .int .u64 x70.2.2.2.2.1, .int .u64 x70.2.2.2.2.2.1] fun e71 =>
  cond (!e71)
  (K (false, ()) w32)
  (LoadA w32 ⟨b30, 0, none⟩ [.int .i64, .int .i64, .int .i64, .int .u32, .int .u64, .int .u64] fun (x72 : Int × Int × Int × Int × Int × Int × Unit) =>
  LoadA w32 ⟨b3, 0, none⟩ [.int .i64, .int .i64, .int .i64, .int .u32, .int .u64, .int .u64] fun (x73 : Int × Int × Int × Int × Int × Int × Unit) =>
  AggEq Try.prog 27 #[.int .i64 x72.1, .int .i64 x72.2.1, .int .i64 x72.2.2.1, .int .u32 x72.2.2.2.1, .int .u64 x72.2.2.2.2.1, .int .u64 x72.2.2.2.2.2.1] #[.int .i64 x73.1, .int .i64 x73.2.1, .int .i64 x73.2.2.1, .int .u32 x73.2.2.2.1, .int .u64 x73.2.2.2.2.1, .int .u64 x73.2.2.2.2.2.1] fun e74 =>
  cond (!e74)
  (K (false, ()) w32)
  (CallV Try.prog 25 #[.slice r11.1.a r11.1.n r11.1.c] w32 [.one .bool] fun (r75 : Bool × Unit) w76 =>
  cond r75.1
  (K (false, ()) w76)
  (J33 (()) w76)))))))) ∧
  (NewV #[.int .i64 0, .int .i64 0, .int .i64 0, .int .u32 0, .int .u64 0, .int .u64 0, .slice none 0 0, .slice none 0 0, .bool false] 42 w27 fun b77 w78 =>
  KeepOn D24 w23.drew w78 ∧
  CallV Try.prog 23 #[.agg #[.int .i64 x25.1, .int .i64 x25.2.1, .int .i64 x25.2.2.1, .int .i64 x25.2.2.2.1, .int .i64 x25.2.2.2.2.1, .int .i64 x25.2.2.2.2.2.1], .slice r26.1.a r26.1.n r26.1.c] w78 [.agg [.int .i64, .int .i64, .int .i64, .int .u32, .int .u64, .int .u64, .sl, .sl, .bool], .one (.int .i64)] fun (r79 : (Int × Int × Int × Int × Int × Int × SlV × SlV × Bool × Unit) × Int × Unit) w80 =>
  KeepOn D24 w23.drew w80 ∧
  StoreV w80 ⟨b77, 0, none⟩ [.int .i64 r79.1.1, .int .i64 r79.1.2.1, .int .i64 r79.1.2.2.1, .int .u32 r79.1.2.2.2.1, .int .u64 r79.1.2.2.2.2.1, .int .u64 r79.1.2.2.2.2.2.1, .slice r79.1.2.2.2.2.2.2.1.a r79.1.2.2.2.2.2.2.1.n r79.1.2.2.2.2.2.2.1.c, .slice r79.1.2.2.2.2.2.2.2.1.a r79.1.2.2.2.2.2.2.2.1.n r79.1.2.2.2.2.2.2.2.1.c, .bool r79.1.2.2.2.2.2.2.2.2.1] fun w81 =>
  KeepOn D24 w23.drew w81 ∧
  JoinV [] (fun (v83 : Unit) w84 =>
  LoadS w84 ⟨b21, 6, none⟩ .sl fun (x85 : SlV) =>
  LoadS w84 ⟨b77, 6, none⟩ .sl fun (x86 : SlV) =>
  CallV Try.prog 19 #[.slice x85.a x85.n x85.c, .slice x86.a x86.n x86.c] w84 [.one .bool] fun (r87 : Bool × Unit) w88 =>
  cond r87.1
  (LoadS w88 ⟨b21, 7, none⟩ .sl fun (x89 : SlV) =>
  LoadS w88 ⟨b77, 7, none⟩ .sl fun (x90 : SlV) =>
  CallV Try.prog 19 #[.slice x89.a x89.n x89.c, .slice x90.a x90.n x90.c] w88 [.one .bool] fun (r91 : Bool × Unit) w92 =>
  cond r91.1
  ((0 ≤ (0 : Int) ∧ 0 < (2 : Int)) ∧
  LoadS w92 ⟨b5, 0, none⟩ .sl fun (x93 : SlV) =>
  cond (((x93.n : Nat) : Int) == 0)
  ((0 ≤ (1 : Int) ∧ 1 < (2 : Int)) ∧
  LoadS w92 ⟨b5, 1, none⟩ .sl fun (x94 : SlV) =>
  cond (((x94.n : Nat) : Int) == 0)
  (CallV Try.prog 18 #[] w92 [.one .bool] fun (r95 : Bool × Unit) w96 =>
  K (r95.1, ()) w96)
  (LoadS w92 ⟨b21, 7, none⟩ .sl fun (x97 : SlV) =>
  (0 ≤ (1 : Int) ∧ 1 < (2 : Int)) ∧
  LoadS w92 ⟨b5, 1, none⟩ .sl fun (x98 : SlV) =>
  CallV Try.prog 19 #[.slice x97.a x97.n x97.c, .slice x98.a x98.n x98.c] w92 [.one .bool] fun (r99 : Bool × Unit) w100 =>
  cond r99.1
  (CallV Try.prog 18 #[] w100 [.one .bool] fun (r101 : Bool × Unit) w102 =>
  K (r101.1, ()) w102)
  (K (false, ()) w100)))
  (LoadS w92 ⟨b21, 6, none⟩ .sl fun (x103 : SlV) =>
  (0 ≤ (0 : Int) ∧ 0 < (2 : Int)) ∧
  LoadS w92 ⟨b5, 0, none⟩ .sl fun (x104 : SlV) =>
  CallV Try.prog 19 #[.slice x103.a x103.n x103.c, .slice x104.a x104.n x104.c] w92 [.one .bool] fun (r105 : Bool × Unit) w106 =>
  cond r105.1
  ((0 ≤ (1 : Int) ∧ 1 < (2 : Int)) ∧
  LoadS w106 ⟨b5, 1, none⟩ .sl fun (x107 : SlV) =>
  cond (((x107.n : Nat) : Int) == 0)
  (CallV Try.prog 18 #[] w106 [.one .bool] fun (r108 : Bool × Unit) w109 =>
  K (r108.1, ()) w109)
  (LoadS w106 ⟨b21, 7, none⟩ .sl fun (x110 : SlV) =>
  (0 ≤ (1 : Int) ∧ 1 < (2 : Int)) ∧
  LoadS w106 ⟨b5, 1, none⟩ .sl fun (x111 : SlV) =>
  CallV Try.prog 19 #[.slice x110.a x110.n x110.c, .slice x111.a x111.n x111.c] w106 [.one .bool] fun (r112 : Bool × Unit) w113 =>
  cond r112.1
  (CallV Try.prog 18 #[] w113 [.one .bool] fun (r114 : Bool × Unit) w115 =>
  K (r114.1, ()) w115)
  (K (false, ()) w113)))
  (K (false, ()) w106)))
  (K (false, ()) w92))
  (K (false, ()) w88)) fun (J82 : Unit → World → Prop) =>
  cond (r19.2.1 != 0)
  (K (false, ()) w81)
  (cond (r79.2.1 != 0)
  (K (false, ()) w81)
  (LoadS w81 ⟨b21, 8, none⟩ .bool fun (x116 : Bool) =>
  cond x116
  (K (false, ()) w81)
  (LoadS w81 ⟨b77, 8, none⟩ .bool fun (x117 : Bool) =>
  cond (!x117)
  (K (false, ()) w81)
  (LoadA w81 ⟨b21, 0, none⟩ [.int .i64, .int .i64, .int .i64, .int .u32, .int .u64, .int .u64] fun (x118 : Int × Int × Int × Int × Int × Int × Unit) =>
  LoadA w81 ⟨b3, 0, none⟩ [.int .i64, .int .i64, .int .i64, .int .u32, .int .u64, .int .u64] fun (x119 : Int × Int × Int × Int × Int × Int × Unit) =>
  AggEq Try.prog 27 #[.int .i64 x118.1, .int .i64 x118.2.1, .int .i64 x118.2.2.1, .int .u32 x118.2.2.2.1, .int .u64 x118.2.2.2.2.1, .int .u64 x118.2.2.2.2.2.1] #[.int .i64 x119.1, .int .i64 x119.2.1, .int .i64 x119.2.2.1, .int .u32 x119.2.2.2.1, .int .u64 x119.2.2.2.2.1, .int .u64 x119.2.2.2.2.2.1] fun e120 =>
  cond (!e120)
  (K (false, ()) w81)
  (LoadA w81 ⟨b77, 0, none⟩ [.int .i64, .int .i64, .int .i64, .int .u32, .int .u64, .int .u64] fun (x121 : Int × Int × Int × Int × Int × Int × Unit) =>
  LoadA w81 ⟨b3, 0, none⟩ [.int .i64, .int .i64, .int .i64, .int .u32, .int .u64, .int .u64] fun (x122 : Int × Int × Int × Int × Int × Int × Unit) =>
  AggEq Try.prog 27 #[.int .i64 x121.1, .int .i64 x121.2.1, .int .i64 x121.2.2.1, .int .u32 x121.2.2.2.1, .int .u64 x121.2.2.2.2.1, .int .u64 x121.2.2.2.2.2.1] #[.int .i64 x122.1, .int .i64 x122.2.1, .int .i64 x122.2.2.1, .int .u32 x122.2.2.2.1, .int .u64 x122.2.2.2.2.1, .int .u64 x122.2.2.2.2.2.1] fun e123 =>
  cond (!e123)
  (K (false, ()) w81)
  (CallV Try.prog 25 #[.slice r11.1.a r11.1.n r11.1.c] w81 [.one .bool] fun (r124 : Bool × Unit) w125 =>
  cond r124.1
  (K (false, ()) w125)
  (J82 (()) w125)))))))))) ∧
  (NewV #[.int .i64 0, .int .i64 0, .int .i64 0, .int .u32 0, .int .u64 0, .int .u64 0, .slice none 0 0, .slice none 0 0, .bool false] 42 w23.drew fun b126 w127 =>
  KeepOn D24 w23.drew w127 ∧
  CallV Try.prog 30 #[.slice r11.1.a r11.1.n r11.1.c, .slice r16.1.a r16.1.n r16.1.c] w127 [.one .sl] fun (r128 : SlV × Unit) w129 =>
  KeepOn D24 w23.drew w129 ∧
  CallV Try.prog 23 #[.agg #[.int .i64 x25.1, .int .i64 x25.2.1, .int .i64 x25.2.2.1, .int .i64 x25.2.2.2.1, .int .i64 x25.2.2.2.2.1, .int .i64 x25.2.2.2.2.2.1], .slice r128.1.a r128.1.n r128.1.c] w129 [.agg [.int .i64, .int .i64, .int .i64, .int .u32, .int .u64, .int .u64, .sl, .sl, .bool], .one (.int .i64)] fun (r130 : (Int × Int × Int × Int × Int × Int × SlV × SlV × Bool × Unit) × Int × Unit) w131 =>
  KeepOn D24 w23.drew w131 ∧
  StoreV w131 ⟨b126, 0, none⟩ [.int .i64 r130.1.1, .int .i64 r130.1.2.1, .int .i64 r130.1.2.2.1, .int .u32 r130.1.2.2.2.1, .int .u64 r130.1.2.2.2.2.1, .int .u64 r130.1.2.2.2.2.2.1, .slice r130.1.2.2.2.2.2.2.1.a r130.1.2.2.2.2.2.2.1.n r130.1.2.2.2.2.2.2.1.c, .slice r130.1.2.2.2.2.2.2.2.1.a r130.1.2.2.2.2.2.2.2.1.n r130.1.2.2.2.2.2.2.2.1.c, .bool r130.1.2.2.2.2.2.2.2.2.1] fun w132 =>
  KeepOn D24 w23.drew w132 ∧
  JoinV [] (fun (v134 : Unit) w135 =>
  LoadS w135 ⟨b21, 6, none⟩ .sl fun (x136 : SlV) =>
  LoadS w135 ⟨b126, 6, none⟩ .sl fun (x137 : SlV) =>
  CallV Try.prog 19 #[.slice x136.a x136.n x136.c, .slice x137.a x137.n x137.c] w135 [.one .bool] fun (r138 : Bool × Unit) w139 =>
  cond r138.1
  (LoadS w139 ⟨b21, 7, none⟩ .sl fun (x140 : SlV) =>
  LoadS w139 ⟨b126, 7, none⟩ .sl fun (x141 : SlV) =>
  CallV Try.prog 19 #[.slice x140.a x140.n x140.c, .slice x141.a x141.n x141.c] w139 [.one .bool] fun (r142 : Bool × Unit) w143 =>
  cond r142.1
  ((0 ≤ (0 : Int) ∧ 0 < (2 : Int)) ∧
  LoadS w143 ⟨b5, 0, none⟩ .sl fun (x144 : SlV) =>
  cond (((x144.n : Nat) : Int) == 0)
  ((0 ≤ (1 : Int) ∧ 1 < (2 : Int)) ∧
  LoadS w143 ⟨b5, 1, none⟩ .sl fun (x145 : SlV) =>
  cond (((x145.n : Nat) : Int) == 0)
  (CallV Try.prog 18 #[] w143 [.one .bool] fun (r146 : Bool × Unit) w147 =>
  K (r146.1, ()) w147)
  (LoadS w143 ⟨b21, 7, none⟩ .sl fun (x148 : SlV) =>
  (0 ≤ (1 : Int) ∧ 1 < (2 : Int)) ∧
  LoadS w143 ⟨b5, 1, none⟩ .sl fun (x149 : SlV) =>
  CallV Try.prog 19 #[.slice x148.a x148.n x148.c, .slice x149.a x149.n x149.c] w143 [.one .bool] fun (r150 : Bool × Unit) w151 =>
  cond r150.1
  (CallV Try.prog 18 #[] w151 [.one .bool] fun (r152 : Bool × Unit) w153 =>
  K (r152.1, ()) w153)
  (K (false, ()) w151)))
  (LoadS w143 ⟨b21, 6, none⟩ .sl fun (x154 : SlV) =>
  (0 ≤ (0 : Int) ∧ 0 < (2 : Int)) ∧
  LoadS w143 ⟨b5, 0, none⟩ .sl fun (x155 : SlV) =>
  CallV Try.prog 19 #[.slice x154.a x154.n x154.c, .slice x155.a x155.n x155.c] w143 [.one .bool] fun (r156 : Bool × Unit) w157 =>
  cond r156.1
  ((0 ≤ (1 : Int) ∧ 1 < (2 : Int)) ∧
  LoadS w157 ⟨b5, 1, none⟩ .sl fun (x158 : SlV) =>
  cond (((x158.n : Nat) : Int) == 0)
  (CallV Try.prog 18 #[] w157 [.one .bool] fun (r159 : Bool × Unit) w160 =>
  K (r159.1, ()) w160)
  (LoadS w157 ⟨b21, 7, none⟩ .sl fun (x161 : SlV) =>
  (0 ≤ (1 : Int) ∧ 1 < (2 : Int)) ∧
  LoadS w157 ⟨b5, 1, none⟩ .sl fun (x162 : SlV) =>
  CallV Try.prog 19 #[.slice x161.a x161.n x161.c, .slice x162.a x162.n x162.c] w157 [.one .bool] fun (r163 : Bool × Unit) w164 =>
  cond r163.1
  (CallV Try.prog 18 #[] w164 [.one .bool] fun (r165 : Bool × Unit) w166 =>
  K (r165.1, ()) w166)
  (K (false, ()) w164)))
  (K (false, ()) w157)))
  (K (false, ()) w143))
  (K (false, ()) w139)) fun (J133 : Unit → World → Prop) =>
  cond (r19.2.1 != 0)
  (K (false, ()) w132)
  (cond (r130.2.1 != 0)
  (K (false, ()) w132)
  (LoadS w132 ⟨b21, 8, none⟩ .bool fun (x167 : Bool) =>
  cond x167
  (K (false, ()) w132)
  (LoadS w132 ⟨b126, 8, none⟩ .bool fun (x168 : Bool) =>
  cond (!x168)
  (K (false, ()) w132)
  (LoadA w132 ⟨b21, 0, none⟩ [.int .i64, .int .i64, .int .i64, .int .u32, .int .u64, .int .u64] fun (x169 : Int × Int × Int × Int × Int × Int × Unit) =>
  LoadA w132 ⟨b3, 0, none⟩ [.int .i64, .int .i64, .int .i64, .int .u32, .int .u64, .int .u64] fun (x170 : Int × Int × Int × Int × Int × Int × Unit) =>
  AggEq Try.prog 27 #[.int .i64 x169.1, .int .i64 x169.2.1, .int .i64 x169.2.2.1, .int .u32 x169.2.2.2.1, .int .u64 x169.2.2.2.2.1, .int .u64 x169.2.2.2.2.2.1] #[.int .i64 x170.1, .int .i64 x170.2.1, .int .i64 x170.2.2.1, .int .u32 x170.2.2.2.1, .int .u64 x170.2.2.2.2.1, .int .u64 x170.2.2.2.2.2.1] fun e171 =>
  cond (!e171)
  (K (false, ()) w132)
  (LoadA w132 ⟨b126, 0, none⟩ [.int .i64, .int .i64, .int .i64, .int .u32, .int .u64, .int .u64] fun (x172 : Int × Int × Int × Int × Int × Int × Unit) =>
  LoadA w132 ⟨b3, 0, none⟩ [.int .i64, .int .i64, .int .i64, .int .u32, .int .u64, .int .u64] fun (x173 : Int × Int × Int × Int × Int × Int × Unit) =>
  AggEq Try.prog 27 #[.int .i64 x172.1, .int .i64 x172.2.1, .int .i64 x172.2.2.1, .int .u32 x172.2.2.2.1, .int .u64 x172.2.2.2.2.1, .int .u64 x172.2.2.2.2.2.1] #[.int .i64 x173.1, .int .i64 x173.2.1, .int .i64 x173.2.2.1, .int .u32 x173.2.2.2.1, .int .u64 x173.2.2.2.2.1, .int .u64 x173.2.2.2.2.2.1] fun e174 =>
  cond (!e174)
  (K (false, ()) w132)
  (CallV Try.prog 25 #[.slice r11.1.a r11.1.n r11.1.c] w132 [.one .bool] fun (r175 : Bool × Unit) w176 =>
  cond r175.1
  (K (false, ()) w176)
  (J133 (()) w176))))))))))))
theorem law15_PageBack.vc (p0_0 : Int) (p0_1 : Int) (p0_2 : Int) (p0_3 : Int) (p0_4 : Int) (p0_5 : Int) (p1_0 : Int) (p1_1 : Int) (p1_2 : Int) (p1_3 : Int) (p1_4 : Int) (p1_5 : Int) (a2_0 : Option Addr) (n2_0 c2_0 : Nat) (a2_1 : Option Addr) (n2_1 c2_1 : Nat) (w : World) (K : Bool × Unit → World → Prop) (h : law15_PageBack.P p0_0 p0_1 p0_2 p0_3 p0_4 p0_5 p1_0 p1_1 p1_2 p1_3 p1_4 p1_5 a2_0 n2_0 c2_0 a2_1 n2_1 c2_1 w K) : CallV Try.prog 6 #[.agg #[.int .i64 p0_0, .int .i64 p0_1, .int .i64 p0_2, .int .i64 p0_3, .int .i64 p0_4, .int .i64 p0_5], .agg #[.int .i64 p1_0, .int .i64 p1_1, .int .i64 p1_2, .int .u32 p1_3, .int .u64 p1_4, .int .u64 p1_5], .agg #[.slice a2_0 n2_0 c2_0, .slice a2_1 n2_1 c2_1]] w [.one .bool] K := by
  have e : vcFun Try.prog okf false Try.f6 law15_PageBack.A #[.agg #[.int .i64 p0_0, .int .i64 p0_1, .int .i64 p0_2, .int .i64 p0_3, .int .i64 p0_4, .int .i64 p0_5], .agg #[.int .i64 p1_0, .int .i64 p1_1, .int .i64 p1_2, .int .u32 p1_3, .int .u64 p1_4, .int .u64 p1_5], .agg #[.slice a2_0 n2_0 c2_0, .slice a2_1 n2_1 c2_1]] w [.one .bool] K = law15_PageBack.P p0_0 p0_1 p0_2 p0_3 p0_4 p0_5 p1_0 p1_1 p1_2 p1_3 p1_4 p1_5 a2_0 n2_0 c2_0 a2_1 n2_1 c2_1 w K := by kernel_rfl
  exact vcFun.calls okf_ok follows Try.func6 (e.symm ▸ h)

end Go.Proofs.Ytfpkaebmiojicaa.Vc

/-! The laws PageMakes and PageBlank of layer 15: each call gives true, and what it read stays. -/
namespace Go.Proofs.Ytfpkaebmiojicaa.Vc
open Go Go.Eng Go.RowKit
set_option linter.unusedVariables false
set_option linter.unusedSimpArgs false

abbrev TTwo : Ty := .cons (.sl (.int .u8)) (.cons (.sl (.int .u8)) .nil)

theorem aw15 {w w' : World} (he : Ext w w') : CallV Try.prog 18 #[] w' [.one .bool] fun r w3 => r.1 = true ∧ Ext w w3 := awake15_c.mono fun r w3 ⟨h, e⟩ => ⟨h, he.trans e⟩

theorem PageMakes_law {w : World} {g : Geo} {h : Hd} {a a2 : Option Addr} {n c m c2 : Nat} {xs ts : List Int} (hg : h.rng) (hx : Ints w .u8 a n c xs) (ht : Ints w .u8 a2 m c2 ts) :
    CallV Try.prog 3 #[g.val, h.val, .agg #[.slice a n c, .slice a2 m c2]] w [.one .bool] fun r w' => r.1 = true ∧ Ext w w' := by
  apply law15_PageMakes.vc
  unfold law15_PageMakes.P
  have S := Sep.start NoB w
  (repeat ((first | refine S.newB fun _ _ S f _ => ?_ | refine S.la0 rfl ?_ | refine S.la1 rfl ?_ | refine S.la2 rfl ?_ | refine S.la3 rfl ?_ | refine S.la4 rfl ?_ | refine S.la5 rfl ?_ | refine S.ld0 rfl rfl ?_ | refine S.ld1 rfl rfl ?_ | refine S.ld2 rfl rfl ?_ | refine S.ld3 rfl rfl ?_ | refine S.ld4 rfl rfl ?_ | refine S.ld5 rfl rfl ?_ | refine S.st0 (by rfl) fun _ S f => ?_ | refine S.st1 (by rfl) fun _ S f => ?_ | refine S.st2 (by rfl) fun _ S f => ?_ | refine S.st3 (by rfl) fun _ S f => ?_ | refine S.st4 (by rfl) fun _ S f => ?_ | refine S.st5 (by rfl) fun _ S f => ?_ | refine S.su0 (by rfl) fun _ S f => ?_ | refine S.su1 (by rfl) fun _ S f => ?_ | refine S.su2 (by rfl) fun _ S f => ?_ | refine S.su3 (by rfl) fun _ S f => ?_ | refine S.su4 (by rfl) fun _ S f => ?_ | refine S.su5 (by rfl) fun _ S f => ?_ | refine ⟨by decide, ?_⟩); try dsimp only [List.set_cons_zero, List.set_cons_succ, cond_true, cond_false, Bool.not_true, Bool.not_false]))
  refine (Make_c (g := g) hg (hx.ext S.ext) (ht.ext S.ext)).mono ?_
  rintro ⟨⟨sa, sn, sc⟩, (e2 : Int), ⟨⟩⟩ w2 ⟨x2, h2, h2'⟩
  dsimp only at h2 h2' ⊢
  have S := S.stepE x2
  (repeat ((first | refine S.newB fun _ _ S f _ => ?_ | refine S.la0 rfl ?_ | refine S.la1 rfl ?_ | refine S.la2 rfl ?_ | refine S.la3 rfl ?_ | refine S.la4 rfl ?_ | refine S.la5 rfl ?_ | refine S.ld0 rfl rfl ?_ | refine S.ld1 rfl rfl ?_ | refine S.ld2 rfl rfl ?_ | refine S.ld3 rfl rfl ?_ | refine S.ld4 rfl rfl ?_ | refine S.ld5 rfl rfl ?_ | refine S.st0 (by rfl) fun _ S f => ?_ | refine S.st1 (by rfl) fun _ S f => ?_ | refine S.st2 (by rfl) fun _ S f => ?_ | refine S.st3 (by rfl) fun _ S f => ?_ | refine S.st4 (by rfl) fun _ S f => ?_ | refine S.st5 (by rfl) fun _ S f => ?_ | refine S.su0 (by rfl) fun _ S f => ?_ | refine S.su1 (by rfl) fun _ S f => ?_ | refine S.su2 (by rfl) fun _ S f => ?_ | refine S.su3 (by rfl) fun _ S f => ?_ | refine S.su4 (by rfl) fun _ S f => ?_ | refine S.su5 (by rfl) fun _ S f => ?_ | refine ⟨by decide, ?_⟩); try dsimp only [List.set_cons_zero, List.set_cons_succ, cond_true, cond_false, Bool.not_true, Bool.not_false]))
  refine (PCommit_c (g := g)).mono ?_
  rintro ⟨⟨ta, tn, tc⟩, (e3 : Int), ⟨⟩⟩ w3 ⟨x3, h3, h3'⟩
  dsimp only at h3 h3' ⊢
  have S := S.stepE x3
  (repeat ((first | refine S.newB fun _ _ S f _ => ?_ | refine S.la0 rfl ?_ | refine S.la1 rfl ?_ | refine S.la2 rfl ?_ | refine S.la3 rfl ?_ | refine S.la4 rfl ?_ | refine S.la5 rfl ?_ | refine S.ld0 rfl rfl ?_ | refine S.ld1 rfl rfl ?_ | refine S.ld2 rfl rfl ?_ | refine S.ld3 rfl rfl ?_ | refine S.ld4 rfl rfl ?_ | refine S.ld5 rfl rfl ?_ | refine S.st0 (by rfl) fun _ S f => ?_ | refine S.st1 (by rfl) fun _ S f => ?_ | refine S.st2 (by rfl) fun _ S f => ?_ | refine S.st3 (by rfl) fun _ S f => ?_ | refine S.st4 (by rfl) fun _ S f => ?_ | refine S.st5 (by rfl) fun _ S f => ?_ | refine S.su0 (by rfl) fun _ S f => ?_ | refine S.su1 (by rfl) fun _ S f => ?_ | refine S.su2 (by rfl) fun _ S f => ?_ | refine S.su3 (by rfl) fun _ S f => ?_ | refine S.su4 (by rfl) fun _ S f => ?_ | refine S.su5 (by rfl) fun _ S f => ?_ | refine ⟨by decide, ?_⟩); try dsimp only [List.set_cons_zero, List.set_cons_succ, cond_true, cond_false, Bool.not_true, Bool.not_false]))
  refine (Right_c (g := g)).mono ?_
  rintro ⟨(r4 : Bool), ⟨⟩⟩ w4 ⟨h4, x4⟩
  dsimp only at h4 ⊢
  subst h4
  have S := S.stepE x4
  by_cases hR : Right g
  case neg =>
    obtain ⟨k1, k2⟩ := h2' (fun hp => hR hp.1)
    obtain ⟨m1, m2⟩ := h3' hR
    cases k1; cases m1
    subst k2; subst m2
    refine cond_t (by rw [decide_eq_false hR]; rfl) (cond_t rfl (cond_t rfl ⟨Rng.i64 (by decide) (by decide), cond_t rfl (aw15 S.ext)⟩))
  obtain ⟨m1, m2⟩ := h3 hR
  subst m2
  refine cond_f (by rw [decide_eq_true hR]; rfl) (cond_f rfl ?_)
  (repeat ((first | refine S.newB fun _ _ S f _ => ?_ | refine S.la0 rfl ?_ | refine S.la1 rfl ?_ | refine S.la2 rfl ?_ | refine S.la3 rfl ?_ | refine S.la4 rfl ?_ | refine S.la5 rfl ?_ | refine S.ld0 rfl rfl ?_ | refine S.ld1 rfl rfl ?_ | refine S.ld2 rfl rfl ?_ | refine S.ld3 rfl rfl ?_ | refine S.ld4 rfl rfl ?_ | refine S.ld5 rfl rfl ?_ | refine S.st0 (by rfl) fun _ S f => ?_ | refine S.st1 (by rfl) fun _ S f => ?_ | refine S.st2 (by rfl) fun _ S f => ?_ | refine S.st3 (by rfl) fun _ S f => ?_ | refine S.st4 (by rfl) fun _ S f => ?_ | refine S.st5 (by rfl) fun _ S f => ?_ | refine S.su0 (by rfl) fun _ S f => ?_ | refine S.su1 (by rfl) fun _ S f => ?_ | refine S.su2 (by rfl) fun _ S f => ?_ | refine S.su3 (by rfl) fun _ S f => ?_ | refine S.su4 (by rfl) fun _ S f => ?_ | refine S.su5 (by rfl) fun _ S f => ?_ | refine ⟨by decide, ?_⟩); try dsimp only [List.set_cons_zero, List.set_cons_succ, cond_true, cond_false, Bool.not_true, Bool.not_false]))
  refine (rCommit15_c hR).mono ?_
  rintro ⟨(s5 : SlV), ⟨⟩⟩ w5 h5
  dsimp only at h5 ⊢
  have S := S.stepE h5.ext
  refine (SameBytes_c (m1.ints.ext (x4.trans h5.ext)) h5.ints).mono ?_
  rintro ⟨(r6 : Bool), ⟨⟩⟩ w6 ⟨h6, x6⟩
  dsimp only at h6 ⊢
  subst h6
  have S := S.stepE x6
  refine cond_f (by simp) ?_
  (repeat ((first | refine S.newB fun _ _ S f _ => ?_ | refine S.la0 rfl ?_ | refine S.la1 rfl ?_ | refine S.la2 rfl ?_ | refine S.la3 rfl ?_ | refine S.la4 rfl ?_ | refine S.la5 rfl ?_ | refine S.ld0 rfl rfl ?_ | refine S.ld1 rfl rfl ?_ | refine S.ld2 rfl rfl ?_ | refine S.ld3 rfl rfl ?_ | refine S.ld4 rfl rfl ?_ | refine S.ld5 rfl rfl ?_ | refine S.st0 (by rfl) fun _ S f => ?_ | refine S.st1 (by rfl) fun _ S f => ?_ | refine S.st2 (by rfl) fun _ S f => ?_ | refine S.st3 (by rfl) fun _ S f => ?_ | refine S.st4 (by rfl) fun _ S f => ?_ | refine S.st5 (by rfl) fun _ S f => ?_ | refine S.su0 (by rfl) fun _ S f => ?_ | refine S.su1 (by rfl) fun _ S f => ?_ | refine S.su2 (by rfl) fun _ S f => ?_ | refine S.su3 (by rfl) fun _ S f => ?_ | refine S.su4 (by rfl) fun _ S f => ?_ | refine S.su5 (by rfl) fun _ S f => ?_ | refine ⟨by decide, ?_⟩); try dsimp only [List.set_cons_zero, List.set_cons_succ, cond_true, cond_false, Bool.not_true, Bool.not_false]))
  refine (rRight15_c (g := g) (h := h)).mono ?_
  rintro ⟨(r7 : Bool), ⟨⟩⟩ w7 ⟨h7, x7⟩
  dsimp only at h7 ⊢
  subst h7
  have S := S.stepE x7
  by_cases hP : PRight g h n m
  case neg =>
    obtain ⟨k1, k2⟩ := h2' hP
    cases k1
    subst k2
    exact cond_t (by rw [decide_eq_false hP]; rfl) (cond_t rfl (cond_t rfl (aw15 S.ext)))
  obtain ⟨k1, k2⟩ := h2 hP
  subst k2
  refine cond_f (by rw [decide_eq_true hP]; rfl) (cond_t rfl ?_)
  (repeat ((first | refine S.newB fun _ _ S f _ => ?_ | refine S.la0 rfl ?_ | refine S.la1 rfl ?_ | refine S.la2 rfl ?_ | refine S.la3 rfl ?_ | refine S.la4 rfl ?_ | refine S.la5 rfl ?_ | refine S.ld0 rfl rfl ?_ | refine S.ld1 rfl rfl ?_ | refine S.ld2 rfl rfl ?_ | refine S.ld3 rfl rfl ?_ | refine S.ld4 rfl rfl ?_ | refine S.ld5 rfl rfl ?_ | refine S.st0 (by rfl) fun _ S f => ?_ | refine S.st1 (by rfl) fun _ S f => ?_ | refine S.st2 (by rfl) fun _ S f => ?_ | refine S.st3 (by rfl) fun _ S f => ?_ | refine S.st4 (by rfl) fun _ S f => ?_ | refine S.st5 (by rfl) fun _ S f => ?_ | refine S.su0 (by rfl) fun _ S f => ?_ | refine S.su1 (by rfl) fun _ S f => ?_ | refine S.su2 (by rfl) fun _ S f => ?_ | refine S.su3 (by rfl) fun _ S f => ?_ | refine S.su4 (by rfl) fun _ S f => ?_ | refine S.su5 (by rfl) fun _ S f => ?_ | refine ⟨by decide, ?_⟩); try dsimp only [List.set_cons_zero, List.set_cons_succ, cond_true, cond_false, Bool.not_true, Bool.not_false]))
  refine (rMake_c hg (hx.ext S.ext) (ht.ext S.ext) hP).mono ?_
  rintro ⟨(s8 : SlV), ⟨⟩⟩ w8 h8
  dsimp only at h8 ⊢
  refine (SameBytes_c (k1.ints.ext (x3.trans (x4.trans (h5.ext.trans (x6.trans (x7.trans h8.ext)))))) h8.ints).mono ?_
  rintro ⟨(r9 : Bool), ⟨⟩⟩ w9 ⟨h9, x9⟩
  dsimp only at h9 ⊢
  subst h9
  exact cond_t (by simp) (aw15 (S.ext.trans (h8.ext.trans x9)))

theorem PageMakes_of {w : World} {x : TGeo.T} {y : THd.T} {z : TTwo.T} (g0 : TGeo.ok w x) (g1 : THd.ok w y) (g2 : TTwo.ok w z) :
    CallV Try.prog 3 #[.agg (TGeo.vs x).toArray, .agg (THd.vs y).toArray, .agg (TTwo.vs z).toArray] w [.one .bool] fun r w' => r.1 = true ∧ Ext w w' := by
  rw [geoT_val, hdT_val]
  exact PageMakes_law (hdT_rng g1) (Ty.ints (Ty.rd_of _ g2.1)) (Ty.ints (Ty.rd_of _ g2.2.1))

theorem blank_ok {n : Nat} (h : 0 < n) : ¬ okR (List.replicate n 255) := fun hh => by
  have := hh.1.2
  rw [getD_get (by simpa using h), List.getElem_replicate] at this
  omega
theorem endP_rep {g : Geo} {n : Nat} (x : Int) : endP g (List.replicate n x) = List.replicate (n - g.s.toNat) x := by unfold endP; rw [List.drop_replicate]

theorem PageBlank_law {w : World} {g : Geo} {kind : Int} : CallV Try.prog 5 #[g.val, .int .i64 kind] w [.one .bool] fun r w' => r.1 = true ∧ Ext w w' := by
  apply law15_PageBlank.vc
  unfold law15_PageBlank.P
  have S := Sep.start NoB w
  (repeat ((first | refine S.newB fun _ _ S f _ => ?_ | refine S.la0 rfl ?_ | refine S.la1 rfl ?_ | refine S.la2 rfl ?_ | refine S.la3 rfl ?_ | refine S.la4 rfl ?_ | refine S.la5 rfl ?_ | refine S.ld0 rfl rfl ?_ | refine S.ld1 rfl rfl ?_ | refine S.ld2 rfl rfl ?_ | refine S.ld3 rfl rfl ?_ | refine S.ld4 rfl rfl ?_ | refine S.ld5 rfl rfl ?_ | refine S.st0 (by rfl) fun _ S f => ?_ | refine S.st1 (by rfl) fun _ S f => ?_ | refine S.st2 (by rfl) fun _ S f => ?_ | refine S.st3 (by rfl) fun _ S f => ?_ | refine S.st4 (by rfl) fun _ S f => ?_ | refine S.st5 (by rfl) fun _ S f => ?_ | refine S.su0 (by rfl) fun _ S f => ?_ | refine S.su1 (by rfl) fun _ S f => ?_ | refine S.su2 (by rfl) fun _ S f => ?_ | refine S.su3 (by rfl) fun _ S f => ?_ | refine S.su4 (by rfl) fun _ S f => ?_ | refine S.su5 (by rfl) fun _ S f => ?_ | refine ⟨by decide, ?_⟩); try dsimp only [List.set_cons_zero, List.set_cons_succ, cond_true, cond_false, Bool.not_true, Bool.not_false]))
  refine (Right_c (g := g)).mono ?_
  rintro ⟨(r4 : Bool), ⟨⟩⟩ w4 ⟨h4, x4⟩
  dsimp only at h4 ⊢
  subst h4
  have S := S.stepE x4
  by_cases hR : Right g
  case neg => exact cond_t (by rw [decide_eq_false hR]; rfl) (aw15 S.ext)
  refine cond_f (by rw [decide_eq_true hR]; rfl) ?_
  have hs := hR.sec
  (repeat ((first | refine S.newB fun _ _ S f _ => ?_ | refine S.la0 rfl ?_ | refine S.la1 rfl ?_ | refine S.la2 rfl ?_ | refine S.la3 rfl ?_ | refine S.la4 rfl ?_ | refine S.la5 rfl ?_ | refine S.ld0 rfl rfl ?_ | refine S.ld1 rfl rfl ?_ | refine S.ld2 rfl rfl ?_ | refine S.ld3 rfl rfl ?_ | refine S.ld4 rfl rfl ?_ | refine S.ld5 rfl rfl ?_ | refine S.st0 (by rfl) fun _ S f => ?_ | refine S.st1 (by rfl) fun _ S f => ?_ | refine S.st2 (by rfl) fun _ S f => ?_ | refine S.st3 (by rfl) fun _ S f => ?_ | refine S.st4 (by rfl) fun _ S f => ?_ | refine S.st5 (by rfl) fun _ S f => ?_ | refine S.su0 (by rfl) fun _ S f => ?_ | refine S.su1 (by rfl) fun _ S f => ?_ | refine S.su2 (by rfl) fun _ S f => ?_ | refine S.su3 (by rfl) fun _ S f => ?_ | refine S.su4 (by rfl) fun _ S f => ?_ | refine S.su5 (by rfl) fun _ S f => ?_ | refine ⟨by decide, ?_⟩); try dsimp only [List.set_cons_zero, List.set_cons_succ, cond_true, cond_false, Bool.not_true, Bool.not_false]))
  refine ⟨Rng.i64 (by omega) (by omega), ?_⟩
  refine rFill_c.mono ?_
  rintro ⟨⟨sa, sn, sc⟩, ⟨⟩⟩ w3 h3
  dsimp only at h3 ⊢
  have hf : (max 0 (min (65536 : Int) (g.s + 88))).toNat = (g.s + 88).toNat := by generalize hL : (65536 : Int) = L; omega
  rw [hf] at h3
  have S := S.stepE h3.ext
  have hb : Byt (List.replicate (g.s + 88).toNat (255 : Int)) := Byt.replicate (by omega) (by omega) _
  have hL : lenP g (List.replicate (g.s + 88).toNat (255 : Int)) := ⟨hR, by rw [List.length_replicate]; omega⟩
  have hO : ¬ okR (endP g (List.replicate (g.s + 88).toNat (255 : Int))) := by rw [endP_rep]; exact blank_ok (by omega)
  have i3 := h3.ints
  dsimp only at i3
  (repeat ((first | refine S.newB fun _ _ S f _ => ?_ | refine S.la0 rfl ?_ | refine S.la1 rfl ?_ | refine S.la2 rfl ?_ | refine S.la3 rfl ?_ | refine S.la4 rfl ?_ | refine S.la5 rfl ?_ | refine S.ld0 rfl rfl ?_ | refine S.ld1 rfl rfl ?_ | refine S.ld2 rfl rfl ?_ | refine S.ld3 rfl rfl ?_ | refine S.ld4 rfl rfl ?_ | refine S.ld5 rfl rfl ?_ | refine S.st0 (by rfl) fun _ S f => ?_ | refine S.st1 (by rfl) fun _ S f => ?_ | refine S.st2 (by rfl) fun _ S f => ?_ | refine S.st3 (by rfl) fun _ S f => ?_ | refine S.st4 (by rfl) fun _ S f => ?_ | refine S.st5 (by rfl) fun _ S f => ?_ | refine S.su0 (by rfl) fun _ S f => ?_ | refine S.su1 (by rfl) fun _ S f => ?_ | refine S.su2 (by rfl) fun _ S f => ?_ | refine S.su3 (by rfl) fun _ S f => ?_ | refine S.su4 (by rfl) fun _ S f => ?_ | refine S.su5 (by rfl) fun _ S f => ?_ | refine ⟨by decide, ?_⟩); try dsimp only [List.set_cons_zero, List.set_cons_succ, cond_true, cond_false, Bool.not_true, Bool.not_false]))
  refine (PRead_c (g := g) i3 hb).mono ?_
  rintro ⟨⟨(k1 : Int), (k2 : Int), (k3 : Int), (k4 : Int), (k5 : Int), (k6 : Int), ⟨ua, un, uc⟩, ⟨ta, tn, tc⟩, (d : Bool), ⟨⟩⟩, (e2 : Int), ⟨⟩⟩ w5 ⟨x5, -, h5, -⟩
  obtain ⟨-, h5⟩ := h5 hL hO
  dsimp only at h5 ⊢
  subst h5
  have S := S.stepE x5
  refine S.newB fun _ w6 S f6 _ => ?_
  refine S.st0 (by rfl) fun w7 S f7 => ?_
  have X7 : Ext w3 w7 := x5.trans (Fr.ext (f6.trans' f7 fun k hk => .inr (by omega)))
  (repeat ((first | refine S.newB fun _ _ S f _ => ?_ | refine S.la0 rfl ?_ | refine S.la1 rfl ?_ | refine S.la2 rfl ?_ | refine S.la3 rfl ?_ | refine S.la4 rfl ?_ | refine S.la5 rfl ?_ | refine S.ld0 rfl rfl ?_ | refine S.ld1 rfl rfl ?_ | refine S.ld2 rfl rfl ?_ | refine S.ld3 rfl rfl ?_ | refine S.ld4 rfl rfl ?_ | refine S.ld5 rfl rfl ?_ | refine S.st0 (by rfl) fun _ S f => ?_ | refine S.st1 (by rfl) fun _ S f => ?_ | refine S.st2 (by rfl) fun _ S f => ?_ | refine S.st3 (by rfl) fun _ S f => ?_ | refine S.st4 (by rfl) fun _ S f => ?_ | refine S.st5 (by rfl) fun _ S f => ?_ | refine S.su0 (by rfl) fun _ S f => ?_ | refine S.su1 (by rfl) fun _ S f => ?_ | refine S.su2 (by rfl) fun _ S f => ?_ | refine S.su3 (by rfl) fun _ S f => ?_ | refine S.su4 (by rfl) fun _ S f => ?_ | refine S.su5 (by rfl) fun _ S f => ?_ | refine ⟨by decide, ?_⟩); try dsimp only [List.set_cons_zero, List.set_cons_succ, cond_true, cond_false, Bool.not_true, Bool.not_false]))
  refine (PDone_c (g := g) (kind := kind) (i3.ext X7) hb).mono ?_
  rintro ⟨⟨(k1 : Int), (k2 : Int), (k3 : Int), (k4 : Int), (k5 : Int), (k6 : Int), ⟨ua, un, uc⟩, ⟨ta, tn, tc⟩, (d : Bool), ⟨⟩⟩, (o : Bool), ⟨⟩⟩ w8 ⟨x8, h8, -⟩
  obtain ⟨-, h8⟩ := h8 (fun h => hO h.2.1)
  dsimp only at h8 ⊢
  subst h8
  have S := S.stepE x8
  refine S.newB fun _ w9 S f9 _ => ?_
  refine S.st0 (by rfl) fun w10 S f10 => ?_
  have X10 : Ext w3 w10 := X7.trans (x8.trans (Fr.ext (f9.trans' f10 fun k hk => .inr (by omega))))
  refine cond_t rfl (cond_t rfl ?_)
  refine (Blank_c (i3.ext X10) hb).mono ?_
  rintro ⟨(r3 : Bool), ⟨⟩⟩ w3 ⟨h3, rfl⟩
  dsimp only at h3 ⊢
  exact cond_t (by rw [h3, List.length_replicate]; simp) (aw15 S.ext)

theorem PageBlank_of {w : World} {x : TGeo.T} {kind : Int} (g0 : TGeo.ok w x) (g1 : Rng .i64 kind) : CallV Try.prog 5 #[.agg (TGeo.vs x).toArray, .int .i64 kind] w [.one .bool] fun r w' => r.1 = true ∧ Ext w w' := by
  rw [geoT_val]
  exact PageBlank_law

end Go.Proofs.Ytfpkaebmiojicaa.Vc

/-! The law PageReads of layer 15: each call gives true, and what it read stays. -/
namespace Go.Proofs.Ytfpkaebmiojicaa.Vc
open Go Go.Eng Go.RowKit
set_option linter.unusedVariables false
set_option linter.unusedSimpArgs false

structure PgS where
  h : Hd
  d : Bool
  x : List Int
  t : List Int
abbrev zS : PgS := ⟨zeroH, false, [], []⟩
abbrev fS (g : Geo) (xs : List Int) : PgS := ⟨hdOf (endP g xs), comm (endP g xs), pays g xs, tags g xs⟩
def pSpec (g : Geo) (xs : List Int) : PgS := if lenP g xs ∧ okR (endP g xs) then fS g xs else zS
def dOk (g : Geo) (xs : List Int) (kind : Int) : Prop := lenP g xs ∧ okR (endP g xs) ∧ comm (endP g xs) = true ∧ (hdOf (endP g xs)).k = kind
instance (g : Geo) (xs : List Int) (kind : Int) : Decidable (dOk g xs kind) := by unfold dOk; infer_instance
def dSpec (g : Geo) (xs : List Int) (kind : Int) : PgS := if dOk g xs kind then fS g xs else zS
def rdE (g : Geo) (xs : List Int) : Int := if lenP g xs then (if okR (endP g xs) then 0 else 1) else 2
/-- A told page in memory. -/
def PgM (w : World) (p : PgS) (q : PgT) : Prop := ∃ s t : SlV, q = pgT p.h s t p.d ∧ Ints w .u8 s.a s.n s.c p.x ∧ Ints w .u8 t.a t.n t.c p.t
def PgN (w : World) (p : PgS) (o : Bool) (q : PgU) : Prop := ∃ s t : SlV, q = (p.h.k, p.h.n, p.h.c, p.h.l, p.h.e, p.h.t, s, t, p.d, o, ()) ∧ Ints w .u8 s.a s.n s.c p.x ∧ Ints w .u8 t.a t.n t.c p.t

theorem PgM.zero {w : World} : PgM w zS zPg := ⟨⟨none, 0, 0⟩, ⟨none, 0, 0⟩, rfl, intsNil, intsNil⟩
theorem PgM.is {w w' : World} {g : Geo} {xs : List Int} {q : PgT} (h : PgIs w w' g xs q) : PgM w' (fS g xs) q := by
  obtain ⟨s, t, h1, _, _, T⟩ := h
  exact ⟨s, t, h1, T.in0, T.in1⟩
theorem PReadU_c {w : World} {g : Geo} {a : Option Addr} {n c : Nat} {xs : List Int} (hx : Ints w .u8 a n c xs) (bx : Byt xs) :
    CallV Try.prog 23 #[g.val, .slice a n c] w [.agg [.int .i64, .int .i64, .int .i64, .int .u32, .int .u64, .int .u64, .sl, .sl, .bool], .one (.int .i64)] fun r w' => Ext w w' ∧ r.2.1 = rdE g xs ∧ PgM w' (pSpec g xs) r.1 := by
  refine (PRead_c hx bx).mono ?_
  rintro r w' ⟨e, h1, h2, h3⟩
  unfold rdE pSpec
  by_cases hL : lenP g xs
  · by_cases hO : okR (endP g xs)
    · rw [if_pos hL, if_pos hO, if_pos ⟨hL, hO⟩]
      exact ⟨e, (h3 hL hO).1, .is (h3 hL hO).2⟩
    · rw [if_pos hL, if_neg hO, if_neg fun h => hO h.2, (h2 hL hO).1]
      exact ⟨e, (h2 hL hO).2, .zero⟩
  · rw [if_neg hL, if_neg fun h => hL h.1, (h1 hL).1]
    exact ⟨e, (h1 hL).2, .zero⟩
theorem PDoneU_c {w : World} {g : Geo} {a : Option Addr} {n c : Nat} {kind : Int} {xs : List Int} (hx : Ints w .u8 a n c xs) (bx : Byt xs) :
    CallV Try.prog 24 #[g.val, .slice a n c, .int .i64 kind] w [.agg [.int .i64, .int .i64, .int .i64, .int .u32, .int .u64, .int .u64, .sl, .sl, .bool], .one .bool] fun r w' => Ext w w' ∧ r.2.1 = decide (dOk g xs kind) ∧ PgM w' (dSpec g xs kind) r.1 := by
  refine (PDone_c hx bx).mono ?_
  rintro r w' ⟨e, h1, h2⟩
  unfold dSpec
  by_cases h : dOk g xs kind
  · rw [if_pos h, decide_eq_true h]
    exact ⟨e, (h2 h).1, .is (h2 h).2⟩
  · rw [if_neg h, decide_eq_false h, (h1 h).1]
    exact ⟨e, (h1 h).2, .zero⟩
theorem rPReadU_c {w0 w : World} {g : Geo} {a : Option Addr} {n c : Nat} {xs : List Int} (hx : Ints w0 .u8 a n c xs) (e0 : Ext w0 w) (bx : Byt xs) (hL : lenP g xs) :
    CallV Try.prog 28 #[g.val, .slice a n c] w [.agg [.int .i64, .int .i64, .int .i64, .int .u32, .int .u64, .int .u64, .sl, .sl, .bool, .bool]] fun r w' => Ext w w' ∧ PgN w0 (pSpec g xs) (decide (okR (endP g xs))) r.1 := by
  refine (rPRead_c hx e0 bx hL).mono ?_
  rintro r w' ⟨e, h1, h2⟩
  unfold pSpec
  by_cases h : okR (endP g xs)
  · rw [if_pos ⟨hL, h⟩, decide_eq_true h]
    exact ⟨e, h2 h⟩
  · rw [if_neg fun hh => h hh.2, decide_eq_false h, h1 h]
    exact ⟨e, ⟨none, 0, 0⟩, ⟨none, 0, 0⟩, rfl, intsNil, intsNil⟩
theorem rPDoneU_c {w0 w : World} {g : Geo} {a : Option Addr} {n c : Nat} {kind : Int} {xs : List Int} (hx : Ints w0 .u8 a n c xs) (e0 : Ext w0 w) (bx : Byt xs) (hL : lenP g xs) :
    CallV Try.prog 29 #[g.val, .slice a n c, .int .i64 kind] w [.agg [.int .i64, .int .i64, .int .i64, .int .u32, .int .u64, .int .u64, .sl, .sl, .bool, .bool]] fun r w' => Ext w w' ∧ PgN w0 (dSpec g xs kind) (decide (dOk g xs kind)) r.1 := by
  refine (rPDone_c hx e0 bx hL).mono ?_
  rintro r w' ⟨e, h1, h2⟩
  unfold dSpec
  by_cases h : dOk g xs kind
  · rw [if_pos h, decide_eq_true h]
    exact ⟨e, h2 h.2⟩
  · rw [if_neg h, decide_eq_false h, h1 fun hh => h ⟨hL, hh⟩]
    exact ⟨e, ⟨none, 0, 0⟩, ⟨none, 0, 0⟩, rfl, intsNil, intsNil⟩

theorem PageReads_law {w : World} {g : Geo} {a : Option Addr} {n c : Nat} {kind : Int} {xs : List Int} (hx : Ints w .u8 a n c xs) (bx : Byt xs) :
    CallV Try.prog 4 #[g.val, .slice a n c, .int .i64 kind] w [.one .bool] fun r w' => r.1 = true ∧ Ext w w' := by
  apply law15_PageReads.vc
  unfold law15_PageReads.P
  have lx := hx.len
  have S := Sep.start NoB w
  (repeat ((first | refine S.newB fun _ _ S f _ => ?_ | refine S.la0 rfl ?_ | refine S.la1 rfl ?_ | refine S.la2 rfl ?_ | refine S.la3 rfl ?_ | refine S.la4 rfl ?_ | refine S.la5 rfl ?_ | refine S.ld0 rfl rfl ?_ | refine S.ld1 rfl rfl ?_ | refine S.ld2 rfl rfl ?_ | refine S.ld3 rfl rfl ?_ | refine S.ld4 rfl rfl ?_ | refine S.ld5 rfl rfl ?_ | refine S.st0 (by rfl) fun _ S f => ?_ | refine S.st1 (by rfl) fun _ S f => ?_ | refine S.st2 (by rfl) fun _ S f => ?_ | refine S.st3 (by rfl) fun _ S f => ?_ | refine S.st4 (by rfl) fun _ S f => ?_ | refine S.st5 (by rfl) fun _ S f => ?_ | refine S.su0 (by rfl) fun _ S f => ?_ | refine S.su1 (by rfl) fun _ S f => ?_ | refine S.su2 (by rfl) fun _ S f => ?_ | refine S.su3 (by rfl) fun _ S f => ?_ | refine S.su4 (by rfl) fun _ S f => ?_ | refine S.su5 (by rfl) fun _ S f => ?_ | refine ⟨by decide, ?_⟩); try dsimp only [List.set_cons_zero, List.set_cons_succ, cond_true, cond_false, Bool.not_true, Bool.not_false]))
  refine cond_d (fun _ => aw15 S.ext) (fun hn => ?_)
  (repeat ((first | refine S.newB fun _ _ S f _ => ?_ | refine S.la0 rfl ?_ | refine S.la1 rfl ?_ | refine S.la2 rfl ?_ | refine S.la3 rfl ?_ | refine S.la4 rfl ?_ | refine S.la5 rfl ?_ | refine S.ld0 rfl rfl ?_ | refine S.ld1 rfl rfl ?_ | refine S.ld2 rfl rfl ?_ | refine S.ld3 rfl rfl ?_ | refine S.ld4 rfl rfl ?_ | refine S.ld5 rfl rfl ?_ | refine S.st0 (by rfl) fun _ S f => ?_ | refine S.st1 (by rfl) fun _ S f => ?_ | refine S.st2 (by rfl) fun _ S f => ?_ | refine S.st3 (by rfl) fun _ S f => ?_ | refine S.st4 (by rfl) fun _ S f => ?_ | refine S.st5 (by rfl) fun _ S f => ?_ | refine S.su0 (by rfl) fun _ S f => ?_ | refine S.su1 (by rfl) fun _ S f => ?_ | refine S.su2 (by rfl) fun _ S f => ?_ | refine S.su3 (by rfl) fun _ S f => ?_ | refine S.su4 (by rfl) fun _ S f => ?_ | refine S.su5 (by rfl) fun _ S f => ?_ | refine ⟨by decide, ?_⟩); try dsimp only [List.set_cons_zero, List.set_cons_succ, cond_true, cond_false, Bool.not_true, Bool.not_false]))
  refine (PReadU_c (g := g) (hx.ext S.ext) bx).mono ?_
  rintro ⟨⟨(k1 : Int), (k2 : Int), (k3 : Int), (k4 : Int), (k5 : Int), (k6 : Int), ⟨ua, un, uc⟩, ⟨ta, tn, tc⟩, (d : Bool), ⟨⟩⟩, (e2 : Int), ⟨⟩⟩ w2 ⟨x2, h2, s, t, q, is, it⟩
  dsimp only at h2 q ⊢
  cases q
  dsimp only at is it
  have S := S.stepE x2
  refine S.newB fun _ w3 S f3 _ => ?_
  refine S.st0 (by rfl) fun w4 S f4 => ?_
  have X4 : Ext w2 w4 := Fr.ext (f3.trans' f4 fun k hk => .inr (by omega))
  (repeat ((first | refine S.newB fun _ _ S f _ => ?_ | refine S.la0 rfl ?_ | refine S.la1 rfl ?_ | refine S.la2 rfl ?_ | refine S.la3 rfl ?_ | refine S.la4 rfl ?_ | refine S.la5 rfl ?_ | refine S.ld0 rfl rfl ?_ | refine S.ld1 rfl rfl ?_ | refine S.ld2 rfl rfl ?_ | refine S.ld3 rfl rfl ?_ | refine S.ld4 rfl rfl ?_ | refine S.ld5 rfl rfl ?_ | refine S.st0 (by rfl) fun _ S f => ?_ | refine S.st1 (by rfl) fun _ S f => ?_ | refine S.st2 (by rfl) fun _ S f => ?_ | refine S.st3 (by rfl) fun _ S f => ?_ | refine S.st4 (by rfl) fun _ S f => ?_ | refine S.st5 (by rfl) fun _ S f => ?_ | refine S.su0 (by rfl) fun _ S f => ?_ | refine S.su1 (by rfl) fun _ S f => ?_ | refine S.su2 (by rfl) fun _ S f => ?_ | refine S.su3 (by rfl) fun _ S f => ?_ | refine S.su4 (by rfl) fun _ S f => ?_ | refine S.su5 (by rfl) fun _ S f => ?_ | refine ⟨by decide, ?_⟩); try dsimp only [List.set_cons_zero, List.set_cons_succ, cond_true, cond_false, Bool.not_true, Bool.not_false]))
  refine (PDoneU_c (g := g) (kind := kind) (hx.ext S.ext) bx).mono ?_
  rintro ⟨⟨(k1 : Int), (k2 : Int), (k3 : Int), (k4 : Int), (k5 : Int), (k6 : Int), ⟨va, vn, vc⟩, ⟨za, zn, zc⟩, (d : Bool), ⟨⟩⟩, (o : Bool), ⟨⟩⟩ w5 ⟨x5, h5, s5, t5, q5, is5, it5⟩
  dsimp only at h5 q5 ⊢
  cases q5
  dsimp only at is5 it5
  have S := S.stepE x5
  refine S.newB fun _ w6 S f6 _ => ?_
  refine S.st0 (by rfl) fun w7 S f7 => ?_
  have X7 : Ext w5 w7 := Fr.ext (f6.trans' f7 fun k hk => .inr (by omega))
  refine (Blank_c (hx.ext S.ext) bx).mono ?_
  rintro ⟨(r8 : Bool), ⟨⟩⟩ w8 ⟨h8, rfl⟩
  dsimp only at h8 ⊢
  refine rFill_c.mono ?_
  rintro ⟨(s9 : SlV), ⟨⟩⟩ w9 h9
  dsimp only at h9 ⊢
  have hf : (max 0 (min (65536 : Int) ((n : Nat) : Int))).toNat = n := by generalize hL : (65536 : Int) = L; omega
  rw [hf] at h9
  have S := S.stepE h9.ext
  refine (SameBytes_c (hx.ext S.ext) h9.ints).mono ?_
  rintro ⟨(r10 : Bool), ⟨⟩⟩ w10 ⟨h10, x10⟩
  dsimp only at h10 ⊢
  have S := S.stepE x10
  refine cond_f (by rw [h8, h10, lx]; simp) ?_
  (repeat ((first | refine S.newB fun _ _ S f _ => ?_ | refine S.la0 rfl ?_ | refine S.la1 rfl ?_ | refine S.la2 rfl ?_ | refine S.la3 rfl ?_ | refine S.la4 rfl ?_ | refine S.la5 rfl ?_ | refine S.ld0 rfl rfl ?_ | refine S.ld1 rfl rfl ?_ | refine S.ld2 rfl rfl ?_ | refine S.ld3 rfl rfl ?_ | refine S.ld4 rfl rfl ?_ | refine S.ld5 rfl rfl ?_ | refine S.st0 (by rfl) fun _ S f => ?_ | refine S.st1 (by rfl) fun _ S f => ?_ | refine S.st2 (by rfl) fun _ S f => ?_ | refine S.st3 (by rfl) fun _ S f => ?_ | refine S.st4 (by rfl) fun _ S f => ?_ | refine S.st5 (by rfl) fun _ S f => ?_ | refine S.su0 (by rfl) fun _ S f => ?_ | refine S.su1 (by rfl) fun _ S f => ?_ | refine S.su2 (by rfl) fun _ S f => ?_ | refine S.su3 (by rfl) fun _ S f => ?_ | refine S.su4 (by rfl) fun _ S f => ?_ | refine S.su5 (by rfl) fun _ S f => ?_ | refine ⟨by decide, ?_⟩); try dsimp only [List.set_cons_zero, List.set_cons_succ, cond_true, cond_false, Bool.not_true, Bool.not_false]))
  refine (Right_c (g := g)).mono ?_
  rintro ⟨(r11 : Bool), ⟨⟩⟩ w11 ⟨h11, x11⟩
  dsimp only at h11 ⊢
  have S := S.stepE x11
  subst h11
  have Y : Ext w8 w11 := h9.ext.trans (x10.trans x11)
  have YA : Ext w2 w11 := X4.trans (x5.trans (X7.trans Y))
  have YB : Ext w5 w11 := X7.trans Y
  subst h2; subst h5
  by_cases hL : lenP g xs
  case neg =>
    have hp : pSpec g xs = zS := by unfold pSpec; rw [if_neg fun h => hL h.1]
    have hd : dSpec g xs kind = zS := by unfold dSpec; rw [if_neg fun h => hL h.1]
    have hd' : ¬ dOk g xs kind := fun h => hL h.1
    have he : rdE g xs = 2 := by unfold rdE; rw [if_neg hL]
    rw [hp] at S is it
    rw [hd] at S is5 it5
    rw [he, decide_eq_false hd']
    by_cases hR : Right g
    case' pos =>
      refine cond_f (by rw [decide_eq_true hR]; rfl) ?_
      have hs := hR.sec
      (repeat ((first | refine S.newB fun _ _ S f _ => ?_ | refine S.la0 rfl ?_ | refine S.la1 rfl ?_ | refine S.la2 rfl ?_ | refine S.la3 rfl ?_ | refine S.la4 rfl ?_ | refine S.la5 rfl ?_ | refine S.ld0 rfl rfl ?_ | refine S.ld1 rfl rfl ?_ | refine S.ld2 rfl rfl ?_ | refine S.ld3 rfl rfl ?_ | refine S.ld4 rfl rfl ?_ | refine S.ld5 rfl rfl ?_ | refine S.st0 (by rfl) fun _ S f => ?_ | refine S.st1 (by rfl) fun _ S f => ?_ | refine S.st2 (by rfl) fun _ S f => ?_ | refine S.st3 (by rfl) fun _ S f => ?_ | refine S.st4 (by rfl) fun _ S f => ?_ | refine S.st5 (by rfl) fun _ S f => ?_ | refine S.su0 (by rfl) fun _ S f => ?_ | refine S.su1 (by rfl) fun _ S f => ?_ | refine S.su2 (by rfl) fun _ S f => ?_ | refine S.su3 (by rfl) fun _ S f => ?_ | refine S.su4 (by rfl) fun _ S f => ?_ | refine S.su5 (by rfl) fun _ S f => ?_ | refine ⟨by decide, ?_⟩); try dsimp only [List.set_cons_zero, List.set_cons_succ, cond_true, cond_false, Bool.not_true, Bool.not_false]))
      refine ⟨Rng.i64 (by omega) (by omega), cond_ne (fun _ => ?_) (fun h => absurd ⟨hR, by omega⟩ hL)⟩
    case' neg => refine cond_t (by rw [decide_eq_false hR]; rfl) ?_
    all_goals
      refine cond_t rfl (cond_t rfl ?_)
      (repeat ((first | refine S.newB fun _ _ S f _ => ?_ | refine S.la0 rfl ?_ | refine S.la1 rfl ?_ | refine S.la2 rfl ?_ | refine S.la3 rfl ?_ | refine S.la4 rfl ?_ | refine S.la5 rfl ?_ | refine S.ld0 rfl rfl ?_ | refine S.ld1 rfl rfl ?_ | refine S.ld2 rfl rfl ?_ | refine S.ld3 rfl rfl ?_ | refine S.ld4 rfl rfl ?_ | refine S.ld5 rfl rfl ?_ | refine S.st0 (by rfl) fun _ S f => ?_ | refine S.st1 (by rfl) fun _ S f => ?_ | refine S.st2 (by rfl) fun _ S f => ?_ | refine S.st3 (by rfl) fun _ S f => ?_ | refine S.st4 (by rfl) fun _ S f => ?_ | refine S.st5 (by rfl) fun _ S f => ?_ | refine S.su0 (by rfl) fun _ S f => ?_ | refine S.su1 (by rfl) fun _ S f => ?_ | refine S.su2 (by rfl) fun _ S f => ?_ | refine S.su3 (by rfl) fun _ S f => ?_ | refine S.su4 (by rfl) fun _ S f => ?_ | refine S.su5 (by rfl) fun _ S f => ?_ | refine ⟨by decide, ?_⟩); try dsimp only [List.set_cons_zero, List.set_cons_succ, cond_true, cond_false, Bool.not_true, Bool.not_false]))
      refine (same15_c (g := zeroH) (h := zeroH) (s := ⟨ua, un, uc⟩) (t := ⟨ta, tn, tc⟩) (s' := ⟨none, 0, 0⟩) (t' := ⟨none, 0, 0⟩) (is.ext YA) (it.ext YA) intsNil intsNil).mono ?_
      rintro ⟨(r : Bool), ⟨⟩⟩ w12 ⟨x12, h12⟩
      have h12 := h12 rfl rfl rfl rfl
      have S := S.stepE x12
      dsimp only at h12 ⊢
      refine cond_t h12 ?_
      (repeat ((first | refine S.newB fun _ _ S f _ => ?_ | refine S.la0 rfl ?_ | refine S.la1 rfl ?_ | refine S.la2 rfl ?_ | refine S.la3 rfl ?_ | refine S.la4 rfl ?_ | refine S.la5 rfl ?_ | refine S.ld0 rfl rfl ?_ | refine S.ld1 rfl rfl ?_ | refine S.ld2 rfl rfl ?_ | refine S.ld3 rfl rfl ?_ | refine S.ld4 rfl rfl ?_ | refine S.ld5 rfl rfl ?_ | refine S.st0 (by rfl) fun _ S f => ?_ | refine S.st1 (by rfl) fun _ S f => ?_ | refine S.st2 (by rfl) fun _ S f => ?_ | refine S.st3 (by rfl) fun _ S f => ?_ | refine S.st4 (by rfl) fun _ S f => ?_ | refine S.st5 (by rfl) fun _ S f => ?_ | refine S.su0 (by rfl) fun _ S f => ?_ | refine S.su1 (by rfl) fun _ S f => ?_ | refine S.su2 (by rfl) fun _ S f => ?_ | refine S.su3 (by rfl) fun _ S f => ?_ | refine S.su4 (by rfl) fun _ S f => ?_ | refine S.su5 (by rfl) fun _ S f => ?_ | refine ⟨by decide, ?_⟩); try dsimp only [List.set_cons_zero, List.set_cons_succ, cond_true, cond_false, Bool.not_true, Bool.not_false]))
      refine (same15_c (g := zeroH) (h := zeroH) (s := ⟨va, vn, vc⟩) (t := ⟨za, zn, zc⟩) (s' := ⟨none, 0, 0⟩) (t' := ⟨none, 0, 0⟩) (is5.ext (YB.trans x12)) (it5.ext (YB.trans x12)) intsNil intsNil).mono ?_
      rintro ⟨(r : Bool), ⟨⟩⟩ w13 ⟨x13, h13⟩
      have h13 := h13 rfl rfl rfl rfl
      dsimp only at h13 ⊢
      exact cond_t h13 (aw15 (S.ext.trans x13))
  refine cond_f (by rw [decide_eq_true hL.1]; rfl) ?_
  have hs := hL.1.sec
  (repeat ((first | refine S.newB fun _ _ S f _ => ?_ | refine S.la0 rfl ?_ | refine S.la1 rfl ?_ | refine S.la2 rfl ?_ | refine S.la3 rfl ?_ | refine S.la4 rfl ?_ | refine S.la5 rfl ?_ | refine S.ld0 rfl rfl ?_ | refine S.ld1 rfl rfl ?_ | refine S.ld2 rfl rfl ?_ | refine S.ld3 rfl rfl ?_ | refine S.ld4 rfl rfl ?_ | refine S.ld5 rfl rfl ?_ | refine S.st0 (by rfl) fun _ S f => ?_ | refine S.st1 (by rfl) fun _ S f => ?_ | refine S.st2 (by rfl) fun _ S f => ?_ | refine S.st3 (by rfl) fun _ S f => ?_ | refine S.st4 (by rfl) fun _ S f => ?_ | refine S.st5 (by rfl) fun _ S f => ?_ | refine S.su0 (by rfl) fun _ S f => ?_ | refine S.su1 (by rfl) fun _ S f => ?_ | refine S.su2 (by rfl) fun _ S f => ?_ | refine S.su3 (by rfl) fun _ S f => ?_ | refine S.su4 (by rfl) fun _ S f => ?_ | refine S.su5 (by rfl) fun _ S f => ?_ | refine ⟨by decide, ?_⟩); try dsimp only [List.set_cons_zero, List.set_cons_succ, cond_true, cond_false, Bool.not_true, Bool.not_false]))
  refine ⟨Rng.i64 (by omega) (by omega), cond_ne (fun h => absurd hL.2 (by omega)) (fun _ => ?_)⟩
  (repeat ((first | refine S.newB fun _ _ S f _ => ?_ | refine S.la0 rfl ?_ | refine S.la1 rfl ?_ | refine S.la2 rfl ?_ | refine S.la3 rfl ?_ | refine S.la4 rfl ?_ | refine S.la5 rfl ?_ | refine S.ld0 rfl rfl ?_ | refine S.ld1 rfl rfl ?_ | refine S.ld2 rfl rfl ?_ | refine S.ld3 rfl rfl ?_ | refine S.ld4 rfl rfl ?_ | refine S.ld5 rfl rfl ?_ | refine S.st0 (by rfl) fun _ S f => ?_ | refine S.st1 (by rfl) fun _ S f => ?_ | refine S.st2 (by rfl) fun _ S f => ?_ | refine S.st3 (by rfl) fun _ S f => ?_ | refine S.st4 (by rfl) fun _ S f => ?_ | refine S.st5 (by rfl) fun _ S f => ?_ | refine S.su0 (by rfl) fun _ S f => ?_ | refine S.su1 (by rfl) fun _ S f => ?_ | refine S.su2 (by rfl) fun _ S f => ?_ | refine S.su3 (by rfl) fun _ S f => ?_ | refine S.su4 (by rfl) fun _ S f => ?_ | refine S.su5 (by rfl) fun _ S f => ?_ | refine ⟨by decide, ?_⟩); try dsimp only [List.set_cons_zero, List.set_cons_succ, cond_true, cond_false, Bool.not_true, Bool.not_false]))
  refine (rPReadU_c (g := g) hx S.ext bx hL).mono ?_
  rintro ⟨⟨(k1 : Int), (k2 : Int), (k3 : Int), (k4 : Int), (k5 : Int), (k6 : Int), ⟨ma, mn, mc⟩, ⟨na, nn, nc⟩, (d : Bool), (o : Bool), ⟨⟩⟩, ⟨⟩⟩ w12 ⟨x12, s12, t12, q12, is12, it12⟩
  dsimp only at q12 ⊢
  cases q12
  have S := S.stepE x12
  refine S.newB fun _ w13 S f13 _ => ?_
  refine S.st0 (by rfl) fun w14 S f14 => ?_
  have X14 : Ext w12 w14 := Fr.ext (f13.trans' f14 fun k hk => .inr (by omega))
  (repeat ((first | refine S.newB fun _ _ S f _ => ?_ | refine S.la0 rfl ?_ | refine S.la1 rfl ?_ | refine S.la2 rfl ?_ | refine S.la3 rfl ?_ | refine S.la4 rfl ?_ | refine S.la5 rfl ?_ | refine S.ld0 rfl rfl ?_ | refine S.ld1 rfl rfl ?_ | refine S.ld2 rfl rfl ?_ | refine S.ld3 rfl rfl ?_ | refine S.ld4 rfl rfl ?_ | refine S.ld5 rfl rfl ?_ | refine S.st0 (by rfl) fun _ S f => ?_ | refine S.st1 (by rfl) fun _ S f => ?_ | refine S.st2 (by rfl) fun _ S f => ?_ | refine S.st3 (by rfl) fun _ S f => ?_ | refine S.st4 (by rfl) fun _ S f => ?_ | refine S.st5 (by rfl) fun _ S f => ?_ | refine S.su0 (by rfl) fun _ S f => ?_ | refine S.su1 (by rfl) fun _ S f => ?_ | refine S.su2 (by rfl) fun _ S f => ?_ | refine S.su3 (by rfl) fun _ S f => ?_ | refine S.su4 (by rfl) fun _ S f => ?_ | refine S.su5 (by rfl) fun _ S f => ?_ | refine ⟨by decide, ?_⟩); try dsimp only [List.set_cons_zero, List.set_cons_succ, cond_true, cond_false, Bool.not_true, Bool.not_false]))
  refine (rPDoneU_c (g := g) (kind := kind) hx S.ext bx hL).mono ?_
  rintro ⟨⟨(k1 : Int), (k2 : Int), (k3 : Int), (k4 : Int), (k5 : Int), (k6 : Int), ⟨oa, on, oc⟩, ⟨pa, pn, pc⟩, (d : Bool), (o : Bool), ⟨⟩⟩, ⟨⟩⟩ w15 ⟨x15, s15, t15, q15, is15, it15⟩
  dsimp only at q15 ⊢
  cases q15
  have S := S.stepE x15
  refine S.newB fun _ w16 S f16 _ => ?_
  refine S.st0 (by rfl) fun w17 S f17 => ?_
  have X17 : Ext w15 w17 := Fr.ext (f16.trans' f17 fun k hk => .inr (by omega))
  have he : rdE g xs = (if okR (endP g xs) then 0 else 1) := by unfold rdE; rw [if_pos hL]
  rw [he]
  dsimp only at is12 it12 is15 it15
  have Z : Ext w11 w17 := x12.trans (X14.trans (x15.trans X17))
  have ZA := YA.trans Z
  have ZB := YB.trans Z
  by_cases hO : okR (endP g xs)
  case' pos => rw [if_pos hO]; rw [decide_eq_true hO] at S
  case' neg => rw [if_neg hO]; rw [decide_eq_false hO] at S
  all_goals
    (repeat ((first | refine S.newB fun _ _ S f _ => ?_ | refine S.la0 rfl ?_ | refine S.la1 rfl ?_ | refine S.la2 rfl ?_ | refine S.la3 rfl ?_ | refine S.la4 rfl ?_ | refine S.la5 rfl ?_ | refine S.la6 rfl ?_ | refine S.la7 rfl ?_ | refine S.la8 rfl ?_ | refine S.la9 rfl ?_ | refine S.la10 rfl ?_ | refine S.la11 rfl ?_ | refine S.ld0 rfl rfl ?_ | refine S.ld1 rfl rfl ?_ | refine S.ld2 rfl rfl ?_ | refine S.ld3 rfl rfl ?_ | refine S.ld4 rfl rfl ?_ | refine S.ld5 rfl rfl ?_ | refine S.ld6 rfl rfl ?_ | refine S.ld7 rfl rfl ?_ | refine S.ld8 rfl rfl ?_ | refine S.ld9 rfl rfl ?_ | refine S.ld10 rfl rfl ?_ | refine S.ld11 rfl rfl ?_ | refine S.st0 (by rfl) fun _ S f => ?_ | refine S.st1 (by rfl) fun _ S f => ?_ | refine S.st2 (by rfl) fun _ S f => ?_ | refine S.st3 (by rfl) fun _ S f => ?_ | refine S.st4 (by rfl) fun _ S f => ?_ | refine S.st5 (by rfl) fun _ S f => ?_ | refine S.st6 (by rfl) fun _ S f => ?_ | refine S.st7 (by rfl) fun _ S f => ?_ | refine S.st8 (by rfl) fun _ S f => ?_ | refine S.st9 (by rfl) fun _ S f => ?_ | refine S.st10 (by rfl) fun _ S f => ?_ | refine S.st11 (by rfl) fun _ S f => ?_ | refine S.su0 (by rfl) fun _ S f => ?_ | refine S.su1 (by rfl) fun _ S f => ?_ | refine S.su2 (by rfl) fun _ S f => ?_ | refine S.su3 (by rfl) fun _ S f => ?_ | refine S.su4 (by rfl) fun _ S f => ?_ | refine S.su5 (by rfl) fun _ S f => ?_ | refine S.su6 (by rfl) fun _ S f => ?_ | refine S.su7 (by rfl) fun _ S f => ?_ | refine S.su8 (by rfl) fun _ S f => ?_ | refine S.su9 (by rfl) fun _ S f => ?_ | refine S.su10 (by rfl) fun _ S f => ?_ | refine S.su11 (by rfl) fun _ S f => ?_ | refine ⟨by decide, ?_⟩); try dsimp only [List.set_cons_zero, List.set_cons_succ, cond_true, cond_false, Bool.not_true, Bool.not_false]))
    refine (same15_c (g := (pSpec g xs).h) (h := (pSpec g xs).h) (s := ⟨ua, un, uc⟩) (t := ⟨ta, tn, tc⟩) (s' := ⟨ma, mn, mc⟩) (t' := ⟨na, nn, nc⟩) (is.ext ZA) (it.ext ZA) (is12.ext S.ext) (it12.ext S.ext)).mono ?_
    rintro ⟨(r : Bool), ⟨⟩⟩ w18 ⟨x18, h18⟩
    have h18 := h18 rfl rfl rfl rfl
    have S := S.stepE x18
    dsimp only at h18 ⊢
    refine cond_t h18 ?_
    (repeat ((first | refine S.newB fun _ _ S f _ => ?_ | refine S.la0 rfl ?_ | refine S.la1 rfl ?_ | refine S.la2 rfl ?_ | refine S.la3 rfl ?_ | refine S.la4 rfl ?_ | refine S.la5 rfl ?_ | refine S.la6 rfl ?_ | refine S.la7 rfl ?_ | refine S.la8 rfl ?_ | refine S.la9 rfl ?_ | refine S.la10 rfl ?_ | refine S.la11 rfl ?_ | refine S.ld0 rfl rfl ?_ | refine S.ld1 rfl rfl ?_ | refine S.ld2 rfl rfl ?_ | refine S.ld3 rfl rfl ?_ | refine S.ld4 rfl rfl ?_ | refine S.ld5 rfl rfl ?_ | refine S.ld6 rfl rfl ?_ | refine S.ld7 rfl rfl ?_ | refine S.ld8 rfl rfl ?_ | refine S.ld9 rfl rfl ?_ | refine S.ld10 rfl rfl ?_ | refine S.ld11 rfl rfl ?_ | refine S.st0 (by rfl) fun _ S f => ?_ | refine S.st1 (by rfl) fun _ S f => ?_ | refine S.st2 (by rfl) fun _ S f => ?_ | refine S.st3 (by rfl) fun _ S f => ?_ | refine S.st4 (by rfl) fun _ S f => ?_ | refine S.st5 (by rfl) fun _ S f => ?_ | refine S.st6 (by rfl) fun _ S f => ?_ | refine S.st7 (by rfl) fun _ S f => ?_ | refine S.st8 (by rfl) fun _ S f => ?_ | refine S.st9 (by rfl) fun _ S f => ?_ | refine S.st10 (by rfl) fun _ S f => ?_ | refine S.st11 (by rfl) fun _ S f => ?_ | refine S.su0 (by rfl) fun _ S f => ?_ | refine S.su1 (by rfl) fun _ S f => ?_ | refine S.su2 (by rfl) fun _ S f => ?_ | refine S.su3 (by rfl) fun _ S f => ?_ | refine S.su4 (by rfl) fun _ S f => ?_ | refine S.su5 (by rfl) fun _ S f => ?_ | refine S.su6 (by rfl) fun _ S f => ?_ | refine S.su7 (by rfl) fun _ S f => ?_ | refine S.su8 (by rfl) fun _ S f => ?_ | refine S.su9 (by rfl) fun _ S f => ?_ | refine S.su10 (by rfl) fun _ S f => ?_ | refine S.su11 (by rfl) fun _ S f => ?_ | refine ⟨by decide, ?_⟩); try dsimp only [List.set_cons_zero, List.set_cons_succ, cond_true, cond_false, Bool.not_true, Bool.not_false]))
    refine cond_t (by simp) ?_
    (repeat ((first | refine S.newB fun _ _ S f _ => ?_ | refine S.la0 rfl ?_ | refine S.la1 rfl ?_ | refine S.la2 rfl ?_ | refine S.la3 rfl ?_ | refine S.la4 rfl ?_ | refine S.la5 rfl ?_ | refine S.la6 rfl ?_ | refine S.la7 rfl ?_ | refine S.la8 rfl ?_ | refine S.la9 rfl ?_ | refine S.la10 rfl ?_ | refine S.la11 rfl ?_ | refine S.ld0 rfl rfl ?_ | refine S.ld1 rfl rfl ?_ | refine S.ld2 rfl rfl ?_ | refine S.ld3 rfl rfl ?_ | refine S.ld4 rfl rfl ?_ | refine S.ld5 rfl rfl ?_ | refine S.ld6 rfl rfl ?_ | refine S.ld7 rfl rfl ?_ | refine S.ld8 rfl rfl ?_ | refine S.ld9 rfl rfl ?_ | refine S.ld10 rfl rfl ?_ | refine S.ld11 rfl rfl ?_ | refine S.st0 (by rfl) fun _ S f => ?_ | refine S.st1 (by rfl) fun _ S f => ?_ | refine S.st2 (by rfl) fun _ S f => ?_ | refine S.st3 (by rfl) fun _ S f => ?_ | refine S.st4 (by rfl) fun _ S f => ?_ | refine S.st5 (by rfl) fun _ S f => ?_ | refine S.st6 (by rfl) fun _ S f => ?_ | refine S.st7 (by rfl) fun _ S f => ?_ | refine S.st8 (by rfl) fun _ S f => ?_ | refine S.st9 (by rfl) fun _ S f => ?_ | refine S.st10 (by rfl) fun _ S f => ?_ | refine S.st11 (by rfl) fun _ S f => ?_ | refine S.su0 (by rfl) fun _ S f => ?_ | refine S.su1 (by rfl) fun _ S f => ?_ | refine S.su2 (by rfl) fun _ S f => ?_ | refine S.su3 (by rfl) fun _ S f => ?_ | refine S.su4 (by rfl) fun _ S f => ?_ | refine S.su5 (by rfl) fun _ S f => ?_ | refine S.su6 (by rfl) fun _ S f => ?_ | refine S.su7 (by rfl) fun _ S f => ?_ | refine S.su8 (by rfl) fun _ S f => ?_ | refine S.su9 (by rfl) fun _ S f => ?_ | refine S.su10 (by rfl) fun _ S f => ?_ | refine S.su11 (by rfl) fun _ S f => ?_ | refine ⟨by decide, ?_⟩); try dsimp only [List.set_cons_zero, List.set_cons_succ, cond_true, cond_false, Bool.not_true, Bool.not_false]))
    refine (same15_c (g := (dSpec g xs kind).h) (h := (dSpec g xs kind).h) (s := ⟨va, vn, vc⟩) (t := ⟨za, zn, zc⟩) (s' := ⟨oa, on, oc⟩) (t' := ⟨pa, pn, pc⟩) (is5.ext (ZB.trans x18)) (it5.ext (ZB.trans x18)) (is15.ext S.ext) (it15.ext S.ext)).mono ?_
    rintro ⟨(r : Bool), ⟨⟩⟩ w19 ⟨x19, h19⟩
    have h19 := h19 rfl rfl rfl rfl
    dsimp only at h19 ⊢
    exact cond_t h19 (aw15 (S.ext.trans x19))

theorem PageReads_of {w : World} {x : TGeo.T} {a : Option Addr} {n c b : Nat} {xs : List Int} {kind : Int} (g0 : TGeo.ok w x) (g1 : SlI w .u8 a n c xs b) (g2 : Rng .i64 kind) :
    CallV Try.prog 4 #[.agg (TGeo.vs x).toArray, .slice a n c, .int .i64 kind] w [.one .bool] fun r w' => r.1 = true ∧ Ext w w' := by
  rw [geoT_val]
  exact PageReads_law g1.ints g1.byt

end Go.Proofs.Ytfpkaebmiojicaa.Vc

/-! The law HeadMarks of layer 14: each call gives true, and what it read stays. -/
namespace Go.Proofs.Ytfpkaebmiojicaa.Vc
open Go Go.Eng Go.RowKit
set_option linter.unusedVariables false
set_option linter.unusedSimpArgs false

def core (h : Hd) (tg : List Int) : List Int := (hdL h ++ invL (hdL h)) ++ tagL tg
def markL (h : Hd) (tg : List Int) : List Int := core h tg ++ List.replicate 8 0
theorem core_length (h : Hd) {tg : List Int} (hl : tg.length = 0 ∨ tg.length = 32) : (core h tg).length = 80 := by
  unfold core
  rw [List.length_append, List.length_append, invL_length, hdL_length, tagL_length hl]
theorem core_byt {h : Hd} (hR : HRight h) {tg : List Int} (bt : Byt tg) : Byt (core h tg) := by
  unfold core
  refine ((hdL_byt hR).append (invL_byt _)).append ?_
  unfold tagL
  split
  · exact Byt.replicate (by omega) (by omega) _
  · exact bt
theorem markL_length (h : Hd) {tg : List Int} (hl : tg.length = 0 ∨ tg.length = 32) : (markL h tg).length = 88 := by
  unfold markL
  rw [List.length_append, core_length h hl, List.length_replicate]
theorem markL_byt {h : Hd} (hR : HRight h) {tg : List Int} (bt : Byt tg) : Byt (markL h tg) := (core_byt hR bt).append (Byt.replicate (by omega) (by omega) _)
theorem markL_hd (h : Hd) (hg : h.rng) (tg : List Int) : hdOf (markL h tg) = h := by
  unfold markL core
  rw [List.append_assoc, List.append_assoc]
  exact part_hdL h hg _
theorem markL_ok (h : Hd) {tg : List Int} (hR : HRight h) : okR (markL h tg) := by
  refine ⟨hR.1, rfl, ?_⟩
  have p1 : part (markL h tg) 0 24 = hdL h := by
    unfold part markL core
    rw [List.drop_zero, List.append_assoc, List.append_assoc, List.take_left' (by rw [hdL_length])]
  have p2 : part (markL h tg) 24 48 = invL (hdL h) := by
    unfold part markL core
    rw [List.append_assoc, List.append_assoc, List.drop_left' (by rw [hdL_length]), List.take_left' (by rw [invL_length, hdL_length])]
  rw [p1, p2]
theorem part_core (h : Hd) {tg : List Int} (hl : tg.length = 0 ∨ tg.length = 32) : part (markL h tg) 48 80 = part (endL h tg) 48 80 := by
  unfold part markL endL
  rw [show ((hdL h ++ invL (hdL h)) ++ tagL tg) = core h tg from rfl, List.drop_append_of_le_length (by rw [core_length h hl]; omega), List.drop_append_of_le_length (by rw [core_length h hl]; omega),
    List.take_left' (by rw [List.length_drop, core_length h hl]), List.take_left' (by rw [List.length_drop, core_length h hl])]
theorem markL_comm (h : Hd) {tg : List Int} (hl : tg.length = 0 ∨ tg.length = 32) : comm (markL h tg) = true := by
  refine decide_eq_true ⟨markL_length h hl, ?_⟩
  unfold markL
  rw [List.drop_left' (by rw [core_length h hl])]
theorem and255 : ∀ x : Fin 256, Go.bits .and .u8 ((x.val : Nat) : Int) 255 = ((x.val : Nat) : Int) := by decide +kernel
theorem getD_left {xs ys : List Int} {i : Nat} (h : i < xs.length) : (xs ++ ys).getD i 0 = xs.getD i 0 := by
  rw [List.getD_eq_getElem?_getD, List.getElem?_append_left h, ← List.getD_eq_getElem?_getD]
theorem getD_right {xs ys : List Int} {i : Nat} (h : xs.length ≤ i) : (xs ++ ys).getD i 0 = ys.getD (i - xs.length) 0 := by
  rw [List.getD_eq_getElem?_getD, List.getElem?_append_right h, ← List.getD_eq_getElem?_getD]
theorem and_mark {h : Hd} (hR : HRight h) {tg : List Int} (bt : Byt tg) (hl : tg.length = 0 ∨ tg.length = 32) : andL (endL h tg) (List.replicate 80 255 ++ List.replicate 8 0) = markL h tg := by
  refine List.ext_getElem (by rw [andL_length, endL_length h hl, markL_length h hl]) fun i h1 h2 => ?_
  have hc := core_length h hl
  rw [← getD_get h2]
  rw [markL_length h hl] at h2
  rw [show (andL (endL h tg) (List.replicate 80 255 ++ List.replicate 8 0))[i] = Go.bits .and .u8 ((endL h tg).getD i 0) ((List.replicate 80 255 ++ List.replicate 8 0 : List Int).getD i 0) by simp [andL]]
  unfold endL markL
  rw [show ((hdL h ++ invL (hdL h)) ++ tagL tg) = core h tg from rfl]
  by_cases hi : i < 80
  · rw [getD_left (xs := core h tg) (by omega), getD_left (xs := List.replicate 80 255) (by simpa using hi), getD_left (xs := core h tg) (by omega), getD_get (xs := List.replicate 80 255) (by simpa using hi), List.getElem_replicate, getD_get (xs := core h tg) (by omega)]
    obtain ⟨x, hx⟩ := byte_nat ((core_byt hR bt) _ (List.getElem_mem (by omega : i < (core h tg).length)))
    rw [hx]
    exact and255 x
  · rw [getD_right (xs := core h tg) (by omega), getD_right (xs := List.replicate 80 255) (by simp; omega), getD_right (xs := core h tg) (by omega), hc, List.length_replicate,
      getD_get (xs := List.replicate 8 (255 : Int)) (by simp; omega), List.getElem_replicate, getD_get (xs := List.replicate 8 (0 : Int)) (by simp; omega), List.getElem_replicate]
    decide +kernel

theorem MarkLow_c {w : World} {n : Int} (h : ¬ (88 ≤ n ∧ n ≤ 4184)) : CallV Try.prog 60 #[.int .i64 n] w [.one .sl] fun r w' => r.1 = (⟨none, 0, 0⟩ : SlV) ∧ w' = w := by
  refine head_Mark.vc _ _ _ ?_
  unfold head_Mark.P
  exact cond_d (fun h => ⟨rfl, rfl⟩) (fun _ => cond_d (fun h => ⟨rfl, rfl⟩) (fun _ => by omega))

end Go.Proofs.Ytfpkaebmiojicaa.Vc

/-! Parts of plans, cut out by wip/tools/vccut.py. -/
namespace Go.Proofs.Ytfpkaebmiojicaa.Vc
open Go Go.Eng
set_option linter.unusedVariables false

def law15_PageBack.T (b21 : Nat) (b30 : Nat) (b5 : Nat) (K : Bool × Unit → World → Prop) (r19 : (Int × Int × Int × Int × Int × Int × SlV × SlV × Bool × Unit) × Int × Unit) (w32 : World) (r28 : (Int × Int × Int × Int × Int × Int × SlV × SlV × Bool × Unit) × Int × Unit) (b3 : Nat) (r11 : SlV × Int × Unit) : Prop :=
JoinV [] (fun (v34 : Unit) w35 =>
  LoadS w35 ⟨b21, 6, none⟩ .sl fun (x36 : SlV) =>
  LoadS w35 ⟨b30, 6, none⟩ .sl fun (x37 : SlV) =>
  CallV Try.prog 19 #[.slice x36.a x36.n x36.c, .slice x37.a x37.n x37.c] w35 [.one .bool] fun (r38 : Bool × Unit) w39 =>
  cond r38.1
  (LoadS w39 ⟨b21, 7, none⟩ .sl fun (x40 : SlV) =>
  LoadS w39 ⟨b30, 7, none⟩ .sl fun (x41 : SlV) =>
  CallV Try.prog 19 #[.slice x40.a x40.n x40.c, .slice x41.a x41.n x41.c] w39 [.one .bool] fun (r42 : Bool × Unit) w43 =>
  cond r42.1
  ((0 ≤ (0 : Int) ∧ 0 < (2 : Int)) ∧
  LoadS w43 ⟨b5, 0, none⟩ .sl fun (x44 : SlV) =>
  cond (((x44.n : Nat) : Int) == 0)
  ((0 ≤ (1 : Int) ∧ 1 < (2 : Int)) ∧
  LoadS w43 ⟨b5, 1, none⟩ .sl fun (x45 : SlV) =>
  cond (((x45.n : Nat) : Int) == 0)
  (CallV Try.prog 18 #[] w43 [.one .bool] fun (r46 : Bool × Unit) w47 =>
  K (r46.1, ()) w47)
  (LoadS w43 ⟨b21, 7, none⟩ .sl fun (x48 : SlV) =>
  (0 ≤ (1 : Int) ∧ 1 < (2 : Int)) ∧
  LoadS w43 ⟨b5, 1, none⟩ .sl fun (x49 : SlV) =>
  CallV Try.prog 19 #[.slice x48.a x48.n x48.c, .slice x49.a x49.n x49.c] w43 [.one .bool] fun (r50 : Bool × Unit) w51 =>
  cond r50.1
  (CallV Try.prog 18 #[] w51 [.one .bool] fun (r52 : Bool × Unit) w53 =>
  K (r52.1, ()) w53)
  (K (false, ()) w51)))
  (LoadS w43 ⟨b21, 6, none⟩ .sl fun (x54 : SlV) =>
  (0 ≤ (0 : Int) ∧ 0 < (2 : Int)) ∧
  LoadS w43 ⟨b5, 0, none⟩ .sl fun (x55 : SlV) =>
  CallV Try.prog 19 #[.slice x54.a x54.n x54.c, .slice x55.a x55.n x55.c] w43 [.one .bool] fun (r56 : Bool × Unit) w57 =>
  cond r56.1
  ((0 ≤ (1 : Int) ∧ 1 < (2 : Int)) ∧
  LoadS w57 ⟨b5, 1, none⟩ .sl fun (x58 : SlV) =>
  cond (((x58.n : Nat) : Int) == 0)
  (CallV Try.prog 18 #[] w57 [.one .bool] fun (r59 : Bool × Unit) w60 =>
  K (r59.1, ()) w60)
  (LoadS w57 ⟨b21, 7, none⟩ .sl fun (x61 : SlV) =>
  (0 ≤ (1 : Int) ∧ 1 < (2 : Int)) ∧
  LoadS w57 ⟨b5, 1, none⟩ .sl fun (x62 : SlV) =>
  CallV Try.prog 19 #[.slice x61.a x61.n x61.c, .slice x62.a x62.n x62.c] w57 [.one .bool] fun (r63 : Bool × Unit) w64 =>
  cond r63.1
  (CallV Try.prog 18 #[] w64 [.one .bool] fun (r65 : Bool × Unit) w66 =>
  K (r65.1, ()) w66)
  (K (false, ()) w64)))
  (K (false, ()) w57)))
  (K (false, ()) w43))
  (K (false, ()) w39)) fun (J33 : Unit → World → Prop) =>
  cond (r19.2.1 != 0)
  (K (false, ()) w32)
  (cond (r28.2.1 != 0)
  (K (false, ()) w32)
  (LoadS w32 ⟨b21, 8, none⟩ .bool fun (x67 : Bool) =>
  cond x67
  (K (false, ()) w32)
  (LoadS w32 ⟨b30, 8, none⟩ .bool fun (x68 : Bool) =>
  cond (!x68)
  (K (false, ()) w32)
  (LoadA w32 ⟨b21, 0, none⟩ [.int .i64, .int .i64, .int .i64, .int .u32, .int .u64, .int .u64] fun (x69 : Int × Int × Int × Int × Int × Int × Unit) =>
  LoadA w32 ⟨b3, 0, none⟩ [.int .i64, .int .i64, .int .i64, .int .u32, .int .u64, .int .u64] fun (x70 : Int × Int × Int × Int × Int × Int × Unit) =>
  AggEq Try.prog 27 #[.int .i64 x69.1, .int .i64 x69.2.1, .int .i64 x69.2.2.1, .int .u32 x69.2.2.2.1, .int .u64 x69.2.2.2.2.1, .int .u64 x69.2.2.2.2.2.1] #[.int .i64 x70.1, .int .i64 x70.2.1, .int .i64 x70.2.2.1, .int .u32 x70.2.2.2.1, .int .u64 x70.2.2.2.2.1, .int .u64 x70.2.2.2.2.2.1] fun e71 =>
  cond (!e71)
  (K (false, ()) w32)
  (LoadA w32 ⟨b30, 0, none⟩ [.int .i64, .int .i64, .int .i64, .int .u32, .int .u64, .int .u64] fun (x72 : Int × Int × Int × Int × Int × Int × Unit) =>
  LoadA w32 ⟨b3, 0, none⟩ [.int .i64, .int .i64, .int .i64, .int .u32, .int .u64, .int .u64] fun (x73 : Int × Int × Int × Int × Int × Int × Unit) =>
  AggEq Try.prog 27 #[.int .i64 x72.1, .int .i64 x72.2.1, .int .i64 x72.2.2.1, .int .u32 x72.2.2.2.1, .int .u64 x72.2.2.2.2.1, .int .u64 x72.2.2.2.2.2.1] #[.int .i64 x73.1, .int .i64 x73.2.1, .int .i64 x73.2.2.1, .int .u32 x73.2.2.2.1, .int .u64 x73.2.2.2.2.1, .int .u64 x73.2.2.2.2.2.1] fun e74 =>
  cond (!e74)
  (K (false, ()) w32)
  (CallV Try.prog 25 #[.slice r11.1.a r11.1.n r11.1.c] w32 [.one .bool] fun (r75 : Bool × Unit) w76 =>
  cond r75.1
  (K (false, ()) w76)
  (J33 (()) w76)))))))

end Go.Proofs.Ytfpkaebmiojicaa.Vc

/-! The law PageBack of layer 15: each call gives true, and what it read stays. -/
namespace Go.Proofs.Ytfpkaebmiojicaa.Vc
open Go Go.Eng Go.RowKit
set_option linter.unusedVariables false
set_option linter.unusedSimpArgs false

abbrev pgC (h : Hd) (s t : SlV) (d : Bool) : List Value := [.int .i64 h.k, .int .i64 h.n, .int .i64 h.c, .int .u32 h.l, .int .u64 h.e, .int .u64 h.t, .slice s.a s.n s.c, .slice t.a t.n t.c, .bool d]

theorem back_tail {w w32 : World} {h : Hd} {s t s' t' E : SlV} {b21 b30 b5 b3 : Nat} {a a2 : Option Addr} {n c m c2 : Nat} {xs ts P T bs : List Int} {e1 e2 e3 e4 : TypeId}
    (S : Sep NoB w w32 [BoxA b30 e1 (pgC h s' t' true), BoxA b21 e2 (pgC h s t false), BoxA b5 e3 [.slice a n c, .slice a2 m c2], BoxA b3 e4 h.vs])
    (is : Ints w32 .u8 s.a s.n s.c P) (it : Ints w32 .u8 t.a t.n t.c T) (is' : Ints w32 .u8 s'.a s'.n s'.c P) (it' : Ints w32 .u8 t'.a t'.n t'.c T) (hx : Ints w .u8 a n c xs) (ht : Ints w .u8 a2 m c2 ts)
    (hP : n ≠ 0 → P = xs) (hT : m ≠ 0 → T = ts) (hb : Ints w32 .u8 E.a E.n E.c bs) (bb : Byt bs) (hnb : bs ≠ List.replicate bs.length 255) :
    law15_PageBack.T b21 b30 b5 (fun r w' => r.1 = true ∧ Ext w w') (pgT h s t false, (0 : Int), ()) w32 (pgT h s' t' true, (0 : Int), ()) b3 (E, (0 : Int), ()) := by
  unfold law15_PageBack.T
  refine ⟨fun _ w' => w' = w32, ?_, ?_⟩
  · rintro ⟨⟩ w35 rfl
    (repeat ((first | refine S.newB fun _ _ S f _ => ?_ | refine S.la0 rfl ?_ | refine S.la1 rfl ?_ | refine S.la2 rfl ?_ | refine S.la3 rfl ?_ | refine S.la4 rfl ?_ | refine S.la5 rfl ?_ | refine S.ld0 rfl rfl ?_ | refine S.ld1 rfl rfl ?_ | refine S.ld2 rfl rfl ?_ | refine S.ld3 rfl rfl ?_ | refine S.ld4 rfl rfl ?_ | refine S.ld5 rfl rfl ?_ | refine S.st0 (by rfl) fun _ S f => ?_ | refine S.st1 (by rfl) fun _ S f => ?_ | refine S.st2 (by rfl) fun _ S f => ?_ | refine S.st3 (by rfl) fun _ S f => ?_ | refine S.st4 (by rfl) fun _ S f => ?_ | refine S.st5 (by rfl) fun _ S f => ?_ | refine S.su0 (by rfl) fun _ S f => ?_ | refine S.su1 (by rfl) fun _ S f => ?_ | refine S.su2 (by rfl) fun _ S f => ?_ | refine S.su3 (by rfl) fun _ S f => ?_ | refine S.su4 (by rfl) fun _ S f => ?_ | refine S.su5 (by rfl) fun _ S f => ?_ | refine ⟨by decide, ?_⟩); try dsimp only [List.set_cons_zero, List.set_cons_succ, cond_true, cond_false, Bool.not_true, Bool.not_false]))
    refine (SameBytes_c is is').mono ?_
    rintro ⟨(r1 : Bool), ⟨⟩⟩ w1 ⟨h1, x1⟩
    dsimp only at h1 ⊢
    have S := S.stepE x1
    refine cond_t (by rw [h1]; simp) ?_
    (repeat ((first | refine S.newB fun _ _ S f _ => ?_ | refine S.la0 rfl ?_ | refine S.la1 rfl ?_ | refine S.la2 rfl ?_ | refine S.la3 rfl ?_ | refine S.la4 rfl ?_ | refine S.la5 rfl ?_ | refine S.ld0 rfl rfl ?_ | refine S.ld1 rfl rfl ?_ | refine S.ld2 rfl rfl ?_ | refine S.ld3 rfl rfl ?_ | refine S.ld4 rfl rfl ?_ | refine S.ld5 rfl rfl ?_ | refine S.st0 (by rfl) fun _ S f => ?_ | refine S.st1 (by rfl) fun _ S f => ?_ | refine S.st2 (by rfl) fun _ S f => ?_ | refine S.st3 (by rfl) fun _ S f => ?_ | refine S.st4 (by rfl) fun _ S f => ?_ | refine S.st5 (by rfl) fun _ S f => ?_ | refine S.su0 (by rfl) fun _ S f => ?_ | refine S.su1 (by rfl) fun _ S f => ?_ | refine S.su2 (by rfl) fun _ S f => ?_ | refine S.su3 (by rfl) fun _ S f => ?_ | refine S.su4 (by rfl) fun _ S f => ?_ | refine S.su5 (by rfl) fun _ S f => ?_ | refine ⟨by decide, ?_⟩); try dsimp only [List.set_cons_zero, List.set_cons_succ, cond_true, cond_false, Bool.not_true, Bool.not_false]))
    refine (SameBytes_c (it.ext x1) (it'.ext x1)).mono ?_
    rintro ⟨(r2 : Bool), ⟨⟩⟩ w2 ⟨h2, x2⟩
    dsimp only at h2 ⊢
    have S := S.stepE x2
    refine cond_t (by rw [h2]; simp) ?_
    have X2 := x1.trans x2
    (repeat ((first | refine S.newB fun _ _ S f _ => ?_ | refine S.la0 rfl ?_ | refine S.la1 rfl ?_ | refine S.la2 rfl ?_ | refine S.la3 rfl ?_ | refine S.la4 rfl ?_ | refine S.la5 rfl ?_ | refine S.ld0 rfl rfl ?_ | refine S.ld1 rfl rfl ?_ | refine S.ld2 rfl rfl ?_ | refine S.ld3 rfl rfl ?_ | refine S.ld4 rfl rfl ?_ | refine S.ld5 rfl rfl ?_ | refine S.st0 (by rfl) fun _ S f => ?_ | refine S.st1 (by rfl) fun _ S f => ?_ | refine S.st2 (by rfl) fun _ S f => ?_ | refine S.st3 (by rfl) fun _ S f => ?_ | refine S.st4 (by rfl) fun _ S f => ?_ | refine S.st5 (by rfl) fun _ S f => ?_ | refine S.su0 (by rfl) fun _ S f => ?_ | refine S.su1 (by rfl) fun _ S f => ?_ | refine S.su2 (by rfl) fun _ S f => ?_ | refine S.su3 (by rfl) fun _ S f => ?_ | refine S.su4 (by rfl) fun _ S f => ?_ | refine S.su5 (by rfl) fun _ S f => ?_ | refine ⟨by decide, ?_⟩); try dsimp only [List.set_cons_zero, List.set_cons_succ, cond_true, cond_false, Bool.not_true, Bool.not_false]))
    refine cond_eq (fun h0 => ?_) (fun h0 => ?_)
    · (repeat ((first | refine S.newB fun _ _ S f _ => ?_ | refine S.la0 rfl ?_ | refine S.la1 rfl ?_ | refine S.la2 rfl ?_ | refine S.la3 rfl ?_ | refine S.la4 rfl ?_ | refine S.la5 rfl ?_ | refine S.ld0 rfl rfl ?_ | refine S.ld1 rfl rfl ?_ | refine S.ld2 rfl rfl ?_ | refine S.ld3 rfl rfl ?_ | refine S.ld4 rfl rfl ?_ | refine S.ld5 rfl rfl ?_ | refine S.st0 (by rfl) fun _ S f => ?_ | refine S.st1 (by rfl) fun _ S f => ?_ | refine S.st2 (by rfl) fun _ S f => ?_ | refine S.st3 (by rfl) fun _ S f => ?_ | refine S.st4 (by rfl) fun _ S f => ?_ | refine S.st5 (by rfl) fun _ S f => ?_ | refine S.su0 (by rfl) fun _ S f => ?_ | refine S.su1 (by rfl) fun _ S f => ?_ | refine S.su2 (by rfl) fun _ S f => ?_ | refine S.su3 (by rfl) fun _ S f => ?_ | refine S.su4 (by rfl) fun _ S f => ?_ | refine S.su5 (by rfl) fun _ S f => ?_ | refine ⟨by decide, ?_⟩); try dsimp only [List.set_cons_zero, List.set_cons_succ, cond_true, cond_false, Bool.not_true, Bool.not_false]))
      refine cond_eq (fun h0 => aw15 S.ext) (fun h0 => ?_)
      (repeat ((first | refine S.newB fun _ _ S f _ => ?_ | refine S.la0 rfl ?_ | refine S.la1 rfl ?_ | refine S.la2 rfl ?_ | refine S.la3 rfl ?_ | refine S.la4 rfl ?_ | refine S.la5 rfl ?_ | refine S.ld0 rfl rfl ?_ | refine S.ld1 rfl rfl ?_ | refine S.ld2 rfl rfl ?_ | refine S.ld3 rfl rfl ?_ | refine S.ld4 rfl rfl ?_ | refine S.ld5 rfl rfl ?_ | refine S.st0 (by rfl) fun _ S f => ?_ | refine S.st1 (by rfl) fun _ S f => ?_ | refine S.st2 (by rfl) fun _ S f => ?_ | refine S.st3 (by rfl) fun _ S f => ?_ | refine S.st4 (by rfl) fun _ S f => ?_ | refine S.st5 (by rfl) fun _ S f => ?_ | refine S.su0 (by rfl) fun _ S f => ?_ | refine S.su1 (by rfl) fun _ S f => ?_ | refine S.su2 (by rfl) fun _ S f => ?_ | refine S.su3 (by rfl) fun _ S f => ?_ | refine S.su4 (by rfl) fun _ S f => ?_ | refine S.su5 (by rfl) fun _ S f => ?_ | refine ⟨by decide, ?_⟩); try dsimp only [List.set_cons_zero, List.set_cons_succ, cond_true, cond_false, Bool.not_true, Bool.not_false]))
      refine (SameBytes_c (it.ext X2) (ht.ext S.ext)).mono ?_
      rintro ⟨(r3 : Bool), ⟨⟩⟩ w3 ⟨h3, x3⟩
      dsimp only at h3 ⊢
      exact cond_t (by rw [h3]; exact decide_eq_true (hT (by omega))) (aw15 (S.ext.trans x3))
    · (repeat ((first | refine S.newB fun _ _ S f _ => ?_ | refine S.la0 rfl ?_ | refine S.la1 rfl ?_ | refine S.la2 rfl ?_ | refine S.la3 rfl ?_ | refine S.la4 rfl ?_ | refine S.la5 rfl ?_ | refine S.ld0 rfl rfl ?_ | refine S.ld1 rfl rfl ?_ | refine S.ld2 rfl rfl ?_ | refine S.ld3 rfl rfl ?_ | refine S.ld4 rfl rfl ?_ | refine S.ld5 rfl rfl ?_ | refine S.st0 (by rfl) fun _ S f => ?_ | refine S.st1 (by rfl) fun _ S f => ?_ | refine S.st2 (by rfl) fun _ S f => ?_ | refine S.st3 (by rfl) fun _ S f => ?_ | refine S.st4 (by rfl) fun _ S f => ?_ | refine S.st5 (by rfl) fun _ S f => ?_ | refine S.su0 (by rfl) fun _ S f => ?_ | refine S.su1 (by rfl) fun _ S f => ?_ | refine S.su2 (by rfl) fun _ S f => ?_ | refine S.su3 (by rfl) fun _ S f => ?_ | refine S.su4 (by rfl) fun _ S f => ?_ | refine S.su5 (by rfl) fun _ S f => ?_ | refine ⟨by decide, ?_⟩); try dsimp only [List.set_cons_zero, List.set_cons_succ, cond_true, cond_false, Bool.not_true, Bool.not_false]))
      refine (SameBytes_c (is.ext X2) (hx.ext S.ext)).mono ?_
      rintro ⟨(r3 : Bool), ⟨⟩⟩ w3 ⟨h3, x3⟩
      dsimp only at h3 ⊢
      have S := S.stepE x3
      refine cond_t (by rw [h3]; exact decide_eq_true (hP (by omega))) ?_
      (repeat ((first | refine S.newB fun _ _ S f _ => ?_ | refine S.la0 rfl ?_ | refine S.la1 rfl ?_ | refine S.la2 rfl ?_ | refine S.la3 rfl ?_ | refine S.la4 rfl ?_ | refine S.la5 rfl ?_ | refine S.ld0 rfl rfl ?_ | refine S.ld1 rfl rfl ?_ | refine S.ld2 rfl rfl ?_ | refine S.ld3 rfl rfl ?_ | refine S.ld4 rfl rfl ?_ | refine S.ld5 rfl rfl ?_ | refine S.st0 (by rfl) fun _ S f => ?_ | refine S.st1 (by rfl) fun _ S f => ?_ | refine S.st2 (by rfl) fun _ S f => ?_ | refine S.st3 (by rfl) fun _ S f => ?_ | refine S.st4 (by rfl) fun _ S f => ?_ | refine S.st5 (by rfl) fun _ S f => ?_ | refine S.su0 (by rfl) fun _ S f => ?_ | refine S.su1 (by rfl) fun _ S f => ?_ | refine S.su2 (by rfl) fun _ S f => ?_ | refine S.su3 (by rfl) fun _ S f => ?_ | refine S.su4 (by rfl) fun _ S f => ?_ | refine S.su5 (by rfl) fun _ S f => ?_ | refine ⟨by decide, ?_⟩); try dsimp only [List.set_cons_zero, List.set_cons_succ, cond_true, cond_false, Bool.not_true, Bool.not_false]))
      refine cond_eq (fun h0 => aw15 S.ext) (fun h0 => ?_)
      (repeat ((first | refine S.newB fun _ _ S f _ => ?_ | refine S.la0 rfl ?_ | refine S.la1 rfl ?_ | refine S.la2 rfl ?_ | refine S.la3 rfl ?_ | refine S.la4 rfl ?_ | refine S.la5 rfl ?_ | refine S.ld0 rfl rfl ?_ | refine S.ld1 rfl rfl ?_ | refine S.ld2 rfl rfl ?_ | refine S.ld3 rfl rfl ?_ | refine S.ld4 rfl rfl ?_ | refine S.ld5 rfl rfl ?_ | refine S.st0 (by rfl) fun _ S f => ?_ | refine S.st1 (by rfl) fun _ S f => ?_ | refine S.st2 (by rfl) fun _ S f => ?_ | refine S.st3 (by rfl) fun _ S f => ?_ | refine S.st4 (by rfl) fun _ S f => ?_ | refine S.st5 (by rfl) fun _ S f => ?_ | refine S.su0 (by rfl) fun _ S f => ?_ | refine S.su1 (by rfl) fun _ S f => ?_ | refine S.su2 (by rfl) fun _ S f => ?_ | refine S.su3 (by rfl) fun _ S f => ?_ | refine S.su4 (by rfl) fun _ S f => ?_ | refine S.su5 (by rfl) fun _ S f => ?_ | refine ⟨by decide, ?_⟩); try dsimp only [List.set_cons_zero, List.set_cons_succ, cond_true, cond_false, Bool.not_true, Bool.not_false]))
      refine (SameBytes_c (it.ext (X2.trans x3)) (ht.ext S.ext)).mono ?_
      rintro ⟨(r4 : Bool), ⟨⟩⟩ w4 ⟨h4, x4⟩
      dsimp only at h4 ⊢
      exact cond_t (by rw [h4]; exact decide_eq_true (hT (by omega))) (aw15 (S.ext.trans x4))
  · refine cond_f rfl (cond_f rfl ?_)
    (repeat ((first | refine S.newB fun _ _ S f _ => ?_ | refine S.la0 rfl ?_ | refine S.la1 rfl ?_ | refine S.la2 rfl ?_ | refine S.la3 rfl ?_ | refine S.la4 rfl ?_ | refine S.la5 rfl ?_ | refine S.ld0 rfl rfl ?_ | refine S.ld1 rfl rfl ?_ | refine S.ld2 rfl rfl ?_ | refine S.ld3 rfl rfl ?_ | refine S.ld4 rfl rfl ?_ | refine S.ld5 rfl rfl ?_ | refine S.st0 (by rfl) fun _ S f => ?_ | refine S.st1 (by rfl) fun _ S f => ?_ | refine S.st2 (by rfl) fun _ S f => ?_ | refine S.st3 (by rfl) fun _ S f => ?_ | refine S.st4 (by rfl) fun _ S f => ?_ | refine S.st5 (by rfl) fun _ S f => ?_ | refine S.su0 (by rfl) fun _ S f => ?_ | refine S.su1 (by rfl) fun _ S f => ?_ | refine S.su2 (by rfl) fun _ S f => ?_ | refine S.su3 (by rfl) fun _ S f => ?_ | refine S.su4 (by rfl) fun _ S f => ?_ | refine S.su5 (by rfl) fun _ S f => ?_ | refine ⟨by decide, ?_⟩); try dsimp only [List.set_cons_zero, List.set_cons_succ, cond_true, cond_false, Bool.not_true, Bool.not_false]))
    refine S.lb1 (o := 0) rfl (S.la3 rfl ?_)
    refine eqHd (g := h) (h := h) ?_
    refine cond_f (by simp) ?_
    refine S.lb0 (o := 0) rfl (S.la3 rfl ?_)
    refine eqHd (g := h) (h := h) ?_
    refine cond_f (by simp) ?_
    refine (Blank_c hb bb).mono ?_
    rintro ⟨(r4 : Bool), ⟨⟩⟩ w4 ⟨h4, rfl⟩
    dsimp only at h4 ⊢
    exact cond_f (by rw [h4]; exact decide_eq_false hnb) rfl

theorem payL_length {g : Geo} {xs : List Int} (hs : 32 ≤ g.s ∧ g.s ≤ 4096) (h : xs.length = 0 ∨ (xs.length : Int) = g.s) : (payL g xs).length = g.s.toNat := by
  unfold payL
  split
  · rw [List.length_replicate]
  · omega
theorem end_mk {g : Geo} {h : Hd} {xs ts : List Int} (hs : 32 ≤ g.s ∧ g.s ≤ 4096) (hx : xs.length = 0 ∨ (xs.length : Int) = g.s) : endP g (mkL g h xs ts) = endL h ts := by
  unfold endP mkL
  rw [List.drop_append_of_le_length (by rw [payL_length hs hx]; omega), List.drop_eq_nil_of_le (by rw [payL_length hs hx]; omega), List.nil_append]
theorem pays_mk {g : Geo} {h : Hd} {xs ts : List Int} (hs : 32 ≤ g.s ∧ g.s ≤ 4096) (hx : xs.length = 0 ∨ (xs.length : Int) = g.s) : pays g (mkL g h xs ts) = payL g xs := by
  unfold pays mkL
  rw [List.take_append_of_le_length (by rw [payL_length hs hx]; omega), List.take_of_length_le (by rw [payL_length hs hx]; omega)]
theorem and_full {x : Int} (h : 0 ≤ x ∧ x < 256) : Go.bits .and .u8 x 255 = x := by
  obtain ⟨y, rfl⟩ := byte_nat h
  exact and255 y
theorem andL_append {xs ys zs us : List Int} (h : xs.length = zs.length) : andL (xs ++ ys) (zs ++ us) = andL xs zs ++ andL ys us := by
  refine List.ext_getElem (by simp [andL]) fun i h1 h2 => ?_
  simp only [andL, List.getElem_map, List.getElem_range, List.getElem_append, List.length_map, List.length_range]
  split
  · rename_i hi
    rw [getD_left hi, getD_left (by omega)]
  · rename_i hi
    rw [getD_right (by omega), getD_right (by omega), h]
theorem andL_ones {xs : List Int} (bx : Byt xs) {n : Nat} (h : xs.length = n) : andL xs (List.replicate n 255) = xs := by
  refine List.ext_getElem (by simp [andL]) fun i h1 h2 => ?_
  simp only [andL, List.getElem_map, List.getElem_range]
  rw [getD_get (xs := List.replicate n 255) (by simp; omega), List.getElem_replicate, and_full (bx.getD i), getD_get h2]
theorem and_mk {g : Geo} {h : Hd} {xs ts : List Int} (hs : 32 ≤ g.s ∧ g.s ≤ 4096) (hx : xs.length = 0 ∨ (xs.length : Int) = g.s) (hR : HRight h) (bx : Byt xs) (bt : Byt ts) (ht : ts.length = 0 ∨ ts.length = 32) : andL (mkL g h xs ts) (comL g) = payL g xs ++ markL h ts := by
  unfold mkL comL
  rw [show (g.s + 80).toNat = g.s.toNat + 80 by omega, ← List.replicate_append_replicate, List.append_assoc, andL_append (by rw [payL_length hs hx, List.length_replicate]), and_mark hR bt ht, andL_ones _ (payL_length hs hx)]
  unfold payL
  split
  · exact Byt.replicate (by omega) (by omega) _
  · exact bx
theorem end_mark {g : Geo} {h : Hd} {xs ts : List Int} (hs : 32 ≤ g.s ∧ g.s ≤ 4096) (hx : xs.length = 0 ∨ (xs.length : Int) = g.s) : endP g (payL g xs ++ markL h ts) = markL h ts := by
  unfold endP
  rw [List.drop_append_of_le_length (by rw [payL_length hs hx]; omega), List.drop_eq_nil_of_le (by rw [payL_length hs hx]; omega), List.nil_append]
theorem pays_mark {g : Geo} {h : Hd} {xs ts : List Int} (hs : 32 ≤ g.s ∧ g.s ≤ 4096) (hx : xs.length = 0 ∨ (xs.length : Int) = g.s) : pays g (payL g xs ++ markL h ts) = payL g xs := by
  unfold pays
  rw [List.take_append_of_le_length (by rw [payL_length hs hx]; omega), List.take_of_length_le (by rw [payL_length hs hx]; omega)]
theorem tags_end {h : Hd} {ts : List Int} (ht : ts.length = 0 ∨ ts.length = 32) : part (endL h ts) 48 80 = tagL ts := by
  have l1 : (hdL h ++ invL (hdL h)).length = 48 := by rw [List.length_append, invL_length, hdL_length]
  unfold part endL
  rw [List.append_assoc, List.drop_append_of_le_length (by omega), List.drop_eq_nil_of_le (by omega), List.nil_append, List.take_append_of_le_length (by rw [tagL_length ht]; omega), List.take_of_length_le (by rw [tagL_length ht]; omega)]

theorem PageBack_law {w : World} {g : Geo} {h : Hd} {a a2 : Option Addr} {n c m c2 : Nat} {xs ts : List Int} (hg : h.rng) (hx : Ints w .u8 a n c xs) (ht : Ints w .u8 a2 m c2 ts) (bx : Byt xs) (bt : Byt ts) :
    CallV Try.prog 6 #[g.val, h.val, .agg #[.slice a n c, .slice a2 m c2]] w [.one .bool] fun r w' => r.1 = true ∧ Ext w w' := by
  apply law15_PageBack.vc
  unfold law15_PageBack.P
  have lx := hx.len
  have lt := ht.len
  have S := Sep.start NoB w
  refine S.newB fun b1 _ S _ _ => ?_
  refine S.newB fun b3 _ S _ _ => ?_
  refine S.newB fun b5 _ S _ _ => ?_
  (repeat ((first | refine S.newB fun _ _ S f _ => ?_ | refine S.la0 rfl ?_ | refine S.la1 rfl ?_ | refine S.la2 rfl ?_ | refine S.la3 rfl ?_ | refine S.la4 rfl ?_ | refine S.la5 rfl ?_ | refine S.ld0 rfl rfl ?_ | refine S.ld1 rfl rfl ?_ | refine S.ld2 rfl rfl ?_ | refine S.ld3 rfl rfl ?_ | refine S.ld4 rfl rfl ?_ | refine S.ld5 rfl rfl ?_ | refine S.st0 (by rfl) fun _ S f => ?_ | refine S.st1 (by rfl) fun _ S f => ?_ | refine S.st2 (by rfl) fun _ S f => ?_ | refine S.st3 (by rfl) fun _ S f => ?_ | refine S.st4 (by rfl) fun _ S f => ?_ | refine S.st5 (by rfl) fun _ S f => ?_ | refine S.su0 (by rfl) fun _ S f => ?_ | refine S.su1 (by rfl) fun _ S f => ?_ | refine S.su2 (by rfl) fun _ S f => ?_ | refine S.su3 (by rfl) fun _ S f => ?_ | refine S.su4 (by rfl) fun _ S f => ?_ | refine S.su5 (by rfl) fun _ S f => ?_ | refine ⟨by decide, ?_⟩); try dsimp only [List.set_cons_zero, List.set_cons_succ, cond_true, cond_false, Bool.not_true, Bool.not_false]))
  refine (Make_c (g := g) hg (hx.ext S.ext) (ht.ext S.ext)).mono ?_
  rintro ⟨⟨sa, sn, sc⟩, (e2 : Int), ⟨⟩⟩ w2 ⟨x2, h2, h2'⟩
  dsimp only at h2 h2' ⊢
  have S := S.stepE x2
  by_cases hP : PRight g h n m
  case neg =>
    obtain ⟨-, k2⟩ := h2' hP
    subst k2
    exact cond_t rfl (aw15 S.ext)
  obtain ⟨k1, k2⟩ := h2 hP
  subst k2
  refine cond_f rfl ?_
  obtain ⟨hR, hE, hn⟩ := hP
  have hs := hR.sec
  have hm : ts.length = 0 ∨ ts.length = 32 := by have := hE.2; omega
  have hn' : xs.length = 0 ∨ (xs.length : Int) = g.s := by omega
  (repeat ((first | refine S.newB fun _ _ S f _ => ?_ | refine S.la0 rfl ?_ | refine S.la1 rfl ?_ | refine S.la2 rfl ?_ | refine S.la3 rfl ?_ | refine S.la4 rfl ?_ | refine S.la5 rfl ?_ | refine S.ld0 rfl rfl ?_ | refine S.ld1 rfl rfl ?_ | refine S.ld2 rfl rfl ?_ | refine S.ld3 rfl rfl ?_ | refine S.ld4 rfl rfl ?_ | refine S.ld5 rfl rfl ?_ | refine S.st0 (by rfl) fun _ S f => ?_ | refine S.st1 (by rfl) fun _ S f => ?_ | refine S.st2 (by rfl) fun _ S f => ?_ | refine S.st3 (by rfl) fun _ S f => ?_ | refine S.st4 (by rfl) fun _ S f => ?_ | refine S.st5 (by rfl) fun _ S f => ?_ | refine S.su0 (by rfl) fun _ S f => ?_ | refine S.su1 (by rfl) fun _ S f => ?_ | refine S.su2 (by rfl) fun _ S f => ?_ | refine S.su3 (by rfl) fun _ S f => ?_ | refine S.su4 (by rfl) fun _ S f => ?_ | refine S.su5 (by rfl) fun _ S f => ?_ | refine ⟨by decide, ?_⟩); try dsimp only [List.set_cons_zero, List.set_cons_succ, cond_true, cond_false, Bool.not_true, Bool.not_false]))
  refine (PCommit_c (g := g)).mono ?_
  rintro ⟨⟨ta, tn, tc⟩, (e3 : Int), ⟨⟩⟩ w3 ⟨x3, h3, -⟩
  obtain ⟨m1, -⟩ := h3 hR
  dsimp only at m1 ⊢
  have S := S.stepE x3
  have b1 := (k1.ints.ext x3)
  have b2 := m1.ints
  have lb : (mkL g h xs ts).length = g.s.toNat + 88 := by unfold mkL; rw [List.length_append, payL_length hs hn', endL_length h hm]
  have lc : (comL g).length = g.s.toNat + 88 := by unfold comL; rw [List.length_append, List.length_replicate, List.length_replicate]; omega
  have l1 := b1.len
  have l2 := b2.len
  dsimp only at l1 l2 b1 b2
  rw [lb] at l1; rw [lc] at l2
  have bm : Byt (mkL g h xs ts) := mkL_byt hg hE.1 bx bt
  refine cond_ne (fun hh => absurd (by omega) hh) fun _ => ?_
  have hL : lenP g (mkL g h xs ts) := ⟨hR, by rw [lb]; omega⟩
  have q1 := end_mk (h := h) (ts := ts) hs hn'
  have q2 := pays_mk (h := h) (ts := ts) hs hn'
  have hO : okR (endP g (mkL g h xs ts)) := by rw [q1]; exact endL_ok h hm hg hE.1
  (repeat ((first | refine S.newB fun _ _ S f _ => ?_ | refine S.la0 rfl ?_ | refine S.la1 rfl ?_ | refine S.la2 rfl ?_ | refine S.la3 rfl ?_ | refine S.la4 rfl ?_ | refine S.la5 rfl ?_ | refine S.ld0 rfl rfl ?_ | refine S.ld1 rfl rfl ?_ | refine S.ld2 rfl rfl ?_ | refine S.ld3 rfl rfl ?_ | refine S.ld4 rfl rfl ?_ | refine S.ld5 rfl rfl ?_ | refine S.st0 (by rfl) fun _ S f => ?_ | refine S.st1 (by rfl) fun _ S f => ?_ | refine S.st2 (by rfl) fun _ S f => ?_ | refine S.st3 (by rfl) fun _ S f => ?_ | refine S.st4 (by rfl) fun _ S f => ?_ | refine S.st5 (by rfl) fun _ S f => ?_ | refine S.su0 (by rfl) fun _ S f => ?_ | refine S.su1 (by rfl) fun _ S f => ?_ | refine S.su2 (by rfl) fun _ S f => ?_ | refine S.su3 (by rfl) fun _ S f => ?_ | refine S.su4 (by rfl) fun _ S f => ?_ | refine S.su5 (by rfl) fun _ S f => ?_ | refine ⟨by decide, ?_⟩); try dsimp only [List.set_cons_zero, List.set_cons_succ, cond_true, cond_false, Bool.not_true, Bool.not_false]))
  refine (PReadU_c (g := g) b1 bm).mono ?_
  rintro ⟨⟨(k1 : Int), (k2 : Int), (k3 : Int), (k4 : Int), (k5 : Int), (k6 : Int), ⟨ua, un, uc⟩, ⟨va, vn, vc⟩, (d : Bool), ⟨⟩⟩, (e4 : Int), ⟨⟩⟩ w4 ⟨x4, h4, s, t, q, is, it⟩
  have hps : pSpec g (mkL g h xs ts) = ⟨h, false, payL g xs, tagL ts⟩ := by
    unfold pSpec fS tags
    rw [if_pos ⟨hL, hO⟩, q1, q2, endL_hd h hg, endL_comm hm, tags_end hm]
  have he : rdE g (mkL g h xs ts) = 0 := by unfold rdE; rw [if_pos hL, if_pos hO]
  rw [he] at h4
  rw [hps] at q is it
  dsimp only at h4 q ⊢
  cases q
  subst h4
  dsimp only at is it
  have S := S.stepE x4
  refine S.newB fun b21 w5 S f5 _ => ?_
  refine S.st0 (by rfl) fun w6 S f6 => ?_
  have X6 : Ext w4 w6 := Fr.ext (f5.trans' f6 fun k hk => .inr (by omega))
  have X36 : Ext w3 w6 := x4.trans X6
  have hnb : mkL g h xs ts ≠ List.replicate (mkL g h xs ts).length 255 := fun hh => by
    have : endP g (mkL g h xs ts) = endP g (List.replicate (mkL g h xs ts).length 255) := by rw [← hh]
    rw [endP_rep, lb] at this
    rw [this] at hO
    exact blank_ok (by omega) hO
  have hA : andL (mkL g h xs ts) (comL g) = payL g xs ++ markL h ts := and_mk hs hn' hE.1 bx bt hm
  have bA : Byt (payL g xs ++ markL h ts) := by rw [← hA]; exact andL_byt _ _
  have q3 := end_mark (h := h) (ts := ts) hs hn'
  have q4 := pays_mark (h := h) (ts := ts) hs hn'
  have hLA : lenP g (payL g xs ++ markL h ts) := ⟨hR, by rw [List.length_append, payL_length hs hn', markL_length h hm]; omega⟩
  have hOA : okR (endP g (payL g xs ++ markL h ts)) := by rw [q3]; exact markL_ok h hE.1
  have hpA : pSpec g (payL g xs ++ markL h ts) = ⟨h, true, payL g xs, tagL ts⟩ := by
    unfold pSpec fS tags
    rw [if_pos ⟨hLA, hOA⟩, q3, q4, markL_hd h hg, markL_comm h hm, part_core h hm, tags_end hm]
  have heA : rdE g (payL g xs ++ markL h ts) = 0 := by unfold rdE; rw [if_pos hLA, if_pos hOA]
  have hPP : n ≠ 0 → payL g xs = xs := fun h => by unfold payL; rw [if_neg (by omega)]
  have hTT : m ≠ 0 → tagL ts = ts := fun h => by unfold tagL; rw [if_neg (by omega)]
  refine S.reg fun D hD hkeep Sd T => ?_
  have Y : Ext w3 w6.drew := X36.trans (Ext.drew _)
  have YI : Ext w4 w6.drew := X6.trans (Ext.drew _)
  refine ⟨hD _ S.bl3, Sd.la3 rfl ?_⟩
  dsimp only
  have fin : ∀ {w' : World} {Rs : List Asr} {b30 : Nat} {s' t' : SlV} {e : TypeId}, Sep NoB w6.drew w' (BoxA b30 e (pgC h s' t' true) :: Rs) → Ints w' .u8 s'.a s'.n s'.c (payL g xs) → Ints w' .u8 t'.a t'.n t'.c (tagL ts) →
      law15_PageBack.T b21 b30 b5 (fun r w' => r.1 = true ∧ Ext w w') (pgT h ⟨ua, un, uc⟩ ⟨va, vn, vc⟩ false, (0 : Int), ()) w' (pgT h s' t' true, (0 : Int), ()) b3 (⟨sa, sn, sc⟩, (0 : Int), ()) := fun T i5 i6 =>
    back_tail ((Sd.frame0 T.take1).sel [0, 0, 0, 0] rfl) (is.ext (YI.trans T.ext)) (it.ext (YI.trans T.ext)) i5 i6 hx ht hPP hTT (b1.ext (Y.trans T.ext)) bm hnb
  refine ⟨?_, ?_⟩
  · refine (And_c (b1.ext Y) (b2.ext Y) (by omega) (by omega)).mono ?_
    rintro ⟨⟨xa, xn, xc⟩, ⟨⟩⟩ w7 h7
    rw [hA] at h7
    dsimp only at h7 ⊢
    have T := T.res h7
    dsimp only at T
    refine ⟨hkeep _ T.fr, ?_, ?_⟩
    · refine (PReadU_c (g := g) T.in0 bA).mono ?_
      rintro ⟨⟨(k1 : Int), (k2 : Int), (k3 : Int), (k4 : Int), (k5 : Int), (k6 : Int), ⟨oa, on, oc⟩, ⟨pa, pn, pc⟩, (d : Bool), ⟨⟩⟩, (e8 : Int), ⟨⟩⟩ w8 ⟨x8, h8, s8, t8, q8, is8, it8⟩
      rw [heA] at h8
      rw [hpA] at q8 is8 it8
      dsimp only at h8 q8 ⊢
      cases q8
      subst h8
      have T := T.stepE x8
      refine ⟨hkeep _ T.fr, ?_⟩
      refine T.newB fun b30 w9 T f9 _ => ⟨hkeep _ T.fr, ?_⟩
      refine T.st0 (by rfl) fun w10 T f10 => ⟨hkeep _ T.fr, ?_⟩
      have X10 : Ext w8 w10 := Fr.ext (f9.trans' f10 fun k hk => .inr (by omega))
      exact fin T (is8.ext X10) (it8.ext X10)
    · refine T.newB fun b30 w9 T f9 _ => ⟨hkeep _ T.fr, ?_⟩
      refine (PRead_c (g := g) T.in1 bA).mono ?_
      rintro ⟨⟨(k1 : Int), (k2 : Int), (k3 : Int), (k4 : Int), (k5 : Int), (k6 : Int), ⟨oa, on, oc⟩, ⟨pa, pn, pc⟩, (d : Bool), ⟨⟩⟩, (e8 : Int), ⟨⟩⟩ w8 ⟨x8, -, -, hh8⟩
      obtain ⟨h8, s8, t8, q8, -, -, T8⟩ := hh8 hLA hOA
      clear hh8
      rw [q3, markL_hd h hg, markL_comm h hm] at q8
      rw [q4, show tags g (payL g xs ++ markL h ts) = tagL ts by unfold tags; rw [q3, part_core h hm, tags_end hm]] at T8
      dsimp only at h8 q8 ⊢
      cases q8
      subst h8
      have T := T.frame0 T8
      dsimp only [List.cons_append, List.nil_append] at T
      refine ⟨hkeep _ T.fr, ?_⟩
      refine T.st2 (by rfl) fun w10 T f10 => ⟨hkeep _ T.fr, ?_⟩
      exact fin (s' := ⟨oa, on, oc⟩) (t' := ⟨pa, pn, pc⟩) (T.sel [2] rfl) T.in0 T.in1
  · refine T.newB fun b30 w9 T f9 _ => ⟨hkeep _ T.fr, ?_⟩
    refine (And_c (b1.ext (Y.trans T.ext)) (b2.ext (Y.trans T.ext)) (by omega) (by omega)).mono ?_
    rintro ⟨⟨xa, xn, xc⟩, ⟨⟩⟩ w7 h7
    rw [hA] at h7
    dsimp only at h7 ⊢
    have T := T.res h7
    dsimp only at T
    refine ⟨hkeep _ T.fr, ?_⟩
    refine (PRead_c (g := g) T.in0 bA).mono ?_
    rintro ⟨⟨(k1 : Int), (k2 : Int), (k3 : Int), (k4 : Int), (k5 : Int), (k6 : Int), ⟨oa, on, oc⟩, ⟨pa, pn, pc⟩, (d : Bool), ⟨⟩⟩, (e8 : Int), ⟨⟩⟩ w8 ⟨x8, -, -, hh8⟩
    obtain ⟨h8, s8, t8, q8, -, -, T8⟩ := hh8 hLA hOA
    clear hh8
    rw [q3, markL_hd h hg, markL_comm h hm] at q8
    rw [q4, show tags g (payL g xs ++ markL h ts) = tagL ts by unfold tags; rw [q3, part_core h hm, tags_end hm]] at T8
    dsimp only at h8 q8 ⊢
    cases q8
    subst h8
    have T := T.frame0 T8
    dsimp only [List.cons_append, List.nil_append] at T
    refine ⟨hkeep _ T.fr, ?_⟩
    refine T.st3 (by rfl) fun w10 T f10 => ⟨hkeep _ T.fr, ?_⟩
    exact fin (s' := ⟨oa, on, oc⟩) (t' := ⟨pa, pn, pc⟩) (T.sel [3] rfl) T.in0 T.in1

theorem PageBack_of {w : World} {x : TGeo.T} {y : THd.T} {z : TTwo.T} (g0 : TGeo.ok w x) (g1 : THd.ok w y) (g2 : TTwo.ok w z) :
    CallV Try.prog 6 #[.agg (TGeo.vs x).toArray, .agg (THd.vs y).toArray, .agg (TTwo.vs z).toArray] w [.one .bool] fun r w' => r.1 = true ∧ Ext w w' := by
  rw [geoT_val, hdT_val]
  have r1 := Ty.rd_of _ g2.1
  have r2 := Ty.rd_of _ g2.2.1
  exact PageBack_law (hdT_rng g1) (Ty.ints r1) (Ty.ints r2) (Ty.byt r1) (Ty.byt r2)

end Go.Proofs.Ytfpkaebmiojicaa.Vc
