/- Texts in one: The plans of functions as plain statements, printed by wip/tools/vcgen.py; the kernel holds each to the code. The laws PageMakes and PageBlank of layer 15: each call gives true, and what it read stays. The law PageReads of layer 15: each call gives true, and what it read stays. The law HeadMarks of layer 14: each call gives true, and what it read stays. Parts of plans, cut out by wip/tools/vccut.py. The law PageBack of layer 15: each call gives true, and what it read stays. Plain laws of layer 19 (chunk): a record's pages, and what they hold. The plans of functions as plain statements, printed by wip/tools/vcgen.py; the kernel holds each to the code. The contract of Copy of layer 12 (fault): a plan in new memory. The contracts of layer 19 (chunk): a record's pages. The contract of Hold of layer 19 (chunk): the record that pages hold. -/
import Derived.Test.YtfpkaebmiojicaaZChunkBackc

/-! The plans of functions as plain statements, printed by wip/tools/vcgen.py; the kernel holds each to the code. -/
namespace Go.Proofs.Ytfpkaebmiojicaa.Vc
open Go Go.Eng
set_option linter.unusedVariables false

/-! ### nepenthe/nepenthelaw15.PageMakes: function 3 -/
def law15_PageMakes.A : Ann := .no
def law15_PageMakes.P (p0_0 : Int) (p0_1 : Int) (p0_2 : Int) (p0_3 : Int) (p0_4 : Int) (p0_5 : Int) (p1_0 : Int) (p1_1 : Int) (p1_2 : Int) (p1_3 : Int) (p1_4 : Int) (p1_5 : Int) (a2_0 : Option Addr) (n2_0 c2_0 : Nat) (a2_1 : Option Addr) (n2_1 c2_1 : Nat) (w : World) (K : Bool × Unit → World → Prop) : Prop :=
  NewV #[.int .i64 p0_0, .int .i64 p0_1, .int .i64 p0_2, .int .i64 p0_3, .int .i64 p0_4, .int .i64 p0_5] 23 w fun b1 w2 =>
  NewV #[.int .i64 p1_0, .int .i64 p1_1, .int .i64 p1_2, .int .u32 p1_3, .int .u64 p1_4, .int .u64 p1_5] 27 w2 fun b3 w4 =>
  NewV #[.slice a2_0 n2_0 c2_0, .slice a2_1 n2_1 c2_1] 29 w4 fun b5 w6 =>
  LoadA w6 ⟨b1, 0, none⟩ [.int .i64, .int .i64, .int .i64, .int .i64, .int .i64, .int .i64] fun (x7 : Int × Int × Int × Int × Int × Int × Unit) =>
  LoadA w6 ⟨b3, 0, none⟩ [.int .i64, .int .i64, .int .i64, .int .u32, .int .u64, .int .u64] fun (x8 : Int × Int × Int × Int × Int × Int × Unit) =>
  (0 ≤ (0 : Int) ∧ 0 < (2 : Int)) ∧
  LoadS w6 ⟨b5, 0, none⟩ .sl fun (x9 : SlV) =>
  (0 ≤ (1 : Int) ∧ 1 < (2 : Int)) ∧
  LoadS w6 ⟨b5, 1, none⟩ .sl fun (x10 : SlV) =>
  CallV Try.prog 15 #[.agg #[.int .i64 x7.1, .int .i64 x7.2.1, .int .i64 x7.2.2.1, .int .i64 x7.2.2.2.1, .int .i64 x7.2.2.2.2.1, .int .i64 x7.2.2.2.2.2.1], .agg #[.int .i64 x8.1, .int .i64 x8.2.1, .int .i64 x8.2.2.1, .int .u32 x8.2.2.2.1, .int .u64 x8.2.2.2.2.1, .int .u64 x8.2.2.2.2.2.1], .slice x9.a x9.n x9.c, .slice x10.a x10.n x10.c] w6 [.one .sl, .one (.int .i64)] fun (r11 : SlV × Int × Unit) w12 =>
  LoadA w12 ⟨b1, 0, none⟩ [.int .i64, .int .i64, .int .i64, .int .i64, .int .i64, .int .i64] fun (x13 : Int × Int × Int × Int × Int × Int × Unit) =>
  CallV Try.prog 16 #[.agg #[.int .i64 x13.1, .int .i64 x13.2.1, .int .i64 x13.2.2.1, .int .i64 x13.2.2.2.1, .int .i64 x13.2.2.2.2.1, .int .i64 x13.2.2.2.2.2.1]] w12 [.one .sl, .one (.int .i64)] fun (r14 : SlV × Int × Unit) w15 =>
  LoadA w15 ⟨b1, 0, none⟩ [.int .i64, .int .i64, .int .i64, .int .i64, .int .i64, .int .i64] fun (x16 : Int × Int × Int × Int × Int × Int × Unit) =>
  CallV Try.prog 17 #[.agg #[.int .i64 x16.1, .int .i64 x16.2.1, .int .i64 x16.2.2.1, .int .i64 x16.2.2.2.1, .int .i64 x16.2.2.2.2.1, .int .i64 x16.2.2.2.2.2.1]] w15 [.one .bool] fun (r17 : Bool × Unit) w18 =>
  cond (!r17.1)
  (cond (r11.2.1 == 2)
  (cond (r14.2.1 == 2)
  (Rng .i64 (((r11.1.n : Nat) : Int) + ((r14.1.n : Nat) : Int)) ∧
  cond ((((r11.1.n : Nat) : Int) + ((r14.1.n : Nat) : Int)) == 0)
  (CallV Try.prog 18 #[] w18 [.one .bool] fun (r19 : Bool × Unit) w20 =>
  K (r19.1, ()) w20)
  (K (false, ()) w18))
  (K (false, ()) w18))
  (K (false, ()) w18))
  (cond (r14.2.1 != 0)
  (K (false, ()) w18)
  (LoadA w18 ⟨b1, 0, none⟩ [.int .i64, .int .i64, .int .i64, .int .i64, .int .i64, .int .i64] fun (x21 : Int × Int × Int × Int × Int × Int × Unit) =>
  CallV Try.prog 20 #[.agg #[.int .i64 x21.1, .int .i64 x21.2.1, .int .i64 x21.2.2.1, .int .i64 x21.2.2.2.1, .int .i64 x21.2.2.2.2.1, .int .i64 x21.2.2.2.2.2.1]] w18 [.one .sl] fun (r22 : SlV × Unit) w23 =>
  CallV Try.prog 19 #[.slice r14.1.a r14.1.n r14.1.c, .slice r22.1.a r22.1.n r22.1.c] w23 [.one .bool] fun (r24 : Bool × Unit) w25 =>
  cond (!r24.1)
  (K (false, ()) w25)
  (LoadA w25 ⟨b1, 0, none⟩ [.int .i64, .int .i64, .int .i64, .int .i64, .int .i64, .int .i64] fun (x26 : Int × Int × Int × Int × Int × Int × Unit) =>
  LoadA w25 ⟨b3, 0, none⟩ [.int .i64, .int .i64, .int .i64, .int .u32, .int .u64, .int .u64] fun (x27 : Int × Int × Int × Int × Int × Int × Unit) =>
  (0 ≤ (0 : Int) ∧ 0 < (2 : Int)) ∧
  LoadS w25 ⟨b5, 0, none⟩ .sl fun (x28 : SlV) =>
  (0 ≤ (1 : Int) ∧ 1 < (2 : Int)) ∧
  LoadS w25 ⟨b5, 1, none⟩ .sl fun (x29 : SlV) =>
  CallV Try.prog 21 #[.agg #[.int .i64 x26.1, .int .i64 x26.2.1, .int .i64 x26.2.2.1, .int .i64 x26.2.2.2.1, .int .i64 x26.2.2.2.2.1, .int .i64 x26.2.2.2.2.2.1], .agg #[.int .i64 x27.1, .int .i64 x27.2.1, .int .i64 x27.2.2.1, .int .u32 x27.2.2.2.1, .int .u64 x27.2.2.2.2.1, .int .u64 x27.2.2.2.2.2.1], .slice x28.a x28.n x28.c, .slice x29.a x29.n x29.c] w25 [.one .bool] fun (r30 : Bool × Unit) w31 =>
  cond (!r30.1)
  (cond (r11.2.1 == 2)
  (cond (((r11.1.n : Nat) : Int) == 0)
  (CallV Try.prog 18 #[] w31 [.one .bool] fun (r32 : Bool × Unit) w33 =>
  K (r32.1, ()) w33)
  (K (false, ()) w31))
  (K (false, ()) w31))
  (cond (r11.2.1 == 0)
  (LoadA w31 ⟨b1, 0, none⟩ [.int .i64, .int .i64, .int .i64, .int .i64, .int .i64, .int .i64] fun (x34 : Int × Int × Int × Int × Int × Int × Unit) =>
  LoadA w31 ⟨b3, 0, none⟩ [.int .i64, .int .i64, .int .i64, .int .u32, .int .u64, .int .u64] fun (x35 : Int × Int × Int × Int × Int × Int × Unit) =>
  (0 ≤ (0 : Int) ∧ 0 < (2 : Int)) ∧
  LoadS w31 ⟨b5, 0, none⟩ .sl fun (x36 : SlV) =>
  (0 ≤ (1 : Int) ∧ 1 < (2 : Int)) ∧
  LoadS w31 ⟨b5, 1, none⟩ .sl fun (x37 : SlV) =>
  CallV Try.prog 22 #[.agg #[.int .i64 x34.1, .int .i64 x34.2.1, .int .i64 x34.2.2.1, .int .i64 x34.2.2.2.1, .int .i64 x34.2.2.2.2.1, .int .i64 x34.2.2.2.2.2.1], .agg #[.int .i64 x35.1, .int .i64 x35.2.1, .int .i64 x35.2.2.1, .int .u32 x35.2.2.2.1, .int .u64 x35.2.2.2.2.1, .int .u64 x35.2.2.2.2.2.1], .slice x36.a x36.n x36.c, .slice x37.a x37.n x37.c] w31 [.one .sl] fun (r38 : SlV × Unit) w39 =>
  CallV Try.prog 19 #[.slice r11.1.a r11.1.n r11.1.c, .slice r38.1.a r38.1.n r38.1.c] w39 [.one .bool] fun (r40 : Bool × Unit) w41 =>
  cond r40.1
  (CallV Try.prog 18 #[] w41 [.one .bool] fun (r42 : Bool × Unit) w43 =>
  K (r42.1, ()) w43)
  (K (false, ()) w41))
  (K (false, ()) w31)))))
theorem law15_PageMakes.vc (p0_0 : Int) (p0_1 : Int) (p0_2 : Int) (p0_3 : Int) (p0_4 : Int) (p0_5 : Int) (p1_0 : Int) (p1_1 : Int) (p1_2 : Int) (p1_3 : Int) (p1_4 : Int) (p1_5 : Int) (a2_0 : Option Addr) (n2_0 c2_0 : Nat) (a2_1 : Option Addr) (n2_1 c2_1 : Nat) (w : World) (K : Bool × Unit → World → Prop) (h : law15_PageMakes.P p0_0 p0_1 p0_2 p0_3 p0_4 p0_5 p1_0 p1_1 p1_2 p1_3 p1_4 p1_5 a2_0 n2_0 c2_0 a2_1 n2_1 c2_1 w K) : CallV Try.prog 3 #[.agg #[.int .i64 p0_0, .int .i64 p0_1, .int .i64 p0_2, .int .i64 p0_3, .int .i64 p0_4, .int .i64 p0_5], .agg #[.int .i64 p1_0, .int .i64 p1_1, .int .i64 p1_2, .int .u32 p1_3, .int .u64 p1_4, .int .u64 p1_5], .agg #[.slice a2_0 n2_0 c2_0, .slice a2_1 n2_1 c2_1]] w [.one .bool] K := by
  have e : vcFun Try.prog okf false Try.f3 law15_PageMakes.A #[.agg #[.int .i64 p0_0, .int .i64 p0_1, .int .i64 p0_2, .int .i64 p0_3, .int .i64 p0_4, .int .i64 p0_5], .agg #[.int .i64 p1_0, .int .i64 p1_1, .int .i64 p1_2, .int .u32 p1_3, .int .u64 p1_4, .int .u64 p1_5], .agg #[.slice a2_0 n2_0 c2_0, .slice a2_1 n2_1 c2_1]] w [.one .bool] K = law15_PageMakes.P p0_0 p0_1 p0_2 p0_3 p0_4 p0_5 p1_0 p1_1 p1_2 p1_3 p1_4 p1_5 a2_0 n2_0 c2_0 a2_1 n2_1 c2_1 w K := by kernel_rfl
  exact vcFun.calls okf_ok follows Try.func3 (e.symm ▸ h)

/-! ### nepenthe/nepenthelaw15.PageReads: function 4 -/
def law15_PageReads.A : Ann := .no
def law15_PageReads.P (p0_0 : Int) (p0_1 : Int) (p0_2 : Int) (p0_3 : Int) (p0_4 : Int) (p0_5 : Int) (a1 : Option Addr) (n1 c1 : Nat) (p2 : Int) (w : World) (K : Bool × Unit → World → Prop) : Prop :=
  NewV #[.int .i64 p0_0, .int .i64 p0_1, .int .i64 p0_2, .int .i64 p0_3, .int .i64 p0_4, .int .i64 p0_5] 23 w fun b1 w2 =>
  cond (decide (((n1 : Nat) : Int) > 5000))
  (CallV Try.prog 18 #[] w2 [.one .bool] fun (r3 : Bool × Unit) w4 =>
  K (r3.1, ()) w4)
  (LoadA w2 ⟨b1, 0, none⟩ [.int .i64, .int .i64, .int .i64, .int .i64, .int .i64, .int .i64] fun (x5 : Int × Int × Int × Int × Int × Int × Unit) =>
  CallV Try.prog 23 #[.agg #[.int .i64 x5.1, .int .i64 x5.2.1, .int .i64 x5.2.2.1, .int .i64 x5.2.2.2.1, .int .i64 x5.2.2.2.2.1, .int .i64 x5.2.2.2.2.2.1], .slice a1 n1 c1] w2 [.agg [.int .i64, .int .i64, .int .i64, .int .u32, .int .u64, .int .u64, .sl, .sl, .bool], .one (.int .i64)] fun (r6 : (Int × Int × Int × Int × Int × Int × SlV × SlV × Bool × Unit) × Int × Unit) w7 =>
  NewV #[.int .i64 0, .int .i64 0, .int .i64 0, .int .u32 0, .int .u64 0, .int .u64 0, .slice none 0 0, .slice none 0 0, .bool false] 42 w7 fun b8 w9 =>
  StoreV w9 ⟨b8, 0, none⟩ [.int .i64 r6.1.1, .int .i64 r6.1.2.1, .int .i64 r6.1.2.2.1, .int .u32 r6.1.2.2.2.1, .int .u64 r6.1.2.2.2.2.1, .int .u64 r6.1.2.2.2.2.2.1, .slice r6.1.2.2.2.2.2.2.1.a r6.1.2.2.2.2.2.2.1.n r6.1.2.2.2.2.2.2.1.c, .slice r6.1.2.2.2.2.2.2.2.1.a r6.1.2.2.2.2.2.2.2.1.n r6.1.2.2.2.2.2.2.2.1.c, .bool r6.1.2.2.2.2.2.2.2.2.1] fun w10 =>
  LoadA w10 ⟨b1, 0, none⟩ [.int .i64, .int .i64, .int .i64, .int .i64, .int .i64, .int .i64] fun (x11 : Int × Int × Int × Int × Int × Int × Unit) =>
  CallV Try.prog 24 #[.agg #[.int .i64 x11.1, .int .i64 x11.2.1, .int .i64 x11.2.2.1, .int .i64 x11.2.2.2.1, .int .i64 x11.2.2.2.2.1, .int .i64 x11.2.2.2.2.2.1], .slice a1 n1 c1, .int .i64 p2] w10 [.agg [.int .i64, .int .i64, .int .i64, .int .u32, .int .u64, .int .u64, .sl, .sl, .bool], .one .bool] fun (r12 : (Int × Int × Int × Int × Int × Int × SlV × SlV × Bool × Unit) × Bool × Unit) w13 =>
  NewV #[.int .i64 0, .int .i64 0, .int .i64 0, .int .u32 0, .int .u64 0, .int .u64 0, .slice none 0 0, .slice none 0 0, .bool false] 42 w13 fun b14 w15 =>
  StoreV w15 ⟨b14, 0, none⟩ [.int .i64 r12.1.1, .int .i64 r12.1.2.1, .int .i64 r12.1.2.2.1, .int .u32 r12.1.2.2.2.1, .int .u64 r12.1.2.2.2.2.1, .int .u64 r12.1.2.2.2.2.2.1, .slice r12.1.2.2.2.2.2.2.1.a r12.1.2.2.2.2.2.2.1.n r12.1.2.2.2.2.2.2.1.c, .slice r12.1.2.2.2.2.2.2.2.1.a r12.1.2.2.2.2.2.2.2.1.n r12.1.2.2.2.2.2.2.2.1.c, .bool r12.1.2.2.2.2.2.2.2.2.1] fun w16 =>
  CallV Try.prog 25 #[.slice a1 n1 c1] w16 [.one .bool] fun (r17 : Bool × Unit) w18 =>
  CallV Try.prog 26 #[.int .u8 255, .int .i64 ((n1 : Nat) : Int)] w18 [.one .sl] fun (r19 : SlV × Unit) w20 =>
  CallV Try.prog 19 #[.slice a1 n1 c1, .slice r19.1.a r19.1.n r19.1.c] w20 [.one .bool] fun (r21 : Bool × Unit) w22 =>
  cond (!(r17.1 == r21.1))
  (K (false, ()) w22)
  (LoadA w22 ⟨b1, 0, none⟩ [.int .i64, .int .i64, .int .i64, .int .i64, .int .i64, .int .i64] fun (x23 : Int × Int × Int × Int × Int × Int × Unit) =>
  CallV Try.prog 17 #[.agg #[.int .i64 x23.1, .int .i64 x23.2.1, .int .i64 x23.2.2.1, .int .i64 x23.2.2.2.1, .int .i64 x23.2.2.2.2.1, .int .i64 x23.2.2.2.2.2.1]] w22 [.one .bool] fun (r24 : Bool × Unit) w25 =>
  cond (!r24.1)
  (cond (r6.2.1 == 2)
  (cond (!r12.2.1)
  (LoadA w25 ⟨b8, 0, none⟩ [.int .i64, .int .i64, .int .i64, .int .u32, .int .u64, .int .u64, .sl, .sl, .bool] fun (x26 : Int × Int × Int × Int × Int × Int × SlV × SlV × Bool × Unit) =>
  CallV Try.prog 27 #[.agg #[.int .i64 x26.1, .int .i64 x26.2.1, .int .i64 x26.2.2.1, .int .u32 x26.2.2.2.1, .int .u64 x26.2.2.2.2.1, .int .u64 x26.2.2.2.2.2.1, .slice x26.2.2.2.2.2.2.1.a x26.2.2.2.2.2.2.1.n x26.2.2.2.2.2.2.1.c, .slice x26.2.2.2.2.2.2.2.1.a x26.2.2.2.2.2.2.2.1.n x26.2.2.2.2.2.2.2.1.c, .bool x26.2.2.2.2.2.2.2.2.1], .agg #[.int .i64 0, .int .i64 0, .int .i64 0, .int .u32 0, .int .u64 0, .int .u64 0, .slice none 0 0, .slice none 0 0, .bool false, .bool false]] w25 [.one .bool] fun (r27 : Bool × Unit) w28 =>
  cond r27.1
  (LoadA w28 ⟨b14, 0, none⟩ [.int .i64, .int .i64, .int .i64, .int .u32, .int .u64, .int .u64, .sl, .sl, .bool] fun (x29 : Int × Int × Int × Int × Int × Int × SlV × SlV × Bool × Unit) =>
  CallV Try.prog 27 #[.agg #[.int .i64 x29.1, .int .i64 x29.2.1, .int .i64 x29.2.2.1, .int .u32 x29.2.2.2.1, .int .u64 x29.2.2.2.2.1, .int .u64 x29.2.2.2.2.2.1, .slice x29.2.2.2.2.2.2.1.a x29.2.2.2.2.2.2.1.n x29.2.2.2.2.2.2.1.c, .slice x29.2.2.2.2.2.2.2.1.a x29.2.2.2.2.2.2.2.1.n x29.2.2.2.2.2.2.2.1.c, .bool x29.2.2.2.2.2.2.2.2.1], .agg #[.int .i64 0, .int .i64 0, .int .i64 0, .int .u32 0, .int .u64 0, .int .u64 0, .slice none 0 0, .slice none 0 0, .bool false, .bool false]] w28 [.one .bool] fun (r30 : Bool × Unit) w31 =>
  cond r30.1
  (CallV Try.prog 18 #[] w31 [.one .bool] fun (r32 : Bool × Unit) w33 =>
  K (r32.1, ()) w33)
  (K (false, ()) w31))
  (K (false, ()) w28))
  (K (false, ()) w25))
  (K (false, ()) w25))
  (LoadS w25 ⟨b1, 2, none⟩ (.int .i64) fun (x34 : Int) =>
  Rng .i64 (x34 + 88) ∧
  cond (((n1 : Nat) : Int) != (x34 + 88))
  (cond (r6.2.1 == 2)
  (cond (!r12.2.1)
  (LoadA w25 ⟨b8, 0, none⟩ [.int .i64, .int .i64, .int .i64, .int .u32, .int .u64, .int .u64, .sl, .sl, .bool] fun (x35 : Int × Int × Int × Int × Int × Int × SlV × SlV × Bool × Unit) =>
  CallV Try.prog 27 #[.agg #[.int .i64 x35.1, .int .i64 x35.2.1, .int .i64 x35.2.2.1, .int .u32 x35.2.2.2.1, .int .u64 x35.2.2.2.2.1, .int .u64 x35.2.2.2.2.2.1, .slice x35.2.2.2.2.2.2.1.a x35.2.2.2.2.2.2.1.n x35.2.2.2.2.2.2.1.c, .slice x35.2.2.2.2.2.2.2.1.a x35.2.2.2.2.2.2.2.1.n x35.2.2.2.2.2.2.2.1.c, .bool x35.2.2.2.2.2.2.2.2.1], .agg #[.int .i64 0, .int .i64 0, .int .i64 0, .int .u32 0, .int .u64 0, .int .u64 0, .slice none 0 0, .slice none 0 0, .bool false, .bool false]] w25 [.one .bool] fun (r36 : Bool × Unit) w37 =>
  cond r36.1
  (LoadA w37 ⟨b14, 0, none⟩ [.int .i64, .int .i64, .int .i64, .int .u32, .int .u64, .int .u64, .sl, .sl, .bool] fun (x38 : Int × Int × Int × Int × Int × Int × SlV × SlV × Bool × Unit) =>
  CallV Try.prog 27 #[.agg #[.int .i64 x38.1, .int .i64 x38.2.1, .int .i64 x38.2.2.1, .int .u32 x38.2.2.2.1, .int .u64 x38.2.2.2.2.1, .int .u64 x38.2.2.2.2.2.1, .slice x38.2.2.2.2.2.2.1.a x38.2.2.2.2.2.2.1.n x38.2.2.2.2.2.2.1.c, .slice x38.2.2.2.2.2.2.2.1.a x38.2.2.2.2.2.2.2.1.n x38.2.2.2.2.2.2.2.1.c, .bool x38.2.2.2.2.2.2.2.2.1], .agg #[.int .i64 0, .int .i64 0, .int .i64 0, .int .u32 0, .int .u64 0, .int .u64 0, .slice none 0 0, .slice none 0 0, .bool false, .bool false]] w37 [.one .bool] fun (r39 : Bool × Unit) w40 =>
  cond r39.1
  (CallV Try.prog 18 #[] w40 [.one .bool] fun (r41 : Bool × Unit) w42 =>
  K (r41.1, ()) w42)
  (K (false, ()) w40))
  (K (false, ()) w37))
  (K (false, ()) w25))
  (K (false, ()) w25))
  (LoadA w25 ⟨b1, 0, none⟩ [.int .i64, .int .i64, .int .i64, .int .i64, .int .i64, .int .i64] fun (x43 : Int × Int × Int × Int × Int × Int × Unit) =>
  CallV Try.prog 28 #[.agg #[.int .i64 x43.1, .int .i64 x43.2.1, .int .i64 x43.2.2.1, .int .i64 x43.2.2.2.1, .int .i64 x43.2.2.2.2.1, .int .i64 x43.2.2.2.2.2.1], .slice a1 n1 c1] w25 [.agg [.int .i64, .int .i64, .int .i64, .int .u32, .int .u64, .int .u64, .sl, .sl, .bool, .bool]] fun (r44 : (Int × Int × Int × Int × Int × Int × SlV × SlV × Bool × Bool × Unit) × Unit) w45 =>
  NewV #[.int .i64 0, .int .i64 0, .int .i64 0, .int .u32 0, .int .u64 0, .int .u64 0, .slice none 0 0, .slice none 0 0, .bool false, .bool false] 51 w45 fun b46 w47 =>
  StoreV w47 ⟨b46, 0, none⟩ [.int .i64 r44.1.1, .int .i64 r44.1.2.1, .int .i64 r44.1.2.2.1, .int .u32 r44.1.2.2.2.1, .int .u64 r44.1.2.2.2.2.1, .int .u64 r44.1.2.2.2.2.2.1, .slice r44.1.2.2.2.2.2.2.1.a r44.1.2.2.2.2.2.2.1.n r44.1.2.2.2.2.2.2.1.c, .slice r44.1.2.2.2.2.2.2.2.1.a r44.1.2.2.2.2.2.2.2.1.n r44.1.2.2.2.2.2.2.2.1.c, .bool r44.1.2.2.2.2.2.2.2.2.1, .bool r44.1.2.2.2.2.2.2.2.2.2.1] fun w48 =>
  LoadA w48 ⟨b1, 0, none⟩ [.int .i64, .int .i64, .int .i64, .int .i64, .int .i64, .int .i64] fun (x49 : Int × Int × Int × Int × Int × Int × Unit) =>
  CallV Try.prog 29 #[.agg #[.int .i64 x49.1, .int .i64 x49.2.1, .int .i64 x49.2.2.1, .int .i64 x49.2.2.2.1, .int .i64 x49.2.2.2.2.1, .int .i64 x49.2.2.2.2.2.1], .slice a1 n1 c1, .int .i64 p2] w48 [.agg [.int .i64, .int .i64, .int .i64, .int .u32, .int .u64, .int .u64, .sl, .sl, .bool, .bool]] fun (r50 : (Int × Int × Int × Int × Int × Int × SlV × SlV × Bool × Bool × Unit) × Unit) w51 =>
  NewV #[.int .i64 0, .int .i64 0, .int .i64 0, .int .u32 0, .int .u64 0, .int .u64 0, .slice none 0 0, .slice none 0 0, .bool false, .bool false] 51 w51 fun b52 w53 =>
  StoreV w53 ⟨b52, 0, none⟩ [.int .i64 r50.1.1, .int .i64 r50.1.2.1, .int .i64 r50.1.2.2.1, .int .u32 r50.1.2.2.2.1, .int .u64 r50.1.2.2.2.2.1, .int .u64 r50.1.2.2.2.2.2.1, .slice r50.1.2.2.2.2.2.2.1.a r50.1.2.2.2.2.2.2.1.n r50.1.2.2.2.2.2.2.1.c, .slice r50.1.2.2.2.2.2.2.2.1.a r50.1.2.2.2.2.2.2.2.1.n r50.1.2.2.2.2.2.2.2.1.c, .bool r50.1.2.2.2.2.2.2.2.2.1, .bool r50.1.2.2.2.2.2.2.2.2.2.1] fun w54 =>
  LoadS w54 ⟨b46, 9, none⟩ .bool fun (x55 : Bool) =>
  cond (!x55)
  (cond (r6.2.1 != 1)
  (K (false, ()) w54)
  (LoadS w54 ⟨b46, 9, none⟩ .bool fun (x56 : Bool) =>
  cond x56
  (cond (r6.2.1 != 0)
  (K (false, ()) w54)
  (LoadA w54 ⟨b8, 0, none⟩ [.int .i64, .int .i64, .int .i64, .int .u32, .int .u64, .int .u64, .sl, .sl, .bool] fun (x57 : Int × Int × Int × Int × Int × Int × SlV × SlV × Bool × Unit) =>
  LoadA w54 ⟨b46, 0, none⟩ [.int .i64, .int .i64, .int .i64, .int .u32, .int .u64, .int .u64, .sl, .sl, .bool, .bool] fun (x58 : Int × Int × Int × Int × Int × Int × SlV × SlV × Bool × Bool × Unit) =>
  CallV Try.prog 27 #[.agg #[.int .i64 x57.1, .int .i64 x57.2.1, .int .i64 x57.2.2.1, .int .u32 x57.2.2.2.1, .int .u64 x57.2.2.2.2.1, .int .u64 x57.2.2.2.2.2.1, .slice x57.2.2.2.2.2.2.1.a x57.2.2.2.2.2.2.1.n x57.2.2.2.2.2.2.1.c, .slice x57.2.2.2.2.2.2.2.1.a x57.2.2.2.2.2.2.2.1.n x57.2.2.2.2.2.2.2.1.c, .bool x57.2.2.2.2.2.2.2.2.1], .agg #[.int .i64 x58.1, .int .i64 x58.2.1, .int .i64 x58.2.2.1, .int .u32 x58.2.2.2.1, .int .u64 x58.2.2.2.2.1, .int .u64 x58.2.2.2.2.2.1, .slice x58.2.2.2.2.2.2.1.a x58.2.2.2.2.2.2.1.n x58.2.2.2.2.2.2.1.c, .slice x58.2.2.2.2.2.2.2.1.a x58.2.2.2.2.2.2.2.1.n x58.2.2.2.2.2.2.2.1.c, .bool x58.2.2.2.2.2.2.2.2.1, .bool x58.2.2.2.2.2.2.2.2.2.1]] w54 [.one .bool] fun (r59 : Bool × Unit) w60 =>
  cond r59.1
  (LoadS w60 ⟨b52, 9, none⟩ .bool fun (x61 : Bool) =>
  cond (r12.2.1 == x61)
  (LoadA w60 ⟨b14, 0, none⟩ [.int .i64, .int .i64, .int .i64, .int .u32, .int .u64, .int .u64, .sl, .sl, .bool] fun (x62 : Int × Int × Int × Int × Int × Int × SlV × SlV × Bool × Unit) =>
  LoadA w60 ⟨b52, 0, none⟩ [.int .i64, .int .i64, .int .i64, .int .u32, .int .u64, .int .u64, .sl, .sl, .bool, .bool] fun (x63 : Int × Int × Int × Int × Int × Int × SlV × SlV × Bool × Bool × Unit) =>
  CallV Try.prog 27 #[.agg #[.int .i64 x62.1, .int .i64 x62.2.1, .int .i64 x62.2.2.1, .int .u32 x62.2.2.2.1, .int .u64 x62.2.2.2.2.1, .int .u64 x62.2.2.2.2.2.1, .slice x62.2.2.2.2.2.2.1.a x62.2.2.2.2.2.2.1.n x62.2.2.2.2.2.2.1.c, .slice x62.2.2.2.2.2.2.2.1.a x62.2.2.2.2.2.2.2.1.n x62.2.2.2.2.2.2.2.1.c, .bool x62.2.2.2.2.2.2.2.2.1], .agg #[.int .i64 x63.1, .int .i64 x63.2.1, .int .i64 x63.2.2.1, .int .u32 x63.2.2.2.1, .int .u64 x63.2.2.2.2.1, .int .u64 x63.2.2.2.2.2.1, .slice x63.2.2.2.2.2.2.1.a x63.2.2.2.2.2.2.1.n x63.2.2.2.2.2.2.1.c, .slice x63.2.2.2.2.2.2.2.1.a x63.2.2.2.2.2.2.2.1.n x63.2.2.2.2.2.2.2.1.c, .bool x63.2.2.2.2.2.2.2.2.1, .bool x63.2.2.2.2.2.2.2.2.2.1]] w60 [.one .bool] fun (r64 : Bool × Unit) w65 =>
  cond r64.1
  (CallV Try.prog 18 #[] w65 [.one .bool] fun (r66 : Bool × Unit) w67 =>
  K (r66.1, ()) w67)
  (K (false, ()) w65))
  (K (false, ()) w60))
  (K (false, ()) w60)))
  (LoadA w54 ⟨b8, 0, none⟩ [.int .i64, .int .i64, .int .i64, .int .u32, .int .u64, .int .u64, .sl, .sl, .bool] fun (x68 : Int × Int × Int × Int × Int × Int × SlV × SlV × Bool × Unit) =>
  LoadA w54 ⟨b46, 0, none⟩ [.int .i64, .int .i64, .int .i64, .int .u32, .int .u64, .int .u64, .sl, .sl, .bool, .bool] fun (x69 : Int × Int × Int × Int × Int × Int × SlV × SlV × Bool × Bool × Unit) =>
  CallV Try.prog 27 #[.agg #[.int .i64 x68.1, .int .i64 x68.2.1, .int .i64 x68.2.2.1, .int .u32 x68.2.2.2.1, .int .u64 x68.2.2.2.2.1, .int .u64 x68.2.2.2.2.2.1, .slice x68.2.2.2.2.2.2.1.a x68.2.2.2.2.2.2.1.n x68.2.2.2.2.2.2.1.c, .slice x68.2.2.2.2.2.2.2.1.a x68.2.2.2.2.2.2.2.1.n x68.2.2.2.2.2.2.2.1.c, .bool x68.2.2.2.2.2.2.2.2.1], .agg #[.int .i64 x69.1, .int .i64 x69.2.1, .int .i64 x69.2.2.1, .int .u32 x69.2.2.2.1, .int .u64 x69.2.2.2.2.1, .int .u64 x69.2.2.2.2.2.1, .slice x69.2.2.2.2.2.2.1.a x69.2.2.2.2.2.2.1.n x69.2.2.2.2.2.2.1.c, .slice x69.2.2.2.2.2.2.2.1.a x69.2.2.2.2.2.2.2.1.n x69.2.2.2.2.2.2.2.1.c, .bool x69.2.2.2.2.2.2.2.2.1, .bool x69.2.2.2.2.2.2.2.2.2.1]] w54 [.one .bool] fun (r70 : Bool × Unit) w71 =>
  cond r70.1
  (LoadS w71 ⟨b52, 9, none⟩ .bool fun (x72 : Bool) =>
  cond (r12.2.1 == x72)
  (LoadA w71 ⟨b14, 0, none⟩ [.int .i64, .int .i64, .int .i64, .int .u32, .int .u64, .int .u64, .sl, .sl, .bool] fun (x73 : Int × Int × Int × Int × Int × Int × SlV × SlV × Bool × Unit) =>
  LoadA w71 ⟨b52, 0, none⟩ [.int .i64, .int .i64, .int .i64, .int .u32, .int .u64, .int .u64, .sl, .sl, .bool, .bool] fun (x74 : Int × Int × Int × Int × Int × Int × SlV × SlV × Bool × Bool × Unit) =>
  CallV Try.prog 27 #[.agg #[.int .i64 x73.1, .int .i64 x73.2.1, .int .i64 x73.2.2.1, .int .u32 x73.2.2.2.1, .int .u64 x73.2.2.2.2.1, .int .u64 x73.2.2.2.2.2.1, .slice x73.2.2.2.2.2.2.1.a x73.2.2.2.2.2.2.1.n x73.2.2.2.2.2.2.1.c, .slice x73.2.2.2.2.2.2.2.1.a x73.2.2.2.2.2.2.2.1.n x73.2.2.2.2.2.2.2.1.c, .bool x73.2.2.2.2.2.2.2.2.1], .agg #[.int .i64 x74.1, .int .i64 x74.2.1, .int .i64 x74.2.2.1, .int .u32 x74.2.2.2.1, .int .u64 x74.2.2.2.2.1, .int .u64 x74.2.2.2.2.2.1, .slice x74.2.2.2.2.2.2.1.a x74.2.2.2.2.2.2.1.n x74.2.2.2.2.2.2.1.c, .slice x74.2.2.2.2.2.2.2.1.a x74.2.2.2.2.2.2.2.1.n x74.2.2.2.2.2.2.2.1.c, .bool x74.2.2.2.2.2.2.2.2.1, .bool x74.2.2.2.2.2.2.2.2.2.1]] w71 [.one .bool] fun (r75 : Bool × Unit) w76 =>
  cond r75.1
  (CallV Try.prog 18 #[] w76 [.one .bool] fun (r77 : Bool × Unit) w78 =>
  K (r77.1, ()) w78)
  (K (false, ()) w76))
  (K (false, ()) w71))
  (K (false, ()) w71))))
  (LoadS w54 ⟨b46, 9, none⟩ .bool fun (x79 : Bool) =>
  cond x79
  (cond (r6.2.1 != 0)
  (K (false, ()) w54)
  (LoadA w54 ⟨b8, 0, none⟩ [.int .i64, .int .i64, .int .i64, .int .u32, .int .u64, .int .u64, .sl, .sl, .bool] fun (x80 : Int × Int × Int × Int × Int × Int × SlV × SlV × Bool × Unit) =>
  LoadA w54 ⟨b46, 0, none⟩ [.int .i64, .int .i64, .int .i64, .int .u32, .int .u64, .int .u64, .sl, .sl, .bool, .bool] fun (x81 : Int × Int × Int × Int × Int × Int × SlV × SlV × Bool × Bool × Unit) =>
  CallV Try.prog 27 #[.agg #[.int .i64 x80.1, .int .i64 x80.2.1, .int .i64 x80.2.2.1, .int .u32 x80.2.2.2.1, .int .u64 x80.2.2.2.2.1, .int .u64 x80.2.2.2.2.2.1, .slice x80.2.2.2.2.2.2.1.a x80.2.2.2.2.2.2.1.n x80.2.2.2.2.2.2.1.c, .slice x80.2.2.2.2.2.2.2.1.a x80.2.2.2.2.2.2.2.1.n x80.2.2.2.2.2.2.2.1.c, .bool x80.2.2.2.2.2.2.2.2.1], .agg #[.int .i64 x81.1, .int .i64 x81.2.1, .int .i64 x81.2.2.1, .int .u32 x81.2.2.2.1, .int .u64 x81.2.2.2.2.1, .int .u64 x81.2.2.2.2.2.1, .slice x81.2.2.2.2.2.2.1.a x81.2.2.2.2.2.2.1.n x81.2.2.2.2.2.2.1.c, .slice x81.2.2.2.2.2.2.2.1.a x81.2.2.2.2.2.2.2.1.n x81.2.2.2.2.2.2.2.1.c, .bool x81.2.2.2.2.2.2.2.2.1, .bool x81.2.2.2.2.2.2.2.2.2.1]] w54 [.one .bool] fun (r82 : Bool × Unit) w83 =>
  cond r82.1
  (LoadS w83 ⟨b52, 9, none⟩ .bool fun (x84 : Bool) =>
  cond (r12.2.1 == x84)
  (LoadA w83 ⟨b14, 0, none⟩ [.int .i64, .int .i64, .int .i64, .int .u32, .int .u64, .int .u64, .sl, .sl, .bool] fun (x85 : Int × Int × Int × Int × Int × Int × SlV × SlV × Bool × Unit) =>
  LoadA w83 ⟨b52, 0, none⟩ [.int .i64, .int .i64, .int .i64, .int .u32, .int .u64, .int .u64, .sl, .sl, .bool, .bool] fun (x86 : Int × Int × Int × Int × Int × Int × SlV × SlV × Bool × Bool × Unit) =>
  CallV Try.prog 27 #[.agg #[.int .i64 x85.1, .int .i64 x85.2.1, .int .i64 x85.2.2.1, .int .u32 x85.2.2.2.1, .int .u64 x85.2.2.2.2.1, .int .u64 x85.2.2.2.2.2.1, .slice x85.2.2.2.2.2.2.1.a x85.2.2.2.2.2.2.1.n x85.2.2.2.2.2.2.1.c, .slice x85.2.2.2.2.2.2.2.1.a x85.2.2.2.2.2.2.2.1.n x85.2.2.2.2.2.2.2.1.c, .bool x85.2.2.2.2.2.2.2.2.1], .agg #[.int .i64 x86.1, .int .i64 x86.2.1, .int .i64 x86.2.2.1, .int .u32 x86.2.2.2.1, .int .u64 x86.2.2.2.2.1, .int .u64 x86.2.2.2.2.2.1, .slice x86.2.2.2.2.2.2.1.a x86.2.2.2.2.2.2.1.n x86.2.2.2.2.2.2.1.c, .slice x86.2.2.2.2.2.2.2.1.a x86.2.2.2.2.2.2.2.1.n x86.2.2.2.2.2.2.2.1.c, .bool x86.2.2.2.2.2.2.2.2.1, .bool x86.2.2.2.2.2.2.2.2.2.1]] w83 [.one .bool] fun (r87 : Bool × Unit) w88 =>
  cond r87.1
  (CallV Try.prog 18 #[] w88 [.one .bool] fun (r89 : Bool × Unit) w90 =>
  K (r89.1, ()) w90)
  (K (false, ()) w88))
  (K (false, ()) w83))
  (K (false, ()) w83)))
  (LoadA w54 ⟨b8, 0, none⟩ [.int .i64, .int .i64, .int .i64, .int .u32, .int .u64, .int .u64, .sl, .sl, .bool] fun (x91 : Int × Int × Int × Int × Int × Int × SlV × SlV × Bool × Unit) =>
  LoadA w54 ⟨b46, 0, none⟩ [.int .i64, .int .i64, .int .i64, .int .u32, .int .u64, .int .u64, .sl, .sl, .bool, .bool] fun (x92 : Int × Int × Int × Int × Int × Int × SlV × SlV × Bool × Bool × Unit) =>
  CallV Try.prog 27 #[.agg #[.int .i64 x91.1, .int .i64 x91.2.1, .int .i64 x91.2.2.1, .int .u32 x91.2.2.2.1, .int .u64 x91.2.2.2.2.1, .int .u64 x91.2.2.2.2.2.1, .slice x91.2.2.2.2.2.2.1.a x91.2.2.2.2.2.2.1.n x91.2.2.2.2.2.2.1.c, .slice x91.2.2.2.2.2.2.2.1.a x91.2.2.2.2.2.2.2.1.n x91.2.2.2.2.2.2.2.1.c, .bool x91.2.2.2.2.2.2.2.2.1], .agg #[.int .i64 x92.1, .int .i64 x92.2.1, .int .i64 x92.2.2.1, .int .u32 x92.2.2.2.1, .int .u64 x92.2.2.2.2.1, .int .u64 x92.2.2.2.2.2.1, .slice x92.2.2.2.2.2.2.1.a x92.2.2.2.2.2.2.1.n x92.2.2.2.2.2.2.1.c, .slice x92.2.2.2.2.2.2.2.1.a x92.2.2.2.2.2.2.2.1.n x92.2.2.2.2.2.2.2.1.c, .bool x92.2.2.2.2.2.2.2.2.1, .bool x92.2.2.2.2.2.2.2.2.2.1]] w54 [.one .bool] fun (r93 : Bool × Unit) w94 =>
  cond r93.1
  (LoadS w94 ⟨b52, 9, none⟩ .bool fun (x95 : Bool) =>
  cond (r12.2.1 == x95)
  (LoadA w94 ⟨b14, 0, none⟩ [.int .i64, .int .i64, .int .i64, .int .u32, .int .u64, .int .u64, .sl, .sl, .bool] fun (x96 : Int × Int × Int × Int × Int × Int × SlV × SlV × Bool × Unit) =>
  LoadA w94 ⟨b52, 0, none⟩ [.int .i64, .int .i64, .int .i64, .int .u32, .int .u64, .int .u64, .sl, .sl, .bool, .bool] fun (x97 : Int × Int × Int × Int × Int × Int × SlV × SlV × Bool × Bool × Unit) =>
  CallV Try.prog 27 #[.agg #[.int .i64 x96.1, .int .i64 x96.2.1, .int .i64 x96.2.2.1, .int .u32 x96.2.2.2.1, .int .u64 x96.2.2.2.2.1, .int .u64 x96.2.2.2.2.2.1, .slice x96.2.2.2.2.2.2.1.a x96.2.2.2.2.2.2.1.n x96.2.2.2.2.2.2.1.c, .slice x96.2.2.2.2.2.2.2.1.a x96.2.2.2.2.2.2.2.1.n x96.2.2.2.2.2.2.2.1.c, .bool x96.2.2.2.2.2.2.2.2.1], .agg #[.int .i64 x97.1, .int .i64 x97.2.1, .int .i64 x97.2.2.1, .int .u32 x97.2.2.2.1, .int .u64 x97.2.2.2.2.1, .int .u64 x97.2.2.2.2.2.1, .slice x97.2.2.2.2.2.2.1.a x97.2.2.2.2.2.2.1.n x97.2.2.2.2.2.2.1.c, .slice x97.2.2.2.2.2.2.2.1.a x97.2.2.2.2.2.2.2.1.n x97.2.2.2.2.2.2.2.1.c, .bool x97.2.2.2.2.2.2.2.2.1, .bool x97.2.2.2.2.2.2.2.2.2.1]] w94 [.one .bool] fun (r98 : Bool × Unit) w99 =>
  cond r98.1
  (CallV Try.prog 18 #[] w99 [.one .bool] fun (r100 : Bool × Unit) w101 =>
  K (r100.1, ()) w101)
  (K (false, ()) w99))
  (K (false, ()) w94))
  (K (false, ()) w94)))))))
theorem law15_PageReads.vc (p0_0 : Int) (p0_1 : Int) (p0_2 : Int) (p0_3 : Int) (p0_4 : Int) (p0_5 : Int) (a1 : Option Addr) (n1 c1 : Nat) (p2 : Int) (w : World) (K : Bool × Unit → World → Prop) (h : law15_PageReads.P p0_0 p0_1 p0_2 p0_3 p0_4 p0_5 a1 n1 c1 p2 w K) : CallV Try.prog 4 #[.agg #[.int .i64 p0_0, .int .i64 p0_1, .int .i64 p0_2, .int .i64 p0_3, .int .i64 p0_4, .int .i64 p0_5], .slice a1 n1 c1, .int .i64 p2] w [.one .bool] K := by
  have e : vcFun Try.prog okf false Try.f4 law15_PageReads.A #[.agg #[.int .i64 p0_0, .int .i64 p0_1, .int .i64 p0_2, .int .i64 p0_3, .int .i64 p0_4, .int .i64 p0_5], .slice a1 n1 c1, .int .i64 p2] w [.one .bool] K = law15_PageReads.P p0_0 p0_1 p0_2 p0_3 p0_4 p0_5 a1 n1 c1 p2 w K := by kernel_rfl
  exact vcFun.calls okf_ok follows Try.func4 (e.symm ▸ h)

/-! ### nepenthe/nepenthelaw15.PageBlank: function 5 -/
def law15_PageBlank.A : Ann := .no
def law15_PageBlank.P (p0_0 : Int) (p0_1 : Int) (p0_2 : Int) (p0_3 : Int) (p0_4 : Int) (p0_5 : Int) (p1 : Int) (w : World) (K : Bool × Unit → World → Prop) : Prop :=
  NewV #[.int .i64 p0_0, .int .i64 p0_1, .int .i64 p0_2, .int .i64 p0_3, .int .i64 p0_4, .int .i64 p0_5] 23 w fun b1 w2 =>
  LoadA w2 ⟨b1, 0, none⟩ [.int .i64, .int .i64, .int .i64, .int .i64, .int .i64, .int .i64] fun (x3 : Int × Int × Int × Int × Int × Int × Unit) =>
  CallV Try.prog 17 #[.agg #[.int .i64 x3.1, .int .i64 x3.2.1, .int .i64 x3.2.2.1, .int .i64 x3.2.2.2.1, .int .i64 x3.2.2.2.2.1, .int .i64 x3.2.2.2.2.2.1]] w2 [.one .bool] fun (r4 : Bool × Unit) w5 =>
  cond (!r4.1)
  (CallV Try.prog 18 #[] w5 [.one .bool] fun (r6 : Bool × Unit) w7 =>
  K (r6.1, ()) w7)
  (LoadS w5 ⟨b1, 2, none⟩ (.int .i64) fun (x8 : Int) =>
  Rng .i64 (x8 + 88) ∧
  CallV Try.prog 26 #[.int .u8 255, .int .i64 (x8 + 88)] w5 [.one .sl] fun (r9 : SlV × Unit) w10 =>
  LoadA w10 ⟨b1, 0, none⟩ [.int .i64, .int .i64, .int .i64, .int .i64, .int .i64, .int .i64] fun (x11 : Int × Int × Int × Int × Int × Int × Unit) =>
  CallV Try.prog 23 #[.agg #[.int .i64 x11.1, .int .i64 x11.2.1, .int .i64 x11.2.2.1, .int .i64 x11.2.2.2.1, .int .i64 x11.2.2.2.2.1, .int .i64 x11.2.2.2.2.2.1], .slice r9.1.a r9.1.n r9.1.c] w10 [.agg [.int .i64, .int .i64, .int .i64, .int .u32, .int .u64, .int .u64, .sl, .sl, .bool], .one (.int .i64)] fun (r12 : (Int × Int × Int × Int × Int × Int × SlV × SlV × Bool × Unit) × Int × Unit) w13 =>
  NewV #[.int .i64 0, .int .i64 0, .int .i64 0, .int .u32 0, .int .u64 0, .int .u64 0, .slice none 0 0, .slice none 0 0, .bool false] 42 w13 fun b14 w15 =>
  StoreV w15 ⟨b14, 0, none⟩ [.int .i64 r12.1.1, .int .i64 r12.1.2.1, .int .i64 r12.1.2.2.1, .int .u32 r12.1.2.2.2.1, .int .u64 r12.1.2.2.2.2.1, .int .u64 r12.1.2.2.2.2.2.1, .slice r12.1.2.2.2.2.2.2.1.a r12.1.2.2.2.2.2.2.1.n r12.1.2.2.2.2.2.2.1.c, .slice r12.1.2.2.2.2.2.2.2.1.a r12.1.2.2.2.2.2.2.2.1.n r12.1.2.2.2.2.2.2.2.1.c, .bool r12.1.2.2.2.2.2.2.2.2.1] fun w16 =>
  LoadA w16 ⟨b1, 0, none⟩ [.int .i64, .int .i64, .int .i64, .int .i64, .int .i64, .int .i64] fun (x17 : Int × Int × Int × Int × Int × Int × Unit) =>
  CallV Try.prog 24 #[.agg #[.int .i64 x17.1, .int .i64 x17.2.1, .int .i64 x17.2.2.1, .int .i64 x17.2.2.2.1, .int .i64 x17.2.2.2.2.1, .int .i64 x17.2.2.2.2.2.1], .slice r9.1.a r9.1.n r9.1.c, .int .i64 p1] w16 [.agg [.int .i64, .int .i64, .int .i64, .int .u32, .int .u64, .int .u64, .sl, .sl, .bool], .one .bool] fun (r18 : (Int × Int × Int × Int × Int × Int × SlV × SlV × Bool × Unit) × Bool × Unit) w19 =>
  NewV #[.int .i64 0, .int .i64 0, .int .i64 0, .int .u32 0, .int .u64 0, .int .u64 0, .slice none 0 0, .slice none 0 0, .bool false] 42 w19 fun b20 w21 =>
  StoreV w21 ⟨b20, 0, none⟩ [.int .i64 r18.1.1, .int .i64 r18.1.2.1, .int .i64 r18.1.2.2.1, .int .u32 r18.1.2.2.2.1, .int .u64 r18.1.2.2.2.2.1, .int .u64 r18.1.2.2.2.2.2.1, .slice r18.1.2.2.2.2.2.2.1.a r18.1.2.2.2.2.2.2.1.n r18.1.2.2.2.2.2.2.1.c, .slice r18.1.2.2.2.2.2.2.2.1.a r18.1.2.2.2.2.2.2.2.1.n r18.1.2.2.2.2.2.2.2.1.c, .bool r18.1.2.2.2.2.2.2.2.2.1] fun w22 =>
  cond (r12.2.1 == 1)
  (cond (!r18.2.1)
  (CallV Try.prog 25 #[.slice r9.1.a r9.1.n r9.1.c] w22 [.one .bool] fun (r23 : Bool × Unit) w24 =>
  cond r23.1
  (CallV Try.prog 18 #[] w24 [.one .bool] fun (r25 : Bool × Unit) w26 =>
  K (r25.1, ()) w26)
  (K (false, ()) w24))
  (K (false, ()) w22))
  (K (false, ()) w22))
theorem law15_PageBlank.vc (p0_0 : Int) (p0_1 : Int) (p0_2 : Int) (p0_3 : Int) (p0_4 : Int) (p0_5 : Int) (p1 : Int) (w : World) (K : Bool × Unit → World → Prop) (h : law15_PageBlank.P p0_0 p0_1 p0_2 p0_3 p0_4 p0_5 p1 w K) : CallV Try.prog 5 #[.agg #[.int .i64 p0_0, .int .i64 p0_1, .int .i64 p0_2, .int .i64 p0_3, .int .i64 p0_4, .int .i64 p0_5], .int .i64 p1] w [.one .bool] K := by
  have e : vcFun Try.prog okf false Try.f5 law15_PageBlank.A #[.agg #[.int .i64 p0_0, .int .i64 p0_1, .int .i64 p0_2, .int .i64 p0_3, .int .i64 p0_4, .int .i64 p0_5], .int .i64 p1] w [.one .bool] K = law15_PageBlank.P p0_0 p0_1 p0_2 p0_3 p0_4 p0_5 p1 w K := by kernel_rfl
  exact vcFun.calls okf_ok follows Try.func5 (e.symm ▸ h)

/-! ### nepenthe/nepenthelaw15.PageBack: function 6 -/
def law15_PageBack.A : Ann := .two .no (.two .no (.two .no (.two .no (.two .no (.two .no (.two (.draw (.take 0 (.take 1 (.take 2 (.both 3 (.both 4 (.take 5 (.take 6 (.take 7 (.eff 8 (.eff 9 (.take 10 (.done))))))) 8 (.eff 4 (.take 5 (.take 6 (.take 7 (.eff 9 (.take 10 (.done)))))))) 8 (.eff 3 (.eff 4 (.take 5 (.take 6 (.take 7 (.eff 9 (.take 10 (.done))))))))))))) (.join [6, 52, 53, 54, 55, 56, 57, 58, 59, 60, 61, 62, 63, 64, 65, 66, 67, 68, 69, 70, 71, 72, 73, 74, 75, 76, 77, 78, 79, 80, 81, 82] [] .no .no)))))))
def law15_PageBack.P (p0_0 : Int) (p0_1 : Int) (p0_2 : Int) (p0_3 : Int) (p0_4 : Int) (p0_5 : Int) (p1_0 : Int) (p1_1 : Int) (p1_2 : Int) (p1_3 : Int) (p1_4 : Int) (p1_5 : Int) (a2_0 : Option Addr) (n2_0 c2_0 : Nat) (a2_1 : Option Addr) (n2_1 c2_1 : Nat) (w : World) (K : Bool × Unit → World → Prop) : Prop :=
  NewV #[.int .i64 p0_0, .int .i64 p0_1, .int .i64 p0_2, .int .i64 p0_3, .int .i64 p0_4, .int .i64 p0_5] 23 w fun b1 w2 =>
  NewV #[.int .i64 p1_0, .int .i64 p1_1, .int .i64 p1_2, .int .u32 p1_3, .int .u64 p1_4, .int .u64 p1_5] 27 w2 fun b3 w4 =>
  NewV #[.slice a2_0 n2_0 c2_0, .slice a2_1 n2_1 c2_1] 29 w4 fun b5 w6 =>
  LoadA w6 ⟨b1, 0, none⟩ [.int .i64, .int .i64, .int .i64, .int .i64, .int .i64, .int .i64] fun (x7 : Int × Int × Int × Int × Int × Int × Unit) =>
  LoadA w6 ⟨b3, 0, none⟩ [.int .i64, .int .i64, .int .i64, .int .u32, .int .u64, .int .u64] fun (x8 : Int × Int × Int × Int × Int × Int × Unit) =>
  (0 ≤ (0 : Int) ∧ 0 < (2 : Int)) ∧
  LoadS w6 ⟨b5, 0, none⟩ .sl fun (x9 : SlV) =>
  (0 ≤ (1 : Int) ∧ 1 < (2 : Int)) ∧
  LoadS w6 ⟨b5, 1, none⟩ .sl fun (x10 : SlV) =>
  CallV Try.prog 15 #[.agg #[.int .i64 x7.1, .int .i64 x7.2.1, .int .i64 x7.2.2.1, .int .i64 x7.2.2.2.1, .int .i64 x7.2.2.2.2.1, .int .i64 x7.2.2.2.2.2.1], .agg #[.int .i64 x8.1, .int .i64 x8.2.1, .int .i64 x8.2.2.1, .int .u32 x8.2.2.2.1, .int .u64 x8.2.2.2.2.1, .int .u64 x8.2.2.2.2.2.1], .slice x9.a x9.n x9.c, .slice x10.a x10.n x10.c] w6 [.one .sl, .one (.int .i64)] fun (r11 : SlV × Int × Unit) w12 =>
  cond (r11.2.1 != 0)
  (CallV Try.prog 18 #[] w12 [.one .bool] fun (r13 : Bool × Unit) w14 =>
  K (r13.1, ()) w14)
  (LoadA w12 ⟨b1, 0, none⟩ [.int .i64, .int .i64, .int .i64, .int .i64, .int .i64, .int .i64] fun (x15 : Int × Int × Int × Int × Int × Int × Unit) =>
  CallV Try.prog 16 #[.agg #[.int .i64 x15.1, .int .i64 x15.2.1, .int .i64 x15.2.2.1, .int .i64 x15.2.2.2.1, .int .i64 x15.2.2.2.2.1, .int .i64 x15.2.2.2.2.2.1]] w12 [.one .sl, .one (.int .i64)] fun (r16 : SlV × Int × Unit) w17 =>
  cond (((r16.1.n : Nat) : Int) != ((r11.1.n : Nat) : Int))
  (K (false, ()) w17)
  (LoadA w17 ⟨b1, 0, none⟩ [.int .i64, .int .i64, .int .i64, .int .i64, .int .i64, .int .i64] fun (x18 : Int × Int × Int × Int × Int × Int × Unit) =>
  CallV Try.prog 23 #[.agg #[.int .i64 x18.1, .int .i64 x18.2.1, .int .i64 x18.2.2.1, .int .i64 x18.2.2.2.1, .int .i64 x18.2.2.2.2.1, .int .i64 x18.2.2.2.2.2.1], .slice r11.1.a r11.1.n r11.1.c] w17 [.agg [.int .i64, .int .i64, .int .i64, .int .u32, .int .u64, .int .u64, .sl, .sl, .bool], .one (.int .i64)] fun (r19 : (Int × Int × Int × Int × Int × Int × SlV × SlV × Bool × Unit) × Int × Unit) w20 =>
  NewV #[.int .i64 0, .int .i64 0, .int .i64 0, .int .u32 0, .int .u64 0, .int .u64 0, .slice none 0 0, .slice none 0 0, .bool false] 42 w20 fun b21 w22 =>
  StoreV w22 ⟨b21, 0, none⟩ [.int .i64 r19.1.1, .int .i64 r19.1.2.1, .int .i64 r19.1.2.2.1, .int .u32 r19.1.2.2.2.1, .int .u64 r19.1.2.2.2.2.1, .int .u64 r19.1.2.2.2.2.2.1, .slice r19.1.2.2.2.2.2.2.1.a r19.1.2.2.2.2.2.2.1.n r19.1.2.2.2.2.2.2.1.c, .slice r19.1.2.2.2.2.2.2.2.1.a r19.1.2.2.2.2.2.2.2.1.n r19.1.2.2.2.2.2.2.2.1.c, .bool r19.1.2.2.2.2.2.2.2.2.1] fun w23 =>
  DrawV fun D24 =>
  (D24 b1 ∧ LoadA w23.drew ⟨b1, 0, none⟩ [.int .i64, .int .i64, .int .i64, .int .i64, .int .i64, .int .i64] fun (x25 : Int × Int × Int × Int × Int × Int × Unit) =>
  ((CallV Try.prog 30 #[.slice r11.1.a r11.1.n r11.1.c, .slice r16.1.a r16.1.n r16.1.c] w23.drew [.one .sl] fun (r26 : SlV × Unit) w27 =>
  KeepOn D24 w23.drew w27 ∧
  ((CallV Try.prog 23 #[.agg #[.int .i64 x25.1, .int .i64 x25.2.1, .int .i64 x25.2.2.1, .int .i64 x25.2.2.2.1, .int .i64 x25.2.2.2.2.1, .int .i64 x25.2.2.2.2.2.1], .slice r26.1.a r26.1.n r26.1.c] w27 [.agg [.int .i64, .int .i64, .int .i64, .int .u32, .int .u64, .int .u64, .sl, .sl, .bool], .one (.int .i64)] fun (r28 : (Int × Int × Int × Int × Int × Int × SlV × SlV × Bool × Unit) × Int × Unit) w29 =>
  KeepOn D24 w23.drew w29 ∧
  NewV #[.int .i64 0, .int .i64 0, .int .i64 0, .int .u32 0, .int .u64 0, .int .u64 0, .slice none 0 0, .slice none 0 0, .bool false] 42 w29 fun b30 w31 =>
  KeepOn D24 w23.drew w31 ∧
  StoreV w31 ⟨b30, 0, none⟩ [.int .i64 r28.1.1, .int .i64 r28.1.2.1, .int .i64 r28.1.2.2.1, .int .u32 r28.1.2.2.2.1, .int .u64 r28.1.2.2.2.2.1, .int .u64 r28.1.2.2.2.2.2.1, .slice r28.1.2.2.2.2.2.2.1.a r28.1.2.2.2.2.2.2.1.n r28.1.2.2.2.2.2.2.1.c, .slice r28.1.2.2.2.2.2.2.2.1.a r28.1.2.2.2.2.2.2.2.1.n r28.1.2.2.2.2.2.2.2.1.c, .bool r28.1.2.2.2.2.2.2.2.2.1] fun w32 =>
  KeepOn D24 w23.drew w32 ∧
  JoinV [] (fun (v34 : Unit) w35 =>
  LoadS w35 ⟨b21, 6, none⟩ .sl fun (x36 : SlV) =>
  LoadS w35 ⟨b30, 6, none⟩ .sl fun (x37 : SlV) =>
  CallV Try.prog 19 #[.slice x36.a x36.n x36.c, .slice x37.a x37.n x37.c] w35 [.one .bool] fun (r38 : Bool × Unit) w39 =>
  cond r38.1
  (LoadS w39 ⟨b21, 7, none⟩ .sl fun (x40 : SlV) =>
  LoadS w39 ⟨b30, 7, none⟩ .sl fun (x41 : SlV) =>
  CallV Try.prog 19 #[.slice x40.a x40.n x40.c, .slice x41.a x41.n x41.c] w39 [.one .bool] fun (r42 : Bool × Unit) w43 =>
  cond r42.1
  ((0 ≤ (0 : Int) ∧ 0 < (2 : Int)) ∧
  LoadS w43 ⟨b5, 0, none⟩ .sl fun (x44 : SlV) =>
  cond (((x44.n : Nat) : Int) == 0)
  ((0 ≤ (1 : Int) ∧ 1 < (2 : Int)) ∧
  LoadS w43 ⟨b5, 1, none⟩ .sl fun (x45 : SlV) =>
  cond (((x45.n : Nat) : Int) == 0)
  (CallV Try.prog 18 #[] w43 [.one .bool] fun (r46 : Bool × Unit) w47 =>
  K (r46.1, ()) w47)
  (LoadS w43 ⟨b21, 7, none⟩ .sl fun (x48 : SlV) =>
  (0 ≤ (1 : Int) ∧ 1 < (2 : Int)) ∧
  LoadS w43 ⟨b5, 1, none⟩ .sl fun (x49 : SlV) =>
  CallV Try.prog 19 #[.slice x48.a x48.n x48.c, .slice x49.a x49.n x49.c] w43 [.one .bool] fun (r50 : Bool × Unit) w51 =>
  cond r50.1
  (CallV Try.prog 18 #[] w51 [.one .bool] fun (r52 : Bool × Unit) w53 =>
  K (r52.1, ()) w53)
  (K (false, ()) w51)))
  (LoadS w43 ⟨b21, 6, none⟩ .sl fun (x54 : SlV) =>
  (0 ≤ (0 : Int) ∧ 0 < (2 : Int)) ∧
  LoadS w43 ⟨b5, 0, none⟩ .sl fun (x55 : SlV) =>
  CallV Try.prog 19 #[.slice x54.a x54.n x54.c, .slice x55.a x55.n x55.c] w43 [.one .bool] fun (r56 : Bool × Unit) w57 =>
  cond r56.1
  ((0 ≤ (1 : Int) ∧ 1 < (2 : Int)) ∧
  LoadS w57 ⟨b5, 1, none⟩ .sl fun (x58 : SlV) =>
  cond (((x58.n : Nat) : Int) == 0)
  (CallV Try.prog 18 #[] w57 [.one .bool] fun (r59 : Bool × Unit) w60 =>
  K (r59.1, ()) w60)
  (LoadS w57 ⟨b21, 7, none⟩ .sl fun (x61 : SlV) =>
  (0 ≤ (1 : Int) ∧ 1 < (2 : Int)) ∧
  LoadS w57 ⟨b5, 1, none⟩ .sl fun (x62 : SlV) =>
  CallV Try.prog 19 #[.slice x61.a x61.n x61.c, .slice x62.a x62.n x62.c] w57 [.one .bool] fun (r63 : Bool × Unit) w64 =>
  cond r63.1
  (CallV Try.prog 18 #[] w64 [.one .bool] fun (r65 : Bool × Unit) w66 =>
  K (r65.1, ()) w66)
  (K (false, ()) w64)))
  (K (false, ()) w57)))
  (K (false, ()) w43))
  (K (false, ()) w39)) fun (J33 : Unit → World → Prop) =>
  cond (r19.2.1 != 0)
  (K (false, ()) w32)
  (cond (r28.2.1 != 0)
  (K (false, ()) w32)
  (LoadS w32 ⟨b21, 8, none⟩ .bool fun (x67 : Bool) =>
  cond x67
  (K (false, ()) w32)
  (LoadS w32 ⟨b30, 8, none⟩ .bool fun (x68 : Bool) =>
  cond (!x68)
  (K (false, ()) w32)
  (LoadA w32 ⟨b21, 0, none⟩ [.int .i64, .int .i64, .int .i64, .int .u32, .int .u64, .int .u64] fun (x69 : Int × Int × Int × Int × Int × Int × Unit) =>
  LoadA w32 ⟨b3, 0, none⟩ [.int .i64, .int .i64, .int .i64, .int .u32, .int .u64, .int .u64] fun (x70 : Int × Int × Int × Int × Int × Int × Unit) =>
  AggEq Try.prog 27 #[.int .i64 x69.1, .int .i64 x69.2.1, .int .i64 x69.2.2.1, .int .u32 x69.2.2.2.1, .int .u64 x69.2.2.2.2.1, .int .u64 x69.2.2.2.2.2.1] #[.int .i64 x70.1, .int .i64 x70.2.1, .int .i64 x70.2.2.1, .int .u32 x70.2.2.2.1, .int .u64 x70.2.2.2.2.1, .int .u64 x70.2.2.2.2.2.1] fun e71 =>
  cond (!e71)
  (K (false, ()) w32)
  (LoadA w32 ⟨b30, 0, none⟩ [.int .i64, .int .i64, .int .i64, .int .u32, .int .u64, .int .u64] fun (x72 : Int × Int × Int × Int × Int × Int × Unit) =>
  LoadA w32 ⟨b3, 0, none⟩ [.int .i64, .int .i64, .int .i64, .int .u32, .int .u64, .int .u64] fun (x73 : Int × Int × Int × Int × Int × Int × Unit) =>
  AggEq Try.prog 27 #[.int .i64 x72.1, .int .i64 x72.2.1, .int .i64 x72.2.2.1, .int .u32 x72.2.2.2.1, .int .u64 x72.2.2.2.2.1, .int .u64 x72.2.2.2.2.2.1] #[.int .i64 x73.1, .int .i64 x73.2.1, .int .i64 x73.2.2.1, .int .u32 x73.2.2.2.1, .int .u64 x73.2.2.2.2.1, .int .u64 x73.2.2.2.2.2.1] fun e74 =>
  cond (!e74)
  (K (false, ()) w32)
  (CallV Try.prog 25 #[.slice r11.1.a r11.1.n r11.1.c] w32 [.one .bool] fun (r75 : Bool × Unit) w76 =>
  cond r75.1
  (K (false, ()) w76)
  (J33 (()) w76)))))))) ∧
  (NewV #[.int .i64 0, .int .i64 0, .int .i64 0, .int .u32 0, .int .u64 0, .int .u64 0, .slice none 0 0, .slice none 0 0, .bool false] 42 w27 fun b77 w78 =>
  KeepOn D24 w23.drew w78 ∧
  CallV Try.prog 23 #[.agg #[.int .i64 x25.1, .int .i64 x25.2.1, .int .i64 x25.2.2.1, .int .i64 x25.2.2.2.1, .int .i64 x25.2.2.2.2.1, .int .i64 x25.2.2.2.2.2.1], .slice r26.1.a r26.1.n r26.1.c] w78 [.agg [.int .i64, .int .i64, .int .i64, .int .u32, .int .u64, .int .u64, .sl, .sl, .bool], .one (.int .i64)] fun (r79 : (Int × Int × Int × Int × Int × Int × SlV × SlV × Bool × Unit) × Int × Unit) w80 =>
  KeepOn D24 w23.drew w80 ∧
  StoreV w80 ⟨b77, 0, none⟩ [.int .i64 r79.1.1, .int .i64 r79.1.2.1, .int .i64 r79.1.2.2.1, .int .u32 r79.1.2.2.2.1, .int .u64 r79.1.2.2.2.2.1, .int .u64 r79.1.2.2.2.2.2.1, .slice r79.1.2.2.2.2.2.2.1.a r79.1.2.2.2.2.2.2.1.n r79.1.2.2.2.2.2.2.1.c, .slice r79.1.2.2.2.2.2.2.2.1.a r79.1.2.2.2.2.2.2.2.1.n r79.1.2.2.2.2.2.2.2.1.c, .bool r79.1.2.2.2.2.2.2.2.2.1] fun w81 =>
  KeepOn D24 w23.drew w81 ∧
  JoinV [] (fun (v83 : Unit) w84 =>
  LoadS w84 ⟨b21, 6, none⟩ .sl fun (x85 : SlV) =>
  LoadS w84 ⟨b77, 6, none⟩ .sl fun (x86 : SlV) =>
  CallV Try.prog 19 #[.slice x85.a x85.n x85.c, .slice x86.a x86.n x86.c] w84 [.one .bool] fun (r87 : Bool × Unit) w88 =>
  cond r87.1
  (LoadS w88 ⟨b21, 7, none⟩ .sl fun (x89 : SlV) =>
  LoadS w88 ⟨b77, 7, none⟩ .sl fun (x90 : SlV) =>
  CallV Try.prog 19 #[.slice x89.a x89.n x89.c, .slice x90.a x90.n x90.c] w88 [.one .bool] fun (r91 : Bool × Unit) w92 =>
  cond r91.1
  ((0 ≤ (0 : Int) ∧ 0 < (2 : Int)) ∧
  LoadS w92 ⟨b5, 0, none⟩ .sl fun (x93 : SlV) =>
  cond (((x93.n : Nat) : Int) == 0)
  ((0 ≤ (1 : Int) ∧ 1 < (2 : Int)) ∧
  LoadS w92 ⟨b5, 1, none⟩ .sl fun (x94 : SlV) =>
  cond (((x94.n : Nat) : Int) == 0)
  (CallV Try.prog 18 #[] w92 [.one .bool] fun (r95 : Bool × Unit) w96 =>
  K (r95.1, ()) w96)
  (LoadS w92 ⟨b21, 7, none⟩ .sl fun (x97 : SlV) =>
  (0 ≤ (1 : Int) ∧ 1 < (2 : Int)) ∧
  LoadS w92 ⟨b5, 1, none⟩ .sl fun (x98 : SlV) =>
  CallV Try.prog 19 #[.slice x97.a x97.n x97.c, .slice x98.a x98.n x98.c] w92 [.one .bool] fun (r99 : Bool × Unit) w100 =>
  cond r99.1
  (CallV Try.prog 18 #[] w100 [.one .bool] fun (r101 : Bool × Unit) w102 =>
  K (r101.1, ()) w102)
  (K (false, ()) w100)))
  (LoadS w92 ⟨b21, 6, none⟩ .sl fun (x103 : SlV) =>
  (0 ≤ (0 : Int) ∧ 0 < (2 : Int)) ∧
  LoadS w92 ⟨b5, 0, none⟩ .sl fun (x104 : SlV) =>
  CallV Try.prog 19 #[.slice x103.a x103.n x103.c, .slice x104.a x104.n x104.c] w92 [.one .bool] fun (r105 : Bool × Unit) w106 =>
  cond r105.1
  ((0 ≤ (1 : Int) ∧ 1 < (2 : Int)) ∧
  LoadS w106 ⟨b5, 1, none⟩ .sl fun (x107 : SlV) =>
  cond (((x107.n : Nat) : Int) == 0)
  (CallV Try.prog 18 #[] w106 [.one .bool] fun (r108 : Bool × Unit) w109 =>
  K (r108.1, ()) w109)
  (LoadS w106 ⟨b21, 7, none⟩ .sl fun (x110 : SlV) =>
  (0 ≤ (1 : Int) ∧ 1 < (2 : Int)) ∧
  LoadS w106 ⟨b5, 1, none⟩ .sl fun (x111 : SlV) =>
  CallV Try.prog 19 #[.slice x110.a x110.n x110.c, .slice x111.a x111.n x111.c] w106 [.one .bool] fun (r112 : Bool × Unit) w113 =>
  cond r112.1
  (CallV Try.prog 18 #[] w113 [.one .bool] fun (r114 : Bool × Unit) w115 =>
  K (r114.1, ()) w115)
  (K (false, ()) w113)))
  (K (false, ()) w106)))
  (K (false, ()) w92))
  (K (false, ()) w88)) fun (J82 : Unit → World → Prop) =>
  cond (r19.2.1 != 0)
  (K (false, ()) w81)
  (cond (r79.2.1 != 0)
  (K (false, ()) w81)
  (LoadS w81 ⟨b21, 8, none⟩ .bool fun (x116 : Bool) =>
  cond x116
  (K (false, ()) w81)
  (LoadS w81 ⟨b77, 8, none⟩ .bool fun (x117 : Bool) =>
  cond (!x117)
  (K (false, ()) w81)
  (LoadA w81 ⟨b21, 0, none⟩ [.int .i64, .int .i64, .int .i64, .int .u32, .int .u64, .int .u64] fun (x118 : Int × Int × Int × Int × Int × Int × Unit) =>
  LoadA w81 ⟨b3, 0, none⟩ [.int .i64, .int .i64, .int .i64, .int .u32, .int .u64, .int .u64] fun (x119 : Int × Int × Int × Int × Int × Int × Unit) =>
  AggEq Try.prog 27 #[.int .i64 x118.1, .int .i64 x118.2.1, .int .i64 x118.2.2.1, .int .u32 x118.2.2.2.1, .int .u64 x118.2.2.2.2.1, .int .u64 x118.2.2.2.2.2.1] #[.int .i64 x119.1, .int .i64 x119.2.1, .int .i64 x119.2.2.1, .int .u32 x119.2.2.2.1, .int .u64 x119.2.2.2.2.1, .int .u64 x119.2.2.2.2.2.1] fun e120 =>
  cond (!e120)
  (K (false, ()) w81)
  (LoadA w81 ⟨b77, 0, none⟩ [.int .i64, .int .i64, .int .i64, .int .u32, .int .u64, .int .u64] fun (x121 : Int × Int × Int × Int × Int × Int × Unit) =>
  LoadA w81 ⟨b3, 0, none⟩ [.int .i64, .int .i64, .int .i64, .int .u32, .int .u64, .int .u64] fun (x122 : Int × Int × Int × Int × Int × Int × Unit) =>
  AggEq Try.prog 27 #[.int .i64 x121.1, .int .i64 x121.2.1, .int .i64 x121.2.2.1, .int .u32 x121.2.2.2.1, .int .u64 x121.2.2.2.2.1, .int .u64 x121.2.2.2.2.2.1] #[.int .i64 x122.1, .int .i64 x122.2.1, .int .i64 x122.2.2.1, .int .u32 x122.2.2.2.1, .int .u64 x122.2.2.2.2.1, .int .u64 x122.2.2.2.2.2.1] fun e123 =>
  cond (!e123)
  (K (false, ()) w81)
  (CallV Try.prog 25 #[.slice r11.1.a r11.1.n r11.1.c] w81 [.one .bool] fun (r124 : Bool × Unit) w125 =>
  cond r124.1
  (K (false, ()) w125)
  (J82 (()) w125)))))))))) ∧
  (NewV #[.int .i64 0, .int .i64 0, .int .i64 0, .int .u32 0, .int .u64 0, .int .u64 0, .slice none 0 0, .slice none 0 0, .bool false] 42 w23.drew fun b126 w127 =>
  KeepOn D24 w23.drew w127 ∧
  CallV Try.prog 30 #[.slice r11.1.a r11.1.n r11.1.c, .slice r16.1.a r16.1.n r16.1.c] w127 [.one .sl] fun (r128 : SlV × Unit) w129 =>
  KeepOn D24 w23.drew w129 ∧
  CallV Try.prog 23 #[.agg #[.int .i64 x25.1, .int .i64 x25.2.1, .int .i64 x25.2.2.1, .int .i64 x25.2.2.2.1, .int .i64 x25.2.2.2.2.1, .int .i64 x25.2.2.2.2.2.1], .slice r128.1.a r128.1.n r128.1.c] w129 [.agg [.int .i64, .int .i64, .int .i64, .int .u32, .int .u64, .int .u64, .sl, .sl, .bool], .one (.int .i64)] fun (r130 : (Int × Int × Int × Int × Int × Int × SlV × SlV × Bool × Unit) × Int × Unit) w131 =>
  KeepOn D24 w23.drew w131 ∧
  StoreV w131 ⟨b126, 0, none⟩ [.int .i64 r130.1.1, .int .i64 r130.1.2.1, .int .i64 r130.1.2.2.1, .int .u32 r130.1.2.2.2.1, .int .u64 r130.1.2.2.2.2.1, .int .u64 r130.1.2.2.2.2.2.1, .slice r130.1.2.2.2.2.2.2.1.a r130.1.2.2.2.2.2.2.1.n r130.1.2.2.2.2.2.2.1.c, .slice r130.1.2.2.2.2.2.2.2.1.a r130.1.2.2.2.2.2.2.2.1.n r130.1.2.2.2.2.2.2.2.1.c, .bool r130.1.2.2.2.2.2.2.2.2.1] fun w132 =>
  KeepOn D24 w23.drew w132 ∧
  JoinV [] (fun (v134 : Unit) w135 =>
  LoadS w135 ⟨b21, 6, none⟩ .sl fun (x136 : SlV) =>
  LoadS w135 ⟨b126, 6, none⟩ .sl fun (x137 : SlV) =>
  CallV Try.prog 19 #[.slice x136.a x136.n x136.c, .slice x137.a x137.n x137.c] w135 [.one .bool] fun (r138 : Bool × Unit) w139 =>
  cond r138.1
  (LoadS w139 ⟨b21, 7, none⟩ .sl fun (x140 : SlV) =>
  LoadS w139 ⟨b126, 7, none⟩ .sl fun (x141 : SlV) =>
  CallV Try.prog 19 #[.slice x140.a x140.n x140.c, .slice x141.a x141.n x141.c] w139 [.one .bool] fun (r142 : Bool × Unit) w143 =>
  cond r142.1
  ((0 ≤ (0 : Int) ∧ 0 < (2 : Int)) ∧
  LoadS w143 ⟨b5, 0, none⟩ .sl fun (x144 : SlV) =>
  cond (((x144.n : Nat) : Int) == 0)
  ((0 ≤ (1 : Int) ∧ 1 < (2 : Int)) ∧
  LoadS w143 ⟨b5, 1, none⟩ .sl fun (x145 : SlV) =>
  cond (((x145.n : Nat) : Int) == 0)
  (CallV Try.prog 18 #[] w143 [.one .bool] fun (r146 : Bool × Unit) w147 =>
  K (r146.1, ()) w147)
  (LoadS w143 ⟨b21, 7, none⟩ .sl fun (x148 : SlV) =>
  (0 ≤ (1 : Int) ∧ 1 < (2 : Int)) ∧
  LoadS w143 ⟨b5, 1, none⟩ .sl fun (x149 : SlV) =>
  CallV Try.prog 19 #[.slice x148.a x148.n x148.c, .slice x149.a x149.n x149.c] w143 [.one .bool] fun (r150 : Bool × Unit) w151 =>
  cond r150.1
  (CallV Try.prog 18 #[] w151 [.one .bool] fun (r152 : Bool × Unit) w153 =>
  K (r152.1, ()) w153)
  (K (false, ()) w151)))
  (LoadS w143 ⟨b21, 6, none⟩ .sl fun (x154 : SlV) =>
  (0 ≤ (0 : Int) ∧ 0 < (2 : Int)) ∧
  LoadS w143 ⟨b5, 0, none⟩ .sl fun (x155 : SlV) =>
  CallV Try.prog 19 #[.slice x154.a x154.n x154.c, .slice x155.a x155.n x155.c] w143 [.one .bool] fun (r156 : Bool × Unit) w157 =>
  cond r156.1
  ((0 ≤ (1 : Int) ∧ 1 < (2 : Int)) ∧
  LoadS w157 ⟨b5, 1, none⟩ .sl fun (x158 : SlV) =>
  cond (((x158.n : Nat) : Int) == 0)
  (CallV Try.prog 18 #[] w157 [.one .bool] fun (r159 : Bool × Unit) w160 =>
  K (r159.1, ()) w160)
  (LoadS w157 ⟨b21, 7, none⟩ .sl fun (x161 : SlV) =>
  (0 ≤ (1 : Int) ∧ 1 < (2 : Int)) ∧
  LoadS w157 ⟨b5, 1, none⟩ .sl fun (x162 : SlV) =>
  CallV Try.prog 19 #[.slice x161.a x161.n x161.c, .slice x162.a x162.n x162.c] w157 [.one .bool] fun (r163 : Bool × Unit) w164 =>
  cond r163.1
  (CallV Try.prog 18 #[] w164 [.one .bool] fun (r165 : Bool × Unit) w166 =>
  K (r165.1, ()) w166)
  (K (false, ()) w164)))
  (K (false, ()) w157)))
  (K (false, ()) w143))
  (K (false, ()) w139)) fun (J133 : Unit → World → Prop) =>
  cond (r19.2.1 != 0)
  (K (false, ()) w132)
  (cond (r130.2.1 != 0)
  (K (false, ()) w132)
  (LoadS w132 ⟨b21, 8, none⟩ .bool fun (x167 : Bool) =>
  cond x167
  (K (false, ()) w132)
  (LoadS w132 ⟨b126, 8, none⟩ .bool fun (x168 : Bool) =>
  cond (!x168)
  (K (false, ()) w132)
  (LoadA w132 ⟨b21, 0, none⟩ [.int .i64, .int .i64, .int .i64, .int .u32, .int .u64, .int .u64] fun (x169 : Int × Int × Int × Int × Int × Int × Unit) =>
  LoadA w132 ⟨b3, 0, none⟩ [.int .i64, .int .i64, .int .i64, .int .u32, .int .u64, .int .u64] fun (x170 : Int × Int × Int × Int × Int × Int × Unit) =>
  AggEq Try.prog 27 #[.int .i64 x169.1, .int .i64 x169.2.1, .int .i64 x169.2.2.1, .int .u32 x169.2.2.2.1, .int .u64 x169.2.2.2.2.1, .int .u64 x169.2.2.2.2.2.1] #[.int .i64 x170.1, .int .i64 x170.2.1, .int .i64 x170.2.2.1, .int .u32 x170.2.2.2.1, .int .u64 x170.2.2.2.2.1, .int .u64 x170.2.2.2.2.2.1] fun e171 =>
  cond (!e171)
  (K (false, ()) w132)
  (LoadA w132 ⟨b126, 0, none⟩ [.int .i64, .int .i64, .int .i64, .int .u32, .int .u64, .int .u64] fun (x172 : Int × Int × Int × Int × Int × Int × Unit) =>
  LoadA w132 ⟨b3, 0, none⟩ [.int .i64, .int .i64, .int .i64, .int .u32, .int .u64, .int .u64] fun (x173 : Int × Int × Int × Int × Int × Int × Unit) =>
  AggEq Try.prog 27 #[.int .i64 x172.1, .int .i64 x172.2.1, .int .i64 x172.2.2.1, .int .u32 x172.2.2.2.1, .int .u64 x172.2.2.2.2.1, .int .u64 x172.2.2.2.2.2.1] #[.int .i64 x173.1, .int .i64 x173.2.1, .int .i64 x173.2.2.1, .int .u32 x173.2.2.2.1, .int .u64 x173.2.2.2.2.1, .int .u64 x173.2.2.2.2.2.1] fun e174 =>
  cond (!e174)
  (K (false, ()) w132)
  (CallV Try.prog 25 #[.slice r11.1.a r11.1.n r11.1.c] w132 [.one .bool] fun (r175 : Bool × Unit) w176 =>
  cond r175.1
  (K (false, ()) w176)
  (J133 (()) w176))))))))))))
theorem law15_PageBack.vc (p0_0 : Int) (p0_1 : Int) (p0_2 : Int) (p0_3 : Int) (p0_4 : Int) (p0_5 : Int) (p1_0 : Int) (p1_1 : Int) (p1_2 : Int) (p1_3 : Int) (p1_4 : Int) (p1_5 : Int) (a2_0 : Option Addr) (n2_0 c2_0 : Nat) (a2_1 : Option Addr) (n2_1 c2_1 : Nat) (w : World) (K : Bool × Unit → World → Prop) (h : law15_PageBack.P p0_0 p0_1 p0_2 p0_3 p0_4 p0_5 p1_0 p1_1 p1_2 p1_3 p1_4 p1_5 a2_0 n2_0 c2_0 a2_1 n2_1 c2_1 w K) : CallV Try.prog 6 #[.agg #[.int .i64 p0_0, .int .i64 p0_1, .int .i64 p0_2, .int .i64 p0_3, .int .i64 p0_4, .int .i64 p0_5], .agg #[.int .i64 p1_0, .int .i64 p1_1, .int .i64 p1_2, .int .u32 p1_3, .int .u64 p1_4, .int .u64 p1_5], .agg #[.slice a2_0 n2_0 c2_0, .slice a2_1 n2_1 c2_1]] w [.one .bool] K := by
  have e : vcFun Try.prog okf false Try.f6 law15_PageBack.A #[.agg #[.int .i64 p0_0, .int .i64 p0_1, .int .i64 p0_2, .int .i64 p0_3, .int .i64 p0_4, .int .i64 p0_5], .agg #[.int .i64 p1_0, .int .i64 p1_1, .int .i64 p1_2, .int .u32 p1_3, .int .u64 p1_4, .int .u64 p1_5], .agg #[.slice a2_0 n2_0 c2_0, .slice a2_1 n2_1 c2_1]] w [.one .bool] K = law15_PageBack.P p0_0 p0_1 p0_2 p0_3 p0_4 p0_5 p1_0 p1_1 p1_2 p1_3 p1_4 p1_5 a2_0 n2_0 c2_0 a2_1 n2_1 c2_1 w K := by kernel_rfl
  exact vcFun.calls okf_ok follows Try.func6 (e.symm ▸ h)

end Go.Proofs.Ytfpkaebmiojicaa.Vc

/-! The laws PageMakes and PageBlank of layer 15: each call gives true, and what it read stays. -/
namespace Go.Proofs.Ytfpkaebmiojicaa.Vc
open Go Go.Eng Go.RowKit
set_option linter.unusedVariables false
set_option linter.unusedSimpArgs false

abbrev TTwo : Ty := .cons (.sl (.int .u8)) (.cons (.sl (.int .u8)) .nil)

theorem aw15 {w w' : World} (he : Ext w w') : CallV Try.prog 18 #[] w' [.one .bool] fun r w3 => r.1 = true ∧ Ext w w3 := awake15_c.mono fun r w3 ⟨h, e⟩ => ⟨h, he.trans e⟩

theorem PageMakes_law {w : World} {g : Geo} {h : Hd} {a a2 : Option Addr} {n c m c2 : Nat} {xs ts : List Int} (hg : h.rng) (hx : Ints w .u8 a n c xs) (ht : Ints w .u8 a2 m c2 ts) :
    CallV Try.prog 3 #[g.val, h.val, .agg #[.slice a n c, .slice a2 m c2]] w [.one .bool] fun r w' => r.1 = true ∧ Ext w w' := by
  apply law15_PageMakes.vc
  unfold law15_PageMakes.P
  have S := Sep.start NoB w
  (repeat ((first | refine S.newB fun _ _ S f _ => ?_ | refine S.la0 rfl ?_ | refine S.la1 rfl ?_ | refine S.la2 rfl ?_ | refine S.la3 rfl ?_ | refine S.la4 rfl ?_ | refine S.la5 rfl ?_ | refine S.ld0 rfl rfl ?_ | refine S.ld1 rfl rfl ?_ | refine S.ld2 rfl rfl ?_ | refine S.ld3 rfl rfl ?_ | refine S.ld4 rfl rfl ?_ | refine S.ld5 rfl rfl ?_ | refine S.st0 (by rfl) fun _ S f => ?_ | refine S.st1 (by rfl) fun _ S f => ?_ | refine S.st2 (by rfl) fun _ S f => ?_ | refine S.st3 (by rfl) fun _ S f => ?_ | refine S.st4 (by rfl) fun _ S f => ?_ | refine S.st5 (by rfl) fun _ S f => ?_ | refine S.su0 (by rfl) fun _ S f => ?_ | refine S.su1 (by rfl) fun _ S f => ?_ | refine S.su2 (by rfl) fun _ S f => ?_ | refine S.su3 (by rfl) fun _ S f => ?_ | refine S.su4 (by rfl) fun _ S f => ?_ | refine S.su5 (by rfl) fun _ S f => ?_ | refine ⟨by decide, ?_⟩); try dsimp only [List.set_cons_zero, List.set_cons_succ, cond_true, cond_false, Bool.not_true, Bool.not_false]))
  refine (Make_c (g := g) hg (hx.ext S.ext) (ht.ext S.ext)).mono ?_
  rintro ⟨⟨sa, sn, sc⟩, (e2 : Int), ⟨⟩⟩ w2 ⟨x2, h2, h2'⟩
  dsimp only at h2 h2' ⊢
  have S := S.stepE x2
  (repeat ((first | refine S.newB fun _ _ S f _ => ?_ | refine S.la0 rfl ?_ | refine S.la1 rfl ?_ | refine S.la2 rfl ?_ | refine S.la3 rfl ?_ | refine S.la4 rfl ?_ | refine S.la5 rfl ?_ | refine S.ld0 rfl rfl ?_ | refine S.ld1 rfl rfl ?_ | refine S.ld2 rfl rfl ?_ | refine S.ld3 rfl rfl ?_ | refine S.ld4 rfl rfl ?_ | refine S.ld5 rfl rfl ?_ | refine S.st0 (by rfl) fun _ S f => ?_ | refine S.st1 (by rfl) fun _ S f => ?_ | refine S.st2 (by rfl) fun _ S f => ?_ | refine S.st3 (by rfl) fun _ S f => ?_ | refine S.st4 (by rfl) fun _ S f => ?_ | refine S.st5 (by rfl) fun _ S f => ?_ | refine S.su0 (by rfl) fun _ S f => ?_ | refine S.su1 (by rfl) fun _ S f => ?_ | refine S.su2 (by rfl) fun _ S f => ?_ | refine S.su3 (by rfl) fun _ S f => ?_ | refine S.su4 (by rfl) fun _ S f => ?_ | refine S.su5 (by rfl) fun _ S f => ?_ | refine ⟨by decide, ?_⟩); try dsimp only [List.set_cons_zero, List.set_cons_succ, cond_true, cond_false, Bool.not_true, Bool.not_false]))
  refine (PCommit_c (g := g)).mono ?_
  rintro ⟨⟨ta, tn, tc⟩, (e3 : Int), ⟨⟩⟩ w3 ⟨x3, h3, h3'⟩
  dsimp only at h3 h3' ⊢
  have S := S.stepE x3
  (repeat ((first | refine S.newB fun _ _ S f _ => ?_ | refine S.la0 rfl ?_ | refine S.la1 rfl ?_ | refine S.la2 rfl ?_ | refine S.la3 rfl ?_ | refine S.la4 rfl ?_ | refine S.la5 rfl ?_ | refine S.ld0 rfl rfl ?_ | refine S.ld1 rfl rfl ?_ | refine S.ld2 rfl rfl ?_ | refine S.ld3 rfl rfl ?_ | refine S.ld4 rfl rfl ?_ | refine S.ld5 rfl rfl ?_ | refine S.st0 (by rfl) fun _ S f => ?_ | refine S.st1 (by rfl) fun _ S f => ?_ | refine S.st2 (by rfl) fun _ S f => ?_ | refine S.st3 (by rfl) fun _ S f => ?_ | refine S.st4 (by rfl) fun _ S f => ?_ | refine S.st5 (by rfl) fun _ S f => ?_ | refine S.su0 (by rfl) fun _ S f => ?_ | refine S.su1 (by rfl) fun _ S f => ?_ | refine S.su2 (by rfl) fun _ S f => ?_ | refine S.su3 (by rfl) fun _ S f => ?_ | refine S.su4 (by rfl) fun _ S f => ?_ | refine S.su5 (by rfl) fun _ S f => ?_ | refine ⟨by decide, ?_⟩); try dsimp only [List.set_cons_zero, List.set_cons_succ, cond_true, cond_false, Bool.not_true, Bool.not_false]))
  refine (Right_c (g := g)).mono ?_
  rintro ⟨(r4 : Bool), ⟨⟩⟩ w4 ⟨h4, x4⟩
  dsimp only at h4 ⊢
  subst h4
  have S := S.stepE x4
  by_cases hR : Right g
  case neg =>
    obtain ⟨k1, k2⟩ := h2' (fun hp => hR hp.1)
    obtain ⟨m1, m2⟩ := h3' hR
    cases k1; cases m1
    subst k2; subst m2
    refine cond_t (by rw [decide_eq_false hR]; rfl) (cond_t rfl (cond_t rfl ⟨Rng.i64 (by decide) (by decide), cond_t rfl (aw15 S.ext)⟩))
  obtain ⟨m1, m2⟩ := h3 hR
  subst m2
  refine cond_f (by rw [decide_eq_true hR]; rfl) (cond_f rfl ?_)
  (repeat ((first | refine S.newB fun _ _ S f _ => ?_ | refine S.la0 rfl ?_ | refine S.la1 rfl ?_ | refine S.la2 rfl ?_ | refine S.la3 rfl ?_ | refine S.la4 rfl ?_ | refine S.la5 rfl ?_ | refine S.ld0 rfl rfl ?_ | refine S.ld1 rfl rfl ?_ | refine S.ld2 rfl rfl ?_ | refine S.ld3 rfl rfl ?_ | refine S.ld4 rfl rfl ?_ | refine S.ld5 rfl rfl ?_ | refine S.st0 (by rfl) fun _ S f => ?_ | refine S.st1 (by rfl) fun _ S f => ?_ | refine S.st2 (by rfl) fun _ S f => ?_ | refine S.st3 (by rfl) fun _ S f => ?_ | refine S.st4 (by rfl) fun _ S f => ?_ | refine S.st5 (by rfl) fun _ S f => ?_ | refine S.su0 (by rfl) fun _ S f => ?_ | refine S.su1 (by rfl) fun _ S f => ?_ | refine S.su2 (by rfl) fun _ S f => ?_ | refine S.su3 (by rfl) fun _ S f => ?_ | refine S.su4 (by rfl) fun _ S f => ?_ | refine S.su5 (by rfl) fun _ S f => ?_ | refine ⟨by decide, ?_⟩); try dsimp only [List.set_cons_zero, List.set_cons_succ, cond_true, cond_false, Bool.not_true, Bool.not_false]))
  refine (rCommit15_c hR).mono ?_
  rintro ⟨(s5 : SlV), ⟨⟩⟩ w5 h5
  dsimp only at h5 ⊢
  have S := S.stepE h5.ext
  refine (SameBytes_c (m1.ints.ext (x4.trans h5.ext)) h5.ints).mono ?_
  rintro ⟨(r6 : Bool), ⟨⟩⟩ w6 ⟨h6, x6⟩
  dsimp only at h6 ⊢
  subst h6
  have S := S.stepE x6
  refine cond_f (by simp) ?_
  (repeat ((first | refine S.newB fun _ _ S f _ => ?_ | refine S.la0 rfl ?_ | refine S.la1 rfl ?_ | refine S.la2 rfl ?_ | refine S.la3 rfl ?_ | refine S.la4 rfl ?_ | refine S.la5 rfl ?_ | refine S.ld0 rfl rfl ?_ | refine S.ld1 rfl rfl ?_ | refine S.ld2 rfl rfl ?_ | refine S.ld3 rfl rfl ?_ | refine S.ld4 rfl rfl ?_ | refine S.ld5 rfl rfl ?_ | refine S.st0 (by rfl) fun _ S f => ?_ | refine S.st1 (by rfl) fun _ S f => ?_ | refine S.st2 (by rfl) fun _ S f => ?_ | refine S.st3 (by rfl) fun _ S f => ?_ | refine S.st4 (by rfl) fun _ S f => ?_ | refine S.st5 (by rfl) fun _ S f => ?_ | refine S.su0 (by rfl) fun _ S f => ?_ | refine S.su1 (by rfl) fun _ S f => ?_ | refine S.su2 (by rfl) fun _ S f => ?_ | refine S.su3 (by rfl) fun _ S f => ?_ | refine S.su4 (by rfl) fun _ S f => ?_ | refine S.su5 (by rfl) fun _ S f => ?_ | refine ⟨by decide, ?_⟩); try dsimp only [List.set_cons_zero, List.set_cons_succ, cond_true, cond_false, Bool.not_true, Bool.not_false]))
  refine (rRight15_c (g := g) (h := h)).mono ?_
  rintro ⟨(r7 : Bool), ⟨⟩⟩ w7 ⟨h7, x7⟩
  dsimp only at h7 ⊢
  subst h7
  have S := S.stepE x7
  by_cases hP : PRight g h n m
  case neg =>
    obtain ⟨k1, k2⟩ := h2' hP
    cases k1
    subst k2
    exact cond_t (by rw [decide_eq_false hP]; rfl) (cond_t rfl (cond_t rfl (aw15 S.ext)))
  obtain ⟨k1, k2⟩ := h2 hP
  subst k2
  refine cond_f (by rw [decide_eq_true hP]; rfl) (cond_t rfl ?_)
  (repeat ((first | refine S.newB fun _ _ S f _ => ?_ | refine S.la0 rfl ?_ | refine S.la1 rfl ?_ | refine S.la2 rfl ?_ | refine S.la3 rfl ?_ | refine S.la4 rfl ?_ | refine S.la5 rfl ?_ | refine S.ld0 rfl rfl ?_ | refine S.ld1 rfl rfl ?_ | refine S.ld2 rfl rfl ?_ | refine S.ld3 rfl rfl ?_ | refine S.ld4 rfl rfl ?_ | refine S.ld5 rfl rfl ?_ | refine S.st0 (by rfl) fun _ S f => ?_ | refine S.st1 (by rfl) fun _ S f => ?_ | refine S.st2 (by rfl) fun _ S f => ?_ | refine S.st3 (by rfl) fun _ S f => ?_ | refine S.st4 (by rfl) fun _ S f => ?_ | refine S.st5 (by rfl) fun _ S f => ?_ | refine S.su0 (by rfl) fun _ S f => ?_ | refine S.su1 (by rfl) fun _ S f => ?_ | refine S.su2 (by rfl) fun _ S f => ?_ | refine S.su3 (by rfl) fun _ S f => ?_ | refine S.su4 (by rfl) fun _ S f => ?_ | refine S.su5 (by rfl) fun _ S f => ?_ | refine ⟨by decide, ?_⟩); try dsimp only [List.set_cons_zero, List.set_cons_succ, cond_true, cond_false, Bool.not_true, Bool.not_false]))
  refine (rMake_c hg (hx.ext S.ext) (ht.ext S.ext) hP).mono ?_
  rintro ⟨(s8 : SlV), ⟨⟩⟩ w8 h8
  dsimp only at h8 ⊢
  refine (SameBytes_c (k1.ints.ext (x3.trans (x4.trans (h5.ext.trans (x6.trans (x7.trans h8.ext)))))) h8.ints).mono ?_
  rintro ⟨(r9 : Bool), ⟨⟩⟩ w9 ⟨h9, x9⟩
  dsimp only at h9 ⊢
  subst h9
  exact cond_t (by simp) (aw15 (S.ext.trans (h8.ext.trans x9)))

theorem PageMakes_of {w : World} {x : TGeo.T} {y : THd.T} {z : TTwo.T} (g0 : TGeo.ok w x) (g1 : THd.ok w y) (g2 : TTwo.ok w z) :
    CallV Try.prog 3 #[.agg (TGeo.vs x).toArray, .agg (THd.vs y).toArray, .agg (TTwo.vs z).toArray] w [.one .bool] fun r w' => r.1 = true ∧ Ext w w' := by
  rw [geoT_val, hdT_val]
  exact PageMakes_law (hdT_rng g1) (Ty.ints (Ty.rd_of _ g2.1)) (Ty.ints (Ty.rd_of _ g2.2.1))

theorem blank_ok {n : Nat} (h : 0 < n) : ¬ okR (List.replicate n 255) := fun hh => by
  have := hh.1.2
  rw [getD_get (by simpa using h), List.getElem_replicate] at this
  omega
theorem endP_rep {g : Geo} {n : Nat} (x : Int) : endP g (List.replicate n x) = List.replicate (n - g.s.toNat) x := by unfold endP; rw [List.drop_replicate]

theorem PageBlank_law {w : World} {g : Geo} {kind : Int} : CallV Try.prog 5 #[g.val, .int .i64 kind] w [.one .bool] fun r w' => r.1 = true ∧ Ext w w' := by
  apply law15_PageBlank.vc
  unfold law15_PageBlank.P
  have S := Sep.start NoB w
  (repeat ((first | refine S.newB fun _ _ S f _ => ?_ | refine S.la0 rfl ?_ | refine S.la1 rfl ?_ | refine S.la2 rfl ?_ | refine S.la3 rfl ?_ | refine S.la4 rfl ?_ | refine S.la5 rfl ?_ | refine S.ld0 rfl rfl ?_ | refine S.ld1 rfl rfl ?_ | refine S.ld2 rfl rfl ?_ | refine S.ld3 rfl rfl ?_ | refine S.ld4 rfl rfl ?_ | refine S.ld5 rfl rfl ?_ | refine S.st0 (by rfl) fun _ S f => ?_ | refine S.st1 (by rfl) fun _ S f => ?_ | refine S.st2 (by rfl) fun _ S f => ?_ | refine S.st3 (by rfl) fun _ S f => ?_ | refine S.st4 (by rfl) fun _ S f => ?_ | refine S.st5 (by rfl) fun _ S f => ?_ | refine S.su0 (by rfl) fun _ S f => ?_ | refine S.su1 (by rfl) fun _ S f => ?_ | refine S.su2 (by rfl) fun _ S f => ?_ | refine S.su3 (by rfl) fun _ S f => ?_ | refine S.su4 (by rfl) fun _ S f => ?_ | refine S.su5 (by rfl) fun _ S f => ?_ | refine ⟨by decide, ?_⟩); try dsimp only [List.set_cons_zero, List.set_cons_succ, cond_true, cond_false, Bool.not_true, Bool.not_false]))
  refine (Right_c (g := g)).mono ?_
  rintro ⟨(r4 : Bool), ⟨⟩⟩ w4 ⟨h4, x4⟩
  dsimp only at h4 ⊢
  subst h4
  have S := S.stepE x4
  by_cases hR : Right g
  case neg => exact cond_t (by rw [decide_eq_false hR]; rfl) (aw15 S.ext)
  refine cond_f (by rw [decide_eq_true hR]; rfl) ?_
  have hs := hR.sec
  (repeat ((first | refine S.newB fun _ _ S f _ => ?_ | refine S.la0 rfl ?_ | refine S.la1 rfl ?_ | refine S.la2 rfl ?_ | refine S.la3 rfl ?_ | refine S.la4 rfl ?_ | refine S.la5 rfl ?_ | refine S.ld0 rfl rfl ?_ | refine S.ld1 rfl rfl ?_ | refine S.ld2 rfl rfl ?_ | refine S.ld3 rfl rfl ?_ | refine S.ld4 rfl rfl ?_ | refine S.ld5 rfl rfl ?_ | refine S.st0 (by rfl) fun _ S f => ?_ | refine S.st1 (by rfl) fun _ S f => ?_ | refine S.st2 (by rfl) fun _ S f => ?_ | refine S.st3 (by rfl) fun _ S f => ?_ | refine S.st4 (by rfl) fun _ S f => ?_ | refine S.st5 (by rfl) fun _ S f => ?_ | refine S.su0 (by rfl) fun _ S f => ?_ | refine S.su1 (by rfl) fun _ S f => ?_ | refine S.su2 (by rfl) fun _ S f => ?_ | refine S.su3 (by rfl) fun _ S f => ?_ | refine S.su4 (by rfl) fun _ S f => ?_ | refine S.su5 (by rfl) fun _ S f => ?_ | refine ⟨by decide, ?_⟩); try dsimp only [List.set_cons_zero, List.set_cons_succ, cond_true, cond_false, Bool.not_true, Bool.not_false]))
  refine ⟨Rng.i64 (by omega) (by omega), ?_⟩
  refine rFill_c.mono ?_
  rintro ⟨⟨sa, sn, sc⟩, ⟨⟩⟩ w3 h3
  dsimp only at h3 ⊢
  have hf : (max 0 (min (65536 : Int) (g.s + 88))).toNat = (g.s + 88).toNat := by generalize hL : (65536 : Int) = L; omega
  rw [hf] at h3
  have S := S.stepE h3.ext
  have hb : Byt (List.replicate (g.s + 88).toNat (255 : Int)) := Byt.replicate (by omega) (by omega) _
  have hL : lenP g (List.replicate (g.s + 88).toNat (255 : Int)) := ⟨hR, by rw [List.length_replicate]; omega⟩
  have hO : ¬ okR (endP g (List.replicate (g.s + 88).toNat (255 : Int))) := by rw [endP_rep]; exact blank_ok (by omega)
  have i3 := h3.ints
  dsimp only at i3
  (repeat ((first | refine S.newB fun _ _ S f _ => ?_ | refine S.la0 rfl ?_ | refine S.la1 rfl ?_ | refine S.la2 rfl ?_ | refine S.la3 rfl ?_ | refine S.la4 rfl ?_ | refine S.la5 rfl ?_ | refine S.ld0 rfl rfl ?_ | refine S.ld1 rfl rfl ?_ | refine S.ld2 rfl rfl ?_ | refine S.ld3 rfl rfl ?_ | refine S.ld4 rfl rfl ?_ | refine S.ld5 rfl rfl ?_ | refine S.st0 (by rfl) fun _ S f => ?_ | refine S.st1 (by rfl) fun _ S f => ?_ | refine S.st2 (by rfl) fun _ S f => ?_ | refine S.st3 (by rfl) fun _ S f => ?_ | refine S.st4 (by rfl) fun _ S f => ?_ | refine S.st5 (by rfl) fun _ S f => ?_ | refine S.su0 (by rfl) fun _ S f => ?_ | refine S.su1 (by rfl) fun _ S f => ?_ | refine S.su2 (by rfl) fun _ S f => ?_ | refine S.su3 (by rfl) fun _ S f => ?_ | refine S.su4 (by rfl) fun _ S f => ?_ | refine S.su5 (by rfl) fun _ S f => ?_ | refine ⟨by decide, ?_⟩); try dsimp only [List.set_cons_zero, List.set_cons_succ, cond_true, cond_false, Bool.not_true, Bool.not_false]))
  refine (PRead_c (g := g) i3 hb).mono ?_
  rintro ⟨⟨(k1 : Int), (k2 : Int), (k3 : Int), (k4 : Int), (k5 : Int), (k6 : Int), ⟨ua, un, uc⟩, ⟨ta, tn, tc⟩, (d : Bool), ⟨⟩⟩, (e2 : Int), ⟨⟩⟩ w5 ⟨x5, -, h5, -⟩
  obtain ⟨-, h5⟩ := h5 hL hO
  dsimp only at h5 ⊢
  subst h5
  have S := S.stepE x5
  refine S.newB fun _ w6 S f6 _ => ?_
  refine S.st0 (by rfl) fun w7 S f7 => ?_
  have X7 : Ext w3 w7 := x5.trans (Fr.ext (f6.trans' f7 fun k hk => .inr (by omega)))
  (repeat ((first | refine S.newB fun _ _ S f _ => ?_ | refine S.la0 rfl ?_ | refine S.la1 rfl ?_ | refine S.la2 rfl ?_ | refine S.la3 rfl ?_ | refine S.la4 rfl ?_ | refine S.la5 rfl ?_ | refine S.ld0 rfl rfl ?_ | refine S.ld1 rfl rfl ?_ | refine S.ld2 rfl rfl ?_ | refine S.ld3 rfl rfl ?_ | refine S.ld4 rfl rfl ?_ | refine S.ld5 rfl rfl ?_ | refine S.st0 (by rfl) fun _ S f => ?_ | refine S.st1 (by rfl) fun _ S f => ?_ | refine S.st2 (by rfl) fun _ S f => ?_ | refine S.st3 (by rfl) fun _ S f => ?_ | refine S.st4 (by rfl) fun _ S f => ?_ | refine S.st5 (by rfl) fun _ S f => ?_ | refine S.su0 (by rfl) fun _ S f => ?_ | refine S.su1 (by rfl) fun _ S f => ?_ | refine S.su2 (by rfl) fun _ S f => ?_ | refine S.su3 (by rfl) fun _ S f => ?_ | refine S.su4 (by rfl) fun _ S f => ?_ | refine S.su5 (by rfl) fun _ S f => ?_ | refine ⟨by decide, ?_⟩); try dsimp only [List.set_cons_zero, List.set_cons_succ, cond_true, cond_false, Bool.not_true, Bool.not_false]))
  refine (PDone_c (g := g) (kind := kind) (i3.ext X7) hb).mono ?_
  rintro ⟨⟨(k1 : Int), (k2 : Int), (k3 : Int), (k4 : Int), (k5 : Int), (k6 : Int), ⟨ua, un, uc⟩, ⟨ta, tn, tc⟩, (d : Bool), ⟨⟩⟩, (o : Bool), ⟨⟩⟩ w8 ⟨x8, h8, -⟩
  obtain ⟨-, h8⟩ := h8 (fun h => hO h.2.1)
  dsimp only at h8 ⊢
  subst h8
  have S := S.stepE x8
  refine S.newB fun _ w9 S f9 _ => ?_
  refine S.st0 (by rfl) fun w10 S f10 => ?_
  have X10 : Ext w3 w10 := X7.trans (x8.trans (Fr.ext (f9.trans' f10 fun k hk => .inr (by omega))))
  refine cond_t rfl (cond_t rfl ?_)
  refine (Blank_c (i3.ext X10) hb).mono ?_
  rintro ⟨(r3 : Bool), ⟨⟩⟩ w3 ⟨h3, rfl⟩
  dsimp only at h3 ⊢
  exact cond_t (by rw [h3, List.length_replicate]; simp) (aw15 S.ext)

theorem PageBlank_of {w : World} {x : TGeo.T} {kind : Int} (g0 : TGeo.ok w x) (g1 : Rng .i64 kind) : CallV Try.prog 5 #[.agg (TGeo.vs x).toArray, .int .i64 kind] w [.one .bool] fun r w' => r.1 = true ∧ Ext w w' := by
  rw [geoT_val]
  exact PageBlank_law

end Go.Proofs.Ytfpkaebmiojicaa.Vc

/-! The law PageReads of layer 15: each call gives true, and what it read stays. -/
namespace Go.Proofs.Ytfpkaebmiojicaa.Vc
open Go Go.Eng Go.RowKit
set_option linter.unusedVariables false
set_option linter.unusedSimpArgs false

structure PgS where
  h : Hd
  d : Bool
  x : List Int
  t : List Int
abbrev zS : PgS := ⟨zeroH, false, [], []⟩
abbrev fS (g : Geo) (xs : List Int) : PgS := ⟨hdOf (endP g xs), comm (endP g xs), pays g xs, tags g xs⟩
def pSpec (g : Geo) (xs : List Int) : PgS := if lenP g xs ∧ okR (endP g xs) then fS g xs else zS
def dOk (g : Geo) (xs : List Int) (kind : Int) : Prop := lenP g xs ∧ okR (endP g xs) ∧ comm (endP g xs) = true ∧ (hdOf (endP g xs)).k = kind
instance (g : Geo) (xs : List Int) (kind : Int) : Decidable (dOk g xs kind) := by unfold dOk; infer_instance
def dSpec (g : Geo) (xs : List Int) (kind : Int) : PgS := if dOk g xs kind then fS g xs else zS
def rdE (g : Geo) (xs : List Int) : Int := if lenP g xs then (if okR (endP g xs) then 0 else 1) else 2
/-- A told page in memory. -/
def PgM (w : World) (p : PgS) (q : PgT) : Prop := ∃ s t : SlV, q = pgT p.h s t p.d ∧ Ints w .u8 s.a s.n s.c p.x ∧ Ints w .u8 t.a t.n t.c p.t
def PgN (w : World) (p : PgS) (o : Bool) (q : PgU) : Prop := ∃ s t : SlV, q = (p.h.k, p.h.n, p.h.c, p.h.l, p.h.e, p.h.t, s, t, p.d, o, ()) ∧ Ints w .u8 s.a s.n s.c p.x ∧ Ints w .u8 t.a t.n t.c p.t

theorem PgM.zero {w : World} : PgM w zS zPg := ⟨⟨none, 0, 0⟩, ⟨none, 0, 0⟩, rfl, intsNil, intsNil⟩
theorem PgM.is {w w' : World} {g : Geo} {xs : List Int} {q : PgT} (h : PgIs w w' g xs q) : PgM w' (fS g xs) q := by
  obtain ⟨s, t, h1, _, _, T⟩ := h
  exact ⟨s, t, h1, T.in0, T.in1⟩
theorem PReadU_c {w : World} {g : Geo} {a : Option Addr} {n c : Nat} {xs : List Int} (hx : Ints w .u8 a n c xs) (bx : Byt xs) :
    CallV Try.prog 23 #[g.val, .slice a n c] w [.agg [.int .i64, .int .i64, .int .i64, .int .u32, .int .u64, .int .u64, .sl, .sl, .bool], .one (.int .i64)] fun r w' => Ext w w' ∧ r.2.1 = rdE g xs ∧ PgM w' (pSpec g xs) r.1 := by
  refine (PRead_c hx bx).mono ?_
  rintro r w' ⟨e, h1, h2, h3⟩
  unfold rdE pSpec
  by_cases hL : lenP g xs
  · by_cases hO : okR (endP g xs)
    · rw [if_pos hL, if_pos hO, if_pos ⟨hL, hO⟩]
      exact ⟨e, (h3 hL hO).1, .is (h3 hL hO).2⟩
    · rw [if_pos hL, if_neg hO, if_neg fun h => hO h.2, (h2 hL hO).1]
      exact ⟨e, (h2 hL hO).2, .zero⟩
  · rw [if_neg hL, if_neg fun h => hL h.1, (h1 hL).1]
    exact ⟨e, (h1 hL).2, .zero⟩
theorem PDoneU_c {w : World} {g : Geo} {a : Option Addr} {n c : Nat} {kind : Int} {xs : List Int} (hx : Ints w .u8 a n c xs) (bx : Byt xs) :
    CallV Try.prog 24 #[g.val, .slice a n c, .int .i64 kind] w [.agg [.int .i64, .int .i64, .int .i64, .int .u32, .int .u64, .int .u64, .sl, .sl, .bool], .one .bool] fun r w' => Ext w w' ∧ r.2.1 = decide (dOk g xs kind) ∧ PgM w' (dSpec g xs kind) r.1 := by
  refine (PDone_c hx bx).mono ?_
  rintro r w' ⟨e, h1, h2⟩
  unfold dSpec
  by_cases h : dOk g xs kind
  · rw [if_pos h, decide_eq_true h]
    exact ⟨e, (h2 h).1, .is (h2 h).2⟩
  · rw [if_neg h, decide_eq_false h, (h1 h).1]
    exact ⟨e, (h1 h).2, .zero⟩
theorem rPReadU_c {w0 w : World} {g : Geo} {a : Option Addr} {n c : Nat} {xs : List Int} (hx : Ints w0 .u8 a n c xs) (e0 : Ext w0 w) (bx : Byt xs) (hL : lenP g xs) :
    CallV Try.prog 28 #[g.val, .slice a n c] w [.agg [.int .i64, .int .i64, .int .i64, .int .u32, .int .u64, .int .u64, .sl, .sl, .bool, .bool]] fun r w' => Ext w w' ∧ PgN w0 (pSpec g xs) (decide (okR (endP g xs))) r.1 := by
  refine (rPRead_c hx e0 bx hL).mono ?_
  rintro r w' ⟨e, h1, h2⟩
  unfold pSpec
  by_cases h : okR (endP g xs)
  · rw [if_pos ⟨hL, h⟩, decide_eq_true h]
    exact ⟨e, h2 h⟩
  · rw [if_neg fun hh => h hh.2, decide_eq_false h, h1 h]
    exact ⟨e, ⟨none, 0, 0⟩, ⟨none, 0, 0⟩, rfl, intsNil, intsNil⟩
theorem rPDoneU_c {w0 w : World} {g : Geo} {a : Option Addr} {n c : Nat} {kind : Int} {xs : List Int} (hx : Ints w0 .u8 a n c xs) (e0 : Ext w0 w) (bx : Byt xs) (hL : lenP g xs) :
    CallV Try.prog 29 #[g.val, .slice a n c, .int .i64 kind] w [.agg [.int .i64, .int .i64, .int .i64, .int .u32, .int .u64, .int .u64, .sl, .sl, .bool, .bool]] fun r w' => Ext w w' ∧ PgN w0 (dSpec g xs kind) (decide (dOk g xs kind)) r.1 := by
  refine (rPDone_c hx e0 bx hL).mono ?_
  rintro r w' ⟨e, h1, h2⟩
  unfold dSpec
  by_cases h : dOk g xs kind
  · rw [if_pos h, decide_eq_true h]
    exact ⟨e, h2 h.2⟩
  · rw [if_neg h, decide_eq_false h, h1 fun hh => h ⟨hL, hh⟩]
    exact ⟨e, ⟨none, 0, 0⟩, ⟨none, 0, 0⟩, rfl, intsNil, intsNil⟩

theorem PageReads_law {w : World} {g : Geo} {a : Option Addr} {n c : Nat} {kind : Int} {xs : List Int} (hx : Ints w .u8 a n c xs) (bx : Byt xs) :
    CallV Try.prog 4 #[g.val, .slice a n c, .int .i64 kind] w [.one .bool] fun r w' => r.1 = true ∧ Ext w w' := by
  apply law15_PageReads.vc
  unfold law15_PageReads.P
  have lx := hx.len
  have S := Sep.start NoB w
  (repeat ((first | refine S.newB fun _ _ S f _ => ?_ | refine S.la0 rfl ?_ | refine S.la1 rfl ?_ | refine S.la2 rfl ?_ | refine S.la3 rfl ?_ | refine S.la4 rfl ?_ | refine S.la5 rfl ?_ | refine S.ld0 rfl rfl ?_ | refine S.ld1 rfl rfl ?_ | refine S.ld2 rfl rfl ?_ | refine S.ld3 rfl rfl ?_ | refine S.ld4 rfl rfl ?_ | refine S.ld5 rfl rfl ?_ | refine S.st0 (by rfl) fun _ S f => ?_ | refine S.st1 (by rfl) fun _ S f => ?_ | refine S.st2 (by rfl) fun _ S f => ?_ | refine S.st3 (by rfl) fun _ S f => ?_ | refine S.st4 (by rfl) fun _ S f => ?_ | refine S.st5 (by rfl) fun _ S f => ?_ | refine S.su0 (by rfl) fun _ S f => ?_ | refine S.su1 (by rfl) fun _ S f => ?_ | refine S.su2 (by rfl) fun _ S f => ?_ | refine S.su3 (by rfl) fun _ S f => ?_ | refine S.su4 (by rfl) fun _ S f => ?_ | refine S.su5 (by rfl) fun _ S f => ?_ | refine ⟨by decide, ?_⟩); try dsimp only [List.set_cons_zero, List.set_cons_succ, cond_true, cond_false, Bool.not_true, Bool.not_false]))
  refine cond_d (fun _ => aw15 S.ext) (fun hn => ?_)
  (repeat ((first | refine S.newB fun _ _ S f _ => ?_ | refine S.la0 rfl ?_ | refine S.la1 rfl ?_ | refine S.la2 rfl ?_ | refine S.la3 rfl ?_ | refine S.la4 rfl ?_ | refine S.la5 rfl ?_ | refine S.ld0 rfl rfl ?_ | refine S.ld1 rfl rfl ?_ | refine S.ld2 rfl rfl ?_ | refine S.ld3 rfl rfl ?_ | refine S.ld4 rfl rfl ?_ | refine S.ld5 rfl rfl ?_ | refine S.st0 (by rfl) fun _ S f => ?_ | refine S.st1 (by rfl) fun _ S f => ?_ | refine S.st2 (by rfl) fun _ S f => ?_ | refine S.st3 (by rfl) fun _ S f => ?_ | refine S.st4 (by rfl) fun _ S f => ?_ | refine S.st5 (by rfl) fun _ S f => ?_ | refine S.su0 (by rfl) fun _ S f => ?_ | refine S.su1 (by rfl) fun _ S f => ?_ | refine S.su2 (by rfl) fun _ S f => ?_ | refine S.su3 (by rfl) fun _ S f => ?_ | refine S.su4 (by rfl) fun _ S f => ?_ | refine S.su5 (by rfl) fun _ S f => ?_ | refine ⟨by decide, ?_⟩); try dsimp only [List.set_cons_zero, List.set_cons_succ, cond_true, cond_false, Bool.not_true, Bool.not_false]))
  refine (PReadU_c (g := g) (hx.ext S.ext) bx).mono ?_
  rintro ⟨⟨(k1 : Int), (k2 : Int), (k3 : Int), (k4 : Int), (k5 : Int), (k6 : Int), ⟨ua, un, uc⟩, ⟨ta, tn, tc⟩, (d : Bool), ⟨⟩⟩, (e2 : Int), ⟨⟩⟩ w2 ⟨x2, h2, s, t, q, is, it⟩
  dsimp only at h2 q ⊢
  cases q
  dsimp only at is it
  have S := S.stepE x2
  refine S.newB fun _ w3 S f3 _ => ?_
  refine S.st0 (by rfl) fun w4 S f4 => ?_
  have X4 : Ext w2 w4 := Fr.ext (f3.trans' f4 fun k hk => .inr (by omega))
  (repeat ((first | refine S.newB fun _ _ S f _ => ?_ | refine S.la0 rfl ?_ | refine S.la1 rfl ?_ | refine S.la2 rfl ?_ | refine S.la3 rfl ?_ | refine S.la4 rfl ?_ | refine S.la5 rfl ?_ | refine S.ld0 rfl rfl ?_ | refine S.ld1 rfl rfl ?_ | refine S.ld2 rfl rfl ?_ | refine S.ld3 rfl rfl ?_ | refine S.ld4 rfl rfl ?_ | refine S.ld5 rfl rfl ?_ | refine S.st0 (by rfl) fun _ S f => ?_ | refine S.st1 (by rfl) fun _ S f => ?_ | refine S.st2 (by rfl) fun _ S f => ?_ | refine S.st3 (by rfl) fun _ S f => ?_ | refine S.st4 (by rfl) fun _ S f => ?_ | refine S.st5 (by rfl) fun _ S f => ?_ | refine S.su0 (by rfl) fun _ S f => ?_ | refine S.su1 (by rfl) fun _ S f => ?_ | refine S.su2 (by rfl) fun _ S f => ?_ | refine S.su3 (by rfl) fun _ S f => ?_ | refine S.su4 (by rfl) fun _ S f => ?_ | refine S.su5 (by rfl) fun _ S f => ?_ | refine ⟨by decide, ?_⟩); try dsimp only [List.set_cons_zero, List.set_cons_succ, cond_true, cond_false, Bool.not_true, Bool.not_false]))
  refine (PDoneU_c (g := g) (kind := kind) (hx.ext S.ext) bx).mono ?_
  rintro ⟨⟨(k1 : Int), (k2 : Int), (k3 : Int), (k4 : Int), (k5 : Int), (k6 : Int), ⟨va, vn, vc⟩, ⟨za, zn, zc⟩, (d : Bool), ⟨⟩⟩, (o : Bool), ⟨⟩⟩ w5 ⟨x5, h5, s5, t5, q5, is5, it5⟩
  dsimp only at h5 q5 ⊢
  cases q5
  dsimp only at is5 it5
  have S := S.stepE x5
  refine S.newB fun _ w6 S f6 _ => ?_
  refine S.st0 (by rfl) fun w7 S f7 => ?_
  have X7 : Ext w5 w7 := Fr.ext (f6.trans' f7 fun k hk => .inr (by omega))
  refine (Blank_c (hx.ext S.ext) bx).mono ?_
  rintro ⟨(r8 : Bool), ⟨⟩⟩ w8 ⟨h8, rfl⟩
  dsimp only at h8 ⊢
  refine rFill_c.mono ?_
  rintro ⟨(s9 : SlV), ⟨⟩⟩ w9 h9
  dsimp only at h9 ⊢
  have hf : (max 0 (min (65536 : Int) ((n : Nat) : Int))).toNat = n := by generalize hL : (65536 : Int) = L; omega
  rw [hf] at h9
  have S := S.stepE h9.ext
  refine (SameBytes_c (hx.ext S.ext) h9.ints).mono ?_
  rintro ⟨(r10 : Bool), ⟨⟩⟩ w10 ⟨h10, x10⟩
  dsimp only at h10 ⊢
  have S := S.stepE x10
  refine cond_f (by rw [h8, h10, lx]; simp) ?_
  (repeat ((first | refine S.newB fun _ _ S f _ => ?_ | refine S.la0 rfl ?_ | refine S.la1 rfl ?_ | refine S.la2 rfl ?_ | refine S.la3 rfl ?_ | refine S.la4 rfl ?_ | refine S.la5 rfl ?_ | refine S.ld0 rfl rfl ?_ | refine S.ld1 rfl rfl ?_ | refine S.ld2 rfl rfl ?_ | refine S.ld3 rfl rfl ?_ | refine S.ld4 rfl rfl ?_ | refine S.ld5 rfl rfl ?_ | refine S.st0 (by rfl) fun _ S f => ?_ | refine S.st1 (by rfl) fun _ S f => ?_ | refine S.st2 (by rfl) fun _ S f => ?_ | refine S.st3 (by rfl) fun _ S f => ?_ | refine S.st4 (by rfl) fun _ S f => ?_ | refine S.st5 (by rfl) fun _ S f => ?_ | refine S.su0 (by rfl) fun _ S f => ?_ | refine S.su1 (by rfl) fun _ S f => ?_ | refine S.su2 (by rfl) fun _ S f => ?_ | refine S.su3 (by rfl) fun _ S f => ?_ | refine S.su4 (by rfl) fun _ S f => ?_ | refine S.su5 (by rfl) fun _ S f => ?_ | refine ⟨by decide, ?_⟩); try dsimp only [List.set_cons_zero, List.set_cons_succ, cond_true, cond_false, Bool.not_true, Bool.not_false]))
  refine (Right_c (g := g)).mono ?_
  rintro ⟨(r11 : Bool), ⟨⟩⟩ w11 ⟨h11, x11⟩
  dsimp only at h11 ⊢
  have S := S.stepE x11
  subst h11
  have Y : Ext w8 w11 := h9.ext.trans (x10.trans x11)
  have YA : Ext w2 w11 := X4.trans (x5.trans (X7.trans Y))
  have YB : Ext w5 w11 := X7.trans Y
  subst h2; subst h5
  by_cases hL : lenP g xs
  case neg =>
    have hp : pSpec g xs = zS := by unfold pSpec; rw [if_neg fun h => hL h.1]
    have hd : dSpec g xs kind = zS := by unfold dSpec; rw [if_neg fun h => hL h.1]
    have hd' : ¬ dOk g xs kind := fun h => hL h.1
    have he : rdE g xs = 2 := by unfold rdE; rw [if_neg hL]
    rw [hp] at S is it
    rw [hd] at S is5 it5
    rw [he, decide_eq_false hd']
    by_cases hR : Right g
    case' pos =>
      refine cond_f (by rw [decide_eq_true hR]; rfl) ?_
      have hs := hR.sec
      (repeat ((first | refine S.newB fun _ _ S f _ => ?_ | refine S.la0 rfl ?_ | refine S.la1 rfl ?_ | refine S.la2 rfl ?_ | refine S.la3 rfl ?_ | refine S.la4 rfl ?_ | refine S.la5 rfl ?_ | refine S.ld0 rfl rfl ?_ | refine S.ld1 rfl rfl ?_ | refine S.ld2 rfl rfl ?_ | refine S.ld3 rfl rfl ?_ | refine S.ld4 rfl rfl ?_ | refine S.ld5 rfl rfl ?_ | refine S.st0 (by rfl) fun _ S f => ?_ | refine S.st1 (by rfl) fun _ S f => ?_ | refine S.st2 (by rfl) fun _ S f => ?_ | refine S.st3 (by rfl) fun _ S f => ?_ | refine S.st4 (by rfl) fun _ S f => ?_ | refine S.st5 (by rfl) fun _ S f => ?_ | refine S.su0 (by rfl) fun _ S f => ?_ | refine S.su1 (by rfl) fun _ S f => ?_ | refine S.su2 (by rfl) fun _ S f => ?_ | refine S.su3 (by rfl) fun _ S f => ?_ | refine S.su4 (by rfl) fun _ S f => ?_ | refine S.su5 (by rfl) fun _ S f => ?_ | refine ⟨by decide, ?_⟩); try dsimp only [List.set_cons_zero, List.set_cons_succ, cond_true, cond_false, Bool.not_true, Bool.not_false]))
      refine ⟨Rng.i64 (by omega) (by omega), cond_ne (fun _ => ?_) (fun h => absurd ⟨hR, by omega⟩ hL)⟩
    case' neg => refine cond_t (by rw [decide_eq_false hR]; rfl) ?_
    all_goals
      refine cond_t rfl (cond_t rfl ?_)
      (repeat ((first | refine S.newB fun _ _ S f _ => ?_ | refine S.la0 rfl ?_ | refine S.la1 rfl ?_ | refine S.la2 rfl ?_ | refine S.la3 rfl ?_ | refine S.la4 rfl ?_ | refine S.la5 rfl ?_ | refine S.ld0 rfl rfl ?_ | refine S.ld1 rfl rfl ?_ | refine S.ld2 rfl rfl ?_ | refine S.ld3 rfl rfl ?_ | refine S.ld4 rfl rfl ?_ | refine S.ld5 rfl rfl ?_ | refine S.st0 (by rfl) fun _ S f => ?_ | refine S.st1 (by rfl) fun _ S f => ?_ | refine S.st2 (by rfl) fun _ S f => ?_ | refine S.st3 (by rfl) fun _ S f => ?_ | refine S.st4 (by rfl) fun _ S f => ?_ | refine S.st5 (by rfl) fun _ S f => ?_ | refine S.su0 (by rfl) fun _ S f => ?_ | refine S.su1 (by rfl) fun _ S f => ?_ | refine S.su2 (by rfl) fun _ S f => ?_ | refine S.su3 (by rfl) fun _ S f => ?_ | refine S.su4 (by rfl) fun _ S f => ?_ | refine S.su5 (by rfl) fun _ S f => ?_ | refine ⟨by decide, ?_⟩); try dsimp only [List.set_cons_zero, List.set_cons_succ, cond_true, cond_false, Bool.not_true, Bool.not_false]))
      refine (same15_c (g := zeroH) (h := zeroH) (s := ⟨ua, un, uc⟩) (t := ⟨ta, tn, tc⟩) (s' := ⟨none, 0, 0⟩) (t' := ⟨none, 0, 0⟩) (is.ext YA) (it.ext YA) intsNil intsNil).mono ?_
      rintro ⟨(r : Bool), ⟨⟩⟩ w12 ⟨x12, h12⟩
      have h12 := h12 rfl rfl rfl rfl
      have S := S.stepE x12
      dsimp only at h12 ⊢
      refine cond_t h12 ?_
      (repeat ((first | refine S.newB fun _ _ S f _ => ?_ | refine S.la0 rfl ?_ | refine S.la1 rfl ?_ | refine S.la2 rfl ?_ | refine S.la3 rfl ?_ | refine S.la4 rfl ?_ | refine S.la5 rfl ?_ | refine S.ld0 rfl rfl ?_ | refine S.ld1 rfl rfl ?_ | refine S.ld2 rfl rfl ?_ | refine S.ld3 rfl rfl ?_ | refine S.ld4 rfl rfl ?_ | refine S.ld5 rfl rfl ?_ | refine S.st0 (by rfl) fun _ S f => ?_ | refine S.st1 (by rfl) fun _ S f => ?_ | refine S.st2 (by rfl) fun _ S f => ?_ | refine S.st3 (by rfl) fun _ S f => ?_ | refine S.st4 (by rfl) fun _ S f => ?_ | refine S.st5 (by rfl) fun _ S f => ?_ | refine S.su0 (by rfl) fun _ S f => ?_ | refine S.su1 (by rfl) fun _ S f => ?_ | refine S.su2 (by rfl) fun _ S f => ?_ | refine S.su3 (by rfl) fun _ S f => ?_ | refine S.su4 (by rfl) fun _ S f => ?_ | refine S.su5 (by rfl) fun _ S f => ?_ | refine ⟨by decide, ?_⟩); try dsimp only [List.set_cons_zero, List.set_cons_succ, cond_true, cond_false, Bool.not_true, Bool.not_false]))
      refine (same15_c (g := zeroH) (h := zeroH) (s := ⟨va, vn, vc⟩) (t := ⟨za, zn, zc⟩) (s' := ⟨none, 0, 0⟩) (t' := ⟨none, 0, 0⟩) (is5.ext (YB.trans x12)) (it5.ext (YB.trans x12)) intsNil intsNil).mono ?_
      rintro ⟨(r : Bool), ⟨⟩⟩ w13 ⟨x13, h13⟩
      have h13 := h13 rfl rfl rfl rfl
      dsimp only at h13 ⊢
      exact cond_t h13 (aw15 (S.ext.trans x13))
  refine cond_f (by rw [decide_eq_true hL.1]; rfl) ?_
  have hs := hL.1.sec
  (repeat ((first | refine S.newB fun _ _ S f _ => ?_ | refine S.la0 rfl ?_ | refine S.la1 rfl ?_ | refine S.la2 rfl ?_ | refine S.la3 rfl ?_ | refine S.la4 rfl ?_ | refine S.la5 rfl ?_ | refine S.ld0 rfl rfl ?_ | refine S.ld1 rfl rfl ?_ | refine S.ld2 rfl rfl ?_ | refine S.ld3 rfl rfl ?_ | refine S.ld4 rfl rfl ?_ | refine S.ld5 rfl rfl ?_ | refine S.st0 (by rfl) fun _ S f => ?_ | refine S.st1 (by rfl) fun _ S f => ?_ | refine S.st2 (by rfl) fun _ S f => ?_ | refine S.st3 (by rfl) fun _ S f => ?_ | refine S.st4 (by rfl) fun _ S f => ?_ | refine S.st5 (by rfl) fun _ S f => ?_ | refine S.su0 (by rfl) fun _ S f => ?_ | refine S.su1 (by rfl) fun _ S f => ?_ | refine S.su2 (by rfl) fun _ S f => ?_ | refine S.su3 (by rfl) fun _ S f => ?_ | refine S.su4 (by rfl) fun _ S f => ?_ | refine S.su5 (by rfl) fun _ S f => ?_ | refine ⟨by decide, ?_⟩); try dsimp only [List.set_cons_zero, List.set_cons_succ, cond_true, cond_false, Bool.not_true, Bool.not_false]))
  refine ⟨Rng.i64 (by omega) (by omega), cond_ne (fun h => absurd hL.2 (by omega)) (fun _ => ?_)⟩
  (repeat ((first | refine S.newB fun _ _ S f _ => ?_ | refine S.la0 rfl ?_ | refine S.la1 rfl ?_ | refine S.la2 rfl ?_ | refine S.la3 rfl ?_ | refine S.la4 rfl ?_ | refine S.la5 rfl ?_ | refine S.ld0 rfl rfl ?_ | refine S.ld1 rfl rfl ?_ | refine S.ld2 rfl rfl ?_ | refine S.ld3 rfl rfl ?_ | refine S.ld4 rfl rfl ?_ | refine S.ld5 rfl rfl ?_ | refine S.st0 (by rfl) fun _ S f => ?_ | refine S.st1 (by rfl) fun _ S f => ?_ | refine S.st2 (by rfl) fun _ S f => ?_ | refine S.st3 (by rfl) fun _ S f => ?_ | refine S.st4 (by rfl) fun _ S f => ?_ | refine S.st5 (by rfl) fun _ S f => ?_ | refine S.su0 (by rfl) fun _ S f => ?_ | refine S.su1 (by rfl) fun _ S f => ?_ | refine S.su2 (by rfl) fun _ S f => ?_ | refine S.su3 (by rfl) fun _ S f => ?_ | refine S.su4 (by rfl) fun _ S f => ?_ | refine S.su5 (by rfl) fun _ S f => ?_ | refine ⟨by decide, ?_⟩); try dsimp only [List.set_cons_zero, List.set_cons_succ, cond_true, cond_false, Bool.not_true, Bool.not_false]))
  refine (rPReadU_c (g := g) hx S.ext bx hL).mono ?_
  rintro ⟨⟨(k1 : Int), (k2 : Int), (k3 : Int), (k4 : Int), (k5 : Int), (k6 : Int), ⟨ma, mn, mc⟩, ⟨na, nn, nc⟩, (d : Bool), (o : Bool), ⟨⟩⟩, ⟨⟩⟩ w12 ⟨x12, s12, t12, q12, is12, it12⟩
  dsimp only at q12 ⊢
  cases q12
  have S := S.stepE x12
  refine S.newB fun _ w13 S f13 _ => ?_
  refine S.st0 (by rfl) fun w14 S f14 => ?_
  have X14 : Ext w12 w14 := Fr.ext (f13.trans' f14 fun k hk => .inr (by omega))
  (repeat ((first | refine S.newB fun _ _ S f _ => ?_ | refine S.la0 rfl ?_ | refine S.la1 rfl ?_ | refine S.la2 rfl ?_ | refine S.la3 rfl ?_ | refine S.la4 rfl ?_ | refine S.la5 rfl ?_ | refine S.ld0 rfl rfl ?_ | refine S.ld1 rfl rfl ?_ | refine S.ld2 rfl rfl ?_ | refine S.ld3 rfl rfl ?_ | refine S.ld4 rfl rfl ?_ | refine S.ld5 rfl rfl ?_ | refine S.st0 (by rfl) fun _ S f => ?_ | refine S.st1 (by rfl) fun _ S f => ?_ | refine S.st2 (by rfl) fun _ S f => ?_ | refine S.st3 (by rfl) fun _ S f => ?_ | refine S.st4 (by rfl) fun _ S f => ?_ | refine S.st5 (by rfl) fun _ S f => ?_ | refine S.su0 (by rfl) fun _ S f => ?_ | refine S.su1 (by rfl) fun _ S f => ?_ | refine S.su2 (by rfl) fun _ S f => ?_ | refine S.su3 (by rfl) fun _ S f => ?_ | refine S.su4 (by rfl) fun _ S f => ?_ | refine S.su5 (by rfl) fun _ S f => ?_ | refine ⟨by decide, ?_⟩); try dsimp only [List.set_cons_zero, List.set_cons_succ, cond_true, cond_false, Bool.not_true, Bool.not_false]))
  refine (rPDoneU_c (g := g) (kind := kind) hx S.ext bx hL).mono ?_
  rintro ⟨⟨(k1 : Int), (k2 : Int), (k3 : Int), (k4 : Int), (k5 : Int), (k6 : Int), ⟨oa, on, oc⟩, ⟨pa, pn, pc⟩, (d : Bool), (o : Bool), ⟨⟩⟩, ⟨⟩⟩ w15 ⟨x15, s15, t15, q15, is15, it15⟩
  dsimp only at q15 ⊢
  cases q15
  have S := S.stepE x15
  refine S.newB fun _ w16 S f16 _ => ?_
  refine S.st0 (by rfl) fun w17 S f17 => ?_
  have X17 : Ext w15 w17 := Fr.ext (f16.trans' f17 fun k hk => .inr (by omega))
  have he : rdE g xs = (if okR (endP g xs) then 0 else 1) := by unfold rdE; rw [if_pos hL]
  rw [he]
  dsimp only at is12 it12 is15 it15
  have Z : Ext w11 w17 := x12.trans (X14.trans (x15.trans X17))
  have ZA := YA.trans Z
  have ZB := YB.trans Z
  by_cases hO : okR (endP g xs)
  case' pos => rw [if_pos hO]; rw [decide_eq_true hO] at S
  case' neg => rw [if_neg hO]; rw [decide_eq_false hO] at S
  all_goals
    (repeat ((first | refine S.newB fun _ _ S f _ => ?_ | refine S.la0 rfl ?_ | refine S.la1 rfl ?_ | refine S.la2 rfl ?_ | refine S.la3 rfl ?_ | refine S.la4 rfl ?_ | refine S.la5 rfl ?_ | refine S.la6 rfl ?_ | refine S.la7 rfl ?_ | refine S.la8 rfl ?_ | refine S.la9 rfl ?_ | refine S.la10 rfl ?_ | refine S.la11 rfl ?_ | refine S.ld0 rfl rfl ?_ | refine S.ld1 rfl rfl ?_ | refine S.ld2 rfl rfl ?_ | refine S.ld3 rfl rfl ?_ | refine S.ld4 rfl rfl ?_ | refine S.ld5 rfl rfl ?_ | refine S.ld6 rfl rfl ?_ | refine S.ld7 rfl rfl ?_ | refine S.ld8 rfl rfl ?_ | refine S.ld9 rfl rfl ?_ | refine S.ld10 rfl rfl ?_ | refine S.ld11 rfl rfl ?_ | refine S.st0 (by rfl) fun _ S f => ?_ | refine S.st1 (by rfl) fun _ S f => ?_ | refine S.st2 (by rfl) fun _ S f => ?_ | refine S.st3 (by rfl) fun _ S f => ?_ | refine S.st4 (by rfl) fun _ S f => ?_ | refine S.st5 (by rfl) fun _ S f => ?_ | refine S.st6 (by rfl) fun _ S f => ?_ | refine S.st7 (by rfl) fun _ S f => ?_ | refine S.st8 (by rfl) fun _ S f => ?_ | refine S.st9 (by rfl) fun _ S f => ?_ | refine S.st10 (by rfl) fun _ S f => ?_ | refine S.st11 (by rfl) fun _ S f => ?_ | refine S.su0 (by rfl) fun _ S f => ?_ | refine S.su1 (by rfl) fun _ S f => ?_ | refine S.su2 (by rfl) fun _ S f => ?_ | refine S.su3 (by rfl) fun _ S f => ?_ | refine S.su4 (by rfl) fun _ S f => ?_ | refine S.su5 (by rfl) fun _ S f => ?_ | refine S.su6 (by rfl) fun _ S f => ?_ | refine S.su7 (by rfl) fun _ S f => ?_ | refine S.su8 (by rfl) fun _ S f => ?_ | refine S.su9 (by rfl) fun _ S f => ?_ | refine S.su10 (by rfl) fun _ S f => ?_ | refine S.su11 (by rfl) fun _ S f => ?_ | refine ⟨by decide, ?_⟩); try dsimp only [List.set_cons_zero, List.set_cons_succ, cond_true, cond_false, Bool.not_true, Bool.not_false]))
    refine (same15_c (g := (pSpec g xs).h) (h := (pSpec g xs).h) (s := ⟨ua, un, uc⟩) (t := ⟨ta, tn, tc⟩) (s' := ⟨ma, mn, mc⟩) (t' := ⟨na, nn, nc⟩) (is.ext ZA) (it.ext ZA) (is12.ext S.ext) (it12.ext S.ext)).mono ?_
    rintro ⟨(r : Bool), ⟨⟩⟩ w18 ⟨x18, h18⟩
    have h18 := h18 rfl rfl rfl rfl
    have S := S.stepE x18
    dsimp only at h18 ⊢
    refine cond_t h18 ?_
    (repeat ((first | refine S.newB fun _ _ S f _ => ?_ | refine S.la0 rfl ?_ | refine S.la1 rfl ?_ | refine S.la2 rfl ?_ | refine S.la3 rfl ?_ | refine S.la4 rfl ?_ | refine S.la5 rfl ?_ | refine S.la6 rfl ?_ | refine S.la7 rfl ?_ | refine S.la8 rfl ?_ | refine S.la9 rfl ?_ | refine S.la10 rfl ?_ | refine S.la11 rfl ?_ | refine S.ld0 rfl rfl ?_ | refine S.ld1 rfl rfl ?_ | refine S.ld2 rfl rfl ?_ | refine S.ld3 rfl rfl ?_ | refine S.ld4 rfl rfl ?_ | refine S.ld5 rfl rfl ?_ | refine S.ld6 rfl rfl ?_ | refine S.ld7 rfl rfl ?_ | refine S.ld8 rfl rfl ?_ | refine S.ld9 rfl rfl ?_ | refine S.ld10 rfl rfl ?_ | refine S.ld11 rfl rfl ?_ | refine S.st0 (by rfl) fun _ S f => ?_ | refine S.st1 (by rfl) fun _ S f => ?_ | refine S.st2 (by rfl) fun _ S f => ?_ | refine S.st3 (by rfl) fun _ S f => ?_ | refine S.st4 (by rfl) fun _ S f => ?_ | refine S.st5 (by rfl) fun _ S f => ?_ | refine S.st6 (by rfl) fun _ S f => ?_ | refine S.st7 (by rfl) fun _ S f => ?_ | refine S.st8 (by rfl) fun _ S f => ?_ | refine S.st9 (by rfl) fun _ S f => ?_ | refine S.st10 (by rfl) fun _ S f => ?_ | refine S.st11 (by rfl) fun _ S f => ?_ | refine S.su0 (by rfl) fun _ S f => ?_ | refine S.su1 (by rfl) fun _ S f => ?_ | refine S.su2 (by rfl) fun _ S f => ?_ | refine S.su3 (by rfl) fun _ S f => ?_ | refine S.su4 (by rfl) fun _ S f => ?_ | refine S.su5 (by rfl) fun _ S f => ?_ | refine S.su6 (by rfl) fun _ S f => ?_ | refine S.su7 (by rfl) fun _ S f => ?_ | refine S.su8 (by rfl) fun _ S f => ?_ | refine S.su9 (by rfl) fun _ S f => ?_ | refine S.su10 (by rfl) fun _ S f => ?_ | refine S.su11 (by rfl) fun _ S f => ?_ | refine ⟨by decide, ?_⟩); try dsimp only [List.set_cons_zero, List.set_cons_succ, cond_true, cond_false, Bool.not_true, Bool.not_false]))
    refine cond_t (by simp) ?_
    (repeat ((first | refine S.newB fun _ _ S f _ => ?_ | refine S.la0 rfl ?_ | refine S.la1 rfl ?_ | refine S.la2 rfl ?_ | refine S.la3 rfl ?_ | refine S.la4 rfl ?_ | refine S.la5 rfl ?_ | refine S.la6 rfl ?_ | refine S.la7 rfl ?_ | refine S.la8 rfl ?_ | refine S.la9 rfl ?_ | refine S.la10 rfl ?_ | refine S.la11 rfl ?_ | refine S.ld0 rfl rfl ?_ | refine S.ld1 rfl rfl ?_ | refine S.ld2 rfl rfl ?_ | refine S.ld3 rfl rfl ?_ | refine S.ld4 rfl rfl ?_ | refine S.ld5 rfl rfl ?_ | refine S.ld6 rfl rfl ?_ | refine S.ld7 rfl rfl ?_ | refine S.ld8 rfl rfl ?_ | refine S.ld9 rfl rfl ?_ | refine S.ld10 rfl rfl ?_ | refine S.ld11 rfl rfl ?_ | refine S.st0 (by rfl) fun _ S f => ?_ | refine S.st1 (by rfl) fun _ S f => ?_ | refine S.st2 (by rfl) fun _ S f => ?_ | refine S.st3 (by rfl) fun _ S f => ?_ | refine S.st4 (by rfl) fun _ S f => ?_ | refine S.st5 (by rfl) fun _ S f => ?_ | refine S.st6 (by rfl) fun _ S f => ?_ | refine S.st7 (by rfl) fun _ S f => ?_ | refine S.st8 (by rfl) fun _ S f => ?_ | refine S.st9 (by rfl) fun _ S f => ?_ | refine S.st10 (by rfl) fun _ S f => ?_ | refine S.st11 (by rfl) fun _ S f => ?_ | refine S.su0 (by rfl) fun _ S f => ?_ | refine S.su1 (by rfl) fun _ S f => ?_ | refine S.su2 (by rfl) fun _ S f => ?_ | refine S.su3 (by rfl) fun _ S f => ?_ | refine S.su4 (by rfl) fun _ S f => ?_ | refine S.su5 (by rfl) fun _ S f => ?_ | refine S.su6 (by rfl) fun _ S f => ?_ | refine S.su7 (by rfl) fun _ S f => ?_ | refine S.su8 (by rfl) fun _ S f => ?_ | refine S.su9 (by rfl) fun _ S f => ?_ | refine S.su10 (by rfl) fun _ S f => ?_ | refine S.su11 (by rfl) fun _ S f => ?_ | refine ⟨by decide, ?_⟩); try dsimp only [List.set_cons_zero, List.set_cons_succ, cond_true, cond_false, Bool.not_true, Bool.not_false]))
    refine (same15_c (g := (dSpec g xs kind).h) (h := (dSpec g xs kind).h) (s := ⟨va, vn, vc⟩) (t := ⟨za, zn, zc⟩) (s' := ⟨oa, on, oc⟩) (t' := ⟨pa, pn, pc⟩) (is5.ext (ZB.trans x18)) (it5.ext (ZB.trans x18)) (is15.ext S.ext) (it15.ext S.ext)).mono ?_
    rintro ⟨(r : Bool), ⟨⟩⟩ w19 ⟨x19, h19⟩
    have h19 := h19 rfl rfl rfl rfl
    dsimp only at h19 ⊢
    exact cond_t h19 (aw15 (S.ext.trans x19))

theorem PageReads_of {w : World} {x : TGeo.T} {a : Option Addr} {n c b : Nat} {xs : List Int} {kind : Int} (g0 : TGeo.ok w x) (g1 : SlI w .u8 a n c xs b) (g2 : Rng .i64 kind) :
    CallV Try.prog 4 #[.agg (TGeo.vs x).toArray, .slice a n c, .int .i64 kind] w [.one .bool] fun r w' => r.1 = true ∧ Ext w w' := by
  rw [geoT_val]
  exact PageReads_law g1.ints g1.byt

end Go.Proofs.Ytfpkaebmiojicaa.Vc

/-! The law HeadMarks of layer 14: each call gives true, and what it read stays. -/
namespace Go.Proofs.Ytfpkaebmiojicaa.Vc
open Go Go.Eng Go.RowKit
set_option linter.unusedVariables false
set_option linter.unusedSimpArgs false

def core (h : Hd) (tg : List Int) : List Int := (hdL h ++ invL (hdL h)) ++ tagL tg
def markL (h : Hd) (tg : List Int) : List Int := core h tg ++ List.replicate 8 0
theorem core_length (h : Hd) {tg : List Int} (hl : tg.length = 0 ∨ tg.length = 32) : (core h tg).length = 80 := by
  unfold core
  rw [List.length_append, List.length_append, invL_length, hdL_length, tagL_length hl]
theorem core_byt {h : Hd} (hR : HRight h) {tg : List Int} (bt : Byt tg) : Byt (core h tg) := by
  unfold core
  refine ((hdL_byt hR).append (invL_byt _)).append ?_
  unfold tagL
  split
  · exact Byt.replicate (by omega) (by omega) _
  · exact bt
theorem markL_length (h : Hd) {tg : List Int} (hl : tg.length = 0 ∨ tg.length = 32) : (markL h tg).length = 88 := by
  unfold markL
  rw [List.length_append, core_length h hl, List.length_replicate]
theorem markL_byt {h : Hd} (hR : HRight h) {tg : List Int} (bt : Byt tg) : Byt (markL h tg) := (core_byt hR bt).append (Byt.replicate (by omega) (by omega) _)
theorem markL_hd (h : Hd) (hg : h.rng) (tg : List Int) : hdOf (markL h tg) = h := by
  unfold markL core
  rw [List.append_assoc, List.append_assoc]
  exact part_hdL h hg _
theorem markL_ok (h : Hd) {tg : List Int} (hR : HRight h) : okR (markL h tg) := by
  refine ⟨hR.1, rfl, ?_⟩
  have p1 : part (markL h tg) 0 24 = hdL h := by
    unfold part markL core
    rw [List.drop_zero, List.append_assoc, List.append_assoc, List.take_left' (by rw [hdL_length])]
  have p2 : part (markL h tg) 24 48 = invL (hdL h) := by
    unfold part markL core
    rw [List.append_assoc, List.append_assoc, List.drop_left' (by rw [hdL_length]), List.take_left' (by rw [invL_length, hdL_length])]
  rw [p1, p2]
theorem part_core (h : Hd) {tg : List Int} (hl : tg.length = 0 ∨ tg.length = 32) : part (markL h tg) 48 80 = part (endL h tg) 48 80 := by
  unfold part markL endL
  rw [show ((hdL h ++ invL (hdL h)) ++ tagL tg) = core h tg from rfl, List.drop_append_of_le_length (by rw [core_length h hl]; omega), List.drop_append_of_le_length (by rw [core_length h hl]; omega),
    List.take_left' (by rw [List.length_drop, core_length h hl]), List.take_left' (by rw [List.length_drop, core_length h hl])]
theorem markL_comm (h : Hd) {tg : List Int} (hl : tg.length = 0 ∨ tg.length = 32) : comm (markL h tg) = true := by
  refine decide_eq_true ⟨markL_length h hl, ?_⟩
  unfold markL
  rw [List.drop_left' (by rw [core_length h hl])]
theorem and255 : ∀ x : Fin 256, Go.bits .and .u8 ((x.val : Nat) : Int) 255 = ((x.val : Nat) : Int) := by decide +kernel
theorem getD_left {xs ys : List Int} {i : Nat} (h : i < xs.length) : (xs ++ ys).getD i 0 = xs.getD i 0 := by
  rw [List.getD_eq_getElem?_getD, List.getElem?_append_left h, ← List.getD_eq_getElem?_getD]
theorem getD_right {xs ys : List Int} {i : Nat} (h : xs.length ≤ i) : (xs ++ ys).getD i 0 = ys.getD (i - xs.length) 0 := by
  rw [List.getD_eq_getElem?_getD, List.getElem?_append_right h, ← List.getD_eq_getElem?_getD]
theorem and_mark {h : Hd} (hR : HRight h) {tg : List Int} (bt : Byt tg) (hl : tg.length = 0 ∨ tg.length = 32) : andL (endL h tg) (List.replicate 80 255 ++ List.replicate 8 0) = markL h tg := by
  refine List.ext_getElem (by rw [andL_length, endL_length h hl, markL_length h hl]) fun i h1 h2 => ?_
  have hc := core_length h hl
  rw [← getD_get h2]
  rw [markL_length h hl] at h2
  rw [show (andL (endL h tg) (List.replicate 80 255 ++ List.replicate 8 0))[i] = Go.bits .and .u8 ((endL h tg).getD i 0) ((List.replicate 80 255 ++ List.replicate 8 0 : List Int).getD i 0) by simp [andL]]
  unfold endL markL
  rw [show ((hdL h ++ invL (hdL h)) ++ tagL tg) = core h tg from rfl]
  by_cases hi : i < 80
  · rw [getD_left (xs := core h tg) (by omega), getD_left (xs := List.replicate 80 255) (by simpa using hi), getD_left (xs := core h tg) (by omega), getD_get (xs := List.replicate 80 255) (by simpa using hi), List.getElem_replicate, getD_get (xs := core h tg) (by omega)]
    obtain ⟨x, hx⟩ := byte_nat ((core_byt hR bt) _ (List.getElem_mem (by omega : i < (core h tg).length)))
    rw [hx]
    exact and255 x
  · rw [getD_right (xs := core h tg) (by omega), getD_right (xs := List.replicate 80 255) (by simp; omega), getD_right (xs := core h tg) (by omega), hc, List.length_replicate,
      getD_get (xs := List.replicate 8 (255 : Int)) (by simp; omega), List.getElem_replicate, getD_get (xs := List.replicate 8 (0 : Int)) (by simp; omega), List.getElem_replicate]
    decide +kernel

theorem MarkLow_c {w : World} {n : Int} (h : ¬ (88 ≤ n ∧ n ≤ 4184)) : CallV Try.prog 60 #[.int .i64 n] w [.one .sl] fun r w' => r.1 = (⟨none, 0, 0⟩ : SlV) ∧ w' = w := by
  refine head_Mark.vc _ _ _ ?_
  unfold head_Mark.P
  exact cond_d (fun h => ⟨rfl, rfl⟩) (fun _ => cond_d (fun h => ⟨rfl, rfl⟩) (fun _ => by omega))

end Go.Proofs.Ytfpkaebmiojicaa.Vc

/-! Parts of plans, cut out by wip/tools/vccut.py. -/
namespace Go.Proofs.Ytfpkaebmiojicaa.Vc
open Go Go.Eng
set_option linter.unusedVariables false

def law15_PageBack.T (b21 : Nat) (b30 : Nat) (b5 : Nat) (K : Bool × Unit → World → Prop) (r19 : (Int × Int × Int × Int × Int × Int × SlV × SlV × Bool × Unit) × Int × Unit) (w32 : World) (r28 : (Int × Int × Int × Int × Int × Int × SlV × SlV × Bool × Unit) × Int × Unit) (b3 : Nat) (r11 : SlV × Int × Unit) : Prop :=
JoinV [] (fun (v34 : Unit) w35 =>
  LoadS w35 ⟨b21, 6, none⟩ .sl fun (x36 : SlV) =>
  LoadS w35 ⟨b30, 6, none⟩ .sl fun (x37 : SlV) =>
  CallV Try.prog 19 #[.slice x36.a x36.n x36.c, .slice x37.a x37.n x37.c] w35 [.one .bool] fun (r38 : Bool × Unit) w39 =>
  cond r38.1
  (LoadS w39 ⟨b21, 7, none⟩ .sl fun (x40 : SlV) =>
  LoadS w39 ⟨b30, 7, none⟩ .sl fun (x41 : SlV) =>
  CallV Try.prog 19 #[.slice x40.a x40.n x40.c, .slice x41.a x41.n x41.c] w39 [.one .bool] fun (r42 : Bool × Unit) w43 =>
  cond r42.1
  ((0 ≤ (0 : Int) ∧ 0 < (2 : Int)) ∧
  LoadS w43 ⟨b5, 0, none⟩ .sl fun (x44 : SlV) =>
  cond (((x44.n : Nat) : Int) == 0)
  ((0 ≤ (1 : Int) ∧ 1 < (2 : Int)) ∧
  LoadS w43 ⟨b5, 1, none⟩ .sl fun (x45 : SlV) =>
  cond (((x45.n : Nat) : Int) == 0)
  (CallV Try.prog 18 #[] w43 [.one .bool] fun (r46 : Bool × Unit) w47 =>
  K (r46.1, ()) w47)
  (LoadS w43 ⟨b21, 7, none⟩ .sl fun (x48 : SlV) =>
  (0 ≤ (1 : Int) ∧ 1 < (2 : Int)) ∧
  LoadS w43 ⟨b5, 1, none⟩ .sl fun (x49 : SlV) =>
  CallV Try.prog 19 #[.slice x48.a x48.n x48.c, .slice x49.a x49.n x49.c] w43 [.one .bool] fun (r50 : Bool × Unit) w51 =>
  cond r50.1
  (CallV Try.prog 18 #[] w51 [.one .bool] fun (r52 : Bool × Unit) w53 =>
  K (r52.1, ()) w53)
  (K (false, ()) w51)))
  (LoadS w43 ⟨b21, 6, none⟩ .sl fun (x54 : SlV) =>
  (0 ≤ (0 : Int) ∧ 0 < (2 : Int)) ∧
  LoadS w43 ⟨b5, 0, none⟩ .sl fun (x55 : SlV) =>
  CallV Try.prog 19 #[.slice x54.a x54.n x54.c, .slice x55.a x55.n x55.c] w43 [.one .bool] fun (r56 : Bool × Unit) w57 =>
  cond r56.1
  ((0 ≤ (1 : Int) ∧ 1 < (2 : Int)) ∧
  LoadS w57 ⟨b5, 1, none⟩ .sl fun (x58 : SlV) =>
  cond (((x58.n : Nat) : Int) == 0)
  (CallV Try.prog 18 #[] w57 [.one .bool] fun (r59 : Bool × Unit) w60 =>
  K (r59.1, ()) w60)
  (LoadS w57 ⟨b21, 7, none⟩ .sl fun (x61 : SlV) =>
  (0 ≤ (1 : Int) ∧ 1 < (2 : Int)) ∧
  LoadS w57 ⟨b5, 1, none⟩ .sl fun (x62 : SlV) =>
  CallV Try.prog 19 #[.slice x61.a x61.n x61.c, .slice x62.a x62.n x62.c] w57 [.one .bool] fun (r63 : Bool × Unit) w64 =>
  cond r63.1
  (CallV Try.prog 18 #[] w64 [.one .bool] fun (r65 : Bool × Unit) w66 =>
  K (r65.1, ()) w66)
  (K (false, ()) w64)))
  (K (false, ()) w57)))
  (K (false, ()) w43))
  (K (false, ()) w39)) fun (J33 : Unit → World → Prop) =>
  cond (r19.2.1 != 0)
  (K (false, ()) w32)
  (cond (r28.2.1 != 0)
  (K (false, ()) w32)
  (LoadS w32 ⟨b21, 8, none⟩ .bool fun (x67 : Bool) =>
  cond x67
  (K (false, ()) w32)
  (LoadS w32 ⟨b30, 8, none⟩ .bool fun (x68 : Bool) =>
  cond (!x68)
  (K (false, ()) w32)
  (LoadA w32 ⟨b21, 0, none⟩ [.int .i64, .int .i64, .int .i64, .int .u32, .int .u64, .int .u64] fun (x69 : Int × Int × Int × Int × Int × Int × Unit) =>
  LoadA w32 ⟨b3, 0, none⟩ [.int .i64, .int .i64, .int .i64, .int .u32, .int .u64, .int .u64] fun (x70 : Int × Int × Int × Int × Int × Int × Unit) =>
  AggEq Try.prog 27 #[.int .i64 x69.1, .int .i64 x69.2.1, .int .i64 x69.2.2.1, .int .u32 x69.2.2.2.1, .int .u64 x69.2.2.2.2.1, .int .u64 x69.2.2.2.2.2.1] #[.int .i64 x70.1, .int .i64 x70.2.1, .int .i64 x70.2.2.1, .int .u32 x70.2.2.2.1, .int .u64 x70.2.2.2.2.1, .int .u64 x70.2.2.2.2.2.1] fun e71 =>
  cond (!e71)
  (K (false, ()) w32)
  (LoadA w32 ⟨b30, 0, none⟩ [.int .i64, .int .i64, .int .i64, .int .u32, .int .u64, .int .u64] fun (x72 : Int × Int × Int × Int × Int × Int × Unit) =>
  LoadA w32 ⟨b3, 0, none⟩ [.int .i64, .int .i64, .int .i64, .int .u32, .int .u64, .int .u64] fun (x73 : Int × Int × Int × Int × Int × Int × Unit) =>
  AggEq Try.prog 27 #[.int .i64 x72.1, .int .i64 x72.2.1, .int .i64 x72.2.2.1, .int .u32 x72.2.2.2.1, .int .u64 x72.2.2.2.2.1, .int .u64 x72.2.2.2.2.2.1] #[.int .i64 x73.1, .int .i64 x73.2.1, .int .i64 x73.2.2.1, .int .u32 x73.2.2.2.1, .int .u64 x73.2.2.2.2.1, .int .u64 x73.2.2.2.2.2.1] fun e74 =>
  cond (!e74)
  (K (false, ()) w32)
  (CallV Try.prog 25 #[.slice r11.1.a r11.1.n r11.1.c] w32 [.one .bool] fun (r75 : Bool × Unit) w76 =>
  cond r75.1
  (K (false, ()) w76)
  (J33 (()) w76)))))))

end Go.Proofs.Ytfpkaebmiojicaa.Vc

/-! The law PageBack of layer 15: each call gives true, and what it read stays. -/
namespace Go.Proofs.Ytfpkaebmiojicaa.Vc
open Go Go.Eng Go.RowKit
set_option linter.unusedVariables false
set_option linter.unusedSimpArgs false

abbrev pgC (h : Hd) (s t : SlV) (d : Bool) : List Value := [.int .i64 h.k, .int .i64 h.n, .int .i64 h.c, .int .u32 h.l, .int .u64 h.e, .int .u64 h.t, .slice s.a s.n s.c, .slice t.a t.n t.c, .bool d]

theorem back_tail {w w32 : World} {h : Hd} {s t s' t' E : SlV} {b21 b30 b5 b3 : Nat} {a a2 : Option Addr} {n c m c2 : Nat} {xs ts P T bs : List Int} {e1 e2 e3 e4 : TypeId}
    (S : Sep NoB w w32 [BoxA b30 e1 (pgC h s' t' true), BoxA b21 e2 (pgC h s t false), BoxA b5 e3 [.slice a n c, .slice a2 m c2], BoxA b3 e4 h.vs])
    (is : Ints w32 .u8 s.a s.n s.c P) (it : Ints w32 .u8 t.a t.n t.c T) (is' : Ints w32 .u8 s'.a s'.n s'.c P) (it' : Ints w32 .u8 t'.a t'.n t'.c T) (hx : Ints w .u8 a n c xs) (ht : Ints w .u8 a2 m c2 ts)
    (hP : n ≠ 0 → P = xs) (hT : m ≠ 0 → T = ts) (hb : Ints w32 .u8 E.a E.n E.c bs) (bb : Byt bs) (hnb : bs ≠ List.replicate bs.length 255) :
    law15_PageBack.T b21 b30 b5 (fun r w' => r.1 = true ∧ Ext w w') (pgT h s t false, (0 : Int), ()) w32 (pgT h s' t' true, (0 : Int), ()) b3 (E, (0 : Int), ()) := by
  unfold law15_PageBack.T
  refine ⟨fun _ w' => w' = w32, ?_, ?_⟩
  · rintro ⟨⟩ w35 rfl
    (repeat ((first | refine S.newB fun _ _ S f _ => ?_ | refine S.la0 rfl ?_ | refine S.la1 rfl ?_ | refine S.la2 rfl ?_ | refine S.la3 rfl ?_ | refine S.la4 rfl ?_ | refine S.la5 rfl ?_ | refine S.ld0 rfl rfl ?_ | refine S.ld1 rfl rfl ?_ | refine S.ld2 rfl rfl ?_ | refine S.ld3 rfl rfl ?_ | refine S.ld4 rfl rfl ?_ | refine S.ld5 rfl rfl ?_ | refine S.st0 (by rfl) fun _ S f => ?_ | refine S.st1 (by rfl) fun _ S f => ?_ | refine S.st2 (by rfl) fun _ S f => ?_ | refine S.st3 (by rfl) fun _ S f => ?_ | refine S.st4 (by rfl) fun _ S f => ?_ | refine S.st5 (by rfl) fun _ S f => ?_ | refine S.su0 (by rfl) fun _ S f => ?_ | refine S.su1 (by rfl) fun _ S f => ?_ | refine S.su2 (by rfl) fun _ S f => ?_ | refine S.su3 (by rfl) fun _ S f => ?_ | refine S.su4 (by rfl) fun _ S f => ?_ | refine S.su5 (by rfl) fun _ S f => ?_ | refine ⟨by decide, ?_⟩); try dsimp only [List.set_cons_zero, List.set_cons_succ, cond_true, cond_false, Bool.not_true, Bool.not_false]))
    refine (SameBytes_c is is').mono ?_
    rintro ⟨(r1 : Bool), ⟨⟩⟩ w1 ⟨h1, x1⟩
    dsimp only at h1 ⊢
    have S := S.stepE x1
    refine cond_t (by rw [h1]; simp) ?_
    (repeat ((first | refine S.newB fun _ _ S f _ => ?_ | refine S.la0 rfl ?_ | refine S.la1 rfl ?_ | refine S.la2 rfl ?_ | refine S.la3 rfl ?_ | refine S.la4 rfl ?_ | refine S.la5 rfl ?_ | refine S.ld0 rfl rfl ?_ | refine S.ld1 rfl rfl ?_ | refine S.ld2 rfl rfl ?_ | refine S.ld3 rfl rfl ?_ | refine S.ld4 rfl rfl ?_ | refine S.ld5 rfl rfl ?_ | refine S.st0 (by rfl) fun _ S f => ?_ | refine S.st1 (by rfl) fun _ S f => ?_ | refine S.st2 (by rfl) fun _ S f => ?_ | refine S.st3 (by rfl) fun _ S f => ?_ | refine S.st4 (by rfl) fun _ S f => ?_ | refine S.st5 (by rfl) fun _ S f => ?_ | refine S.su0 (by rfl) fun _ S f => ?_ | refine S.su1 (by rfl) fun _ S f => ?_ | refine S.su2 (by rfl) fun _ S f => ?_ | refine S.su3 (by rfl) fun _ S f => ?_ | refine S.su4 (by rfl) fun _ S f => ?_ | refine S.su5 (by rfl) fun _ S f => ?_ | refine ⟨by decide, ?_⟩); try dsimp only [List.set_cons_zero, List.set_cons_succ, cond_true, cond_false, Bool.not_true, Bool.not_false]))
    refine (SameBytes_c (it.ext x1) (it'.ext x1)).mono ?_
    rintro ⟨(r2 : Bool), ⟨⟩⟩ w2 ⟨h2, x2⟩
    dsimp only at h2 ⊢
    have S := S.stepE x2
    refine cond_t (by rw [h2]; simp) ?_
    have X2 := x1.trans x2
    (repeat ((first | refine S.newB fun _ _ S f _ => ?_ | refine S.la0 rfl ?_ | refine S.la1 rfl ?_ | refine S.la2 rfl ?_ | refine S.la3 rfl ?_ | refine S.la4 rfl ?_ | refine S.la5 rfl ?_ | refine S.ld0 rfl rfl ?_ | refine S.ld1 rfl rfl ?_ | refine S.ld2 rfl rfl ?_ | refine S.ld3 rfl rfl ?_ | refine S.ld4 rfl rfl ?_ | refine S.ld5 rfl rfl ?_ | refine S.st0 (by rfl) fun _ S f => ?_ | refine S.st1 (by rfl) fun _ S f => ?_ | refine S.st2 (by rfl) fun _ S f => ?_ | refine S.st3 (by rfl) fun _ S f => ?_ | refine S.st4 (by rfl) fun _ S f => ?_ | refine S.st5 (by rfl) fun _ S f => ?_ | refine S.su0 (by rfl) fun _ S f => ?_ | refine S.su1 (by rfl) fun _ S f => ?_ | refine S.su2 (by rfl) fun _ S f => ?_ | refine S.su3 (by rfl) fun _ S f => ?_ | refine S.su4 (by rfl) fun _ S f => ?_ | refine S.su5 (by rfl) fun _ S f => ?_ | refine ⟨by decide, ?_⟩); try dsimp only [List.set_cons_zero, List.set_cons_succ, cond_true, cond_false, Bool.not_true, Bool.not_false]))
    refine cond_eq (fun h0 => ?_) (fun h0 => ?_)
    · (repeat ((first | refine S.newB fun _ _ S f _ => ?_ | refine S.la0 rfl ?_ | refine S.la1 rfl ?_ | refine S.la2 rfl ?_ | refine S.la3 rfl ?_ | refine S.la4 rfl ?_ | refine S.la5 rfl ?_ | refine S.ld0 rfl rfl ?_ | refine S.ld1 rfl rfl ?_ | refine S.ld2 rfl rfl ?_ | refine S.ld3 rfl rfl ?_ | refine S.ld4 rfl rfl ?_ | refine S.ld5 rfl rfl ?_ | refine S.st0 (by rfl) fun _ S f => ?_ | refine S.st1 (by rfl) fun _ S f => ?_ | refine S.st2 (by rfl) fun _ S f => ?_ | refine S.st3 (by rfl) fun _ S f => ?_ | refine S.st4 (by rfl) fun _ S f => ?_ | refine S.st5 (by rfl) fun _ S f => ?_ | refine S.su0 (by rfl) fun _ S f => ?_ | refine S.su1 (by rfl) fun _ S f => ?_ | refine S.su2 (by rfl) fun _ S f => ?_ | refine S.su3 (by rfl) fun _ S f => ?_ | refine S.su4 (by rfl) fun _ S f => ?_ | refine S.su5 (by rfl) fun _ S f => ?_ | refine ⟨by decide, ?_⟩); try dsimp only [List.set_cons_zero, List.set_cons_succ, cond_true, cond_false, Bool.not_true, Bool.not_false]))
      refine cond_eq (fun h0 => aw15 S.ext) (fun h0 => ?_)
      (repeat ((first | refine S.newB fun _ _ S f _ => ?_ | refine S.la0 rfl ?_ | refine S.la1 rfl ?_ | refine S.la2 rfl ?_ | refine S.la3 rfl ?_ | refine S.la4 rfl ?_ | refine S.la5 rfl ?_ | refine S.ld0 rfl rfl ?_ | refine S.ld1 rfl rfl ?_ | refine S.ld2 rfl rfl ?_ | refine S.ld3 rfl rfl ?_ | refine S.ld4 rfl rfl ?_ | refine S.ld5 rfl rfl ?_ | refine S.st0 (by rfl) fun _ S f => ?_ | refine S.st1 (by rfl) fun _ S f => ?_ | refine S.st2 (by rfl) fun _ S f => ?_ | refine S.st3 (by rfl) fun _ S f => ?_ | refine S.st4 (by rfl) fun _ S f => ?_ | refine S.st5 (by rfl) fun _ S f => ?_ | refine S.su0 (by rfl) fun _ S f => ?_ | refine S.su1 (by rfl) fun _ S f => ?_ | refine S.su2 (by rfl) fun _ S f => ?_ | refine S.su3 (by rfl) fun _ S f => ?_ | refine S.su4 (by rfl) fun _ S f => ?_ | refine S.su5 (by rfl) fun _ S f => ?_ | refine ⟨by decide, ?_⟩); try dsimp only [List.set_cons_zero, List.set_cons_succ, cond_true, cond_false, Bool.not_true, Bool.not_false]))
      refine (SameBytes_c (it.ext X2) (ht.ext S.ext)).mono ?_
      rintro ⟨(r3 : Bool), ⟨⟩⟩ w3 ⟨h3, x3⟩
      dsimp only at h3 ⊢
      exact cond_t (by rw [h3]; exact decide_eq_true (hT (by omega))) (aw15 (S.ext.trans x3))
    · (repeat ((first | refine S.newB fun _ _ S f _ => ?_ | refine S.la0 rfl ?_ | refine S.la1 rfl ?_ | refine S.la2 rfl ?_ | refine S.la3 rfl ?_ | refine S.la4 rfl ?_ | refine S.la5 rfl ?_ | refine S.ld0 rfl rfl ?_ | refine S.ld1 rfl rfl ?_ | refine S.ld2 rfl rfl ?_ | refine S.ld3 rfl rfl ?_ | refine S.ld4 rfl rfl ?_ | refine S.ld5 rfl rfl ?_ | refine S.st0 (by rfl) fun _ S f => ?_ | refine S.st1 (by rfl) fun _ S f => ?_ | refine S.st2 (by rfl) fun _ S f => ?_ | refine S.st3 (by rfl) fun _ S f => ?_ | refine S.st4 (by rfl) fun _ S f => ?_ | refine S.st5 (by rfl) fun _ S f => ?_ | refine S.su0 (by rfl) fun _ S f => ?_ | refine S.su1 (by rfl) fun _ S f => ?_ | refine S.su2 (by rfl) fun _ S f => ?_ | refine S.su3 (by rfl) fun _ S f => ?_ | refine S.su4 (by rfl) fun _ S f => ?_ | refine S.su5 (by rfl) fun _ S f => ?_ | refine ⟨by decide, ?_⟩); try dsimp only [List.set_cons_zero, List.set_cons_succ, cond_true, cond_false, Bool.not_true, Bool.not_false]))
      refine (SameBytes_c (is.ext X2) (hx.ext S.ext)).mono ?_
      rintro ⟨(r3 : Bool), ⟨⟩⟩ w3 ⟨h3, x3⟩
      dsimp only at h3 ⊢
      have S := S.stepE x3
      refine cond_t (by rw [h3]; exact decide_eq_true (hP (by omega))) ?_
      (repeat ((first | refine S.newB fun _ _ S f _ => ?_ | refine S.la0 rfl ?_ | refine S.la1 rfl ?_ | refine S.la2 rfl ?_ | refine S.la3 rfl ?_ | refine S.la4 rfl ?_ | refine S.la5 rfl ?_ | refine S.ld0 rfl rfl ?_ | refine S.ld1 rfl rfl ?_ | refine S.ld2 rfl rfl ?_ | refine S.ld3 rfl rfl ?_ | refine S.ld4 rfl rfl ?_ | refine S.ld5 rfl rfl ?_ | refine S.st0 (by rfl) fun _ S f => ?_ | refine S.st1 (by rfl) fun _ S f => ?_ | refine S.st2 (by rfl) fun _ S f => ?_ | refine S.st3 (by rfl) fun _ S f => ?_ | refine S.st4 (by rfl) fun _ S f => ?_ | refine S.st5 (by rfl) fun _ S f => ?_ | refine S.su0 (by rfl) fun _ S f => ?_ | refine S.su1 (by rfl) fun _ S f => ?_ | refine S.su2 (by rfl) fun _ S f => ?_ | refine S.su3 (by rfl) fun _ S f => ?_ | refine S.su4 (by rfl) fun _ S f => ?_ | refine S.su5 (by rfl) fun _ S f => ?_ | refine ⟨by decide, ?_⟩); try dsimp only [List.set_cons_zero, List.set_cons_succ, cond_true, cond_false, Bool.not_true, Bool.not_false]))
      refine cond_eq (fun h0 => aw15 S.ext) (fun h0 => ?_)
      (repeat ((first | refine S.newB fun _ _ S f _ => ?_ | refine S.la0 rfl ?_ | refine S.la1 rfl ?_ | refine S.la2 rfl ?_ | refine S.la3 rfl ?_ | refine S.la4 rfl ?_ | refine S.la5 rfl ?_ | refine S.ld0 rfl rfl ?_ | refine S.ld1 rfl rfl ?_ | refine S.ld2 rfl rfl ?_ | refine S.ld3 rfl rfl ?_ | refine S.ld4 rfl rfl ?_ | refine S.ld5 rfl rfl ?_ | refine S.st0 (by rfl) fun _ S f => ?_ | refine S.st1 (by rfl) fun _ S f => ?_ | refine S.st2 (by rfl) fun _ S f => ?_ | refine S.st3 (by rfl) fun _ S f => ?_ | refine S.st4 (by rfl) fun _ S f => ?_ | refine S.st5 (by rfl) fun _ S f => ?_ | refine S.su0 (by rfl) fun _ S f => ?_ | refine S.su1 (by rfl) fun _ S f => ?_ | refine S.su2 (by rfl) fun _ S f => ?_ | refine S.su3 (by rfl) fun _ S f => ?_ | refine S.su4 (by rfl) fun _ S f => ?_ | refine S.su5 (by rfl) fun _ S f => ?_ | refine ⟨by decide, ?_⟩); try dsimp only [List.set_cons_zero, List.set_cons_succ, cond_true, cond_false, Bool.not_true, Bool.not_false]))
      refine (SameBytes_c (it.ext (X2.trans x3)) (ht.ext S.ext)).mono ?_
      rintro ⟨(r4 : Bool), ⟨⟩⟩ w4 ⟨h4, x4⟩
      dsimp only at h4 ⊢
      exact cond_t (by rw [h4]; exact decide_eq_true (hT (by omega))) (aw15 (S.ext.trans x4))
  · refine cond_f rfl (cond_f rfl ?_)
    (repeat ((first | refine S.newB fun _ _ S f _ => ?_ | refine S.la0 rfl ?_ | refine S.la1 rfl ?_ | refine S.la2 rfl ?_ | refine S.la3 rfl ?_ | refine S.la4 rfl ?_ | refine S.la5 rfl ?_ | refine S.ld0 rfl rfl ?_ | refine S.ld1 rfl rfl ?_ | refine S.ld2 rfl rfl ?_ | refine S.ld3 rfl rfl ?_ | refine S.ld4 rfl rfl ?_ | refine S.ld5 rfl rfl ?_ | refine S.st0 (by rfl) fun _ S f => ?_ | refine S.st1 (by rfl) fun _ S f => ?_ | refine S.st2 (by rfl) fun _ S f => ?_ | refine S.st3 (by rfl) fun _ S f => ?_ | refine S.st4 (by rfl) fun _ S f => ?_ | refine S.st5 (by rfl) fun _ S f => ?_ | refine S.su0 (by rfl) fun _ S f => ?_ | refine S.su1 (by rfl) fun _ S f => ?_ | refine S.su2 (by rfl) fun _ S f => ?_ | refine S.su3 (by rfl) fun _ S f => ?_ | refine S.su4 (by rfl) fun _ S f => ?_ | refine S.su5 (by rfl) fun _ S f => ?_ | refine ⟨by decide, ?_⟩); try dsimp only [List.set_cons_zero, List.set_cons_succ, cond_true, cond_false, Bool.not_true, Bool.not_false]))
    refine S.lb1 (o := 0) rfl (S.la3 rfl ?_)
    refine eqHd (g := h) (h := h) ?_
    refine cond_f (by simp) ?_
    refine S.lb0 (o := 0) rfl (S.la3 rfl ?_)
    refine eqHd (g := h) (h := h) ?_
    refine cond_f (by simp) ?_
    refine (Blank_c hb bb).mono ?_
    rintro ⟨(r4 : Bool), ⟨⟩⟩ w4 ⟨h4, rfl⟩
    dsimp only at h4 ⊢
    exact cond_f (by rw [h4]; exact decide_eq_false hnb) rfl

theorem payL_length {g : Geo} {xs : List Int} (hs : 32 ≤ g.s ∧ g.s ≤ 4096) (h : xs.length = 0 ∨ (xs.length : Int) = g.s) : (payL g xs).length = g.s.toNat := by
  unfold payL
  split
  · rw [List.length_replicate]
  · omega
theorem end_mk {g : Geo} {h : Hd} {xs ts : List Int} (hs : 32 ≤ g.s ∧ g.s ≤ 4096) (hx : xs.length = 0 ∨ (xs.length : Int) = g.s) : endP g (mkL g h xs ts) = endL h ts := by
  unfold endP mkL
  rw [List.drop_append_of_le_length (by rw [payL_length hs hx]; omega), List.drop_eq_nil_of_le (by rw [payL_length hs hx]; omega), List.nil_append]
theorem pays_mk {g : Geo} {h : Hd} {xs ts : List Int} (hs : 32 ≤ g.s ∧ g.s ≤ 4096) (hx : xs.length = 0 ∨ (xs.length : Int) = g.s) : pays g (mkL g h xs ts) = payL g xs := by
  unfold pays mkL
  rw [List.take_append_of_le_length (by rw [payL_length hs hx]; omega), List.take_of_length_le (by rw [payL_length hs hx]; omega)]
theorem and_full {x : Int} (h : 0 ≤ x ∧ x < 256) : Go.bits .and .u8 x 255 = x := by
  obtain ⟨y, rfl⟩ := byte_nat h
  exact and255 y
theorem andL_append {xs ys zs us : List Int} (h : xs.length = zs.length) : andL (xs ++ ys) (zs ++ us) = andL xs zs ++ andL ys us := by
  refine List.ext_getElem (by simp [andL]) fun i h1 h2 => ?_
  simp only [andL, List.getElem_map, List.getElem_range, List.getElem_append, List.length_map, List.length_range]
  split
  · rename_i hi
    rw [getD_left hi, getD_left (by omega)]
  · rename_i hi
    rw [getD_right (by omega), getD_right (by omega), h]
theorem andL_ones {xs : List Int} (bx : Byt xs) {n : Nat} (h : xs.length = n) : andL xs (List.replicate n 255) = xs := by
  refine List.ext_getElem (by simp [andL]) fun i h1 h2 => ?_
  simp only [andL, List.getElem_map, List.getElem_range]
  rw [getD_get (xs := List.replicate n 255) (by simp; omega), List.getElem_replicate, and_full (bx.getD i), getD_get h2]
theorem and_mk {g : Geo} {h : Hd} {xs ts : List Int} (hs : 32 ≤ g.s ∧ g.s ≤ 4096) (hx : xs.length = 0 ∨ (xs.length : Int) = g.s) (hR : HRight h) (bx : Byt xs) (bt : Byt ts) (ht : ts.length = 0 ∨ ts.length = 32) : andL (mkL g h xs ts) (comL g) = payL g xs ++ markL h ts := by
  unfold mkL comL
  rw [show (g.s + 80).toNat = g.s.toNat + 80 by omega, ← List.replicate_append_replicate, List.append_assoc, andL_append (by rw [payL_length hs hx, List.length_replicate]), and_mark hR bt ht, andL_ones _ (payL_length hs hx)]
  unfold payL
  split
  · exact Byt.replicate (by omega) (by omega) _
  · exact bx
theorem end_mark {g : Geo} {h : Hd} {xs ts : List Int} (hs : 32 ≤ g.s ∧ g.s ≤ 4096) (hx : xs.length = 0 ∨ (xs.length : Int) = g.s) : endP g (payL g xs ++ markL h ts) = markL h ts := by
  unfold endP
  rw [List.drop_append_of_le_length (by rw [payL_length hs hx]; omega), List.drop_eq_nil_of_le (by rw [payL_length hs hx]; omega), List.nil_append]
theorem pays_mark {g : Geo} {h : Hd} {xs ts : List Int} (hs : 32 ≤ g.s ∧ g.s ≤ 4096) (hx : xs.length = 0 ∨ (xs.length : Int) = g.s) : pays g (payL g xs ++ markL h ts) = payL g xs := by
  unfold pays
  rw [List.take_append_of_le_length (by rw [payL_length hs hx]; omega), List.take_of_length_le (by rw [payL_length hs hx]; omega)]
theorem tags_end {h : Hd} {ts : List Int} (ht : ts.length = 0 ∨ ts.length = 32) : part (endL h ts) 48 80 = tagL ts := by
  have l1 : (hdL h ++ invL (hdL h)).length = 48 := by rw [List.length_append, invL_length, hdL_length]
  unfold part endL
  rw [List.append_assoc, List.drop_append_of_le_length (by omega), List.drop_eq_nil_of_le (by omega), List.nil_append, List.take_append_of_le_length (by rw [tagL_length ht]; omega), List.take_of_length_le (by rw [tagL_length ht]; omega)]

theorem PageBack_law {w : World} {g : Geo} {h : Hd} {a a2 : Option Addr} {n c m c2 : Nat} {xs ts : List Int} (hg : h.rng) (hx : Ints w .u8 a n c xs) (ht : Ints w .u8 a2 m c2 ts) (bx : Byt xs) (bt : Byt ts) :
    CallV Try.prog 6 #[g.val, h.val, .agg #[.slice a n c, .slice a2 m c2]] w [.one .bool] fun r w' => r.1 = true ∧ Ext w w' := by
  apply law15_PageBack.vc
  unfold law15_PageBack.P
  have lx := hx.len
  have lt := ht.len
  have S := Sep.start NoB w
  refine S.newB fun b1 _ S _ _ => ?_
  refine S.newB fun b3 _ S _ _ => ?_
  refine S.newB fun b5 _ S _ _ => ?_
  (repeat ((first | refine S.newB fun _ _ S f _ => ?_ | refine S.la0 rfl ?_ | refine S.la1 rfl ?_ | refine S.la2 rfl ?_ | refine S.la3 rfl ?_ | refine S.la4 rfl ?_ | refine S.la5 rfl ?_ | refine S.ld0 rfl rfl ?_ | refine S.ld1 rfl rfl ?_ | refine S.ld2 rfl rfl ?_ | refine S.ld3 rfl rfl ?_ | refine S.ld4 rfl rfl ?_ | refine S.ld5 rfl rfl ?_ | refine S.st0 (by rfl) fun _ S f => ?_ | refine S.st1 (by rfl) fun _ S f => ?_ | refine S.st2 (by rfl) fun _ S f => ?_ | refine S.st3 (by rfl) fun _ S f => ?_ | refine S.st4 (by rfl) fun _ S f => ?_ | refine S.st5 (by rfl) fun _ S f => ?_ | refine S.su0 (by rfl) fun _ S f => ?_ | refine S.su1 (by rfl) fun _ S f => ?_ | refine S.su2 (by rfl) fun _ S f => ?_ | refine S.su3 (by rfl) fun _ S f => ?_ | refine S.su4 (by rfl) fun _ S f => ?_ | refine S.su5 (by rfl) fun _ S f => ?_ | refine ⟨by decide, ?_⟩); try dsimp only [List.set_cons_zero, List.set_cons_succ, cond_true, cond_false, Bool.not_true, Bool.not_false]))
  refine (Make_c (g := g) hg (hx.ext S.ext) (ht.ext S.ext)).mono ?_
  rintro ⟨⟨sa, sn, sc⟩, (e2 : Int), ⟨⟩⟩ w2 ⟨x2, h2, h2'⟩
  dsimp only at h2 h2' ⊢
  have S := S.stepE x2
  by_cases hP : PRight g h n m
  case neg =>
    obtain ⟨-, k2⟩ := h2' hP
    subst k2
    exact cond_t rfl (aw15 S.ext)
  obtain ⟨k1, k2⟩ := h2 hP
  subst k2
  refine cond_f rfl ?_
  obtain ⟨hR, hE, hn⟩ := hP
  have hs := hR.sec
  have hm : ts.length = 0 ∨ ts.length = 32 := by have := hE.2; omega
  have hn' : xs.length = 0 ∨ (xs.length : Int) = g.s := by omega
  (repeat ((first | refine S.newB fun _ _ S f _ => ?_ | refine S.la0 rfl ?_ | refine S.la1 rfl ?_ | refine S.la2 rfl ?_ | refine S.la3 rfl ?_ | refine S.la4 rfl ?_ | refine S.la5 rfl ?_ | refine S.ld0 rfl rfl ?_ | refine S.ld1 rfl rfl ?_ | refine S.ld2 rfl rfl ?_ | refine S.ld3 rfl rfl ?_ | refine S.ld4 rfl rfl ?_ | refine S.ld5 rfl rfl ?_ | refine S.st0 (by rfl) fun _ S f => ?_ | refine S.st1 (by rfl) fun _ S f => ?_ | refine S.st2 (by rfl) fun _ S f => ?_ | refine S.st3 (by rfl) fun _ S f => ?_ | refine S.st4 (by rfl) fun _ S f => ?_ | refine S.st5 (by rfl) fun _ S f => ?_ | refine S.su0 (by rfl) fun _ S f => ?_ | refine S.su1 (by rfl) fun _ S f => ?_ | refine S.su2 (by rfl) fun _ S f => ?_ | refine S.su3 (by rfl) fun _ S f => ?_ | refine S.su4 (by rfl) fun _ S f => ?_ | refine S.su5 (by rfl) fun _ S f => ?_ | refine ⟨by decide, ?_⟩); try dsimp only [List.set_cons_zero, List.set_cons_succ, cond_true, cond_false, Bool.not_true, Bool.not_false]))
  refine (PCommit_c (g := g)).mono ?_
  rintro ⟨⟨ta, tn, tc⟩, (e3 : Int), ⟨⟩⟩ w3 ⟨x3, h3, -⟩
  obtain ⟨m1, -⟩ := h3 hR
  dsimp only at m1 ⊢
  have S := S.stepE x3
  have b1 := (k1.ints.ext x3)
  have b2 := m1.ints
  have lb : (mkL g h xs ts).length = g.s.toNat + 88 := by unfold mkL; rw [List.length_append, payL_length hs hn', endL_length h hm]
  have lc : (comL g).length = g.s.toNat + 88 := by unfold comL; rw [List.length_append, List.length_replicate, List.length_replicate]; omega
  have l1 := b1.len
  have l2 := b2.len
  dsimp only at l1 l2 b1 b2
  rw [lb] at l1; rw [lc] at l2
  have bm : Byt (mkL g h xs ts) := mkL_byt hg hE.1 bx bt
  refine cond_ne (fun hh => absurd (by omega) hh) fun _ => ?_
  have hL : lenP g (mkL g h xs ts) := ⟨hR, by rw [lb]; omega⟩
  have q1 := end_mk (h := h) (ts := ts) hs hn'
  have q2 := pays_mk (h := h) (ts := ts) hs hn'
  have hO : okR (endP g (mkL g h xs ts)) := by rw [q1]; exact endL_ok h hm hg hE.1
  (repeat ((first | refine S.newB fun _ _ S f _ => ?_ | refine S.la0 rfl ?_ | refine S.la1 rfl ?_ | refine S.la2 rfl ?_ | refine S.la3 rfl ?_ | refine S.la4 rfl ?_ | refine S.la5 rfl ?_ | refine S.ld0 rfl rfl ?_ | refine S.ld1 rfl rfl ?_ | refine S.ld2 rfl rfl ?_ | refine S.ld3 rfl rfl ?_ | refine S.ld4 rfl rfl ?_ | refine S.ld5 rfl rfl ?_ | refine S.st0 (by rfl) fun _ S f => ?_ | refine S.st1 (by rfl) fun _ S f => ?_ | refine S.st2 (by rfl) fun _ S f => ?_ | refine S.st3 (by rfl) fun _ S f => ?_ | refine S.st4 (by rfl) fun _ S f => ?_ | refine S.st5 (by rfl) fun _ S f => ?_ | refine S.su0 (by rfl) fun _ S f => ?_ | refine S.su1 (by rfl) fun _ S f => ?_ | refine S.su2 (by rfl) fun _ S f => ?_ | refine S.su3 (by rfl) fun _ S f => ?_ | refine S.su4 (by rfl) fun _ S f => ?_ | refine S.su5 (by rfl) fun _ S f => ?_ | refine ⟨by decide, ?_⟩); try dsimp only [List.set_cons_zero, List.set_cons_succ, cond_true, cond_false, Bool.not_true, Bool.not_false]))
  refine (PReadU_c (g := g) b1 bm).mono ?_
  rintro ⟨⟨(k1 : Int), (k2 : Int), (k3 : Int), (k4 : Int), (k5 : Int), (k6 : Int), ⟨ua, un, uc⟩, ⟨va, vn, vc⟩, (d : Bool), ⟨⟩⟩, (e4 : Int), ⟨⟩⟩ w4 ⟨x4, h4, s, t, q, is, it⟩
  have hps : pSpec g (mkL g h xs ts) = ⟨h, false, payL g xs, tagL ts⟩ := by
    unfold pSpec fS tags
    rw [if_pos ⟨hL, hO⟩, q1, q2, endL_hd h hg, endL_comm hm, tags_end hm]
  have he : rdE g (mkL g h xs ts) = 0 := by unfold rdE; rw [if_pos hL, if_pos hO]
  rw [he] at h4
  rw [hps] at q is it
  dsimp only at h4 q ⊢
  cases q
  subst h4
  dsimp only at is it
  have S := S.stepE x4
  refine S.newB fun b21 w5 S f5 _ => ?_
  refine S.st0 (by rfl) fun w6 S f6 => ?_
  have X6 : Ext w4 w6 := Fr.ext (f5.trans' f6 fun k hk => .inr (by omega))
  have X36 : Ext w3 w6 := x4.trans X6
  have hnb : mkL g h xs ts ≠ List.replicate (mkL g h xs ts).length 255 := fun hh => by
    have : endP g (mkL g h xs ts) = endP g (List.replicate (mkL g h xs ts).length 255) := by rw [← hh]
    rw [endP_rep, lb] at this
    rw [this] at hO
    exact blank_ok (by omega) hO
  have hA : andL (mkL g h xs ts) (comL g) = payL g xs ++ markL h ts := and_mk hs hn' hE.1 bx bt hm
  have bA : Byt (payL g xs ++ markL h ts) := by rw [← hA]; exact andL_byt _ _
  have q3 := end_mark (h := h) (ts := ts) hs hn'
  have q4 := pays_mark (h := h) (ts := ts) hs hn'
  have hLA : lenP g (payL g xs ++ markL h ts) := ⟨hR, by rw [List.length_append, payL_length hs hn', markL_length h hm]; omega⟩
  have hOA : okR (endP g (payL g xs ++ markL h ts)) := by rw [q3]; exact markL_ok h hE.1
  have hpA : pSpec g (payL g xs ++ markL h ts) = ⟨h, true, payL g xs, tagL ts⟩ := by
    unfold pSpec fS tags
    rw [if_pos ⟨hLA, hOA⟩, q3, q4, markL_hd h hg, markL_comm h hm, part_core h hm, tags_end hm]
  have heA : rdE g (payL g xs ++ markL h ts) = 0 := by unfold rdE; rw [if_pos hLA, if_pos hOA]
  have hPP : n ≠ 0 → payL g xs = xs := fun h => by unfold payL; rw [if_neg (by omega)]
  have hTT : m ≠ 0 → tagL ts = ts := fun h => by unfold tagL; rw [if_neg (by omega)]
  refine S.reg fun D hD hkeep Sd T => ?_
  have Y : Ext w3 w6.drew := X36.trans (Ext.drew _)
  have YI : Ext w4 w6.drew := X6.trans (Ext.drew _)
  refine ⟨hD _ S.bl3, Sd.la3 rfl ?_⟩
  dsimp only
  have fin : ∀ {w' : World} {Rs : List Asr} {b30 : Nat} {s' t' : SlV} {e : TypeId}, Sep NoB w6.drew w' (BoxA b30 e (pgC h s' t' true) :: Rs) → Ints w' .u8 s'.a s'.n s'.c (payL g xs) → Ints w' .u8 t'.a t'.n t'.c (tagL ts) →
      law15_PageBack.T b21 b30 b5 (fun r w' => r.1 = true ∧ Ext w w') (pgT h ⟨ua, un, uc⟩ ⟨va, vn, vc⟩ false, (0 : Int), ()) w' (pgT h s' t' true, (0 : Int), ()) b3 (⟨sa, sn, sc⟩, (0 : Int), ()) := fun T i5 i6 =>
    back_tail ((Sd.frame0 T.take1).sel [0, 0, 0, 0] rfl) (is.ext (YI.trans T.ext)) (it.ext (YI.trans T.ext)) i5 i6 hx ht hPP hTT (b1.ext (Y.trans T.ext)) bm hnb
  refine ⟨?_, ?_⟩
  · refine (And_c (b1.ext Y) (b2.ext Y) (by omega) (by omega)).mono ?_
    rintro ⟨⟨xa, xn, xc⟩, ⟨⟩⟩ w7 h7
    rw [hA] at h7
    dsimp only at h7 ⊢
    have T := T.res h7
    dsimp only at T
    refine ⟨hkeep _ T.fr, ?_, ?_⟩
    · refine (PReadU_c (g := g) T.in0 bA).mono ?_
      rintro ⟨⟨(k1 : Int), (k2 : Int), (k3 : Int), (k4 : Int), (k5 : Int), (k6 : Int), ⟨oa, on, oc⟩, ⟨pa, pn, pc⟩, (d : Bool), ⟨⟩⟩, (e8 : Int), ⟨⟩⟩ w8 ⟨x8, h8, s8, t8, q8, is8, it8⟩
      rw [heA] at h8
      rw [hpA] at q8 is8 it8
      dsimp only at h8 q8 ⊢
      cases q8
      subst h8
      have T := T.stepE x8
      refine ⟨hkeep _ T.fr, ?_⟩
      refine T.newB fun b30 w9 T f9 _ => ⟨hkeep _ T.fr, ?_⟩
      refine T.st0 (by rfl) fun w10 T f10 => ⟨hkeep _ T.fr, ?_⟩
      have X10 : Ext w8 w10 := Fr.ext (f9.trans' f10 fun k hk => .inr (by omega))
      exact fin T (is8.ext X10) (it8.ext X10)
    · refine T.newB fun b30 w9 T f9 _ => ⟨hkeep _ T.fr, ?_⟩
      refine (PRead_c (g := g) T.in1 bA).mono ?_
      rintro ⟨⟨(k1 : Int), (k2 : Int), (k3 : Int), (k4 : Int), (k5 : Int), (k6 : Int), ⟨oa, on, oc⟩, ⟨pa, pn, pc⟩, (d : Bool), ⟨⟩⟩, (e8 : Int), ⟨⟩⟩ w8 ⟨x8, -, -, hh8⟩
      obtain ⟨h8, s8, t8, q8, -, -, T8⟩ := hh8 hLA hOA
      clear hh8
      rw [q3, markL_hd h hg, markL_comm h hm] at q8
      rw [q4, show tags g (payL g xs ++ markL h ts) = tagL ts by unfold tags; rw [q3, part_core h hm, tags_end hm]] at T8
      dsimp only at h8 q8 ⊢
      cases q8
      subst h8
      have T := T.frame0 T8
      dsimp only [List.cons_append, List.nil_append] at T
      refine ⟨hkeep _ T.fr, ?_⟩
      refine T.st2 (by rfl) fun w10 T f10 => ⟨hkeep _ T.fr, ?_⟩
      exact fin (s' := ⟨oa, on, oc⟩) (t' := ⟨pa, pn, pc⟩) (T.sel [2] rfl) T.in0 T.in1
  · refine T.newB fun b30 w9 T f9 _ => ⟨hkeep _ T.fr, ?_⟩
    refine (And_c (b1.ext (Y.trans T.ext)) (b2.ext (Y.trans T.ext)) (by omega) (by omega)).mono ?_
    rintro ⟨⟨xa, xn, xc⟩, ⟨⟩⟩ w7 h7
    rw [hA] at h7
    dsimp only at h7 ⊢
    have T := T.res h7
    dsimp only at T
    refine ⟨hkeep _ T.fr, ?_⟩
    refine (PRead_c (g := g) T.in0 bA).mono ?_
    rintro ⟨⟨(k1 : Int), (k2 : Int), (k3 : Int), (k4 : Int), (k5 : Int), (k6 : Int), ⟨oa, on, oc⟩, ⟨pa, pn, pc⟩, (d : Bool), ⟨⟩⟩, (e8 : Int), ⟨⟩⟩ w8 ⟨x8, -, -, hh8⟩
    obtain ⟨h8, s8, t8, q8, -, -, T8⟩ := hh8 hLA hOA
    clear hh8
    rw [q3, markL_hd h hg, markL_comm h hm] at q8
    rw [q4, show tags g (payL g xs ++ markL h ts) = tagL ts by unfold tags; rw [q3, part_core h hm, tags_end hm]] at T8
    dsimp only at h8 q8 ⊢
    cases q8
    subst h8
    have T := T.frame0 T8
    dsimp only [List.cons_append, List.nil_append] at T
    refine ⟨hkeep _ T.fr, ?_⟩
    refine T.st3 (by rfl) fun w10 T f10 => ⟨hkeep _ T.fr, ?_⟩
    exact fin (s' := ⟨oa, on, oc⟩) (t' := ⟨pa, pn, pc⟩) (T.sel [3] rfl) T.in0 T.in1

theorem PageBack_of {w : World} {x : TGeo.T} {y : THd.T} {z : TTwo.T} (g0 : TGeo.ok w x) (g1 : THd.ok w y) (g2 : TTwo.ok w z) :
    CallV Try.prog 6 #[.agg (TGeo.vs x).toArray, .agg (THd.vs y).toArray, .agg (TTwo.vs z).toArray] w [.one .bool] fun r w' => r.1 = true ∧ Ext w w' := by
  rw [geoT_val, hdT_val]
  have r1 := Ty.rd_of _ g2.1
  have r2 := Ty.rd_of _ g2.2.1
  exact PageBack_law (hdT_rng g1) (Ty.ints r1) (Ty.ints r2) (Ty.byt r1) (Ty.byt r2)

end Go.Proofs.Ytfpkaebmiojicaa.Vc

/-! Plain laws of layer 19 (chunk): a record's pages, and what they hold. -/
namespace Go.Proofs.Ytfpkaebmiojicaa.Vc
open Go Go.Eng Go.RowKit
set_option linter.unusedVariables false
set_option linter.unusedSimpArgs false

/-- How many pages a record has. -/
def nCh (g : Geo) : Int := cei 624 g.s
def ownH (g : Geo) (i gen : Int) : Hd := ⟨4, i, 0, nCh g, gen, 0⟩
theorem nCh_bd {g : Geo} (h : Right g) : (1 ≤ nCh g ∧ nCh g ≤ 32) ∧ 624 ≤ nCh g * g.s ∧ (nCh g - 1) * g.s < 624 ∧ nCh g * g.s ≤ 5000 := by
  have hs := h.sec
  have h2 := h.2.1
  have h3 : g.p ≤ 32 := h.1.2.1.2
  have hb := cei_bd (u := g.s) (m := 624) (by omega) (by omega)
  unfold nCh
  have e : cei 624 g.s = (624 + g.s - 1) / g.s := rfl
  have d := Int.mul_ediv_add_emod (624 + g.s - 1) g.s
  have r1 := Int.emod_nonneg (624 + g.s - 1) (show g.s ≠ 0 by omega)
  have r2 := Int.emod_lt_of_pos (624 + g.s - 1) (show 0 < g.s by omega)
  rw [← e] at d
  have c1 : g.s * cei 624 g.s = cei 624 g.s * g.s := Int.mul_comm _ _
  have c2 : (cei 624 g.s - 1) * g.s = cei 624 g.s * g.s - g.s := by rw [Int.sub_mul, Int.one_mul]
  refine ⟨⟨hb.1, by omega⟩, by omega, by omega, by omega⟩
theorem ownH_rng {g : Geo} {i gen : Int} (h : Right g) (hgen : 0 ≤ gen ∧ gen < 18446744073709551616) : (ownH g i gen).rng := by
  have := nCh_bd h
  unfold Hd.rng ownH
  dsimp only
  omega
theorem ownH_right {g : Geo} {i gen : Int} (hi : 0 ≤ i ∧ i < 32) : HRight (ownH g i gen) := by
  unfold HRight ownH
  dsimp only
  omega

/-- A record, filled up. -/
def allR (g : Geo) (rec : List Int) : List Int := rec ++ List.replicate (nCh g * g.s - 624).toNat 255
def chk (g : Geo) (rec : List Int) (i : Nat) : List Int := ((allR g rec).drop (i * g.s.toNat)).take g.s.toNat
def pgOf (g : Geo) (rec : List Int) (gen : Int) (i : Nat) : List Int := mkL g (ownH g i gen) (chk g rec i) []
def pagesL (g : Geo) (rec : List Int) (gen : Int) : List (List Int) := (List.range (nCh g).toNat).map (pgOf g rec gen)
theorem allR_length {g : Geo} (h : Right g) {rec : List Int} (hr : rec.length = 624) : (allR g rec).length = (nCh g).toNat * g.s.toNat := by
  have b := nCh_bd h
  have hs := h.sec
  unfold allR
  rw [List.length_append, hr, List.length_replicate]
  have e : ((nCh g).toNat * g.s.toNat : Nat) = (nCh g * g.s).toNat := by
    rw [Int.toNat_mul (by omega) (by omega)]
  omega
theorem chk_length {g : Geo} (h : Right g) {rec : List Int} (hr : rec.length = 624) {i : Nat} (hi : i < (nCh g).toNat) : (chk g rec i).length = g.s.toNat := by
  unfold chk
  rw [List.length_take, List.length_drop, allR_length h hr]
  have : (i + 1) * g.s.toNat ≤ (nCh g).toNat * g.s.toNat := Nat.mul_le_mul_right _ hi
  rw [Nat.add_mul] at this
  omega
theorem allR_byt {g : Geo} {rec : List Int} (br : Byt rec) : Byt (allR g rec) := br.append (Byt.replicate (by omega) (by omega) _)
theorem chk_byt {g : Geo} {rec : List Int} (br : Byt rec) (i : Nat) : Byt (chk g rec i) := ((allR_byt br).drop _).take _
theorem chunks_join (xs : List Int) (s : Nat) : ∀ n : Nat, ((List.range n).map fun i => (xs.drop (i * s)).take s).flatten = xs.take (n * s)
  | 0 => by simp
  | n + 1 => by
    rw [List.range_succ, List.map_append, List.flatten_append, chunks_join xs s n, Nat.add_mul, Nat.one_mul, List.take_add]
    simp

/-- What pages hold. -/
def gen0 (g : Geo) (ps : List (List Int)) : Int := (hdOf (endP g (ps.getD 0 []))).e
def pageOk (g : Geo) (ps : List (List Int)) (i : Nat) : Prop :=
  lenP g (ps.getD i []) ∧ okR (endP g (ps.getD i [])) ∧ hdOf (endP g (ps.getD i [])) = ownH g i (gen0 g ps) ∧ ((i : Int) = nCh g - 1 → comm (endP g (ps.getD i [])) = true)
def holds (g : Geo) (ps : List (List Int)) : Prop := Right g ∧ (nCh g).toNat ≤ ps.length ∧ ∀ i : Nat, i < (nCh g).toNat → pageOk g ps i
def recOf (g : Geo) (ps : List (List Int)) : List Int := (((List.range (nCh g).toNat).map fun i => pays g (ps.getD i [])).flatten).take 624
open Classical in
noncomputable def holdS (g : Geo) (ps : List (List Int)) : Int × List Int × Bool := if holds g ps then (gen0 g ps, recOf g ps, true) else (0, [], false)

end Go.Proofs.Ytfpkaebmiojicaa.Vc

/-! The plans of functions as plain statements, printed by wip/tools/vcgen.py; the kernel holds each to the code. -/
namespace Go.Proofs.Ytfpkaebmiojicaa.Vc
open Go Go.Eng
set_option linter.unusedVariables false

/-! ### nepenthe/chunk.own: function 72 -/
def chunk_own.A : Ann := .no
def chunk_own.P (p0_0 : Int) (p0_1 : Int) (p0_2 : Int) (p0_3 : Int) (p0_4 : Int) (p0_5 : Int) (p1 : Int) (p2 : Int) (w : World) (K : (Int × Int × Int × Int × Int × Int × Unit) × Unit → World → Prop) : Prop :=
  NewV #[.int .i64 p0_0, .int .i64 p0_1, .int .i64 p0_2, .int .i64 p0_3, .int .i64 p0_4, .int .i64 p0_5] 23 w fun b1 w2 =>
  NewV #[.int .i64 0, .int .i64 0, .int .i64 0, .int .u32 0, .int .u64 0, .int .u64 0] 27 w2 fun b3 w4 =>
  LoadA w4 ⟨b1, 0, none⟩ [.int .i64, .int .i64, .int .i64, .int .i64, .int .i64, .int .i64] fun (x5 : Int × Int × Int × Int × Int × Int × Unit) =>
  CallV Try.prog 71 #[.agg #[.int .i64 x5.1, .int .i64 x5.2.1, .int .i64 x5.2.2.1, .int .i64 x5.2.2.2.1, .int .i64 x5.2.2.2.2.1, .int .i64 x5.2.2.2.2.2.1]] w4 [.one (.int .i64)] fun (r6 : Int × Unit) w7 =>
  StoreV w7 ⟨b3, 0, none⟩ [.int .i64 4, .int .i64 p1, .int .i64 0, .int .u32 (IntKind.u32.wrap r6.1), .int .u64 p2, .int .u64 0] fun w8 =>
  LoadA w8 ⟨b3, 0, none⟩ [.int .i64, .int .i64, .int .i64, .int .u32, .int .u64, .int .u64] fun (x9 : Int × Int × Int × Int × Int × Int × Unit) =>
  K ((x9.1, x9.2.1, x9.2.2.1, x9.2.2.2.1, x9.2.2.2.2.1, x9.2.2.2.2.2.1, ()), ()) w8
theorem chunk_own.vc (p0_0 : Int) (p0_1 : Int) (p0_2 : Int) (p0_3 : Int) (p0_4 : Int) (p0_5 : Int) (p1 : Int) (p2 : Int) (w : World) (K : (Int × Int × Int × Int × Int × Int × Unit) × Unit → World → Prop) (h : chunk_own.P p0_0 p0_1 p0_2 p0_3 p0_4 p0_5 p1 p2 w K) : CallV Try.prog 72 #[.agg #[.int .i64 p0_0, .int .i64 p0_1, .int .i64 p0_2, .int .i64 p0_3, .int .i64 p0_4, .int .i64 p0_5], .int .i64 p1, .int .u64 p2] w [.agg [.int .i64, .int .i64, .int .i64, .int .u32, .int .u64, .int .u64]] K := by
  have e : vcFun Try.prog okf false Try.f72 chunk_own.A #[.agg #[.int .i64 p0_0, .int .i64 p0_1, .int .i64 p0_2, .int .i64 p0_3, .int .i64 p0_4, .int .i64 p0_5], .int .i64 p1, .int .u64 p2] w [.agg [.int .i64, .int .i64, .int .i64, .int .u32, .int .u64, .int .u64]] K = chunk_own.P p0_0 p0_1 p0_2 p0_3 p0_4 p0_5 p1 p2 w K := by kernel_rfl
  exact vcFun.calls okf_ok follows Try.func72 (e.symm ▸ h)

/-! ### nepenthe/chunk.Pages: function 31 -/
-- loop 0 carries 10: .one .sl, 37: .one (.int .i64)
def chunk_Pages.A : Ann := .two .no (.two .no (.two .no (.two (.draw (.take 1 (.take 3 (.take 4 (.take 5 (.take 6 (.take 7 (.take 8 (.take 9 (.eff 0 (.eff 2 (.eff 10 (.eff 11 (.take 12 (.done))))))))))))))) (.two .no (.two (.two .no (.one (.loop [6, 7, 10, 11, 12, 13, 37, 38, 39, 40, 41, 42, 43, 44, 45, 46, 47, 48, 49, 50, 51, 52, 53, 54, 55, 56, 57, 58, 59, 60, 61, 62, 63, 64, 65, 66, 67, 68, 69, 70, 71, 72] [(10, .one .sl), (37, .one (.int .i64))] (.two .no (.two .no (.two (.one (.two .no (.two (.draw (.take 0 (.take 1 (.take 2 (.take 3 (.take 5 (.take 6 (.take 7 (.take 8 (.take 9 (.take 10 (.take 11 (.take 12 (.take 13 (.take 14 (.take 15 (.take 16 (.take 17 (.take 18 (.take 19 (.take 20 (.eff 4 (.eff 21 (.take 22 (.take 23 (.take 24 (.take 25 (.take 26 (.done))))))))))))))))))))))))))))) .no))) .no)))))) .no)))))
def chunk_Pages.P (p0_0 : Int) (p0_1 : Int) (p0_2 : Int) (p0_3 : Int) (p0_4 : Int) (p0_5 : Int) (a1 : Option Addr) (n1 c1 : Nat) (p2 : Int) (w : World) (K : SlV × Int × Unit → World → Prop) : Prop :=
  NewV #[.int .i64 p0_0, .int .i64 p0_1, .int .i64 p0_2, .int .i64 p0_3, .int .i64 p0_4, .int .i64 p0_5] 23 w fun b1 w2 =>
  LoadA w2 ⟨b1, 0, none⟩ [.int .i64, .int .i64, .int .i64, .int .i64, .int .i64, .int .i64] fun (x3 : Int × Int × Int × Int × Int × Int × Unit) =>
  CallV Try.prog 57 #[.agg #[.int .i64 x3.1, .int .i64 x3.2.1, .int .i64 x3.2.2.1, .int .i64 x3.2.2.2.1, .int .i64 x3.2.2.2.2.1, .int .i64 x3.2.2.2.2.2.1]] w2 [.one (.int .i64)] fun (r4 : Int × Unit) w5 =>
  cond (r4.1 != 0)
  (K ((⟨none, 0, 0⟩ : SlV), (2 : Int), ()) w5)
  (cond (((n1 : Nat) : Int) != 624)
  (K ((⟨none, 0, 0⟩ : SlV), (2 : Int), ()) w5)
  (LoadA w5 ⟨b1, 0, none⟩ [.int .i64, .int .i64, .int .i64, .int .i64, .int .i64, .int .i64] fun (x6 : Int × Int × Int × Int × Int × Int × Unit) =>
  CallV Try.prog 71 #[.agg #[.int .i64 x6.1, .int .i64 x6.2.1, .int .i64 x6.2.2.1, .int .i64 x6.2.2.2.1, .int .i64 x6.2.2.2.2.1, .int .i64 x6.2.2.2.2.2.1]] w5 [.one (.int .i64)] fun (r7 : Int × Unit) w8 =>
  DrawV fun D9 =>
  (D9 b1 ∧ LoadS w8.drew ⟨b1, 2, none⟩ (.int .i64) fun (x10 : Int) =>
  Rng .i64 (r7.1 * x10) ∧
  Rng .i64 ((r7.1 * x10) - ((n1 : Nat) : Int)) ∧
  NewV #[] 5 w8.drew fun b11 w12 =>
  KeepOn D9 w8.drew w12 ∧
  AppS w12 a1 n1 1 fun ns17 =>
  AppV w12 5 1 1 (some ⟨b11, 0, none⟩) 0 0 ns17 n1 fun a13 n14 c15 w16 =>
  KeepOn D9 w8.drew w16 ∧
  CallV Try.prog 58 #[.int .u8 255, .int .i64 ((r7.1 * x10) - ((n1 : Nat) : Int))] w16 [.one .sl] fun (r18 : SlV × Unit) w19 =>
  KeepOn D9 w8.drew w19 ∧
  AppS w19 r18.1.a r18.1.n 1 fun ns24 =>
  AppV w19 5 1 1 a13 n14 c15 ns24 r18.1.n fun a20 n21 c22 w23 =>
  KeepOn D9 w8.drew w23 ∧
  LoopV [.one .sl, .one (.int .i64)] ((⟨none, 0, 0⟩ : SlV), (0 : Int), ()) w23 fun (z25 : SlV × Int × Unit) w26 (K27 : SlV × Int × Unit → World → Prop) =>
  cond (decide (z25.2.1 < r7.1))
  (DrawV fun D28 =>
  (D28 b1 ∧ LoadA w26.drew ⟨b1, 0, none⟩ [.int .i64, .int .i64, .int .i64, .int .i64, .int .i64, .int .i64] fun (x29 : Int × Int × Int × Int × Int × Int × Unit) =>
  (D28 b1 ∧ LoadA w26.drew ⟨b1, 0, none⟩ [.int .i64, .int .i64, .int .i64, .int .i64, .int .i64, .int .i64] fun (x30 : Int × Int × Int × Int × Int × Int × Unit) =>
  (D28 b1 ∧ LoadS w26.drew ⟨b1, 2, none⟩ (.int .i64) fun (x31 : Int) =>
  Rng .i64 (z25.2.1 * x31) ∧
  Rng .i64 (z25.2.1 + 1) ∧
  (D28 b1 ∧ LoadS w26.drew ⟨b1, 2, none⟩ (.int .i64) fun (x32 : Int) =>
  Rng .i64 ((z25.2.1 + 1) * x32) ∧
  Rng .i64 (z25.2.1 + 1) ∧
  (D28 b1 ∧ LoadS w26.drew ⟨b1, 2, none⟩ (.int .i64) fun (x33 : Int) =>
  Rng .i64 ((z25.2.1 + 1) * x33) ∧
  ((0 : Int) ≤ (z25.2.1 * x31) ∧ (z25.2.1 * x31) ≤ ((z25.2.1 + 1) * x32) ∧ ((z25.2.1 + 1) * x32) ≤ ((z25.2.1 + 1) * x33) ∧ ((z25.2.1 + 1) * x33) ≤ ((c22 : Nat) : Int)) ∧
  SubK a20 ((z25.2.1 * x31).toNat) (((z25.2.1 + 1) * x33).toNat) 1 fun a34 =>
  CallV Try.prog 72 #[.agg #[.int .i64 x30.1, .int .i64 x30.2.1, .int .i64 x30.2.2.1, .int .i64 x30.2.2.2.1, .int .i64 x30.2.2.2.2.1, .int .i64 x30.2.2.2.2.2.1], .int .i64 z25.2.1, .int .u64 p2] w26.drew [.agg [.int .i64, .int .i64, .int .i64, .int .u32, .int .u64, .int .u64]] fun (r35 : (Int × Int × Int × Int × Int × Int × Unit) × Unit) w36 =>
  KeepOn D28 w26.drew w36 ∧
  CallV Try.prog 15 #[.agg #[.int .i64 x29.1, .int .i64 x29.2.1, .int .i64 x29.2.2.1, .int .i64 x29.2.2.2.1, .int .i64 x29.2.2.2.2.1, .int .i64 x29.2.2.2.2.2.1], .agg #[.int .i64 r35.1.1, .int .i64 r35.1.2.1, .int .i64 r35.1.2.2.1, .int .u32 r35.1.2.2.2.1, .int .u64 r35.1.2.2.2.2.1, .int .u64 r35.1.2.2.2.2.2.1], .slice a34 ((((z25.2.1 + 1) * x32).toNat) - ((z25.2.1 * x31).toNat)) ((((z25.2.1 + 1) * x33).toNat) - ((z25.2.1 * x31).toNat)), .slice none 0 0] w36 [.one .sl, .one (.int .i64)] fun (r37 : SlV × Int × Unit) w38 =>
  KeepOn D28 w26.drew w38 ∧
  cond (r37.2.1 != 0)
  (K ((⟨none, 0, 0⟩ : SlV), r37.2.1, ()) w38)
  (NewV #[.slice r37.1.a r37.1.n r37.1.c] 28 w38 fun b39 w40 =>
  AppS w40 (some ⟨b39, 0, none⟩) 1 1 fun ns45 =>
  AppV w40 28 1 24 z25.1.a z25.1.n z25.1.c ns45 1 fun a41 n42 c43 w44 =>
  Rng .i64 (z25.2.1 + 1) ∧
  K27 ((⟨a41, n42, c43⟩ : SlV), z25.2.1 + 1, ()) w44)))))))
  (K (z25.1, (0 : Int), ()) w26))))
theorem chunk_Pages.vc (p0_0 : Int) (p0_1 : Int) (p0_2 : Int) (p0_3 : Int) (p0_4 : Int) (p0_5 : Int) (a1 : Option Addr) (n1 c1 : Nat) (p2 : Int) (w : World) (K : SlV × Int × Unit → World → Prop) (h : chunk_Pages.P p0_0 p0_1 p0_2 p0_3 p0_4 p0_5 a1 n1 c1 p2 w K) : CallV Try.prog 31 #[.agg #[.int .i64 p0_0, .int .i64 p0_1, .int .i64 p0_2, .int .i64 p0_3, .int .i64 p0_4, .int .i64 p0_5], .slice a1 n1 c1, .int .u64 p2] w [.one .sl, .one (.int .i64)] K := by
  have e : vcFun Try.prog okf false Try.f31 chunk_Pages.A #[.agg #[.int .i64 p0_0, .int .i64 p0_1, .int .i64 p0_2, .int .i64 p0_3, .int .i64 p0_4, .int .i64 p0_5], .slice a1 n1 c1, .int .u64 p2] w [.one .sl, .one (.int .i64)] K = chunk_Pages.P p0_0 p0_1 p0_2 p0_3 p0_4 p0_5 a1 n1 c1 p2 w K := by kernel_rfl
  exact vcFun.calls okf_ok follows Try.func31 (e.symm ▸ h)

/-! ### nepenthe/chunk.Hold: function 36 -/
-- loop 0 carries 8: .one .sl, 9: .one (.int .u64), 24: .one (.int .i64)
def chunk_Hold.A : Ann := .two .no (.two .no (.two .no (.two .no (.two .no (.two (.two .no (.one (.loop [4, 5, 6, 8, 9, 10, 11, 12, 24, 25, 26, 27, 28, 29, 30, 31, 32, 33, 34, 35, 36, 37, 38, 39, 40, 41, 42, 43, 44, 45, 46, 47, 48, 49, 50, 51, 52, 53, 54, 55, 56, 57, 58, 59, 60, 61, 62, 63, 64, 65, 66, 67] [(8, .one .sl), (9, .one (.int .u64)), (24, .one (.int .i64))] (.two .no (.two .no (.two (.one (.two .no (.join [11, 12, 27, 28, 29, 30, 31, 32, 33, 34, 35] [(11, .one .ptr), (12, .one (.int .i64))] (.draw (.take 0 (.take 1 (.take 2 (.take 3 (.take 4 (.both 5 (.take 6 (.take 7 (.take 8 (.eff 9 (.eff 10 (.take 11 (.done))))))) 9 (.eff 5 (.take 6 (.take 7 (.take 8 (.eff 10 (.take 11 (.done)))))))))))))) (.join [9, 36, 37, 38, 39, 40] [(9, .one (.int .u64))] .no (.two (.two (.draw (.take 0 (.take 1 (.take 2 (.take 3 (.take 4 (.take 5 (.take 6 (.take 7 (.eff 8 (.take 9 (.take 10 (.take 11 (.take 12 (.take 13 (.take 14 (.take 15 (.take 16 (.take 17 (.take 18 (.take 19 (.take 20 (.take 21 (.done)))))))))))))))))))))))) .no) .no))))) .no)))))) (.two (.draw (.take 0 (.take 1 (.take 2 (.take 3 (.take 4 (.take 5 (.done)))))))) .no))))))
def chunk_Hold.P (p0_0 : Int) (p0_1 : Int) (p0_2 : Int) (p0_3 : Int) (p0_4 : Int) (p0_5 : Int) (a1 : Option Addr) (n1 c1 : Nat) (w : World) (K : Int × SlV × Bool × Unit → World → Prop) : Prop :=
  NewV #[.int .i64 p0_0, .int .i64 p0_1, .int .i64 p0_2, .int .i64 p0_3, .int .i64 p0_4, .int .i64 p0_5] 23 w fun b1 w2 =>
  LoadA w2 ⟨b1, 0, none⟩ [.int .i64, .int .i64, .int .i64, .int .i64, .int .i64, .int .i64] fun (x3 : Int × Int × Int × Int × Int × Int × Unit) =>
  CallV Try.prog 71 #[.agg #[.int .i64 x3.1, .int .i64 x3.2.1, .int .i64 x3.2.2.1, .int .i64 x3.2.2.2.1, .int .i64 x3.2.2.2.2.1, .int .i64 x3.2.2.2.2.2.1]] w2 [.one (.int .i64)] fun (r4 : Int × Unit) w5 =>
  cond (r4.1 == 0)
  (K ((0 : Int), (⟨none, 0, 0⟩ : SlV), false, ()) w5)
  (cond (decide (((n1 : Nat) : Int) < r4.1))
  (K ((0 : Int), (⟨none, 0, 0⟩ : SlV), false, ()) w5)
  (LoopV [.one .sl, .one (.int .u64), .one (.int .i64)] ((⟨none, 0, 0⟩ : SlV), (0 : Int), (0 : Int), ()) w5 fun (z6 : SlV × Int × Int × Unit) w7 (K8 : SlV × Int × Int × Unit → World → Prop) =>
  cond (decide (z6.2.2.1 < r4.1))
  (JoinV [.one .ptr, .one (.int .i64)] (fun (v10 : (Option Addr) × Int × Unit) w11 =>
  JoinV [.one (.int .u64)] (fun (v13 : Int × Unit) w14 =>
  DrawV fun D15 =>
  cond (v10.2.1 != 0)
  (K ((0 : Int), (⟨none, 0, 0⟩ : SlV), false, ()) w14.drew)
  (PtrK v10.1 fun q16 =>
  (D15 q16.block ∧ LoadA w14.drew q16 [.int .i64, .int .i64, .int .i64, .int .u32, .int .u64, .int .u64] fun (x17 : Int × Int × Int × Int × Int × Int × Unit) =>
  (D15 b1 ∧ LoadA w14.drew ⟨b1, 0, none⟩ [.int .i64, .int .i64, .int .i64, .int .i64, .int .i64, .int .i64] fun (x18 : Int × Int × Int × Int × Int × Int × Unit) =>
  CallV Try.prog 72 #[.agg #[.int .i64 x18.1, .int .i64 x18.2.1, .int .i64 x18.2.2.1, .int .i64 x18.2.2.2.1, .int .i64 x18.2.2.2.2.1, .int .i64 x18.2.2.2.2.2.1], .int .i64 z6.2.2.1, .int .u64 v13.1] w14.drew [.agg [.int .i64, .int .i64, .int .i64, .int .u32, .int .u64, .int .u64]] fun (r19 : (Int × Int × Int × Int × Int × Int × Unit) × Unit) w20 =>
  KeepOn D15 w14.drew w20 ∧
  AggEq Try.prog 27 #[.int .i64 x17.1, .int .i64 x17.2.1, .int .i64 x17.2.2.1, .int .u32 x17.2.2.2.1, .int .u64 x17.2.2.2.2.1, .int .u64 x17.2.2.2.2.2.1] #[.int .i64 r19.1.1, .int .i64 r19.1.2.1, .int .i64 r19.1.2.2.1, .int .u32 r19.1.2.2.2.1, .int .u64 r19.1.2.2.2.2.1, .int .u64 r19.1.2.2.2.2.2.1] fun e21 =>
  cond (!e21)
  (K ((0 : Int), (⟨none, 0, 0⟩ : SlV), false, ()) w20)
  (Rng .i64 (r4.1 - 1) ∧
  cond (z6.2.2.1 == (r4.1 - 1))
  (PtrK v10.1 fun q22 =>
  (D15 (q22.add 8).block ∧ LoadS w14.drew (q22.add 8) .bool fun (x23 : Bool) =>
  cond (!x23)
  (K ((0 : Int), (⟨none, 0, 0⟩ : SlV), false, ()) w20)
  (PtrK v10.1 fun q24 =>
  LoadS w20 (q24.add 6) .sl fun (x25 : SlV) =>
  AppS w20 x25.a x25.n 1 fun ns30 =>
  AppV w20 5 1 1 z6.1.a z6.1.n z6.1.c ns30 x25.n fun a26 n27 c28 w29 =>
  Rng .i64 (z6.2.2.1 + 1) ∧
  K8 ((⟨a26, n27, c28⟩ : SlV), v13.1, z6.2.2.1 + 1, ()) w29)))
  (PtrK v10.1 fun q31 =>
  LoadS w20 (q31.add 6) .sl fun (x32 : SlV) =>
  AppS w20 x32.a x32.n 1 fun ns37 =>
  AppV w20 5 1 1 z6.1.a z6.1.n z6.1.c ns37 x32.n fun a33 n34 c35 w36 =>
  Rng .i64 (z6.2.2.1 + 1) ∧
  K8 ((⟨a33, n34, c35⟩ : SlV), v13.1, z6.2.2.1 + 1, ()) w36)))))) fun (J12 : Int × Unit → World → Prop) =>
  cond (z6.2.2.1 == 0)
  (PtrK v10.1 fun q38 =>
  LoadS w11 (q38.add 4) (.int .u64) fun (x39 : Int) =>
  J12 (x39, ()) w11)
  (J12 (z6.2.1, ()) w11)) fun (J9 : (Option Addr) × Int × Unit → World → Prop) =>
  DrawV fun D40 =>
  (D40 b1 ∧ LoadA w7.drew ⟨b1, 0, none⟩ [.int .i64, .int .i64, .int .i64, .int .i64, .int .i64, .int .i64] fun (x41 : Int × Int × Int × Int × Int × Int × Unit) =>
  (0 ≤ z6.2.2.1 ∧ z6.2.2.1 < ((n1 : Nat) : Int)) ∧ ∃ q42 : Addr, a1 = some q42 ∧
  (D40 (q42.add (z6.2.2.1.toNat * 1)).block ∧ LoadS w7.drew (q42.add (z6.2.2.1.toNat * 1)) .sl fun (x43 : SlV) =>
  ((CallV Try.prog 23 #[.agg #[.int .i64 x41.1, .int .i64 x41.2.1, .int .i64 x41.2.2.1, .int .i64 x41.2.2.2.1, .int .i64 x41.2.2.2.2.1, .int .i64 x41.2.2.2.2.2.1], .slice x43.a x43.n x43.c] w7.drew [.agg [.int .i64, .int .i64, .int .i64, .int .u32, .int .u64, .int .u64, .sl, .sl, .bool], .one (.int .i64)] fun (r44 : (Int × Int × Int × Int × Int × Int × SlV × SlV × Bool × Unit) × Int × Unit) w45 =>
  KeepOn D40 w7.drew w45 ∧
  NewV #[.int .i64 0, .int .i64 0, .int .i64 0, .int .u32 0, .int .u64 0, .int .u64 0, .slice none 0 0, .slice none 0 0, .bool false] 42 w45 fun b46 w47 =>
  KeepOn D40 w7.drew w47 ∧
  StoreV w47 ⟨b46, 0, none⟩ [.int .i64 r44.1.1, .int .i64 r44.1.2.1, .int .i64 r44.1.2.2.1, .int .u32 r44.1.2.2.2.1, .int .u64 r44.1.2.2.2.2.1, .int .u64 r44.1.2.2.2.2.2.1, .slice r44.1.2.2.2.2.2.2.1.a r44.1.2.2.2.2.2.2.1.n r44.1.2.2.2.2.2.2.1.c, .slice r44.1.2.2.2.2.2.2.2.1.a r44.1.2.2.2.2.2.2.2.1.n r44.1.2.2.2.2.2.2.2.1.c, .bool r44.1.2.2.2.2.2.2.2.2.1] fun w48 =>
  KeepOn D40 w7.drew w48 ∧
  J9 ((some ⟨b46, 0, none⟩), r44.2.1, ()) w48) ∧
  (NewV #[.int .i64 0, .int .i64 0, .int .i64 0, .int .u32 0, .int .u64 0, .int .u64 0, .slice none 0 0, .slice none 0 0, .bool false] 42 w7.drew fun b49 w50 =>
  KeepOn D40 w7.drew w50 ∧
  CallV Try.prog 23 #[.agg #[.int .i64 x41.1, .int .i64 x41.2.1, .int .i64 x41.2.2.1, .int .i64 x41.2.2.2.1, .int .i64 x41.2.2.2.2.1, .int .i64 x41.2.2.2.2.2.1], .slice x43.a x43.n x43.c] w50 [.agg [.int .i64, .int .i64, .int .i64, .int .u32, .int .u64, .int .u64, .sl, .sl, .bool], .one (.int .i64)] fun (r51 : (Int × Int × Int × Int × Int × Int × SlV × SlV × Bool × Unit) × Int × Unit) w52 =>
  KeepOn D40 w7.drew w52 ∧
  StoreV w52 ⟨b49, 0, none⟩ [.int .i64 r51.1.1, .int .i64 r51.1.2.1, .int .i64 r51.1.2.2.1, .int .u32 r51.1.2.2.2.1, .int .u64 r51.1.2.2.2.2.1, .int .u64 r51.1.2.2.2.2.2.1, .slice r51.1.2.2.2.2.2.2.1.a r51.1.2.2.2.2.2.2.1.n r51.1.2.2.2.2.2.2.1.c, .slice r51.1.2.2.2.2.2.2.2.1.a r51.1.2.2.2.2.2.2.2.1.n r51.1.2.2.2.2.2.2.2.1.c, .bool r51.1.2.2.2.2.2.2.2.2.1] fun w53 =>
  KeepOn D40 w7.drew w53 ∧
  J9 ((some ⟨b49, 0, none⟩), r51.2.1, ()) w53)))))
  (DrawV fun D54 =>
  ((0 : Int) ≤ (624 : Int) ∧ (624 : Int) ≤ (624 : Int) ∧ (624 : Int) ≤ ((z6.1.c : Nat) : Int)) ∧
  SubK z6.1.a 0 624 1 fun a55 =>
  K (z6.2.1, (⟨a55, 624 - 0, 624 - 0⟩ : SlV), true, ()) w7.drew)))
theorem chunk_Hold.vc (p0_0 : Int) (p0_1 : Int) (p0_2 : Int) (p0_3 : Int) (p0_4 : Int) (p0_5 : Int) (a1 : Option Addr) (n1 c1 : Nat) (w : World) (K : Int × SlV × Bool × Unit → World → Prop) (h : chunk_Hold.P p0_0 p0_1 p0_2 p0_3 p0_4 p0_5 a1 n1 c1 w K) : CallV Try.prog 36 #[.agg #[.int .i64 p0_0, .int .i64 p0_1, .int .i64 p0_2, .int .i64 p0_3, .int .i64 p0_4, .int .i64 p0_5], .slice a1 n1 c1] w [.one (.int .u64), .one .sl, .one .bool] K := by
  have e : vcFun Try.prog okf false Try.f36 chunk_Hold.A #[.agg #[.int .i64 p0_0, .int .i64 p0_1, .int .i64 p0_2, .int .i64 p0_3, .int .i64 p0_4, .int .i64 p0_5], .slice a1 n1 c1] w [.one (.int .u64), .one .sl, .one .bool] K = chunk_Hold.P p0_0 p0_1 p0_2 p0_3 p0_4 p0_5 a1 n1 c1 w K := by kernel_rfl
  exact vcFun.calls okf_ok follows Try.func36 (e.symm ▸ h)

/-! ### nepenthe/chunk.Current: function 38 -/
-- loop 0 carries 7: .one (.int .i64), 8: .one (.int .u64), 9: .one .sl, 17: .one (.int .i64)
def chunk_Current.A : Ann := .two .no (.two .no (.two (.two .no (.one (.loop [7, 8, 9, 10, 11, 12, 13, 14, 17, 18, 19, 20, 21, 22, 23, 24, 25, 26, 27, 28, 29, 30, 31, 32, 33, 34, 35, 36, 37, 38, 39, 40, 41, 42] [(7, .one (.int .i64)), (8, .one (.int .u64)), (9, .one .sl), (17, .one (.int .i64))] .no))) .no))
def chunk_Current.P (p0_0 : Int) (p0_1 : Int) (p0_2 : Int) (p0_3 : Int) (p0_4 : Int) (p0_5 : Int) (a1 : Option Addr) (n1 c1 : Nat) (w : World) (K : Int × Int × SlV × Unit → World → Prop) : Prop :=
  NewV #[.int .i64 p0_0, .int .i64 p0_1, .int .i64 p0_2, .int .i64 p0_3, .int .i64 p0_4, .int .i64 p0_5] 23 w fun b1 w2 =>
  LoopV [.one (.int .i64), .one (.int .u64), .one .sl, .one (.int .i64)] (((-1) : Int), (0 : Int), (⟨none, 0, 0⟩ : SlV), (0 : Int), ()) w2 fun (z3 : Int × Int × SlV × Int × Unit) w4 (K5 : Int × Int × SlV × Int × Unit → World → Prop) =>
  cond (decide (z3.2.2.2.1 < ((n1 : Nat) : Int)))
  ((0 ≤ z3.2.2.2.1 ∧ z3.2.2.2.1 < ((n1 : Nat) : Int)) ∧ ∃ q6 : Addr, a1 = some q6 ∧
  LoadS w4 (q6.add (z3.2.2.2.1.toNat * 1)) .sl fun (x7 : SlV) =>
  LoadA w4 ⟨b1, 0, none⟩ [.int .i64, .int .i64, .int .i64, .int .i64, .int .i64, .int .i64] fun (x8 : Int × Int × Int × Int × Int × Int × Unit) =>
  CallV Try.prog 36 #[.agg #[.int .i64 x8.1, .int .i64 x8.2.1, .int .i64 x8.2.2.1, .int .i64 x8.2.2.2.1, .int .i64 x8.2.2.2.2.1, .int .i64 x8.2.2.2.2.2.1], .slice x7.a x7.n x7.c] w4 [.one (.int .u64), .one .sl, .one .bool] fun (r9 : Int × SlV × Bool × Unit) w10 =>
  cond r9.2.2.1
  (cond (decide (z3.1 < 0))
  (Rng .i64 (z3.2.2.2.1 + 1) ∧
  K5 (z3.2.2.2.1, r9.1, r9.2.1, z3.2.2.2.1 + 1, ()) w10)
  (cond (decide (r9.1 > z3.2.1))
  (Rng .i64 (z3.2.2.2.1 + 1) ∧
  K5 (z3.2.2.2.1, r9.1, r9.2.1, z3.2.2.2.1 + 1, ()) w10)
  (Rng .i64 (z3.2.2.2.1 + 1) ∧
  K5 (z3.1, z3.2.1, z3.2.2.1, z3.2.2.2.1 + 1, ()) w10)))
  (Rng .i64 (z3.2.2.2.1 + 1) ∧
  K5 (z3.1, z3.2.1, z3.2.2.1, z3.2.2.2.1 + 1, ()) w10))
  (K (z3.1, z3.2.1, z3.2.2.1, ()) w4)
theorem chunk_Current.vc (p0_0 : Int) (p0_1 : Int) (p0_2 : Int) (p0_3 : Int) (p0_4 : Int) (p0_5 : Int) (a1 : Option Addr) (n1 c1 : Nat) (w : World) (K : Int × Int × SlV × Unit → World → Prop) (h : chunk_Current.P p0_0 p0_1 p0_2 p0_3 p0_4 p0_5 a1 n1 c1 w K) : CallV Try.prog 38 #[.agg #[.int .i64 p0_0, .int .i64 p0_1, .int .i64 p0_2, .int .i64 p0_3, .int .i64 p0_4, .int .i64 p0_5], .slice a1 n1 c1] w [.one (.int .i64), .one (.int .u64), .one .sl] K := by
  have e : vcFun Try.prog okf false Try.f38 chunk_Current.A #[.agg #[.int .i64 p0_0, .int .i64 p0_1, .int .i64 p0_2, .int .i64 p0_3, .int .i64 p0_4, .int .i64 p0_5], .slice a1 n1 c1] w [.one (.int .i64), .one (.int .u64), .one .sl] K = chunk_Current.P p0_0 p0_1 p0_2 p0_3 p0_4 p0_5 a1 n1 c1 w K := by kernel_rfl
  exact vcFun.calls okf_ok follows Try.func38 (e.symm ▸ h)

/-! ### nepenthe/nepentheref19.head: function 73 -/
def ref19_head.A : Ann := .no
def ref19_head.P (p0_0 : Int) (p0_1 : Int) (p0_2 : Int) (p0_3 : Int) (p0_4 : Int) (p0_5 : Int) (p1 : Int) (p2 : Int) (w : World) (K : (Int × Int × Int × Int × Int × Int × Unit) × Unit → World → Prop) : Prop :=
  NewV #[.int .i64 p0_0, .int .i64 p0_1, .int .i64 p0_2, .int .i64 p0_3, .int .i64 p0_4, .int .i64 p0_5] 23 w fun b1 w2 =>
  NewV #[.int .i64 0, .int .i64 0, .int .i64 0, .int .u32 0, .int .u64 0, .int .u64 0] 27 w2 fun b3 w4 =>
  LoadA w4 ⟨b1, 0, none⟩ [.int .i64, .int .i64, .int .i64, .int .i64, .int .i64, .int .i64] fun (x5 : Int × Int × Int × Int × Int × Int × Unit) =>
  CallV Try.prog 63 #[.agg #[.int .i64 x5.1, .int .i64 x5.2.1, .int .i64 x5.2.2.1, .int .i64 x5.2.2.2.1, .int .i64 x5.2.2.2.2.1, .int .i64 x5.2.2.2.2.2.1]] w4 [.one (.int .i64)] fun (r6 : Int × Unit) w7 =>
  StoreV w7 ⟨b3, 0, none⟩ [.int .i64 4, .int .i64 p1, .int .i64 0, .int .u32 (IntKind.u32.wrap r6.1), .int .u64 p2, .int .u64 0] fun w8 =>
  LoadA w8 ⟨b3, 0, none⟩ [.int .i64, .int .i64, .int .i64, .int .u32, .int .u64, .int .u64] fun (x9 : Int × Int × Int × Int × Int × Int × Unit) =>
  K ((x9.1, x9.2.1, x9.2.2.1, x9.2.2.2.1, x9.2.2.2.2.1, x9.2.2.2.2.2.1, ()), ()) w8
theorem ref19_head.vc (p0_0 : Int) (p0_1 : Int) (p0_2 : Int) (p0_3 : Int) (p0_4 : Int) (p0_5 : Int) (p1 : Int) (p2 : Int) (w : World) (K : (Int × Int × Int × Int × Int × Int × Unit) × Unit → World → Prop) (h : ref19_head.P p0_0 p0_1 p0_2 p0_3 p0_4 p0_5 p1 p2 w K) : CallV Try.prog 73 #[.agg #[.int .i64 p0_0, .int .i64 p0_1, .int .i64 p0_2, .int .i64 p0_3, .int .i64 p0_4, .int .i64 p0_5], .int .i64 p1, .int .u64 p2] w [.agg [.int .i64, .int .i64, .int .i64, .int .u32, .int .u64, .int .u64]] K := by
  have e : vcFun Try.prog okf false Try.f73 ref19_head.A #[.agg #[.int .i64 p0_0, .int .i64 p0_1, .int .i64 p0_2, .int .i64 p0_3, .int .i64 p0_4, .int .i64 p0_5], .int .i64 p1, .int .u64 p2] w [.agg [.int .i64, .int .i64, .int .i64, .int .u32, .int .u64, .int .u64]] K = ref19_head.P p0_0 p0_1 p0_2 p0_3 p0_4 p0_5 p1 p2 w K := by kernel_rfl
  exact vcFun.calls okf_ok follows Try.func73 (e.symm ▸ h)

/-! ### nepenthe/nepentheref19.Pages: function 34 -/
-- loop 0 carries 7: .one .sl, 10: .one (.int .i64)
def ref19_Pages.A : Ann := .two .no (.two .no (.two .no (.two (.draw (.take 1 (.take 3 (.take 4 (.take 5 (.take 6 (.take 7 (.eff 0 (.eff 2 (.eff 8 (.eff 9 (.take 10 (.done))))))))))))) (.two (.two .no (.one (.loop [7, 10, 24, 25, 26, 27, 28, 29, 30, 31, 32, 33, 34, 35, 36, 37, 38, 39, 40, 41, 42, 43, 44, 45, 46, 47, 48, 49, 50] [(7, .one .sl), (10, .one (.int .i64))] (.two .no (.two (.one (.draw (.take 0 (.take 1 (.take 2 (.take 3 (.take 4 (.take 6 (.take 7 (.take 8 (.take 9 (.take 10 (.take 11 (.take 12 (.take 13 (.take 14 (.take 15 (.take 16 (.take 17 (.take 18 (.eff 5 (.eff 19 (.eff 20 (.eff 21 (.take 22 (.done)))))))))))))))))))))))))) .no))))) .no))))
def ref19_Pages.P (p0_0 : Int) (p0_1 : Int) (p0_2 : Int) (p0_3 : Int) (p0_4 : Int) (p0_5 : Int) (a1 : Option Addr) (n1 c1 : Nat) (p2 : Int) (w : World) (K : SlV × Unit → World → Prop) : Prop :=
  NewV #[.int .i64 p0_0, .int .i64 p0_1, .int .i64 p0_2, .int .i64 p0_3, .int .i64 p0_4, .int .i64 p0_5] 23 w fun b1 w2 =>
  NewV #[] 28 w2 fun b3 w4 =>
  LoadA w4 ⟨b1, 0, none⟩ [.int .i64, .int .i64, .int .i64, .int .i64, .int .i64, .int .i64] fun (x5 : Int × Int × Int × Int × Int × Int × Unit) =>
  CallV Try.prog 63 #[.agg #[.int .i64 x5.1, .int .i64 x5.2.1, .int .i64 x5.2.2.1, .int .i64 x5.2.2.2.1, .int .i64 x5.2.2.2.2.1, .int .i64 x5.2.2.2.2.2.1]] w4 [.one (.int .i64)] fun (r6 : Int × Unit) w7 =>
  DrawV fun D8 =>
  (D8 b1 ∧ LoadS w7.drew ⟨b1, 2, none⟩ (.int .i64) fun (x9 : Int) =>
  Rng .i64 (r6.1 * x9) ∧
  Rng .i64 ((r6.1 * x9) - 624) ∧
  NewV #[] 5 w7.drew fun b10 w11 =>
  KeepOn D8 w7.drew w11 ∧
  AppS w11 a1 n1 1 fun ns16 =>
  AppV w11 5 1 1 (some ⟨b10, 0, none⟩) 0 0 ns16 n1 fun a12 n13 c14 w15 =>
  KeepOn D8 w7.drew w15 ∧
  CallV Try.prog 26 #[.int .u8 255, .int .i64 ((r6.1 * x9) - 624)] w15 [.one .sl] fun (r17 : SlV × Unit) w18 =>
  KeepOn D8 w7.drew w18 ∧
  AppS w18 r17.1.a r17.1.n 1 fun ns23 =>
  AppV w18 5 1 1 a12 n13 c14 ns23 r17.1.n fun a19 n20 c21 w22 =>
  KeepOn D8 w7.drew w22 ∧
  LoopV [.one .sl, .one (.int .i64)] ((⟨(some ⟨b3, 0, none⟩), 0, 0⟩ : SlV), (0 : Int), ()) w22 fun (z24 : SlV × Int × Unit) w25 (K26 : SlV × Int × Unit → World → Prop) =>
  cond (decide (z24.2.1 < r6.1))
  (DrawV fun D27 =>
  (D27 b1 ∧ LoadA w25.drew ⟨b1, 0, none⟩ [.int .i64, .int .i64, .int .i64, .int .i64, .int .i64, .int .i64] fun (x28 : Int × Int × Int × Int × Int × Int × Unit) =>
  (D27 b1 ∧ LoadA w25.drew ⟨b1, 0, none⟩ [.int .i64, .int .i64, .int .i64, .int .i64, .int .i64, .int .i64] fun (x29 : Int × Int × Int × Int × Int × Int × Unit) =>
  (D27 b1 ∧ LoadS w25.drew ⟨b1, 2, none⟩ (.int .i64) fun (x30 : Int) =>
  Rng .i64 (z24.2.1 * x30) ∧
  (D27 b1 ∧ LoadS w25.drew ⟨b1, 2, none⟩ (.int .i64) fun (x31 : Int) =>
  Rng .i64 (z24.2.1 * x31) ∧
  (D27 b1 ∧ LoadS w25.drew ⟨b1, 2, none⟩ (.int .i64) fun (x32 : Int) =>
  Rng .i64 ((z24.2.1 * x31) + x32) ∧
  ((0 : Int) ≤ (z24.2.1 * x30) ∧ (z24.2.1 * x30) ≤ ((z24.2.1 * x31) + x32) ∧ ((z24.2.1 * x31) + x32) ≤ ((c21 : Nat) : Int)) ∧
  SubK a19 ((z24.2.1 * x30).toNat) c21 1 fun a33 =>
  CallV Try.prog 73 #[.agg #[.int .i64 x29.1, .int .i64 x29.2.1, .int .i64 x29.2.2.1, .int .i64 x29.2.2.2.1, .int .i64 x29.2.2.2.2.1, .int .i64 x29.2.2.2.2.2.1], .int .i64 z24.2.1, .int .u64 p2] w25.drew [.agg [.int .i64, .int .i64, .int .i64, .int .u32, .int .u64, .int .u64]] fun (r34 : (Int × Int × Int × Int × Int × Int × Unit) × Unit) w35 =>
  KeepOn D27 w25.drew w35 ∧
  CallV Try.prog 22 #[.agg #[.int .i64 x28.1, .int .i64 x28.2.1, .int .i64 x28.2.2.1, .int .i64 x28.2.2.2.1, .int .i64 x28.2.2.2.2.1, .int .i64 x28.2.2.2.2.2.1], .agg #[.int .i64 r34.1.1, .int .i64 r34.1.2.1, .int .i64 r34.1.2.2.1, .int .u32 r34.1.2.2.2.1, .int .u64 r34.1.2.2.2.2.1, .int .u64 r34.1.2.2.2.2.2.1], .slice a33 ((((z24.2.1 * x31) + x32).toNat) - ((z24.2.1 * x30).toNat)) (c21 - ((z24.2.1 * x30).toNat)), .slice none 0 0] w35 [.one .sl] fun (r36 : SlV × Unit) w37 =>
  KeepOn D27 w25.drew w37 ∧
  NewV #[.slice r36.1.a r36.1.n r36.1.c] 28 w37 fun b38 w39 =>
  KeepOn D27 w25.drew w39 ∧
  AppS w39 (some ⟨b38, 0, none⟩) 1 1 fun ns44 =>
  AppV w39 28 1 24 z24.1.a z24.1.n z24.1.c ns44 1 fun a40 n41 c42 w43 =>
  KeepOn D27 w25.drew w43 ∧
  Rng .i64 (z24.2.1 + 1) ∧
  K26 ((⟨a40, n41, c42⟩ : SlV), z24.2.1 + 1, ()) w43))))))
  (K (z24.1, ()) w25))
theorem ref19_Pages.vc (p0_0 : Int) (p0_1 : Int) (p0_2 : Int) (p0_3 : Int) (p0_4 : Int) (p0_5 : Int) (a1 : Option Addr) (n1 c1 : Nat) (p2 : Int) (w : World) (K : SlV × Unit → World → Prop) (h : ref19_Pages.P p0_0 p0_1 p0_2 p0_3 p0_4 p0_5 a1 n1 c1 p2 w K) : CallV Try.prog 34 #[.agg #[.int .i64 p0_0, .int .i64 p0_1, .int .i64 p0_2, .int .i64 p0_3, .int .i64 p0_4, .int .i64 p0_5], .slice a1 n1 c1, .int .u64 p2] w [.one .sl] K := by
  have e : vcFun Try.prog okf false Try.f34 ref19_Pages.A #[.agg #[.int .i64 p0_0, .int .i64 p0_1, .int .i64 p0_2, .int .i64 p0_3, .int .i64 p0_4, .int .i64 p0_5], .slice a1 n1 c1, .int .u64 p2] w [.one .sl] K = ref19_Pages.P p0_0 p0_1 p0_2 p0_3 p0_4 p0_5 a1 n1 c1 p2 w K := by kernel_rfl
  exact vcFun.calls okf_ok follows Try.func34 (e.symm ▸ h)

/-! ### nepenthe/nepentheref19.Hold: function 37 -/
-- loop 0 carries 7: .one (.int .i64)
def ref19_Hold.A : Ann := .two .no (.two .no (.two .no (.two .no (.two (.two .no (.one (.loop [7, 8, 17, 18, 19, 20, 21, 22, 23, 24, 25, 26, 27, 28, 29, 30, 31, 32, 33, 34, 35, 36, 37, 38, 39, 40, 41, 42, 43, 44, 45, 46, 47, 48, 49, 50, 51, 52, 53, 54, 55, 56, 57, 58, 59, 60, 61, 62, 63, 64, 65, 66, 67, 68, 69, 70, 71, 72, 73, 74, 75, 76] [(7, .one (.int .i64))] (.two .no (.two (.one (.two (.two (.draw (.take 0 (.take 1 (.take 2 (.take 3 (.take 4 (.take 5 (.take 6 (.take 7 (.take 8 (.done))))))))))) .no) (.join [8, 32, 33, 34, 35, 36, 37] [(8, .one .ptr)] (.draw (.take 0 (.take 1 (.take 2 (.take 3 (.take 4 (.both 5 (.eff 6 (.eff 7 (.done))) 6 (.eff 5 (.eff 7 (.done)))))))))) (.join [38, 39, 40, 41, 42, 43] [] .no (.two (.join [44, 45, 46, 47, 48, 49, 50, 51, 52, 53, 54, 55, 56, 57, 58, 59, 60, 61, 62, 63, 64, 65, 66, 67] [(67, .one .bool)] (.draw (.take 0 (.take 1 (.take 2 (.take 3 (.take 4 (.take 5 (.take 6 (.take 7 (.take 8 (.take 9 (.eff 10 (.take 11 (.take 12 (.take 13 (.take 14 (.take 15 (.take 16 (.take 17 (.take 18 (.take 19 (.take 20 (.take 21 (.take 22 (.take 23 (.done)))))))))))))))))))))))))) .no) (.draw (.take 1 (.take 4 (.take 5 (.both 0 (.eff 2 (.eff 3 (.eff 6 (.take 7 (.eff 8 (.done)))))) 2 (.eff 0 (.eff 3 (.eff 6 (.take 7 (.eff 8 (.done)))))))))))))))) .no))))) .no))))
def ref19_Hold.P (p0_0 : Int) (p0_1 : Int) (p0_2 : Int) (p0_3 : Int) (p0_4 : Int) (p0_5 : Int) (a1 : Option Addr) (n1 c1 : Nat) (w : World) (K : (Int × SlV × Bool × Unit) × Unit → World → Prop) : Prop :=
  NewV #[.int .i64 p0_0, .int .i64 p0_1, .int .i64 p0_2, .int .i64 p0_3, .int .i64 p0_4, .int .i64 p0_5] 23 w fun b1 w2 =>
  NewV #[.int .u64 0, .slice none 0 0, .bool false] 66 w2 fun b3 w4 =>
  LoadA w4 ⟨b1, 0, none⟩ [.int .i64, .int .i64, .int .i64, .int .i64, .int .i64, .int .i64] fun (x5 : Int × Int × Int × Int × Int × Int × Unit) =>
  CallV Try.prog 63 #[.agg #[.int .i64 x5.1, .int .i64 x5.2.1, .int .i64 x5.2.2.1, .int .i64 x5.2.2.2.1, .int .i64 x5.2.2.2.2.1, .int .i64 x5.2.2.2.2.2.1]] w4 [.one (.int .i64)] fun (r6 : Int × Unit) w7 =>
  cond (decide (((n1 : Nat) : Int) < r6.1))
  (StoreV w7 ⟨b3, 0, none⟩ [.int .u64 0, .slice none 0 0, .bool false] fun w8 =>
  LoadA w8 ⟨b3, 0, none⟩ [.int .u64, .sl, .bool] fun (x9 : Int × SlV × Bool × Unit) =>
  K ((x9.1, x9.2.1, x9.2.2.1, ()), ()) w8)
  (NewV #[.int .u64 0, .slice none 0 0, .bool false] 66 w7 fun b10 w11 =>
  StoreV w11 ⟨b10, 0, none⟩ [.int .u64 0, .slice none 0 0, .bool true] fun w12 =>
  LoopV [.one (.int .i64)] ((0 : Int), ()) w12 fun (z13 : Int × Unit) w14 (K15 : Int × Unit → World → Prop) =>
  cond (decide (z13.1 < r6.1))
  (DrawV fun D16 =>
  (0 ≤ z13.1 ∧ z13.1 < ((n1 : Nat) : Int)) ∧ ∃ q17 : Addr, a1 = some q17 ∧
  (D16 (q17.add (z13.1.toNat * 1)).block ∧ LoadS w14.drew (q17.add (z13.1.toNat * 1)) .sl fun (x18 : SlV) =>
  (D16 b1 ∧ LoadS w14.drew ⟨b1, 2, none⟩ (.int .i64) fun (x19 : Int) =>
  Rng .i64 (x19 + 88) ∧
  cond (((x18.n : Nat) : Int) != (x19 + 88))
  (StoreV w14.drew ⟨b3, 0, none⟩ [.int .u64 0, .slice none 0 0, .bool false] fun w20 =>
  LoadA w20 ⟨b3, 0, none⟩ [.int .u64, .sl, .bool] fun (x21 : Int × SlV × Bool × Unit) =>
  K ((x21.1, x21.2.1, x21.2.2.1, ()), ()) w20)
  (JoinV [.one .ptr] (fun (v23 : (Option Addr) × Unit) w24 =>
  JoinV [] (fun (v26 : Unit) w27 =>
  JoinV [.one .bool] (fun (v29 : Bool × Unit) w30 =>
  cond v29.1
  (StoreV w30 ⟨b3, 0, none⟩ [.int .u64 0, .slice none 0 0, .bool false] fun w31 =>
  LoadA w31 ⟨b3, 0, none⟩ [.int .u64, .sl, .bool] fun (x32 : Int × SlV × Bool × Unit) =>
  K ((x32.1, x32.2.1, x32.2.2.1, ()), ()) w31)
  (DrawV fun D33 =>
  PtrK v23.1 fun q34 =>
  (D33 (q34.add 6).block ∧ LoadS w30.drew (q34.add 6) .sl fun (x35 : SlV) =>
  ((NewV #[] 5 w30.drew fun b36 w37 =>
  KeepOn D33 w30.drew w37 ∧
  LoadS w37 ⟨b10, 1, none⟩ .sl fun (x38 : SlV) =>
  KeepOn D33 w30.drew w37 ∧
  AppS w37 x38.a x38.n 1 fun ns43 =>
  AppV w37 5 1 1 (some ⟨b36, 0, none⟩) 0 0 ns43 x38.n fun a39 n40 c41 w42 =>
  KeepOn D33 w30.drew w42 ∧
  AppS w42 x35.a x35.n 1 fun ns48 =>
  AppV w42 5 1 1 a39 n40 c41 ns48 x35.n fun a44 n45 c46 w47 =>
  KeepOn D33 w30.drew w47 ∧
  StoreV w47 ⟨b10, 1, none⟩ [.slice a44 n45 c46] fun w49 =>
  KeepOn D33 w30.drew w49 ∧
  Rng .i64 (z13.1 + 1) ∧
  K15 (z13.1 + 1, ()) w49) ∧
  (LoadS w30.drew ⟨b10, 1, none⟩ .sl fun (x50 : SlV) =>
  KeepOn D33 w30.drew w30.drew ∧
  NewV #[] 5 w30.drew fun b51 w52 =>
  KeepOn D33 w30.drew w52 ∧
  AppS w52 x50.a x50.n 1 fun ns57 =>
  AppV w52 5 1 1 (some ⟨b51, 0, none⟩) 0 0 ns57 x50.n fun a53 n54 c55 w56 =>
  KeepOn D33 w30.drew w56 ∧
  AppS w56 x35.a x35.n 1 fun ns62 =>
  AppV w56 5 1 1 a53 n54 c55 ns62 x35.n fun a58 n59 c60 w61 =>
  KeepOn D33 w30.drew w61 ∧
  StoreV w61 ⟨b10, 1, none⟩ [.slice a58 n59 c60] fun w63 =>
  KeepOn D33 w30.drew w63 ∧
  Rng .i64 (z13.1 + 1) ∧
  K15 (z13.1 + 1, ()) w63))))) fun (J28 : Bool × Unit → World → Prop) =>
  DrawV fun D64 =>
  PtrK v23.1 fun q65 =>
  (D64 (q65.add 9).block ∧ LoadS w27.drew (q65.add 9) .bool fun (x66 : Bool) =>
  cond (!x66)
  (J28 (true, ()) w27.drew)
  (PtrK v23.1 fun q67 =>
  (D64 q67.block ∧ LoadA w27.drew q67 [.int .i64, .int .i64, .int .i64, .int .u32, .int .u64, .int .u64] fun (x68 : Int × Int × Int × Int × Int × Int × Unit) =>
  (D64 b1 ∧ LoadA w27.drew ⟨b1, 0, none⟩ [.int .i64, .int .i64, .int .i64, .int .i64, .int .i64, .int .i64] fun (x69 : Int × Int × Int × Int × Int × Int × Unit) =>
  (D64 b10 ∧ LoadS w27.drew ⟨b10, 0, none⟩ (.int .u64) fun (x70 : Int) =>
  CallV Try.prog 73 #[.agg #[.int .i64 x69.1, .int .i64 x69.2.1, .int .i64 x69.2.2.1, .int .i64 x69.2.2.2.1, .int .i64 x69.2.2.2.2.1, .int .i64 x69.2.2.2.2.2.1], .int .i64 z13.1, .int .u64 x70] w27.drew [.agg [.int .i64, .int .i64, .int .i64, .int .u32, .int .u64, .int .u64]] fun (r71 : (Int × Int × Int × Int × Int × Int × Unit) × Unit) w72 =>
  KeepOn D64 w27.drew w72 ∧
  AggEq Try.prog 27 #[.int .i64 x68.1, .int .i64 x68.2.1, .int .i64 x68.2.2.1, .int .u32 x68.2.2.2.1, .int .u64 x68.2.2.2.2.1, .int .u64 x68.2.2.2.2.2.1] #[.int .i64 r71.1.1, .int .i64 r71.1.2.1, .int .i64 r71.1.2.2.1, .int .u32 r71.1.2.2.2.1, .int .u64 r71.1.2.2.2.2.1, .int .u64 r71.1.2.2.2.2.2.1] fun e73 =>
  cond (!e73)
  (J28 (true, ()) w72)
  (Rng .i64 (r6.1 - 1) ∧
  cond (z13.1 == (r6.1 - 1))
  (PtrK v23.1 fun q74 =>
  (D64 (q74.add 8).block ∧ LoadS w27.drew (q74.add 8) .bool fun (x75 : Bool) =>
  J28 (!x75, ()) w72))
  (J28 (false, ()) w72)))))))) fun (J25 : Unit → World → Prop) =>
  cond (z13.1 == 0)
  (PtrK v23.1 fun q76 =>
  LoadS w24 (q76.add 4) (.int .u64) fun (x77 : Int) =>
  StoreV w24 ⟨b10, 0, none⟩ [.int .u64 x77] fun w78 =>
  J25 (()) w78)
  (J25 (()) w24)) fun (J22 : (Option Addr) × Unit → World → Prop) =>
  DrawV fun D79 =>
  (D79 b1 ∧ LoadA w14.drew.drew ⟨b1, 0, none⟩ [.int .i64, .int .i64, .int .i64, .int .i64, .int .i64, .int .i64] fun (x80 : Int × Int × Int × Int × Int × Int × Unit) =>
  (0 ≤ z13.1 ∧ z13.1 < ((n1 : Nat) : Int)) ∧ ∃ q81 : Addr, a1 = some q81 ∧
  (D79 (q81.add (z13.1.toNat * 1)).block ∧ LoadS w14.drew.drew (q81.add (z13.1.toNat * 1)) .sl fun (x82 : SlV) =>
  ((CallV Try.prog 28 #[.agg #[.int .i64 x80.1, .int .i64 x80.2.1, .int .i64 x80.2.2.1, .int .i64 x80.2.2.2.1, .int .i64 x80.2.2.2.2.1, .int .i64 x80.2.2.2.2.2.1], .slice x82.a x82.n x82.c] w14.drew.drew [.agg [.int .i64, .int .i64, .int .i64, .int .u32, .int .u64, .int .u64, .sl, .sl, .bool, .bool]] fun (r83 : (Int × Int × Int × Int × Int × Int × SlV × SlV × Bool × Bool × Unit) × Unit) w84 =>
  KeepOn D79 w14.drew.drew w84 ∧
  NewV #[.int .i64 0, .int .i64 0, .int .i64 0, .int .u32 0, .int .u64 0, .int .u64 0, .slice none 0 0, .slice none 0 0, .bool false, .bool false] 51 w84 fun b85 w86 =>
  KeepOn D79 w14.drew.drew w86 ∧
  StoreV w86 ⟨b85, 0, none⟩ [.int .i64 r83.1.1, .int .i64 r83.1.2.1, .int .i64 r83.1.2.2.1, .int .u32 r83.1.2.2.2.1, .int .u64 r83.1.2.2.2.2.1, .int .u64 r83.1.2.2.2.2.2.1, .slice r83.1.2.2.2.2.2.2.1.a r83.1.2.2.2.2.2.2.1.n r83.1.2.2.2.2.2.2.1.c, .slice r83.1.2.2.2.2.2.2.2.1.a r83.1.2.2.2.2.2.2.2.1.n r83.1.2.2.2.2.2.2.2.1.c, .bool r83.1.2.2.2.2.2.2.2.2.1, .bool r83.1.2.2.2.2.2.2.2.2.2.1] fun w87 =>
  KeepOn D79 w14.drew.drew w87 ∧
  J22 ((some ⟨b85, 0, none⟩), ()) w87) ∧
  (NewV #[.int .i64 0, .int .i64 0, .int .i64 0, .int .u32 0, .int .u64 0, .int .u64 0, .slice none 0 0, .slice none 0 0, .bool false, .bool false] 51 w14.drew.drew fun b88 w89 =>
  KeepOn D79 w14.drew.drew w89 ∧
  CallV Try.prog 28 #[.agg #[.int .i64 x80.1, .int .i64 x80.2.1, .int .i64 x80.2.2.1, .int .i64 x80.2.2.2.1, .int .i64 x80.2.2.2.2.1, .int .i64 x80.2.2.2.2.2.1], .slice x82.a x82.n x82.c] w89 [.agg [.int .i64, .int .i64, .int .i64, .int .u32, .int .u64, .int .u64, .sl, .sl, .bool, .bool]] fun (r90 : (Int × Int × Int × Int × Int × Int × SlV × SlV × Bool × Bool × Unit) × Unit) w91 =>
  KeepOn D79 w14.drew.drew w91 ∧
  StoreV w91 ⟨b88, 0, none⟩ [.int .i64 r90.1.1, .int .i64 r90.1.2.1, .int .i64 r90.1.2.2.1, .int .u32 r90.1.2.2.2.1, .int .u64 r90.1.2.2.2.2.1, .int .u64 r90.1.2.2.2.2.2.1, .slice r90.1.2.2.2.2.2.2.1.a r90.1.2.2.2.2.2.2.1.n r90.1.2.2.2.2.2.2.1.c, .slice r90.1.2.2.2.2.2.2.2.1.a r90.1.2.2.2.2.2.2.2.1.n r90.1.2.2.2.2.2.2.2.1.c, .bool r90.1.2.2.2.2.2.2.2.2.1, .bool r90.1.2.2.2.2.2.2.2.2.2.1] fun w92 =>
  KeepOn D79 w14.drew.drew w92 ∧
  J22 ((some ⟨b88, 0, none⟩), ()) w92))))))))
  (LoadS w14 ⟨b10, 1, none⟩ .sl fun (x93 : SlV) =>
  ((0 : Int) ≤ (624 : Int) ∧ (624 : Int) ≤ ((x93.c : Nat) : Int)) ∧
  SubK x93.a 0 x93.c 1 fun a94 =>
  StoreV w14 ⟨b10, 1, none⟩ [.slice a94 (624 - 0) (x93.c - 0)] fun w95 =>
  LoadA w95 ⟨b10, 0, none⟩ [.int .u64, .sl, .bool] fun (x96 : Int × SlV × Bool × Unit) =>
  StoreV w95 ⟨b3, 0, none⟩ [.int .u64 x96.1, .slice x96.2.1.a x96.2.1.n x96.2.1.c, .bool x96.2.2.1] fun w97 =>
  LoadA w97 ⟨b3, 0, none⟩ [.int .u64, .sl, .bool] fun (x98 : Int × SlV × Bool × Unit) =>
  K ((x98.1, x98.2.1, x98.2.2.1, ()), ()) w97))
theorem ref19_Hold.vc (p0_0 : Int) (p0_1 : Int) (p0_2 : Int) (p0_3 : Int) (p0_4 : Int) (p0_5 : Int) (a1 : Option Addr) (n1 c1 : Nat) (w : World) (K : (Int × SlV × Bool × Unit) × Unit → World → Prop) (h : ref19_Hold.P p0_0 p0_1 p0_2 p0_3 p0_4 p0_5 a1 n1 c1 w K) : CallV Try.prog 37 #[.agg #[.int .i64 p0_0, .int .i64 p0_1, .int .i64 p0_2, .int .i64 p0_3, .int .i64 p0_4, .int .i64 p0_5], .slice a1 n1 c1] w [.agg [.int .u64, .sl, .bool]] K := by
  have e : vcFun Try.prog okf false Try.f37 ref19_Hold.A #[.agg #[.int .i64 p0_0, .int .i64 p0_1, .int .i64 p0_2, .int .i64 p0_3, .int .i64 p0_4, .int .i64 p0_5], .slice a1 n1 c1] w [.agg [.int .u64, .sl, .bool]] K = ref19_Hold.P p0_0 p0_1 p0_2 p0_3 p0_4 p0_5 a1 n1 c1 w K := by kernel_rfl
  exact vcFun.calls okf_ok follows Try.func37 (e.symm ▸ h)

/-! ### nepenthe/nepentheref19.Current: function 39 -/
-- loop 0 carries 6: .one (.int .i64), 8: .one (.int .i64)
def ref19_Current.A : Ann := .two .no (.two .no (.two .no (.two (.two .no (.one (.loop [6, 8, 9, 11, 12, 13, 14, 15, 16, 17, 18, 19, 20, 21, 22, 23, 24, 25, 26, 27, 28, 29, 30, 31, 32, 33, 34, 35, 36, 37] [(6, .one (.int .i64)), (8, .one (.int .i64))] (.two .no (.two (.one (.join [9, 17, 18, 19, 20, 21, 22] [(9, .one .ptr)] (.draw (.take 0 (.take 1 (.take 2 (.take 3 (.take 4 (.both 5 (.eff 6 (.eff 7 (.done))) 6 (.eff 5 (.eff 7 (.done)))))))))) .no)) .no))))) (.two (.draw (.take 0 (.take 1 (.take 2 (.eff 3 (.done)))))) .no))))
def ref19_Current.P (p0_0 : Int) (p0_1 : Int) (p0_2 : Int) (p0_3 : Int) (p0_4 : Int) (p0_5 : Int) (a1 : Option Addr) (n1 c1 : Nat) (w : World) (K : Int × (Int × SlV × Bool × Unit) × Unit → World → Prop) : Prop :=
  NewV #[.int .i64 p0_0, .int .i64 p0_1, .int .i64 p0_2, .int .i64 p0_3, .int .i64 p0_4, .int .i64 p0_5] 23 w fun b1 w2 =>
  NewV #[.int .u64 0, .slice none 0 0, .bool false] 66 w2 fun b3 w4 =>
  NewV #[.int .u64 0, .slice none 0 0, .bool false] 66 w4 fun b5 w6 =>
  StoreV w6 ⟨b5, 0, none⟩ [.int .u64 0, .slice none 0 0, .bool false] fun w7 =>
  LoopV [.one (.int .i64), .one (.int .i64)] (((-1) : Int), (0 : Int), ()) w7 fun (z8 : Int × Int × Unit) w9 (K10 : Int × Int × Unit → World → Prop) =>
  cond (decide (z8.2.1 < ((n1 : Nat) : Int)))
  (JoinV [.one .ptr] (fun (v12 : (Option Addr) × Unit) w13 =>
  PtrK v12.1 fun q14 =>
  LoadS w13 (q14.add 2) .bool fun (x15 : Bool) =>
  cond x15
  (cond (decide (z8.1 < 0))
  (PtrK v12.1 fun q16 =>
  LoadA w13 q16 [.int .u64, .sl, .bool] fun (x17 : Int × SlV × Bool × Unit) =>
  StoreV w13 ⟨b5, 0, none⟩ [.int .u64 x17.1, .slice x17.2.1.a x17.2.1.n x17.2.1.c, .bool x17.2.2.1] fun w18 =>
  Rng .i64 (z8.2.1 + 1) ∧
  K10 (z8.2.1, z8.2.1 + 1, ()) w18)
  (PtrK v12.1 fun q19 =>
  LoadS w13 q19 (.int .u64) fun (x20 : Int) =>
  LoadS w13 ⟨b5, 0, none⟩ (.int .u64) fun (x21 : Int) =>
  cond (decide (x20 > x21))
  (PtrK v12.1 fun q22 =>
  LoadA w13 q22 [.int .u64, .sl, .bool] fun (x23 : Int × SlV × Bool × Unit) =>
  StoreV w13 ⟨b5, 0, none⟩ [.int .u64 x23.1, .slice x23.2.1.a x23.2.1.n x23.2.1.c, .bool x23.2.2.1] fun w24 =>
  Rng .i64 (z8.2.1 + 1) ∧
  K10 (z8.2.1, z8.2.1 + 1, ()) w24)
  (Rng .i64 (z8.2.1 + 1) ∧
  K10 (z8.1, z8.2.1 + 1, ()) w13)))
  (Rng .i64 (z8.2.1 + 1) ∧
  K10 (z8.1, z8.2.1 + 1, ()) w13)) fun (J11 : (Option Addr) × Unit → World → Prop) =>
  DrawV fun D25 =>
  (D25 b1 ∧ LoadA w9.drew ⟨b1, 0, none⟩ [.int .i64, .int .i64, .int .i64, .int .i64, .int .i64, .int .i64] fun (x26 : Int × Int × Int × Int × Int × Int × Unit) =>
  (0 ≤ z8.2.1 ∧ z8.2.1 < ((n1 : Nat) : Int)) ∧ ∃ q27 : Addr, a1 = some q27 ∧
  (D25 (q27.add (z8.2.1.toNat * 1)).block ∧ LoadS w9.drew (q27.add (z8.2.1.toNat * 1)) .sl fun (x28 : SlV) =>
  ((CallV Try.prog 37 #[.agg #[.int .i64 x26.1, .int .i64 x26.2.1, .int .i64 x26.2.2.1, .int .i64 x26.2.2.2.1, .int .i64 x26.2.2.2.2.1, .int .i64 x26.2.2.2.2.2.1], .slice x28.a x28.n x28.c] w9.drew [.agg [.int .u64, .sl, .bool]] fun (r29 : (Int × SlV × Bool × Unit) × Unit) w30 =>
  KeepOn D25 w9.drew w30 ∧
  NewV #[.int .u64 0, .slice none 0 0, .bool false] 66 w30 fun b31 w32 =>
  KeepOn D25 w9.drew w32 ∧
  StoreV w32 ⟨b31, 0, none⟩ [.int .u64 r29.1.1, .slice r29.1.2.1.a r29.1.2.1.n r29.1.2.1.c, .bool r29.1.2.2.1] fun w33 =>
  KeepOn D25 w9.drew w33 ∧
  J11 ((some ⟨b31, 0, none⟩), ()) w33) ∧
  (NewV #[.int .u64 0, .slice none 0 0, .bool false] 66 w9.drew fun b34 w35 =>
  KeepOn D25 w9.drew w35 ∧
  CallV Try.prog 37 #[.agg #[.int .i64 x26.1, .int .i64 x26.2.1, .int .i64 x26.2.2.1, .int .i64 x26.2.2.2.1, .int .i64 x26.2.2.2.2.1, .int .i64 x26.2.2.2.2.2.1], .slice x28.a x28.n x28.c] w35 [.agg [.int .u64, .sl, .bool]] fun (r36 : (Int × SlV × Bool × Unit) × Unit) w37 =>
  KeepOn D25 w9.drew w37 ∧
  StoreV w37 ⟨b34, 0, none⟩ [.int .u64 r36.1.1, .slice r36.1.2.1.a r36.1.2.1.n r36.1.2.1.c, .bool r36.1.2.2.1] fun w38 =>
  KeepOn D25 w9.drew w38 ∧
  J11 ((some ⟨b34, 0, none⟩), ()) w38)))))
  (DrawV fun D39 =>
  (D39 b5 ∧ LoadA w9.drew ⟨b5, 0, none⟩ [.int .u64, .sl, .bool] fun (x40 : Int × SlV × Bool × Unit) =>
  StoreV w9.drew ⟨b3, 0, none⟩ [.int .u64 x40.1, .slice x40.2.1.a x40.2.1.n x40.2.1.c, .bool x40.2.2.1] fun w41 =>
  KeepOn D39 w9.drew w41 ∧
  LoadA w41 ⟨b3, 0, none⟩ [.int .u64, .sl, .bool] fun (x42 : Int × SlV × Bool × Unit) =>
  K (z8.1, (x42.1, x42.2.1, x42.2.2.1, ()), ()) w41))
theorem ref19_Current.vc (p0_0 : Int) (p0_1 : Int) (p0_2 : Int) (p0_3 : Int) (p0_4 : Int) (p0_5 : Int) (a1 : Option Addr) (n1 c1 : Nat) (w : World) (K : Int × (Int × SlV × Bool × Unit) × Unit → World → Prop) (h : ref19_Current.P p0_0 p0_1 p0_2 p0_3 p0_4 p0_5 a1 n1 c1 w K) : CallV Try.prog 39 #[.agg #[.int .i64 p0_0, .int .i64 p0_1, .int .i64 p0_2, .int .i64 p0_3, .int .i64 p0_4, .int .i64 p0_5], .slice a1 n1 c1] w [.one (.int .i64), .agg [.int .u64, .sl, .bool]] K := by
  have e : vcFun Try.prog okf false Try.f39 ref19_Current.A #[.agg #[.int .i64 p0_0, .int .i64 p0_1, .int .i64 p0_2, .int .i64 p0_3, .int .i64 p0_4, .int .i64 p0_5], .slice a1 n1 c1] w [.one (.int .i64), .agg [.int .u64, .sl, .bool]] K = ref19_Current.P p0_0 p0_1 p0_2 p0_3 p0_4 p0_5 a1 n1 c1 w K := by kernel_rfl
  exact vcFun.calls okf_ok follows Try.func39 (e.symm ▸ h)

/-! ### nepenthe/nepenthelaw19.awake: function 32 -/
def law19_awake.A : Ann := .two .no (.two .no (.two (.draw (.take 0 (.eff 1 (.eff 2 (.take 3 (.take 4 (.take 5 (.take 6 (.take 7 (.done)))))))))) .no))
def law19_awake.P  (w : World) (K : Bool × Unit → World → Prop) : Prop :=
  NewV #[.int .i64 0, .int .i64 0, .int .i64 0, .int .i64 0, .int .i64 0, .int .i64 0] 23 w fun b1 w2 =>
  StoreV w2 ⟨b1, 0, none⟩ [.int .i64 7, .int .i64 10, .int .i64 64, .int .i64 0, .int .i64 1, .int .i64 1] fun w3 =>
  DrawV fun D4 =>
  (D4 b1 ∧ LoadA w3.drew ⟨b1, 0, none⟩ [.int .i64, .int .i64, .int .i64, .int .i64, .int .i64, .int .i64] fun (x5 : Int × Int × Int × Int × Int × Int × Unit) =>
  ((0 : Int) ≤ (624 : Int) ∧ (624 : Int) ≤ (624 : Int) ∧ (624 : Int) ≤ 9223372036854775807 ∧ ((1 : Nat) : Int) * (624 : Int) ≤ 140737488355328) ∧
  NewV (List.replicate 624 [.int .u8 0]).flatten.toArray 5 w3.drew fun b6 w7 =>
  KeepOn D4 w3.drew w7 ∧
  CallV Try.prog 31 #[.agg #[.int .i64 x5.1, .int .i64 x5.2.1, .int .i64 x5.2.2.1, .int .i64 x5.2.2.2.1, .int .i64 x5.2.2.2.2.1, .int .i64 x5.2.2.2.2.2.1], .slice (some ⟨b6, 0, none⟩) 624 624, .int .u64 3] w7 [.one .sl, .one (.int .i64)] fun (r8 : SlV × Int × Unit) w9 =>
  KeepOn D4 w3.drew w9 ∧
  LoadA w9 ⟨b1, 0, none⟩ [.int .i64, .int .i64, .int .i64, .int .i64, .int .i64, .int .i64] fun (x10 : Int × Int × Int × Int × Int × Int × Unit) =>
  CallV Try.prog 38 #[.agg #[.int .i64 x10.1, .int .i64 x10.2.1, .int .i64 x10.2.2.1, .int .i64 x10.2.2.2.1, .int .i64 x10.2.2.2.2.1, .int .i64 x10.2.2.2.2.2.1], .slice none 0 0] w9 [.one (.int .i64), .one (.int .u64), .one .sl] fun (r11 : Int × Int × SlV × Unit) w12 =>
  cond (r8.2.1 == 0)
  (cond (((r8.1.n : Nat) : Int) == 10)
  (K ((r11.1 == (-1)), ()) w12)
  (K (false, ()) w12))
  (K (false, ()) w12))
theorem law19_awake.vc  (w : World) (K : Bool × Unit → World → Prop) (h : law19_awake.P  w K) : CallV Try.prog 32 #[] w [.one .bool] K := by
  have e : vcFun Try.prog okf false Try.f32 law19_awake.A #[] w [.one .bool] K = law19_awake.P  w K := by kernel_rfl
  exact vcFun.calls okf_ok follows Try.func32 (e.symm ▸ h)

/-! ### nepenthe/nepenthelaw19.light: function 33 -/
def law19_light.A : Ann := .no
def law19_light.P (p0_0 : Int) (p0_1 : Int) (p0_2 : Int) (p0_3 : Int) (p0_4 : Int) (p0_5 : Int) (w : World) (K : Bool × Unit → World → Prop) : Prop :=
  NewV #[.int .i64 p0_0, .int .i64 p0_1, .int .i64 p0_2, .int .i64 p0_3, .int .i64 p0_4, .int .i64 p0_5] 23 w fun b1 w2 =>
  LoadS w2 ⟨b1, 2, none⟩ (.int .i64) fun (x3 : Int) =>
  K (decide (x3 ≤ 700), ()) w2
theorem law19_light.vc (p0_0 : Int) (p0_1 : Int) (p0_2 : Int) (p0_3 : Int) (p0_4 : Int) (p0_5 : Int) (w : World) (K : Bool × Unit → World → Prop) (h : law19_light.P p0_0 p0_1 p0_2 p0_3 p0_4 p0_5 w K) : CallV Try.prog 33 #[.agg #[.int .i64 p0_0, .int .i64 p0_1, .int .i64 p0_2, .int .i64 p0_3, .int .i64 p0_4, .int .i64 p0_5]] w [.one .bool] K := by
  have e : vcFun Try.prog okf false Try.f33 law19_light.A #[.agg #[.int .i64 p0_0, .int .i64 p0_1, .int .i64 p0_2, .int .i64 p0_3, .int .i64 p0_4, .int .i64 p0_5]] w [.one .bool] K = law19_light.P p0_0 p0_1 p0_2 p0_3 p0_4 p0_5 w K := by kernel_rfl
  exact vcFun.calls okf_ok follows Try.func33 (e.symm ▸ h)

/-! ### nepenthe/nepenthelaw19.few: function 35 -/
-- loop 0 carries 3: .one (.int .i64)
def law19_few.A : Ann := .two .no (.two .no (.two (.two .no (.one (.loop [2, 3, 7, 8, 9, 10, 11, 12, 13, 14, 15, 16, 17, 18] [(3, .one (.int .i64))] .no))) .no))
def law19_few.P (a0 : Option Addr) (n0 c0 : Nat) (w : World) (K : Bool × Unit → World → Prop) : Prop :=
  cond (decide (((n0 : Nat) : Int) > 40))
  (K (false, ()) w)
  (LoopV [.one (.int .i64)] ((0 : Int), ()) w fun (z1 : Int × Unit) w2 (K3 : Int × Unit → World → Prop) =>
  cond (decide (z1.1 < ((n0 : Nat) : Int)))
  ((0 ≤ z1.1 ∧ z1.1 < ((n0 : Nat) : Int)) ∧ ∃ q4 : Addr, a0 = some q4 ∧
  LoadS w2 (q4.add (z1.1.toNat * 1)) .sl fun (x5 : SlV) =>
  cond (decide (((x5.n : Nat) : Int) > 900))
  (K (false, ()) w2)
  (Rng .i64 (z1.1 + 1) ∧
  K3 (z1.1 + 1, ()) w2))
  (K (true, ()) w2))
theorem law19_few.vc (a0 : Option Addr) (n0 c0 : Nat) (w : World) (K : Bool × Unit → World → Prop) (h : law19_few.P a0 n0 c0 w K) : CallV Try.prog 35 #[.slice a0 n0 c0] w [.one .bool] K := by
  have e : vcFun Try.prog okf false Try.f35 law19_few.A #[.slice a0 n0 c0] w [.one .bool] K = law19_few.P a0 n0 c0 w K := by kernel_rfl
  exact vcFun.calls okf_ok follows Try.func35 (e.symm ▸ h)

end Go.Proofs.Ytfpkaebmiojicaa.Vc

/-! The contract of Copy of layer 12 (fault): a plan in new memory. -/
namespace Go.Proofs.Ytfpkaebmiojicaa.Vc
open Go Go.Eng Go.RowKit
set_option linter.unusedVariables false
set_option linter.unusedSimpArgs false

/-- A mask of one's own, in a block apart from a list's. -/
structure MaskOk (w : World) (B : Nat) (a : Option Addr) (f : TF.T) : Prop where
  own : Own w B 5 1 f.2.2.1.a f.2.2.1.n f.2.2.1.c (f.2.2.1.l.map (Value.int .u8))
  byt : Byt f.2.2.1.l
  ne : ∀ p q, a = some p → f.2.2.1.a = some q → p.block ≠ q.block
  at_ : Rng .i64 f.1
structure CopyR (w w' : World) (y : SlP TF.T) (l : List FD) : Prop where
  ext : Ext w w'
  own : Own w' w.heap.size 109 3 y.a y.n y.c (y.l.flatMap TF.vs)
  len : y.l.length = y.n
  dat : fds y = l
  msk : ∀ f ∈ y.l, MaskOk w' w.heap.size y.a f

theorem rngU8 {x : Int} (h : 0 ≤ x ∧ x < 256) : Rng .u8 x := Rng.u8 h.1 (by omega)
theorem Own_in {w : World} {B : Nat} {e : TypeId} {sz : Nat} {a : Option Addr} {n c : Nat} {vs : List Value} (h : Own w B e sz a n c vs) : RdG w (fun k => B ≤ k) a vs := by
  rcases h.at_ with ⟨h1, _, h2⟩ | ⟨b, cs, h1, h2, _⟩
  · exact .inl ⟨h1, h2⟩
  · rcases h.rd with ⟨h3, _⟩ | ⟨p, h3, h4⟩
    · rw [h1] at h3; cases h3
    · refine .inr ⟨p, h3, h4, fun _ => ?_⟩
      rw [h1] at h3; cases h3; exact h2
theorem CopyR.rd {w w' : World} {y : SlP TF.T} {l : List FD} (h : CopyR w w' y l) : LF.rd w' (fun k => w.heap.size ≤ k) y := by
  have hml : maxLen = 9223372036854775807 := by decide
  refine ⟨h.len, h.own.cap, by have := h.own.lim; omega, Own_in h.own, fun f hf => ?_⟩
  have m := h.msk f hf
  refine ⟨m.at_, trivial, ⟨by have := m.own.len; simpa using this, m.own.cap, by have := m.own.lim; omega, ?_, fun z hz => rngU8 (m.byt z hz)⟩, trivial⟩
  rw [show f.2.2.1.l.flatMap (Ty.int .u8).vs = f.2.2.1.l.map (Value.int .u8) from flat_ints .u8 _]
  exact Own_in m.own

theorem oneF (f : TF.T) : oneAll (TF.vs f) := fun u hu => by
  have hu : u ∈ [Value.int .i64 f.1, .bool f.2.1, .slice f.2.2.1.a f.2.2.1.n f.2.2.1.c] := hu
  simp only [List.mem_cons, List.not_mem_nil, or_false] at hu
  rcases hu with rfl | rfl | rfl <;> rfl

theorem Copy_c {w : World} {G : Nat → Prop} {x : SlP TF.T} (hx : LF.rd w G x) (hm : mFit (fds x)) (hn : x.n ≤ 1000) : CallV Try.prog 76 #[.slice x.a x.n x.c] w [.one .sl] fun r w' => ∃ y : SlP TF.T, r.1 = (⟨y.a, y.n, y.c⟩ : SlV) ∧ CopyR w w' y (fds x) := by
  refine fault_Copy.vc _ _ _ _ _ ?_
  unfold fault_Copy.P
  have hl := LF_len hx
  refine Loop1 (fun (y : SlV × Int × Unit) w' => ∃ (i : Nat) (L : List TF.T), y.2.1 = (i : Int) ∧ i ≤ x.n ∧ CopyR w w' ⟨y.1.a, y.1.n, y.1.c, L⟩ ((fds x).take i) ∧ y.1.n = i) (fun (y : SlV × Int × Unit) _ => ((x.n : Int) - y.2.1).toNat)
    ⟨0, [], rfl, by omega, ⟨Ext.refl _, Own.nil _ _ _ _, rfl, rfl, fun f hf => (List.not_mem_nil hf).elim⟩, rfl⟩ ?_
  rintro ⟨⟨sa, sn, sc⟩, (z : Int), ⟨⟩⟩ w2 ⟨i, L, hz, hi, hC, hsn⟩
  dsimp only at hz hC hsn ⊢
  subst hz
  subst hsn
  have e2 := hC.ext
  refine cond_d (fun hlt => ?_) (fun hge => ?_)
  · obtain ⟨q, y, hq, hy, hc, hr, -⟩ := LF_nth (Ty.rd_ext e2 _ hx) (Int.natCast_nonneg sn) hlt
    have hdy := LF_get hy
    rw [Int.toNat_natCast] at hdy
    have hmy := hm.at hdy
    have hly := TF_len hr
    dsimp only at hmy
    refine ⟨⟨by omega, hlt⟩, q, hq, ldF hc ?_⟩
    refine newF fun b6 w7 e7 hb => ?_
    refine hb.store 0 (by simp) fun w8 hb8 bel8 _ _ => ?_
    have x8 : Ext w2 w8 := Below.trans e7 bel8
    refine newU fun b9 w9 e9 o9 => ?_
    refine (hb8.ext e9).ld (i := 2) (h := .sl) (x := ⟨y.2.2.1.a, y.2.2.1.n, y.2.2.1.c⟩) rfl ?_
    dsimp only
    refine appM (xs := []) o9 (Ty.ints (Ty.rd_ext (x8.trans e9) _ hr.2.2.1)) e9.size (by omega) fun a' c' w10 o10 b10 m10 _ => ?_
    have x10 : Ext w8 w10 := Below.trans e9 b10
    have hb10 := hb8.ext x10
    have hlt8 : b6 < w8.heap.size := hb8.lt
    have hblk : ∀ p, a' = some p → w8.heap.size ≤ p.block := o10.ge
    refine hb10.store 2 (by simp) fun w11 hb11 bel11 but11 _ => ?_
    have o11 := o10.other (w' := w11) (fun p hp => but11 _ (by have := hblk p hp; omega))
    have X11 : Ext w2 w11 := Below.trans (Ext.trans x8 x10) bel11
    generalize hf' : ((y.1, y.2.1, ⟨a', 0 + y.2.2.1.n, c', y.2.2.1.l⟩, ()) : TF.T) = f'
    have hvs : TF.vs f' = [.int .i64 y.1, .bool y.2.1, .slice a' (0 + y.2.2.1.n) c'] := by rw [← hf']; rfl
    refine ldF (f := f') (by rw [hvs]; exact hb11.cells) ?_
    subst hf'
    dsimp only
    refine newBox (vs := [.int .i64 y.1, .bool y.2.1, .slice a' (0 + y.2.2.1.n) c']) fun b12 w12 e12 hb12 => ?_
    have X12 : Ext w2 w12 := X11.trans e12
    have o12 := hC.own.ext X12
    generalize hf' : ((y.1, y.2.1, ⟨a', 0 + y.2.2.1.n, c', y.2.2.1.l⟩, ()) : TF.T) = f' at hvs
    refine AppS.of (news := TF.vs f') (by rw [hvs]; rfl) (.inr ⟨_, rfl, by rw [hvs]; exact hb12.cells⟩) ?_
    refine AppV.own o12 (Nat.le_trans e2.size X12.size) (by rw [hvs]; rfl) (oneF f') (by omega) (by omega) fun a13 c13 w13 o13 b13 but13 m13 => ?_
    have hsa : ∀ p, sa = some p → p.block < w2.heap.size := hC.own.lt
    have hmlt : ∀ f ∈ L, ∀ p, f.2.2.1.a = some p → p.block < w2.heap.size := fun f hf => (hC.msk f hf).own.lt
    refine ⟨Rng.i64 (by omega) (by have hlim := LF_lim hx; omega), ⟨sn + 1, L ++ [f'], by push_cast; rfl, by omega, ⟨Below.trans (Ext.trans e2 X12) b13, ?_, ?_, ?_, ?_⟩, rfl⟩, by omega⟩
    · show Own w13 _ _ 3 a13 (sn + 1) c13 ((L ++ [f']).flatMap TF.vs)
      rw [List.flatMap_append, List.flatMap_singleton]
      exact o13
    · have := hC.len
      simp only at this
      rw [List.length_append, this]; rfl
    · have hd := hC.dat
      show (L ++ [f']).map TF.dat = _
      have hd' : L.map TF.dat = (fds x).take sn := hd
      rw [List.map_append, hd', List.take_add_one, hdy, List.map_singleton, TF_dat, ← hf']
      rfl
    · intro f hf
      have hnew := m13.ne
      rcases List.mem_append.1 hf with h | h
      · have m := hC.msk f h
        refine ⟨but13.own (m.own.ext X12) (m.ne), m.byt, fun p q hp hq => ?_, m.at_⟩
        have := hmlt f h q hq
        exact hnew p q hp (Nat.lt_of_lt_of_le this X12.size) fun p' hp' => m.ne p' q hp' hq
      · rw [List.mem_singleton.1 h, ← hf']
        have hq' : ∀ q : Addr, a' = some q → w2.heap.size ≤ q.block ∧ q.block < w12.heap.size := by
          intro q hq
          have h1 := hblk q hq
          have h2 := x8.size
          have h3 := o11.lt q hq
          have h4 := e12.size
          omega
        have hne : ∀ p q, sa = some p → a' = some q → p.block ≠ q.block := by
          intro p q hp hq
          have h1 := hsa p hp
          have h2 := hq' q hq
          omega
        refine ⟨?_, show Byt y.2.2.1.l from Ty.byt hr.2.2.1, fun p q hp hq => hnew p q hp (hq' q hq).2 fun p' hp' => hne p' q hp' hq, hr.1⟩
        have := but13.own (o11.ext e12) hne
        rw [List.nil_append] at this
        exact this.mono (by have := e2.size; have := x8.size; omega)
  · have : sn = x.n := by omega
    refine ⟨⟨sa, sn, sc, L⟩, rfl, ?_⟩
    rw [List.take_of_length_le (by omega)] at hC
    exact hC

end Go.Proofs.Ytfpkaebmiojicaa.Vc

/-! The contracts of layer 19 (chunk): a record's pages. -/
namespace Go.Proofs.Ytfpkaebmiojicaa.Vc
open Go Go.Eng Go.RowKit
set_option linter.unusedVariables false
set_option linter.unusedSimpArgs false

abbrev TB : Ty := .sl (.int .u8)
abbrev TBB : Ty := .sl TB
abbrev slV (s : SlP Int) : Value := .slice s.a s.n s.c
theorem flat_sl (L : List (SlP Int)) : L.flatMap TB.vs = L.map slV := by
  induction L with
  | nil => rfl
  | cons x L ih => rw [List.flatMap_cons, ih]; rfl
/-- Slices of bytes that are read. -/
def RdL (L : List (SlP Int)) : Asr := ⟨fun w F => ∀ x ∈ L, TB.rd w F x, fun h k x hx => TB.rd_kp (fun i hi _ => k i hi) (h x hx)⟩
theorem maxLen_eq : maxLen = 9223372036854775807 := by decide
theorem own_rd {w : World} {F : Nat → Prop} {a : Option Addr} {n c : Nat} {xs : List Int} (h : (OwnA 5 1 a n c (xs.map (Value.int .u8))).p w F) (bx : Byt xs) : TB.rd w F ⟨a, n, c, xs⟩ := by
  obtain ⟨ho, hF⟩ := h
  have hm := maxLen_eq
  refine ⟨by have := ho.len; simpa using this, ho.cap, by have := ho.lim; show n ≤ maxLen; omega, ?_, fun y hy => rngU8 (bx y hy)⟩
  rw [show xs.flatMap (Ty.int .u8).vs = xs.map (Value.int .u8) from flat_ints .u8 _]
  rcases ho.rd with h | ⟨p, h1, h2⟩
  · exact .inl h
  · exact .inr ⟨p, h1, h2, fun _ => hF p h1⟩
/-- A new page behind pages. -/
theorem _root_.Go.Eng.Sep.addL {E : Nat → Prop} {w0 w : World} {Rs : List Asr} {a : Option Addr} {n c : Nat} {xs : List Int} {L : List (SlP Int)} (S : Sep E w0 w (OwnA 5 1 a n c (xs.map (Value.int .u8)) :: RdL L :: Rs)) (bx : Byt xs) : Sep E w0 w (RdL (L ++ [⟨a, n, c, xs⟩]) :: Rs) :=
  S.conv2 fun F1 F2 h1 h2 _ x hx => by
    rcases List.mem_append.1 hx with h | h
    · exact TB.rd_mono (fun k hk _ => .inr hk) (h2 x h)
    · rw [List.mem_singleton.1 h]
      exact TB.rd_mono (fun k hk _ => .inl hk) (own_rd h1 bx)
theorem _root_.Go.Eng.Sep.nilL {E : Nat → Prop} {w0 w : World} {Rs : List Asr} (S : Sep E w0 w Rs) : Sep E w0 w (RdL [] :: Rs) :=
  S.push (F := NoB) (Fr.refl _ _) (fun x hx => (List.not_mem_nil hx).elim) fun _ x => x.elim
/-- Pages that a call has made. -/
abbrev LstS (w w' : World) (y : SlP (SlP Int)) : Prop := Sep NoB w w' [OwnA 28 1 y.a y.n y.c (y.l.map slV), RdL y.l]
theorem lst_rd {E : Nat → Prop} {w0 w : World} {Rs : List Asr} {e : TypeId} {a : Option Addr} {n c : Nat} {L : List (SlP Int)} (S : Sep E w0 w (OwnA e 1 a n c (L.map slV) :: RdL L :: Rs)) : TBB.rd w All ⟨a, n, c, L⟩ := by
  obtain ⟨F, h, _⟩ := S.get (i := 1) rfl
  have ho := S.own 0 rfl
  have hm := maxLen_eq
  refine ⟨by have := ho.len; simpa using this, ho.cap, by have := ho.lim; show n ≤ maxLen; omega, .of ?_, fun x hx => TB.rd_mono (fun _ _ _ => trivial) (h x hx)⟩
  rw [show (L.flatMap TB.vs) = L.map slV from flat_sl L]
  exact ho.rd
theorem TBB_nth {w : World} {G : Nat → Prop} {x : SlP (SlP Int)} (h : TBB.rd w G x) {i : Int} (h0 : 0 ≤ i) (h1 : i < (x.n : Int)) :
    ∃ q y, x.a = some q ∧ x.l[i.toNat]? = some y ∧ CellsAt w (q.add (i.toNat * 1)) [slV y] ∧ TB.rd w G y ∧ G q.block ∧ q.block < w.heap.size := Ty.nth (e := TB) h h0 h1 (by decide)

theorem own19_c {w : World} {g : Geo} {i gen : Int} (hR : Right g) : CallV Try.prog 72 #[g.val, .int .i64 i, .int .u64 gen] w [.agg [.int .i64, .int .i64, .int .i64, .int .u32, .int .u64, .int .u64]] fun r w' => r.1 = (ownH g i gen).tup ∧ Ext w w' := by
  apply chunk_own.vc
  unfold chunk_own.P
  have b := nCh_bd hR
  have S := Sep.start NoB w
  (repeat ((first | refine S.newB fun _ _ S f _ => ?_ | refine S.la0 rfl ?_ | refine S.la1 rfl ?_ | refine S.la2 rfl ?_ | refine S.la3 rfl ?_ | refine S.la4 rfl ?_ | refine S.la5 rfl ?_ | refine S.ld0 rfl rfl ?_ | refine S.ld1 rfl rfl ?_ | refine S.ld2 rfl rfl ?_ | refine S.ld3 rfl rfl ?_ | refine S.ld4 rfl rfl ?_ | refine S.ld5 rfl rfl ?_ | refine S.st0 (by rfl) fun _ S f => ?_ | refine S.st1 (by rfl) fun _ S f => ?_ | refine S.st2 (by rfl) fun _ S f => ?_ | refine S.st3 (by rfl) fun _ S f => ?_ | refine S.st4 (by rfl) fun _ S f => ?_ | refine S.st5 (by rfl) fun _ S f => ?_ | refine S.su0 (by rfl) fun _ S f => ?_ | refine S.su1 (by rfl) fun _ S f => ?_ | refine S.su2 (by rfl) fun _ S f => ?_ | refine S.su3 (by rfl) fun _ S f => ?_ | refine S.su4 (by rfl) fun _ S f => ?_ | refine S.su5 (by rfl) fun _ S f => ?_ | refine ⟨by decide, ?_⟩); try dsimp only [List.set_cons_zero, List.set_cons_succ, cond_true, cond_false, Bool.not_true, Bool.not_false]))
  refine (Chunks_c (g := g)).mono ?_
  rintro ⟨(r : Int), ⟨⟩⟩ w2 ⟨h2, e2⟩
  dsimp only at h2 ⊢
  rw [if_pos hR] at h2
  have h2 : r = nCh g := h2
  subst h2
  have S := S.stepE e2
  have hw : IntKind.u32.wrap (nCh g) = nCh g := by rw [u32_wrap]; omega
  rw [hw]
  (repeat ((first | refine S.newB fun _ _ S f _ => ?_ | refine S.la0 rfl ?_ | refine S.la1 rfl ?_ | refine S.la2 rfl ?_ | refine S.la3 rfl ?_ | refine S.la4 rfl ?_ | refine S.la5 rfl ?_ | refine S.ld0 rfl rfl ?_ | refine S.ld1 rfl rfl ?_ | refine S.ld2 rfl rfl ?_ | refine S.ld3 rfl rfl ?_ | refine S.ld4 rfl rfl ?_ | refine S.ld5 rfl rfl ?_ | refine S.st0 (by rfl) fun _ S f => ?_ | refine S.st1 (by rfl) fun _ S f => ?_ | refine S.st2 (by rfl) fun _ S f => ?_ | refine S.st3 (by rfl) fun _ S f => ?_ | refine S.st4 (by rfl) fun _ S f => ?_ | refine S.st5 (by rfl) fun _ S f => ?_ | refine S.su0 (by rfl) fun _ S f => ?_ | refine S.su1 (by rfl) fun _ S f => ?_ | refine S.su2 (by rfl) fun _ S f => ?_ | refine S.su3 (by rfl) fun _ S f => ?_ | refine S.su4 (by rfl) fun _ S f => ?_ | refine S.su5 (by rfl) fun _ S f => ?_ | refine ⟨by decide, ?_⟩); try dsimp only [List.set_cons_zero, List.set_cons_succ, cond_true, cond_false, Bool.not_true, Bool.not_false]))
  exact ⟨rfl, S.ext⟩
theorem head19_c {w : World} {g : Geo} {i gen : Int} (hR : Right g) : CallV Try.prog 73 #[g.val, .int .i64 i, .int .u64 gen] w [.agg [.int .i64, .int .i64, .int .i64, .int .u32, .int .u64, .int .u64]] fun r w' => r.1 = (ownH g i gen).tup ∧ Ext w w' := by
  apply ref19_head.vc
  unfold ref19_head.P
  have b := nCh_bd hR
  have S := Sep.start NoB w
  (repeat ((first | refine S.newB fun _ _ S f _ => ?_ | refine S.la0 rfl ?_ | refine S.la1 rfl ?_ | refine S.la2 rfl ?_ | refine S.la3 rfl ?_ | refine S.la4 rfl ?_ | refine S.la5 rfl ?_ | refine S.ld0 rfl rfl ?_ | refine S.ld1 rfl rfl ?_ | refine S.ld2 rfl rfl ?_ | refine S.ld3 rfl rfl ?_ | refine S.ld4 rfl rfl ?_ | refine S.ld5 rfl rfl ?_ | refine S.st0 (by rfl) fun _ S f => ?_ | refine S.st1 (by rfl) fun _ S f => ?_ | refine S.st2 (by rfl) fun _ S f => ?_ | refine S.st3 (by rfl) fun _ S f => ?_ | refine S.st4 (by rfl) fun _ S f => ?_ | refine S.st5 (by rfl) fun _ S f => ?_ | refine S.su0 (by rfl) fun _ S f => ?_ | refine S.su1 (by rfl) fun _ S f => ?_ | refine S.su2 (by rfl) fun _ S f => ?_ | refine S.su3 (by rfl) fun _ S f => ?_ | refine S.su4 (by rfl) fun _ S f => ?_ | refine S.su5 (by rfl) fun _ S f => ?_ | refine ⟨by decide, ?_⟩); try dsimp only [List.set_cons_zero, List.set_cons_succ, cond_true, cond_false, Bool.not_true, Bool.not_false]))
  refine (rChunks_c (g := g) hR.sec).mono ?_
  rintro ⟨(r : Int), ⟨⟩⟩ w2 ⟨h2, e2⟩
  dsimp only at h2 ⊢
  have h2 : r = nCh g := h2
  subst h2
  have S := S.stepE e2
  have hw : IntKind.u32.wrap (nCh g) = nCh g := by rw [u32_wrap]; omega
  rw [hw]
  (repeat ((first | refine S.newB fun _ _ S f _ => ?_ | refine S.la0 rfl ?_ | refine S.la1 rfl ?_ | refine S.la2 rfl ?_ | refine S.la3 rfl ?_ | refine S.la4 rfl ?_ | refine S.la5 rfl ?_ | refine S.ld0 rfl rfl ?_ | refine S.ld1 rfl rfl ?_ | refine S.ld2 rfl rfl ?_ | refine S.ld3 rfl rfl ?_ | refine S.ld4 rfl rfl ?_ | refine S.ld5 rfl rfl ?_ | refine S.st0 (by rfl) fun _ S f => ?_ | refine S.st1 (by rfl) fun _ S f => ?_ | refine S.st2 (by rfl) fun _ S f => ?_ | refine S.st3 (by rfl) fun _ S f => ?_ | refine S.st4 (by rfl) fun _ S f => ?_ | refine S.st5 (by rfl) fun _ S f => ?_ | refine S.su0 (by rfl) fun _ S f => ?_ | refine S.su1 (by rfl) fun _ S f => ?_ | refine S.su2 (by rfl) fun _ S f => ?_ | refine S.su3 (by rfl) fun _ S f => ?_ | refine S.su4 (by rfl) fun _ S f => ?_ | refine S.su5 (by rfl) fun _ S f => ?_ | refine ⟨by decide, ?_⟩); try dsimp only [List.set_cons_zero, List.set_cons_succ, cond_true, cond_false, Bool.not_true, Bool.not_false]))
  exact ⟨rfl, S.ext⟩

theorem mul_le' {a b s : Int} (h : a ≤ b) (hs : 0 ≤ s) : a * s ≤ b * s := Int.mul_le_mul_of_nonneg_right h hs
theorem toNat_mul' {i : Nat} {s : Int} (hs : 0 ≤ s) : ((i : Int) * s).toNat = i * s.toNat := by rw [Int.toNat_mul (by omega) hs, Int.toNat_natCast]

theorem Pages_c {w : World} {g : Geo} {a : Option Addr} {n c : Nat} {gen : Int} {rec : List Int} (hx : Ints w .u8 a n c rec) (br : Byt rec) (hgen : 0 ≤ gen ∧ gen < 18446744073709551616) :
    CallV Try.prog 31 #[g.val, .slice a n c, .int .u64 gen] w [.one .sl, .one (.int .i64)] fun r w' => Ext w w' ∧ (¬ (Right g ∧ n = 624) → r.1 = (⟨none, 0, 0⟩ : SlV) ∧ r.2.1 = (2 : Int)) ∧
      (Right g ∧ n = 624 → r.2.1 = (0 : Int) ∧ ∃ y : SlP (SlP Int), r.1 = (⟨y.a, y.n, y.c⟩ : SlV) ∧ y.l.map (·.l) = pagesL g rec gen ∧ LstS w w' y) := by
  apply chunk_Pages.vc
  unfold chunk_Pages.P
  have lx := hx.len
  have S := Sep.start NoB w
  have no : ∀ {w' : World}, ¬ (Right g ∧ n = 624) → Ext w w' → (Ext w w' ∧ (¬ (Right g ∧ n = 624) → (⟨none, 0, 0⟩ : SlV) = (⟨none, 0, 0⟩ : SlV) ∧ (2 : Int) = (2 : Int)) ∧
      (Right g ∧ n = 624 → (2 : Int) = (0 : Int) ∧ ∃ y : SlP (SlP Int), (⟨none, 0, 0⟩ : SlV) = (⟨y.a, y.n, y.c⟩ : SlV) ∧ y.l.map (·.l) = pagesL g rec gen ∧ LstS w w' y)) := fun h e => ⟨e, fun _ => ⟨rfl, rfl⟩, fun hh => absurd hh h⟩
  refine S.newB fun b1 w1 S f1 _ => ?_
  (repeat ((first | refine S.newB fun _ _ S f _ => ?_ | refine S.la0 rfl ?_ | refine S.la1 rfl ?_ | refine S.la2 rfl ?_ | refine S.la3 rfl ?_ | refine S.la4 rfl ?_ | refine S.la5 rfl ?_ | refine S.ld0 rfl rfl ?_ | refine S.ld1 rfl rfl ?_ | refine S.ld2 rfl rfl ?_ | refine S.ld3 rfl rfl ?_ | refine S.ld4 rfl rfl ?_ | refine S.ld5 rfl rfl ?_ | refine S.st0 (by rfl) fun _ S f => ?_ | refine S.st1 (by rfl) fun _ S f => ?_ | refine S.st2 (by rfl) fun _ S f => ?_ | refine S.st3 (by rfl) fun _ S f => ?_ | refine S.st4 (by rfl) fun _ S f => ?_ | refine S.st5 (by rfl) fun _ S f => ?_ | refine S.su0 (by rfl) fun _ S f => ?_ | refine S.su1 (by rfl) fun _ S f => ?_ | refine S.su2 (by rfl) fun _ S f => ?_ | refine S.su3 (by rfl) fun _ S f => ?_ | refine S.su4 (by rfl) fun _ S f => ?_ | refine S.su5 (by rfl) fun _ S f => ?_ | refine ⟨by decide, ?_⟩); try dsimp only [List.set_cons_zero, List.set_cons_succ, cond_true, cond_false, Bool.not_true, Bool.not_false]))
  refine (Check_c (g := g)).mono ?_
  rintro ⟨(r : Int), ⟨⟩⟩ w2 ⟨h2, e2⟩
  dsimp only at h2 ⊢
  have S := S.stepE e2
  subst h2
  by_cases hR : Right g
  case neg => exact cond_t (by unfold chkE; rw [if_neg hR]; rfl) (no (fun h => hR h.1) S.ext)
  refine cond_f (by unfold chkE; rw [if_pos hR]; rfl) ?_
  refine cond_ne (fun hn => no (fun h => hn (by omega)) S.ext) (fun hn => ?_)
  have hs := hR.sec
  have bN := nCh_bd hR
  (repeat ((first | refine S.newB fun _ _ S f _ => ?_ | refine S.la0 rfl ?_ | refine S.la1 rfl ?_ | refine S.la2 rfl ?_ | refine S.la3 rfl ?_ | refine S.la4 rfl ?_ | refine S.la5 rfl ?_ | refine S.ld0 rfl rfl ?_ | refine S.ld1 rfl rfl ?_ | refine S.ld2 rfl rfl ?_ | refine S.ld3 rfl rfl ?_ | refine S.ld4 rfl rfl ?_ | refine S.ld5 rfl rfl ?_ | refine S.st0 (by rfl) fun _ S f => ?_ | refine S.st1 (by rfl) fun _ S f => ?_ | refine S.st2 (by rfl) fun _ S f => ?_ | refine S.st3 (by rfl) fun _ S f => ?_ | refine S.st4 (by rfl) fun _ S f => ?_ | refine S.st5 (by rfl) fun _ S f => ?_ | refine S.su0 (by rfl) fun _ S f => ?_ | refine S.su1 (by rfl) fun _ S f => ?_ | refine S.su2 (by rfl) fun _ S f => ?_ | refine S.su3 (by rfl) fun _ S f => ?_ | refine S.su4 (by rfl) fun _ S f => ?_ | refine S.su5 (by rfl) fun _ S f => ?_ | refine ⟨by decide, ?_⟩); try dsimp only [List.set_cons_zero, List.set_cons_succ, cond_true, cond_false, Bool.not_true, Bool.not_false]))
  refine (Chunks_c (g := g)).mono ?_
  rintro ⟨(r3 : Int), ⟨⟩⟩ w3 ⟨h3, e3⟩
  dsimp only at h3 ⊢
  rw [if_pos hR] at h3
  have h3 : r3 = nCh g := h3
  subst h3
  have S := S.stepE e3
  generalize hN : (nCh g).toNat = N at *
  have hNi : nCh g = (N : Int) := by omega
  refine S.reg fun D hD hkeep Sd T => ?_
  refine ⟨hD _ S.bl0, Sd.ld0 rfl rfl ⟨Rng.i64 (by omega) (by omega), Rng.i64 (by omega) (by omega), ?_⟩⟩
  refine T.newB fun b5 w5 T f5 _ => ⟨hkeep _ T.fr, ?_⟩
  have T := T.asOwn (sz := 1) (n := 0) rfl (by omega) oneAll.nil
  refine T.ab0 (xs := []) (hx.ext (Sd.ext.trans T.ext)) (by omega) fun a6 c6 w6 T f6 => ⟨hkeep _ T.fr, ?_⟩
  refine Fill_c.mono ?_
  rintro ⟨⟨sa, sn, sc⟩, ⟨⟩⟩ w7 h7
  dsimp only at h7 ⊢
  have hf : (max 0 (min (65536 : Int) (nCh g * g.s - ((n : Nat) : Int)))).toNat = (nCh g * g.s - 624).toNat := by generalize hL : (65536 : Int) = L; omega
  rw [hf] at h7
  have l7 := h7.ints.len
  rw [List.length_replicate] at l7
  have T := T.res h7
  dsimp only at l7 T
  refine ⟨hkeep _ T.fr, ?_⟩
  refine T.ab1 T.in0 (by omega) fun a8 c8 w8 T f8 => ⟨hkeep _ T.fr, ?_⟩
  have S := (Sd.frame0 T).sel [1, 1] rfl
  have hall : [] ++ rec ++ List.replicate (nCh g * g.s - 624).toNat 255 = allR g rec := rfl
  rw [hall] at S
  have la := allR_length hR (show rec.length = 624 by omega)
  rw [hN] at la
  have S := (S.nilL).nilOwn 28 1
  have lc8 := (S.own 2 rfl).cap
  have ln8 := (S.own 2 rfl).len
  rw [List.length_map, la, Nat.mul_one] at ln8
  generalize hn8 : 0 + n + sn = n8 at S lc8 ln8
  refine Loop1 (fun (y : SlV × Int × Unit) w' => ∃ (i : Nat) (L : List (SlP Int)), y.2.1 = (i : Int) ∧ i ≤ N ∧ y.1.n = i ∧ L.map (·.l) = (pagesL g rec gen).take i ∧ Sep NoB w w' [OwnA 28 1 y.1.a y.1.n y.1.c (L.map slV), RdL L, OwnA 5 1 a8 n8 c8 ((allR g rec).map (Value.int .u8)), BoxA b1 23 g.vs])
    (fun (y : SlV × Int × Unit) _ => ((N : Int) - y.2.1).toNat) ⟨0, [], rfl, by omega, rfl, rfl, S⟩ ?_
  rintro ⟨⟨ya, yn, yc⟩, (z : Int), ⟨⟩⟩ w9 ⟨i, L, hz, hi, hyn, hL, S⟩
  dsimp only at hz hyn S ⊢
  subst hz
  subst hyn
  have hpl : (pagesL g rec gen).length = N := by unfold pagesL; rw [List.length_map, List.length_range, hN]
  have hLl : L.length = yn := by
    have := congrArg List.length hL
    rw [List.length_map, List.length_take, hpl] at this
    omega
  refine cond_d (fun hlt => ?_) (fun hge => ?_)
  · have m1 := mul_le' (show (yn : Int) + 1 ≤ nCh g by omega) (show 0 ≤ g.s by omega)
    have m0 : 0 ≤ (yn : Int) * g.s := Int.mul_nonneg (by omega) (by omega)
    have m2 : ((yn : Int) + 1) * g.s = (yn : Int) * g.s + g.s := by rw [Int.add_mul, Int.one_mul]
    have t0 : ((yn : Int) * g.s).toNat = yn * g.s.toNat := toNat_mul' (by omega)
    have n0 : (((yn : Int) * g.s).toNat : Int) = (yn : Int) * g.s := Int.toNat_of_nonneg m0
    have e5000 : nCh g * g.s ≤ 5000 := bN.2.2.2
    have hcap : nCh g * g.s ≤ ((c8 : Nat) : Int) := by
      have : nCh g * g.s = ((N * g.s.toNat : Nat) : Int) := by rw [hNi, Int.natCast_mul, Int.toNat_of_nonneg (by omega)]
      omega
    refine S.reg fun D hD hkeep Sd T => ?_
    refine ⟨hD _ S.bl3, Sd.la3 rfl ⟨hD _ S.bl3, Sd.la3 rfl ⟨hD _ S.bl3, Sd.ld3 rfl rfl ⟨Rng.i64 (by omega) (by omega), Rng.i64 (by omega) (by omega), hD _ S.bl3, Sd.ld3 rfl rfl ⟨Rng.i64 (by omega) (by omega), Rng.i64 (by omega) (by omega), hD _ S.bl3, Sd.ld3 rfl rfl ⟨Rng.i64 (by omega) (by omega), ⟨by omega, by omega, by omega, by omega⟩, ?_⟩⟩⟩⟩⟩⟩
    intro a10 ha10
    dsimp only
    have i10 := (Sd.in2).sub (l := ((yn : Int) * g.s).toNat) (hh := (((yn : Int) + 1) * g.s).toNat) (m := (((yn : Int) + 1) * g.s).toNat) (by omega) (by omega) (by omega) ha10
    have hlen : (((yn : Int) + 1) * g.s).toNat - ((yn : Int) * g.s).toNat = g.s.toNat := by omega
    rw [hlen] at i10 ⊢
    rw [t0] at i10
    have i10 : Ints _ .u8 a10 g.s.toNat g.s.toNat (chk g rec yn) := i10
    refine (own19_c (g := g) (i := (yn : Int)) (gen := gen) hR).mono ?_
    rintro ⟨_, ⟨⟩⟩ w10 ⟨h10, e10⟩
    dsimp only at h10
    subst h10
    have T := T.stepE e10
    refine ⟨hkeep _ T.fr, ?_⟩
    refine (Make_c (g := g) (h := ownH g yn gen) (ownH_rng hR hgen) (i10.ext T.ext) intsNil).mono ?_
    rintro ⟨⟨pa, pn, pc⟩, (e11 : Int), ⟨⟩⟩ w11 ⟨x11, h11, -⟩
    obtain ⟨k1, k2⟩ := h11 ⟨hR, ⟨ownH_right ⟨by omega, by omega⟩, .inl rfl⟩, .inr (by omega)⟩
    dsimp only at k1 k2 ⊢
    subst k2
    have T := T.res k1
    dsimp only at T
    refine ⟨hkeep _ T.fr, cond_f rfl ?_⟩
    have S := Sd.frame0 T
    dsimp only [List.cons_append, List.nil_append] at S
    refine S.newB fun b12 w12 S f12 _ => ?_
    refine AppS.of (news := [slV ⟨pa, pn, pc, pgOf g rec gen yn⟩]) rfl (.inr ⟨_, rfl, S.cells 0 rfl⟩) ?_
    refine S.ap2 (by rfl) (fun u hu => by rw [List.mem_singleton.1 hu]; rfl) (by omega) (by omega) fun a13 c13 w13 S f13 => ?_
    have S := S.sel [1, 2, 1, 1, 1] rfl
    have S := S.addL (mkL_byt (ownH_rng hR hgen) (ownH_right ⟨by omega, by omega⟩) (chk_byt br _) Byt.nil)
    have S := S.sel [1, 0, 0, 0] rfl
    have hpg : (pagesL g rec gen)[yn]'(by omega) = pgOf g rec gen yn := by simp [pagesL]
    refine ⟨Rng.i64 (by omega) (by omega), ⟨yn + 1, L ++ [⟨pa, pn, pc, pgOf g rec gen yn⟩], by push_cast; rfl, by omega, rfl, ?_, ?_⟩, by omega⟩
    · rw [List.map_append, hL, List.take_succ_eq_append_getElem (by omega), hpg]; rfl
    · rw [List.map_append]; exact S
  · have hyN : yn = N := by omega
    subst hyN
    rw [List.take_of_length_le (by omega)] at hL
    exact ⟨S.ext, fun h => absurd ⟨hR, by omega⟩ h, fun _ => ⟨rfl, ⟨ya, yn, yc, L⟩, rfl, hL, S.sel [0, 0] rfl⟩⟩

end Go.Proofs.Ytfpkaebmiojicaa.Vc

/-! The contract of Hold of layer 19 (chunk): the record that pages hold. -/
namespace Go.Proofs.Ytfpkaebmiojicaa.Vc
open Go Go.Eng Go.RowKit
set_option linter.unusedVariables false
set_option linter.unusedSimpArgs false

/-- What a page told, in memory. -/
def PgA (s t : SlV) (P : PgS) : Asr := ⟨fun w F => TB.rd w F ⟨s.a, s.n, s.c, P.x⟩ ∧ TB.rd w F ⟨t.a, t.n, t.c, P.t⟩, fun h k => ⟨TB.rd_kp (fun i hi _ => k i hi) h.1, TB.rd_kp (fun i hi _ => k i hi) h.2⟩⟩
theorem TB_nil {w : World} {F : Nat → Prop} : TB.rd w F ⟨none, 0, 0, []⟩ := ⟨rfl, Nat.le_refl _, Nat.zero_le _, .inl ⟨rfl, rfl⟩, fun y hy => (List.not_mem_nil hy).elim⟩
theorem PReadS_c {w : World} {g : Geo} {a : Option Addr} {n c : Nat} {xs : List Int} (hx : Ints w .u8 a n c xs) (bx : Byt xs) :
    CallV Try.prog 23 #[g.val, .slice a n c] w [.agg [.int .i64, .int .i64, .int .i64, .int .u32, .int .u64, .int .u64, .sl, .sl, .bool], .one (.int .i64)] fun r w' => r.2.1 = rdE g xs ∧ ∃ s t, r.1 = pgT (pSpec g xs).h s t (pSpec g xs).d ∧ Sep NoB w w' [PgA s t (pSpec g xs)] := by
  refine (PRead_c hx bx).mono ?_
  rintro r w' ⟨e, h1, h2, h3⟩
  have z : Sep NoB w w' [PgA ⟨none, 0, 0⟩ ⟨none, 0, 0⟩ zS] := (Sep.start NoB w).push (F := NoB) (.of e) ⟨TB_nil, TB_nil⟩ fun _ x => x.elim
  unfold rdE pSpec
  by_cases hL : lenP g xs
  · by_cases hO : okR (endP g xs)
    · rw [if_pos hL, if_pos hO, if_pos ⟨hL, hO⟩]
      obtain ⟨k1, s, t, k2, _, _, T⟩ := h3 hL hO
      refine ⟨k1, s, t, k2, T.conv2 fun F1 F2 q1 q2 _ => ⟨TB.rd_mono (fun k hk _ => .inl hk) (own_rd q1 (bx.take _)), TB.rd_mono (fun k hk _ => .inr hk) (own_rd q2 ((bx.drop _).drop _ |>.take _))⟩⟩
    · rw [if_pos hL, if_neg hO, if_neg fun h => hO h.2, (h2 hL hO).1]
      exact ⟨(h2 hL hO).2, _, _, rfl, z⟩
  · rw [if_neg hL, if_neg fun h => hL h.1, (h1 hL).1]
    exact ⟨(h1 hL).2, _, _, rfl, z⟩

theorem _root_.Go.Eng.Sep.pgx {E : Nat → Prop} {w0 w : World} {Rs : List Asr} (S : Sep E w0 w Rs) (i : Nat) {s t : SlV} {P : PgS} (hi : Rs[i]? = some (PgA s t P)) : Ints w .u8 s.a s.n s.c P.x := by
  obtain ⟨F, h, _⟩ := S.get hi
  exact Ty.ints h.1

theorem getD_map {L : List (SlP Int)} {i : Nat} {y : SlP Int} (h : L[i]? = some y) : (L.map (·.l)).getD i [] = y.l := by
  rw [List.getD_eq_getElem?_getD, List.getElem?_map, h]; rfl

theorem holdS_no {g : Geo} {ps : List (List Int)} (h : ¬ holds g ps) : holdS g ps = (0, [], false) := by unfold holdS; rw [if_neg h]
theorem holdS_yes {g : Geo} {ps : List (List Int)} (h : holds g ps) : holdS g ps = (gen0 g ps, recOf g ps, true) := by unfold holdS; rw [if_pos h]

/-- What Hold tells. -/
def HoldR (w w' : World) (g : Geo) (ps : List (List Int)) (r : Int × SlV × Bool) : Prop :=
  r.1 = (holdS g ps).1 ∧ r.2.2 = (holdS g ps).2.2 ∧ Sep NoB w w' [RdL [⟨r.2.1.a, r.2.1.n, r.2.1.c, (holdS g ps).2.1⟩]]
theorem HoldR.no {w w' : World} {g : Geo} {ps : List (List Int)} (h : ¬ holds g ps) (e : Ext w w') : HoldR w w' g ps (0, ⟨none, 0, 0⟩, false) := by
  unfold HoldR
  rw [holdS_no h]
  exact ⟨rfl, rfl, (Sep.start NoB w).push (F := NoB) (.of e) (fun x hx => by rw [List.mem_singleton.1 hx]; exact TB_nil) fun _ x => x.elim⟩

def accR (g : Geo) (ps : List (List Int)) (i : Nat) : List Int := ((List.range i).map fun j => pays g (ps.getD j [])).flatten
theorem accR_succ (g : Geo) (ps : List (List Int)) (i : Nat) : accR g ps (i + 1) = accR g ps i ++ pays g (ps.getD i []) := by
  unfold accR
  rw [List.range_succ, List.map_append, List.flatten_append]
  simp
theorem accR_byt {g : Geo} {ps : List (List Int)} (bp : ∀ p ∈ ps, Byt p) : ∀ i, Byt (accR g ps i)
  | 0 => Byt.nil
  | i + 1 => by
    rw [accR_succ]
    refine (accR_byt bp i).append (Byt.take ?_ _)
    rw [List.getD_eq_getElem?_getD]
    cases h : ps[i]? with
    | none => exact Byt.nil
    | some p => exact bp p (List.mem_of_getElem? h)

theorem Hold_c {w : World} {g : Geo} {x : SlP (SlP Int)} {G : Nat → Prop} (hx : TBB.rd w G x) : CallV Try.prog 36 #[g.val, .slice x.a x.n x.c] w [.one (.int .u64), .one .sl, .one .bool] fun r w' => HoldR w w' g (x.l.map (·.l)) (r.1, r.2.1, r.2.2.1) := by
  apply chunk_Hold.vc
  unfold chunk_Hold.P
  generalize hps : x.l.map (·.l) = ps
  have hlp : ps.length = x.n := by rw [← hps, List.length_map]; exact hx.1
  have bp : ∀ p ∈ ps, Byt p := by
    intro p hp
    rw [← hps] at hp
    obtain ⟨y, hy, rfl⟩ := List.mem_map.1 hp
    exact Ty.byt (hx.2.2.2.2 y hy)
  have S := Sep.start NoB w
  refine S.newB fun b1 w1 S f1 _ => ?_
  (repeat ((first | refine S.newB fun _ _ S f _ => ?_ | refine S.la0 rfl ?_ | refine S.la1 rfl ?_ | refine S.la2 rfl ?_ | refine S.la3 rfl ?_ | refine S.la4 rfl ?_ | refine S.la5 rfl ?_ | refine S.ld0 rfl rfl ?_ | refine S.ld1 rfl rfl ?_ | refine S.ld2 rfl rfl ?_ | refine S.ld3 rfl rfl ?_ | refine S.ld4 rfl rfl ?_ | refine S.ld5 rfl rfl ?_ | refine S.st0 (by rfl) fun _ S f => ?_ | refine S.st1 (by rfl) fun _ S f => ?_ | refine S.st2 (by rfl) fun _ S f => ?_ | refine S.st3 (by rfl) fun _ S f => ?_ | refine S.st4 (by rfl) fun _ S f => ?_ | refine S.st5 (by rfl) fun _ S f => ?_ | refine S.su0 (by rfl) fun _ S f => ?_ | refine S.su1 (by rfl) fun _ S f => ?_ | refine S.su2 (by rfl) fun _ S f => ?_ | refine S.su3 (by rfl) fun _ S f => ?_ | refine S.su4 (by rfl) fun _ S f => ?_ | refine S.su5 (by rfl) fun _ S f => ?_ | refine ⟨by decide, ?_⟩); try dsimp only [List.set_cons_zero, List.set_cons_succ, cond_true, cond_false, Bool.not_true, Bool.not_false]))
  refine (Chunks_c (g := g)).mono ?_
  rintro ⟨(r3 : Int), ⟨⟩⟩ w3 ⟨h3, e3⟩
  dsimp only at h3 ⊢
  have S := S.stepE e3
  by_cases hR : Right g
  case neg =>
    rw [if_neg hR] at h3
    subst h3
    exact cond_t rfl (.no (fun h => hR h.1) S.ext)
  rw [if_pos hR] at h3
  have h3 : r3 = nCh g := h3
  subst h3
  have bN := nCh_bd hR
  have hs := hR.sec
  generalize hN : (nCh g).toNat = N at *
  have hNi : nCh g = (N : Int) := by omega
  refine cond_eq (fun h => by omega) (fun _ => ?_)
  refine cond_d (fun h => .no (fun hh => by have := hh.2.1; omega) S.ext) (fun hge => ?_)
  have S := S.nilOwn 5 1
  refine Loop1 (fun (y : SlV × Int × Int × Unit) w' => ∃ i : Nat, y.2.2.1 = (i : Int) ∧ i ≤ N ∧ (∀ j, j < i → pageOk g ps j) ∧ (0 < i → y.2.1 = gen0 g ps) ∧ (0 ≤ y.2.1 ∧ y.2.1 < 18446744073709551616) ∧ Sep NoB w w' [OwnA 5 1 y.1.a y.1.n y.1.c ((accR g ps i).map (Value.int .u8)), BoxA b1 23 g.vs] ∧ y.1.n = i * g.s.toNat)
    (fun (y : SlV × Int × Int × Unit) _ => ((N : Int) - y.2.2.1).toNat) ⟨0, rfl, by omega, fun j hj => by omega, fun h => by omega, by decide, S, by simp⟩ ?_
  rintro ⟨⟨ya, yn, yc⟩, (gen : Int), (z : Int), ⟨⟩⟩ w4 ⟨i, hz, hi, hall, hgen, hgr, S, hyn⟩
  dsimp only at hz hgen hgr S hyn ⊢
  subst hz
  refine cond_d (fun hlt => ?_) (fun hgeN => ?_)
  case refine_2 =>
    have hiN : i = N := by omega
    subst hiN
    have hh : holds g ps := ⟨hR, by omega, fun j hj => hall j (by omega)⟩
    have hn624 : 624 ≤ yn := by
      have : nCh g * g.s = ((i * g.s.toNat : Nat) : Int) := by rw [hNi, Int.natCast_mul, Int.toNat_of_nonneg (by omega)]
      omega
    have hc := (S.own 0 rfl).cap
    have i0 := S.in0
    have hl0 := i0.len
    refine S.reg fun D hD hkeep S T => ?_
    refine ⟨⟨by omega, by omega, by omega⟩, ?_⟩
    intro a5 ha5
    unfold HoldR
    rw [holdS_yes hh]
    refine ⟨hgen (by omega), rfl, S.take1.conv fun F ho _ y hy => ?_⟩
    rw [List.mem_singleton.1 hy]
    have r0 := own_rd ho (accR_byt bp _)
    have i5 := (Ty.ints r0).sub (l := 0) (hh := 624) (m := 624) (by omega) hn624 (by omega) ha5
    rw [List.drop_zero, Nat.sub_zero] at i5
    have hrec : recOf g ps = (accR g ps i).take 624 := by unfold recOf accR; rw [hN]
    have hm := maxLen_eq
    refine ⟨by rw [hrec, List.length_take]; show min 624 _ = 624 - 0; omega, Nat.le_refl _, by show 624 - 0 ≤ maxLen; omega, ?_, fun v hv => rngU8 ((accR_byt bp i).take 624 v (by rw [← hrec]; exact hv))⟩
    have hfl : (recOf g ps).flatMap (Ty.int .u8).vs = ((accR g ps i).take 624).map (Value.int .u8) := by rw [← hrec]; exact flat_ints .u8 _
    rw [hfl]
    rcases i5.rd with ⟨q1, q2⟩ | ⟨p, q1, q2⟩
    · exact .inl ⟨q1, q2⟩
    · refine .inr ⟨p, q1, q2, fun _ => ?_⟩
      rw [if_neg (by omega)] at ha5
      rw [ha5] at q1
      obtain ⟨q, hq, hq2⟩ := Option.map_eq_some_iff.1 q1
      rw [← hq2, add_block]
      exact ho.2 q hq
  obtain ⟨q, y, hq, hy, hc, hr, hGq, hbq⟩ := TBB_nth (TBB.rd_ext S.ext hx) (Int.natCast_nonneg i) (show (i : Int) < (x.n : Int) by omega)
  have hpi : ps.getD i [] = y.l := by rw [← hps]; rw [Int.toNat_natCast] at hy; exact getD_map hy
  have by_ : Byt y.l := Ty.byt hr
  generalize hP : pSpec g y.l = P
  have hPr : 0 ≤ P.h.e ∧ P.h.e < 18446744073709551616 := by
    rw [← hP]; unfold pSpec
    split
    · rename_i h
      exact (hdOf_rng (by_.drop _) (by have := h.1.2; have h2 : (endP g y.l).length = 88 := (by unfold endP; rw [List.length_drop]; omega); show 24 ≤ (endP g y.l).length; omega)).2.1
    · decide
  refine ⟨fun (v : Option Addr × Int × Unit) w' => ∃ b s t, v.1 = some ⟨b, 0, none⟩ ∧ v.2.1 = rdE g y.l ∧ Sep NoB w w' [BoxA b 42 (pgC P.h s t P.d), PgA s t P, OwnA 5 1 ya yn yc ((accR g ps i).map (Value.int .u8)), BoxA b1 23 g.vs], ?_, ?_⟩
  case refine_2 =>
    refine S.reg fun D hD hkeep Sd T => ?_
    refine ⟨hD _ S.bl1, Sd.la1 rfl ⟨⟨by omega, by omega⟩, q, hq, by rw [add_block]; exact hD _ hbq, ldp0 (cells_same (by rw [add_block]; rfl) hc) (h := .sl) (x := ⟨y.a, y.n, y.c⟩) rfl ?_⟩⟩
    have iy := (Ty.ints hr).ext (Ext.drew w4)
    refine ⟨?_, ?_⟩
    · refine (PReadS_c (g := g) iy by_).mono ?_
      rintro ⟨q5, (e5 : Int), ⟨⟩⟩ w5 ⟨h5, s, t, k5, T5⟩
      dsimp only at h5 k5
      rw [hP] at k5 T5
      subst k5
      have T := T.frame0 T5
      refine ⟨hkeep _ T.fr, T.newB fun b6 w6 T f6 _ => ⟨hkeep _ T.fr, ?_⟩⟩
      refine T.st0 (by rfl) fun w7 T f7 => ⟨hkeep _ T.fr, b6, s, t, rfl, h5, (Sd.frame0 T).sel [0, 0, 0, 0] rfl⟩
    · refine T.newB fun b6 w6 T f6 _ => ⟨hkeep _ T.fr, ?_⟩
      refine (PReadS_c (g := g) (iy.ext T.ext) by_).mono ?_
      rintro ⟨q5, (e5 : Int), ⟨⟩⟩ w5 ⟨h5, s, t, k5, T5⟩
      dsimp only at h5 k5
      rw [hP] at k5 T5
      subst k5
      have T := T.frame0 T5
      refine ⟨hkeep _ T.fr, ?_⟩
      refine T.st1 (by rfl) fun w7 T f7 => ⟨hkeep _ T.fr, b6, s, t, rfl, h5, (Sd.frame0 T).sel [1, 0, 0, 0] rfl⟩
  rintro ⟨v, (e5 : Int), ⟨⟩⟩ w5 ⟨b, s, t, hv, h5, S⟩
  dsimp only at hv h5 ⊢
  subst hv; subst h5
  have okE : rdE g y.l = 0 → lenP g y.l ∧ okR (endP g y.l) := fun h => by
    unfold rdE at h
    split at h
    · rename_i h1
      split at h
      · rename_i h2; exact ⟨h1, h2⟩
      · cases h
    · cases h
  refine ⟨fun (v : Int × Unit) w' => (lenP g y.l ∧ okR (endP g y.l) → v.1 = gen0 g ps) ∧ (0 ≤ v.1 ∧ v.1 < 18446744073709551616) ∧ Sep NoB w w' [BoxA b 42 (pgC P.h s t P.d), PgA s t P, OwnA 5 1 ya yn yc ((accR g ps i).map (Value.int .u8)), BoxA b1 23 g.vs], ?_, ?_⟩
  case refine_2 =>
    refine cond_eq (fun h0 => ?_) (fun h0 => ⟨fun _ => hgen (by omega), hgr, S⟩)
    refine PtrK.of rfl (S.ld0 (j := 4) rfl rfl ⟨fun hh => ?_, hPr, S⟩)
    have : i = 0 := by omega
    subst this
    show P.h.e = _
    unfold gen0
    rw [hpi, ← hP]
    unfold pSpec
    rw [if_pos hh]
  rintro ⟨(gn : Int), ⟨⟩⟩ w6 ⟨hgn, hgnr, S⟩
  dsimp only at hgn hgnr ⊢
  refine S.reg fun D hD hkeep Sd T => ?_
  refine cond_ne (fun he => .no (fun hh => ?_) Sd.ext) (fun he => ?_)
  · have := (hh.2.2 i (by omega)).1
    have h2 := (hh.2.2 i (by omega)).2.1
    rw [hpi] at this h2
    exact he (by unfold rdE; rw [if_pos this, if_pos h2])
  obtain ⟨hL, hO⟩ := okE he
  have hPv : P = fS g y.l := by rw [← hP]; unfold pSpec; rw [if_pos ⟨hL, hO⟩]
  have hg0 := hgn ⟨hL, hO⟩
  refine PtrK.of rfl ⟨hD _ S.bl0, Sd.lb0 (o := 0) rfl ⟨hD _ S.bl3, Sd.la3 rfl ?_⟩⟩
  refine (own19_c (g := g) (i := (i : Int)) (gen := gn) hR).mono ?_
  rintro ⟨_, ⟨⟩⟩ w7 ⟨h7, e7⟩
  dsimp only at h7
  subst h7
  refine ⟨hkeep _ (.of e7), ?_⟩
  have S := Sd.stepE e7
  refine eqHd (g := P.h) (h := ownH g i gn) ?_
  refine cond_of (fun hc => .no (fun hh => ?_) S.ext) (fun hc => ?_)
  · have := (hh.2.2 i (by omega)).2.2.1
    rw [hpi] at this
    have hne : P.h ≠ ownH g i gn := by simpa using hc
    exact hne (by rw [hPv, hg0]; exact this)
  have hhd : P.h = ownH g i gn := by simpa using hc
  refine ⟨Rng.i64 (by omega) (by omega), ?_⟩
  have okP : ((i : Int) = nCh g - 1 → P.d = true) → pageOk g ps i := fun hd => by
    unfold pageOk
    rw [hpi]
    rw [hPv] at hhd hd
    rw [hg0] at hhd
    exact ⟨hL, hO, hhd, hd⟩
  have fin : ((i : Int) = nCh g - 1 → P.d = true) → LoadS w7 ⟨b, 6, none⟩ .sl fun (x34 : SlV) => AppS w7 x34.a x34.n 1 fun ns39 => AppV w7 5 1 1 ya yn yc ns39 x34.n fun a35 n36 c37 w38 =>
      Rng .i64 ((i : Int) + 1) ∧ (∃ j : Nat, (i : Int) + 1 = (j : Int) ∧ j ≤ N ∧ (∀ k, k < j → pageOk g ps k) ∧ (0 < j → gn = gen0 g ps) ∧ (0 ≤ gn ∧ gn < 18446744073709551616) ∧ Sep NoB w w38 [OwnA 5 1 a35 n36 c37 ((accR g ps j).map (Value.int .u8)), BoxA b1 23 g.vs] ∧ n36 = j * g.s.toNat) ∧ ((N : Int) - ((i : Int) + 1)).toNat < ((N : Int) - (i : Int)).toNat := fun hd => by
    refine S.ld0 rfl rfl ?_
    have ip := S.pgx 1 rfl
    have lp := ip.len
    rw [hPv] at lp
    have lp : (pays g y.l).length = s.n := lp
    rw [List.length_take] at lp
    have hl2 := hL.2
    have hmul : i * g.s.toNat + g.s.toNat ≤ N * g.s.toNat := by rw [← Nat.succ_mul]; exact Nat.mul_le_mul_right _ (by omega)
    have h5 : N * g.s.toNat ≤ 5000 := by
      have h1 : nCh g * g.s = ((N * g.s.toNat : Nat) : Int) := by rw [hNi, Int.natCast_mul, Int.toNat_of_nonneg (by omega)]
      have := bN.2.2.2
      omega
    dsimp only
    refine S.ab2 ip (by omega) fun a8 c8 w8 S f8 => ?_
    refine ⟨Rng.i64 (by omega) (by omega), ⟨i + 1, by push_cast; rfl, by omega, fun k hk => ?_, fun _ => hg0, hgnr, ?_, ?_⟩, by omega⟩
    · by_cases hki : k = i
      · subst hki; exact okP hd
      · exact hall k (by omega)
    · rw [accR_succ, hpi]
      rw [hPv] at S
      exact S.sel [2, 2] rfl
    · rw [Nat.add_mul, Nat.one_mul]; omega
  refine cond_eq (fun hl => ?_) (fun hl => fin (fun h => absurd h hl))
  refine PtrK.of rfl ⟨hD _ Sd.bl0, Sd.ld0 (j := 8) rfl rfl ?_⟩
  refine cond_of (fun hc => .no (fun hh => ?_) S.ext) (fun hc => fin fun _ => by simpa using hc)
  have := (hh.2.2 i (by omega)).2.2.2 hl
  rw [hpi] at this
  rw [hPv] at hc
  have hc : (!comm (endP g y.l)) = true := hc
  rw [this] at hc
  cases hc

end Go.Proofs.Ytfpkaebmiojicaa.Vc
