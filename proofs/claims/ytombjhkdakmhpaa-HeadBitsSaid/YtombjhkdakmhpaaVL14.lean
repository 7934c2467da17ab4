/- The plans of functions as plain statements, printed by wip/tools/vcgen.py; the kernel holds each to the code. -/
import Derived.Test.YtombjhkdakmhpaaEnv
namespace Go.Proofs.Ytombjhkdakmhpaa.Vc
open Go Go.Eng
set_option linter.unusedVariables false

/-! ### nepenthe/nepenthelaw14.HeadBytes: function 3 -/
def law14_HeadBytes.A : Ann := .no
def law14_HeadBytes.P (p0_0 : Int) (p0_1 : Int) (p0_2 : Int) (p0_3 : Int) (p0_4 : Int) (p0_5 : Int) (w : World) (K : Bool × Unit → World → Prop) : Prop :=
  NewV #[.int .i64 p0_0, .int .i64 p0_1, .int .i64 p0_2, .int .u32 p0_3, .int .u64 p0_4, .int .u64 p0_5] 25 w fun b1 w2 =>
  LoadA w2 ⟨b1, 0, none⟩ [.int .i64, .int .i64, .int .i64, .int .u32, .int .u64, .int .u64] fun (x3 : Int × Int × Int × Int × Int × Int × Unit) =>
  CallV Try.prog 14 #[.agg #[.int .i64 x3.1, .int .i64 x3.2.1, .int .i64 x3.2.2.1, .int .u32 x3.2.2.2.1, .int .u64 x3.2.2.2.2.1, .int .u64 x3.2.2.2.2.2.1]] w2 [.one .sl, .one (.int .i64)] fun (r4 : SlV × Int × Unit) w5 =>
  LoadA w5 ⟨b1, 0, none⟩ [.int .i64, .int .i64, .int .i64, .int .u32, .int .u64, .int .u64] fun (x6 : Int × Int × Int × Int × Int × Int × Unit) =>
  CallV Try.prog 15 #[.agg #[.int .i64 x6.1, .int .i64 x6.2.1, .int .i64 x6.2.2.1, .int .u32 x6.2.2.2.1, .int .u64 x6.2.2.2.2.1, .int .u64 x6.2.2.2.2.2.1]] w5 [.one .bool] fun (r7 : Bool × Unit) w8 =>
  cond (!r7.1)
  (cond (r4.2.1 == 2)
  (cond (((r4.1.n : Nat) : Int) == 0)
  (CallV Try.prog 16 #[] w8 [.one .bool] fun (r9 : Bool × Unit) w10 =>
  K (r9.1, ()) w10)
  (K (false, ()) w8))
  (K (false, ()) w8))
  (cond (r4.2.1 == 0)
  (LoadA w8 ⟨b1, 0, none⟩ [.int .i64, .int .i64, .int .i64, .int .u32, .int .u64, .int .u64] fun (x11 : Int × Int × Int × Int × Int × Int × Unit) =>
  CallV Try.prog 18 #[.agg #[.int .i64 x11.1, .int .i64 x11.2.1, .int .i64 x11.2.2.1, .int .u32 x11.2.2.2.1, .int .u64 x11.2.2.2.2.1, .int .u64 x11.2.2.2.2.2.1]] w8 [.one .sl] fun (r12 : SlV × Unit) w13 =>
  CallV Try.prog 17 #[.slice r4.1.a r4.1.n r4.1.c, .slice r12.1.a r12.1.n r12.1.c] w13 [.one .bool] fun (r14 : Bool × Unit) w15 =>
  cond r14.1
  (CallV Try.prog 16 #[] w15 [.one .bool] fun (r16 : Bool × Unit) w17 =>
  K (r16.1, ()) w17)
  (K (false, ()) w15))
  (K (false, ()) w8))
theorem law14_HeadBytes.vc (p0_0 : Int) (p0_1 : Int) (p0_2 : Int) (p0_3 : Int) (p0_4 : Int) (p0_5 : Int) (w : World) (K : Bool × Unit → World → Prop) (h : law14_HeadBytes.P p0_0 p0_1 p0_2 p0_3 p0_4 p0_5 w K) : CallV Try.prog 3 #[.agg #[.int .i64 p0_0, .int .i64 p0_1, .int .i64 p0_2, .int .u32 p0_3, .int .u64 p0_4, .int .u64 p0_5]] w [.one .bool] K := by
  have e : vcFun Try.prog okf false Try.f3 law14_HeadBytes.A #[.agg #[.int .i64 p0_0, .int .i64 p0_1, .int .i64 p0_2, .int .u32 p0_3, .int .u64 p0_4, .int .u64 p0_5]] w [.one .bool] K = law14_HeadBytes.P p0_0 p0_1 p0_2 p0_3 p0_4 p0_5 w K := by kernel_rfl
  exact vcFun.calls okf_ok follows Try.func3 (e.symm ▸ h)

/-! ### nepenthe/nepenthelaw14.HeadLess: function 5 -/
def law14_HeadLess.A : Ann := .no
def law14_HeadLess.P (p0_0 : Int) (p0_1 : Int) (p0_2 : Int) (p0_3 : Int) (p0_4 : Int) (p0_5 : Int) (p1_0 : Int) (p1_1 : Int) (p1_2 : Int) (p1_3 : Int) (p1_4 : Int) (p1_5 : Int) (w : World) (K : Bool × Unit → World → Prop) : Prop :=
  NewV #[.int .i64 p0_0, .int .i64 p0_1, .int .i64 p0_2, .int .u32 p0_3, .int .u64 p0_4, .int .u64 p0_5] 25 w fun b1 w2 =>
  NewV #[.int .i64 p1_0, .int .i64 p1_1, .int .i64 p1_2, .int .u32 p1_3, .int .u64 p1_4, .int .u64 p1_5] 25 w2 fun b3 w4 =>
  LoadS w4 ⟨b1, 4, none⟩ (.int .u64) fun (x5 : Int) =>
  LoadS w4 ⟨b3, 4, none⟩ (.int .u64) fun (x6 : Int) =>
  cond (decide (x5 < x6))
  (LoadS w4 ⟨b1, 4, none⟩ (.int .u64) fun (x7 : Int) =>
  LoadS w4 ⟨b3, 4, none⟩ (.int .u64) fun (x8 : Int) =>
  cond (x7 == x8)
  (LoadS w4 ⟨b1, 5, none⟩ (.int .u64) fun (x9 : Int) =>
  LoadS w4 ⟨b3, 5, none⟩ (.int .u64) fun (x10 : Int) =>
  LoadA w4 ⟨b1, 0, none⟩ [.int .i64, .int .i64, .int .i64, .int .u32, .int .u64, .int .u64] fun (x11 : Int × Int × Int × Int × Int × Int × Unit) =>
  LoadA w4 ⟨b3, 0, none⟩ [.int .i64, .int .i64, .int .i64, .int .u32, .int .u64, .int .u64] fun (x12 : Int × Int × Int × Int × Int × Int × Unit) =>
  CallV Try.prog 22 #[.agg #[.int .i64 x11.1, .int .i64 x11.2.1, .int .i64 x11.2.2.1, .int .u32 x11.2.2.2.1, .int .u64 x11.2.2.2.2.1, .int .u64 x11.2.2.2.2.2.1], .agg #[.int .i64 x12.1, .int .i64 x12.2.1, .int .i64 x12.2.2.1, .int .u32 x12.2.2.2.1, .int .u64 x12.2.2.2.2.1, .int .u64 x12.2.2.2.2.2.1]] w4 [.one .bool] fun (r13 : Bool × Unit) w14 =>
  cond (r13.1 == true)
  (LoadA w14 ⟨b3, 0, none⟩ [.int .i64, .int .i64, .int .i64, .int .u32, .int .u64, .int .u64] fun (x15 : Int × Int × Int × Int × Int × Int × Unit) =>
  LoadA w14 ⟨b1, 0, none⟩ [.int .i64, .int .i64, .int .i64, .int .u32, .int .u64, .int .u64] fun (x16 : Int × Int × Int × Int × Int × Int × Unit) =>
  CallV Try.prog 22 #[.agg #[.int .i64 x15.1, .int .i64 x15.2.1, .int .i64 x15.2.2.1, .int .u32 x15.2.2.2.1, .int .u64 x15.2.2.2.2.1, .int .u64 x15.2.2.2.2.2.1], .agg #[.int .i64 x16.1, .int .i64 x16.2.1, .int .i64 x16.2.2.1, .int .u32 x16.2.2.2.1, .int .u64 x16.2.2.2.2.1, .int .u64 x16.2.2.2.2.2.1]] w14 [.one .bool] fun (r17 : Bool × Unit) w18 =>
  cond (r17.1 == false)
  (CallV Try.prog 16 #[] w18 [.one .bool] fun (r19 : Bool × Unit) w20 =>
  K (r19.1, ()) w20)
  (K (false, ()) w18))
  (K (false, ()) w14))
  (LoadA w4 ⟨b1, 0, none⟩ [.int .i64, .int .i64, .int .i64, .int .u32, .int .u64, .int .u64] fun (x21 : Int × Int × Int × Int × Int × Int × Unit) =>
  LoadA w4 ⟨b3, 0, none⟩ [.int .i64, .int .i64, .int .i64, .int .u32, .int .u64, .int .u64] fun (x22 : Int × Int × Int × Int × Int × Int × Unit) =>
  CallV Try.prog 22 #[.agg #[.int .i64 x21.1, .int .i64 x21.2.1, .int .i64 x21.2.2.1, .int .u32 x21.2.2.2.1, .int .u64 x21.2.2.2.2.1, .int .u64 x21.2.2.2.2.2.1], .agg #[.int .i64 x22.1, .int .i64 x22.2.1, .int .i64 x22.2.2.1, .int .u32 x22.2.2.2.1, .int .u64 x22.2.2.2.2.1, .int .u64 x22.2.2.2.2.2.1]] w4 [.one .bool] fun (r23 : Bool × Unit) w24 =>
  cond (r23.1 == true)
  (LoadA w24 ⟨b3, 0, none⟩ [.int .i64, .int .i64, .int .i64, .int .u32, .int .u64, .int .u64] fun (x25 : Int × Int × Int × Int × Int × Int × Unit) =>
  LoadA w24 ⟨b1, 0, none⟩ [.int .i64, .int .i64, .int .i64, .int .u32, .int .u64, .int .u64] fun (x26 : Int × Int × Int × Int × Int × Int × Unit) =>
  CallV Try.prog 22 #[.agg #[.int .i64 x25.1, .int .i64 x25.2.1, .int .i64 x25.2.2.1, .int .u32 x25.2.2.2.1, .int .u64 x25.2.2.2.2.1, .int .u64 x25.2.2.2.2.2.1], .agg #[.int .i64 x26.1, .int .i64 x26.2.1, .int .i64 x26.2.2.1, .int .u32 x26.2.2.2.1, .int .u64 x26.2.2.2.2.1, .int .u64 x26.2.2.2.2.2.1]] w24 [.one .bool] fun (r27 : Bool × Unit) w28 =>
  cond (r27.1 == false)
  (CallV Try.prog 16 #[] w28 [.one .bool] fun (r29 : Bool × Unit) w30 =>
  K (r29.1, ()) w30)
  (K (false, ()) w28))
  (K (false, ()) w24)))
  (LoadS w4 ⟨b1, 4, none⟩ (.int .u64) fun (x31 : Int) =>
  LoadS w4 ⟨b3, 4, none⟩ (.int .u64) fun (x32 : Int) =>
  cond (x31 == x32)
  (LoadS w4 ⟨b1, 5, none⟩ (.int .u64) fun (x33 : Int) =>
  LoadS w4 ⟨b3, 5, none⟩ (.int .u64) fun (x34 : Int) =>
  LoadS w4 ⟨b1, 4, none⟩ (.int .u64) fun (x35 : Int) =>
  LoadS w4 ⟨b3, 4, none⟩ (.int .u64) fun (x36 : Int) =>
  cond (x35 == x36)
  (LoadS w4 ⟨b1, 5, none⟩ (.int .u64) fun (x37 : Int) =>
  LoadS w4 ⟨b3, 5, none⟩ (.int .u64) fun (x38 : Int) =>
  LoadA w4 ⟨b1, 0, none⟩ [.int .i64, .int .i64, .int .i64, .int .u32, .int .u64, .int .u64] fun (x39 : Int × Int × Int × Int × Int × Int × Unit) =>
  LoadA w4 ⟨b3, 0, none⟩ [.int .i64, .int .i64, .int .i64, .int .u32, .int .u64, .int .u64] fun (x40 : Int × Int × Int × Int × Int × Int × Unit) =>
  CallV Try.prog 22 #[.agg #[.int .i64 x39.1, .int .i64 x39.2.1, .int .i64 x39.2.2.1, .int .u32 x39.2.2.2.1, .int .u64 x39.2.2.2.2.1, .int .u64 x39.2.2.2.2.2.1], .agg #[.int .i64 x40.1, .int .i64 x40.2.1, .int .i64 x40.2.2.1, .int .u32 x40.2.2.2.1, .int .u64 x40.2.2.2.2.1, .int .u64 x40.2.2.2.2.2.1]] w4 [.one .bool] fun (r41 : Bool × Unit) w42 =>
  cond (r41.1 == decide (x33 < x34))
  (LoadA w42 ⟨b3, 0, none⟩ [.int .i64, .int .i64, .int .i64, .int .u32, .int .u64, .int .u64] fun (x43 : Int × Int × Int × Int × Int × Int × Unit) =>
  LoadA w42 ⟨b1, 0, none⟩ [.int .i64, .int .i64, .int .i64, .int .u32, .int .u64, .int .u64] fun (x44 : Int × Int × Int × Int × Int × Int × Unit) =>
  CallV Try.prog 22 #[.agg #[.int .i64 x43.1, .int .i64 x43.2.1, .int .i64 x43.2.2.1, .int .u32 x43.2.2.2.1, .int .u64 x43.2.2.2.2.1, .int .u64 x43.2.2.2.2.2.1], .agg #[.int .i64 x44.1, .int .i64 x44.2.1, .int .i64 x44.2.2.1, .int .u32 x44.2.2.2.1, .int .u64 x44.2.2.2.2.1, .int .u64 x44.2.2.2.2.2.1]] w42 [.one .bool] fun (r45 : Bool × Unit) w46 =>
  cond (!(decide (x33 < x34)))
  (cond (r45.1 == !(x37 == x38))
  (CallV Try.prog 16 #[] w46 [.one .bool] fun (r47 : Bool × Unit) w48 =>
  K (r47.1, ()) w48)
  (K (false, ()) w46))
  (cond (r45.1 == false)
  (CallV Try.prog 16 #[] w46 [.one .bool] fun (r49 : Bool × Unit) w50 =>
  K (r49.1, ()) w50)
  (K (false, ()) w46)))
  (K (false, ()) w42))
  (LoadA w4 ⟨b1, 0, none⟩ [.int .i64, .int .i64, .int .i64, .int .u32, .int .u64, .int .u64] fun (x51 : Int × Int × Int × Int × Int × Int × Unit) =>
  LoadA w4 ⟨b3, 0, none⟩ [.int .i64, .int .i64, .int .i64, .int .u32, .int .u64, .int .u64] fun (x52 : Int × Int × Int × Int × Int × Int × Unit) =>
  CallV Try.prog 22 #[.agg #[.int .i64 x51.1, .int .i64 x51.2.1, .int .i64 x51.2.2.1, .int .u32 x51.2.2.2.1, .int .u64 x51.2.2.2.2.1, .int .u64 x51.2.2.2.2.2.1], .agg #[.int .i64 x52.1, .int .i64 x52.2.1, .int .i64 x52.2.2.1, .int .u32 x52.2.2.2.1, .int .u64 x52.2.2.2.2.1, .int .u64 x52.2.2.2.2.2.1]] w4 [.one .bool] fun (r53 : Bool × Unit) w54 =>
  cond (r53.1 == decide (x33 < x34))
  (LoadA w54 ⟨b3, 0, none⟩ [.int .i64, .int .i64, .int .i64, .int .u32, .int .u64, .int .u64] fun (x55 : Int × Int × Int × Int × Int × Int × Unit) =>
  LoadA w54 ⟨b1, 0, none⟩ [.int .i64, .int .i64, .int .i64, .int .u32, .int .u64, .int .u64] fun (x56 : Int × Int × Int × Int × Int × Int × Unit) =>
  CallV Try.prog 22 #[.agg #[.int .i64 x55.1, .int .i64 x55.2.1, .int .i64 x55.2.2.1, .int .u32 x55.2.2.2.1, .int .u64 x55.2.2.2.2.1, .int .u64 x55.2.2.2.2.2.1], .agg #[.int .i64 x56.1, .int .i64 x56.2.1, .int .i64 x56.2.2.1, .int .u32 x56.2.2.2.1, .int .u64 x56.2.2.2.2.1, .int .u64 x56.2.2.2.2.2.1]] w54 [.one .bool] fun (r57 : Bool × Unit) w58 =>
  cond (!(decide (x33 < x34)))
  (cond (r57.1 == true)
  (CallV Try.prog 16 #[] w58 [.one .bool] fun (r59 : Bool × Unit) w60 =>
  K (r59.1, ()) w60)
  (K (false, ()) w58))
  (cond (r57.1 == false)
  (CallV Try.prog 16 #[] w58 [.one .bool] fun (r61 : Bool × Unit) w62 =>
  K (r61.1, ()) w62)
  (K (false, ()) w58)))
  (K (false, ()) w54)))
  (LoadS w4 ⟨b1, 4, none⟩ (.int .u64) fun (x63 : Int) =>
  LoadS w4 ⟨b3, 4, none⟩ (.int .u64) fun (x64 : Int) =>
  cond (x63 == x64)
  (LoadS w4 ⟨b1, 5, none⟩ (.int .u64) fun (x65 : Int) =>
  LoadS w4 ⟨b3, 5, none⟩ (.int .u64) fun (x66 : Int) =>
  LoadA w4 ⟨b1, 0, none⟩ [.int .i64, .int .i64, .int .i64, .int .u32, .int .u64, .int .u64] fun (x67 : Int × Int × Int × Int × Int × Int × Unit) =>
  LoadA w4 ⟨b3, 0, none⟩ [.int .i64, .int .i64, .int .i64, .int .u32, .int .u64, .int .u64] fun (x68 : Int × Int × Int × Int × Int × Int × Unit) =>
  CallV Try.prog 22 #[.agg #[.int .i64 x67.1, .int .i64 x67.2.1, .int .i64 x67.2.2.1, .int .u32 x67.2.2.2.1, .int .u64 x67.2.2.2.2.1, .int .u64 x67.2.2.2.2.2.1], .agg #[.int .i64 x68.1, .int .i64 x68.2.1, .int .i64 x68.2.2.1, .int .u32 x68.2.2.2.1, .int .u64 x68.2.2.2.2.1, .int .u64 x68.2.2.2.2.2.1]] w4 [.one .bool] fun (r69 : Bool × Unit) w70 =>
  cond (r69.1 == false)
  (LoadA w70 ⟨b3, 0, none⟩ [.int .i64, .int .i64, .int .i64, .int .u32, .int .u64, .int .u64] fun (x71 : Int × Int × Int × Int × Int × Int × Unit) =>
  LoadA w70 ⟨b1, 0, none⟩ [.int .i64, .int .i64, .int .i64, .int .u32, .int .u64, .int .u64] fun (x72 : Int × Int × Int × Int × Int × Int × Unit) =>
  CallV Try.prog 22 #[.agg #[.int .i64 x71.1, .int .i64 x71.2.1, .int .i64 x71.2.2.1, .int .u32 x71.2.2.2.1, .int .u64 x71.2.2.2.2.1, .int .u64 x71.2.2.2.2.2.1], .agg #[.int .i64 x72.1, .int .i64 x72.2.1, .int .i64 x72.2.2.1, .int .u32 x72.2.2.2.1, .int .u64 x72.2.2.2.2.1, .int .u64 x72.2.2.2.2.2.1]] w70 [.one .bool] fun (r73 : Bool × Unit) w74 =>
  cond (r73.1 == !(x65 == x66))
  (CallV Try.prog 16 #[] w74 [.one .bool] fun (r75 : Bool × Unit) w76 =>
  K (r75.1, ()) w76)
  (K (false, ()) w74))
  (K (false, ()) w70))
  (LoadA w4 ⟨b1, 0, none⟩ [.int .i64, .int .i64, .int .i64, .int .u32, .int .u64, .int .u64] fun (x77 : Int × Int × Int × Int × Int × Int × Unit) =>
  LoadA w4 ⟨b3, 0, none⟩ [.int .i64, .int .i64, .int .i64, .int .u32, .int .u64, .int .u64] fun (x78 : Int × Int × Int × Int × Int × Int × Unit) =>
  CallV Try.prog 22 #[.agg #[.int .i64 x77.1, .int .i64 x77.2.1, .int .i64 x77.2.2.1, .int .u32 x77.2.2.2.1, .int .u64 x77.2.2.2.2.1, .int .u64 x77.2.2.2.2.2.1], .agg #[.int .i64 x78.1, .int .i64 x78.2.1, .int .i64 x78.2.2.1, .int .u32 x78.2.2.2.1, .int .u64 x78.2.2.2.2.1, .int .u64 x78.2.2.2.2.2.1]] w4 [.one .bool] fun (r79 : Bool × Unit) w80 =>
  cond (r79.1 == false)
  (LoadA w80 ⟨b3, 0, none⟩ [.int .i64, .int .i64, .int .i64, .int .u32, .int .u64, .int .u64] fun (x81 : Int × Int × Int × Int × Int × Int × Unit) =>
  LoadA w80 ⟨b1, 0, none⟩ [.int .i64, .int .i64, .int .i64, .int .u32, .int .u64, .int .u64] fun (x82 : Int × Int × Int × Int × Int × Int × Unit) =>
  CallV Try.prog 22 #[.agg #[.int .i64 x81.1, .int .i64 x81.2.1, .int .i64 x81.2.2.1, .int .u32 x81.2.2.2.1, .int .u64 x81.2.2.2.2.1, .int .u64 x81.2.2.2.2.2.1], .agg #[.int .i64 x82.1, .int .i64 x82.2.1, .int .i64 x82.2.2.1, .int .u32 x82.2.2.2.1, .int .u64 x82.2.2.2.2.1, .int .u64 x82.2.2.2.2.2.1]] w80 [.one .bool] fun (r83 : Bool × Unit) w84 =>
  cond (r83.1 == true)
  (CallV Try.prog 16 #[] w84 [.one .bool] fun (r85 : Bool × Unit) w86 =>
  K (r85.1, ()) w86)
  (K (false, ()) w84))
  (K (false, ()) w80))))
theorem law14_HeadLess.vc (p0_0 : Int) (p0_1 : Int) (p0_2 : Int) (p0_3 : Int) (p0_4 : Int) (p0_5 : Int) (p1_0 : Int) (p1_1 : Int) (p1_2 : Int) (p1_3 : Int) (p1_4 : Int) (p1_5 : Int) (w : World) (K : Bool × Unit → World → Prop) (h : law14_HeadLess.P p0_0 p0_1 p0_2 p0_3 p0_4 p0_5 p1_0 p1_1 p1_2 p1_3 p1_4 p1_5 w K) : CallV Try.prog 5 #[.agg #[.int .i64 p0_0, .int .i64 p0_1, .int .i64 p0_2, .int .u32 p0_3, .int .u64 p0_4, .int .u64 p0_5], .agg #[.int .i64 p1_0, .int .i64 p1_1, .int .i64 p1_2, .int .u32 p1_3, .int .u64 p1_4, .int .u64 p1_5]] w [.one .bool] K := by
  have e : vcFun Try.prog okf false Try.f5 law14_HeadLess.A #[.agg #[.int .i64 p0_0, .int .i64 p0_1, .int .i64 p0_2, .int .u32 p0_3, .int .u64 p0_4, .int .u64 p0_5], .agg #[.int .i64 p1_0, .int .i64 p1_1, .int .i64 p1_2, .int .u32 p1_3, .int .u64 p1_4, .int .u64 p1_5]] w [.one .bool] K = law14_HeadLess.P p0_0 p0_1 p0_2 p0_3 p0_4 p0_5 p1_0 p1_1 p1_2 p1_3 p1_4 p1_5 w K := by kernel_rfl
  exact vcFun.calls okf_ok follows Try.func5 (e.symm ▸ h)

end Go.Proofs.Ytombjhkdakmhpaa.Vc
