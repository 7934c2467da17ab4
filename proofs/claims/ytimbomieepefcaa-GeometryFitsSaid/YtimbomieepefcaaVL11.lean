/- The plans of functions as plain statements, printed by wip/tools/vcgen.py; the kernel holds each to the code. -/
import Derived.Test.YtimbomieepefcaaEnv
namespace Go.Proofs.Ytimbomieepefcaa.Vc
open Go Go.Eng
set_option linter.unusedVariables false

/-! ### nepenthe/nepenthelaw11.GeometryChecks: function 4 -/
def law11_GeometryChecks.A : Ann := .two .no (.two (.two .no (.two (.two (.draw (.take 0 (.eff 1 (.take 2 (.take 3 (.take 4 (.take 6 (.take 9 (.take 12 (.take 15 (.eff 5 (.eff 7 (.take 8 (.eff 10 (.take 11 (.eff 13 (.take 14 (.eff 16 (.take 17 (.take 18 (.take 19 (.take 20 (.eff 21 (.take 22 (.take 23 (.done)))))))))))))))))))))))))) .no) .no)) (.two (.draw (.take 0 (.eff 1 (.take 2 (.take 3 (.take 4 (.take 6 (.take 7 (.take 8 (.eff 5 (.take 9 (.take 10 (.take 11 (.take 12 (.take 14 (.take 15 (.take 16 (.eff 13 (.take 17 (.take 18 (.take 19 (.take 20 (.take 22 (.take 23 (.take 24 (.eff 21 (.take 25 (.take 26 (.take 27 (.take 28 (.take 30 (.eff 29 (.eff 31 (.take 32 (.take 33 (.take 34 (.take 35 (.take 37 (.take 38 (.take 39 (.take 40 (.take 41 (.take 42 (.take 43 (.take 44 (.take 45 (.take 46 (.take 47 (.take 48 (.eff 36 (.take 49 (.take 50 (.take 51 (.eff 52 (.take 53 (.take 54 (.done))))))))))))))))))))))))))))))))))))))))))))))))))))))))) .no))
def law11_GeometryChecks.P (p0_0 : Int) (p0_1 : Int) (p0_2 : Int) (p0_3 : Int) (p0_4 : Int) (p0_5 : Int) (w : World) (K : Bool × Unit → World → Prop) : Prop :=
  NewV #[.int .i64 p0_0, .int .i64 p0_1, .int .i64 p0_2, .int .i64 p0_3, .int .i64 p0_4, .int .i64 p0_5] 28 w fun b1 w2 =>
  LoadA w2 ⟨b1, 0, none⟩ [.int .i64, .int .i64, .int .i64, .int .i64, .int .i64, .int .i64] fun (x3 : Int × Int × Int × Int × Int × Int × Unit) =>
  CallV Try.prog 16 #[.agg #[.int .i64 x3.1, .int .i64 x3.2.1, .int .i64 x3.2.2.1, .int .i64 x3.2.2.2.1, .int .i64 x3.2.2.2.2.1, .int .i64 x3.2.2.2.2.2.1]] w2 [.one .bool] fun (r4 : Bool × Unit) w5 =>
  cond (!r4.1)
  (DrawV fun D6 =>
  (D6 b1 ∧ LoadA w5.drew ⟨b1, 0, none⟩ [.int .i64, .int .i64, .int .i64, .int .i64, .int .i64, .int .i64] fun (x7 : Int × Int × Int × Int × Int × Int × Unit) =>
  CallV Try.prog 17 #[.agg #[.int .i64 x7.1, .int .i64 x7.2.1, .int .i64 x7.2.2.1, .int .i64 x7.2.2.2.1, .int .i64 x7.2.2.2.2.1, .int .i64 x7.2.2.2.2.2.1]] w5.drew [.one (.int .i64)] fun (r8 : Int × Unit) w9 =>
  KeepOn D6 w5.drew w9 ∧
  cond (r8.1 == 2)
  ((D6 b1 ∧ LoadA w5.drew ⟨b1, 0, none⟩ [.int .i64, .int .i64, .int .i64, .int .i64, .int .i64, .int .i64] fun (x10 : Int × Int × Int × Int × Int × Int × Unit) =>
  (D6 b1 ∧ LoadA w5.drew ⟨b1, 0, none⟩ [.int .i64, .int .i64, .int .i64, .int .i64, .int .i64, .int .i64] fun (x11 : Int × Int × Int × Int × Int × Int × Unit) =>
  (D6 b1 ∧ LoadA w5.drew ⟨b1, 0, none⟩ [.int .i64, .int .i64, .int .i64, .int .i64, .int .i64, .int .i64] fun (x12 : Int × Int × Int × Int × Int × Int × Unit) =>
  (D6 b1 ∧ LoadA w5.drew ⟨b1, 0, none⟩ [.int .i64, .int .i64, .int .i64, .int .i64, .int .i64, .int .i64] fun (x13 : Int × Int × Int × Int × Int × Int × Unit) =>
  (D6 b1 ∧ LoadA w5.drew ⟨b1, 0, none⟩ [.int .i64, .int .i64, .int .i64, .int .i64, .int .i64, .int .i64] fun (x14 : Int × Int × Int × Int × Int × Int × Unit) =>
  CallV Try.prog 18 #[.agg #[.int .i64 x10.1, .int .i64 x10.2.1, .int .i64 x10.2.2.1, .int .i64 x10.2.2.2.1, .int .i64 x10.2.2.2.2.1, .int .i64 x10.2.2.2.2.2.1]] w9 [.one (.int .i64)] fun (r15 : Int × Unit) w16 =>
  KeepOn D6 w5.drew w16 ∧
  CallV Try.prog 19 #[.agg #[.int .i64 x11.1, .int .i64 x11.2.1, .int .i64 x11.2.2.1, .int .i64 x11.2.2.2.1, .int .i64 x11.2.2.2.2.1, .int .i64 x11.2.2.2.2.2.1]] w16 [.one (.int .i64)] fun (r17 : Int × Unit) w18 =>
  KeepOn D6 w5.drew w18 ∧
  Rng .i64 (r15.1 + r17.1) ∧
  CallV Try.prog 20 #[.agg #[.int .i64 x12.1, .int .i64 x12.2.1, .int .i64 x12.2.2.1, .int .i64 x12.2.2.2.1, .int .i64 x12.2.2.2.2.1, .int .i64 x12.2.2.2.2.2.1]] w18 [.one (.int .i64)] fun (r19 : Int × Unit) w20 =>
  KeepOn D6 w5.drew w20 ∧
  Rng .i64 ((r15.1 + r17.1) + r19.1) ∧
  CallV Try.prog 21 #[.agg #[.int .i64 x13.1, .int .i64 x13.2.1, .int .i64 x13.2.2.1, .int .i64 x13.2.2.2.1, .int .i64 x13.2.2.2.2.1, .int .i64 x13.2.2.2.2.2.1]] w20 [.one (.int .i64)] fun (r21 : Int × Unit) w22 =>
  KeepOn D6 w5.drew w22 ∧
  Rng .i64 (((r15.1 + r17.1) + r19.1) + r21.1) ∧
  CallV Try.prog 22 #[.agg #[.int .i64 x14.1, .int .i64 x14.2.1, .int .i64 x14.2.2.1, .int .i64 x14.2.2.2.1, .int .i64 x14.2.2.2.2.1, .int .i64 x14.2.2.2.2.2.1]] w22 [.one (.int .i64)] fun (r23 : Int × Unit) w24 =>
  KeepOn D6 w5.drew w24 ∧
  Rng .i64 ((((r15.1 + r17.1) + r19.1) + r21.1) + r23.1) ∧
  cond (((((r15.1 + r17.1) + r19.1) + r21.1) + r23.1) == 0)
  (CallV Try.prog 23 #[] w24 [.one .bool] fun (r25 : Bool × Unit) w26 =>
  KeepOn D6 w5.drew w26 ∧
  K (r25.1, ()) w26)
  (K (false, ()) w24)))))))
  (K (false, ()) w9)))
  (DrawV fun D27 =>
  (D27 b1 ∧ LoadA w5.drew ⟨b1, 0, none⟩ [.int .i64, .int .i64, .int .i64, .int .i64, .int .i64, .int .i64] fun (x28 : Int × Int × Int × Int × Int × Int × Unit) =>
  CallV Try.prog 17 #[.agg #[.int .i64 x28.1, .int .i64 x28.2.1, .int .i64 x28.2.2.1, .int .i64 x28.2.2.2.1, .int .i64 x28.2.2.2.2.1, .int .i64 x28.2.2.2.2.2.1]] w5.drew [.one (.int .i64)] fun (r29 : Int × Unit) w30 =>
  KeepOn D27 w5.drew w30 ∧
  cond (r29.1 == 0)
  ((D27 b1 ∧ LoadA w5.drew ⟨b1, 0, none⟩ [.int .i64, .int .i64, .int .i64, .int .i64, .int .i64, .int .i64] fun (x31 : Int × Int × Int × Int × Int × Int × Unit) =>
  (D27 b1 ∧ LoadS w5.drew ⟨b1, 0, none⟩ (.int .i64) fun (x32 : Int) =>
  Rng .i64 (x32 - 4) ∧
  CallV Try.prog 18 #[.agg #[.int .i64 x31.1, .int .i64 x31.2.1, .int .i64 x31.2.2.1, .int .i64 x31.2.2.2.1, .int .i64 x31.2.2.2.2.1, .int .i64 x31.2.2.2.2.2.1]] w30 [.one (.int .i64)] fun (r33 : Int × Unit) w34 =>
  KeepOn D27 w5.drew w34 ∧
  cond (r33.1 == (x32 - 4))
  ((D27 b1 ∧ LoadA w5.drew ⟨b1, 0, none⟩ [.int .i64, .int .i64, .int .i64, .int .i64, .int .i64, .int .i64] fun (x35 : Int × Int × Int × Int × Int × Int × Unit) =>
  (D27 b1 ∧ LoadS w5.drew ⟨b1, 1, none⟩ (.int .i64) fun (x36 : Int) =>
  Rng .i64 (x36 - 1) ∧
  CallV Try.prog 19 #[.agg #[.int .i64 x35.1, .int .i64 x35.2.1, .int .i64 x35.2.2.1, .int .i64 x35.2.2.2.1, .int .i64 x35.2.2.2.2.1, .int .i64 x35.2.2.2.2.2.1]] w34 [.one (.int .i64)] fun (r37 : Int × Unit) w38 =>
  KeepOn D27 w5.drew w38 ∧
  cond (r37.1 == (x36 - 1))
  ((D27 b1 ∧ LoadA w5.drew ⟨b1, 0, none⟩ [.int .i64, .int .i64, .int .i64, .int .i64, .int .i64, .int .i64] fun (x39 : Int × Int × Int × Int × Int × Int × Unit) =>
  (D27 b1 ∧ LoadS w5.drew ⟨b1, 2, none⟩ (.int .i64) fun (x40 : Int) =>
  Rng .i64 (x40 + 88) ∧
  CallV Try.prog 20 #[.agg #[.int .i64 x39.1, .int .i64 x39.2.1, .int .i64 x39.2.2.1, .int .i64 x39.2.2.2.1, .int .i64 x39.2.2.2.2.1, .int .i64 x39.2.2.2.2.2.1]] w38 [.one (.int .i64)] fun (r41 : Int × Unit) w42 =>
  KeepOn D27 w5.drew w42 ∧
  cond (r41.1 == (x40 + 88))
  ((D27 b1 ∧ LoadA w5.drew ⟨b1, 0, none⟩ [.int .i64, .int .i64, .int .i64, .int .i64, .int .i64, .int .i64] fun (x43 : Int × Int × Int × Int × Int × Int × Unit) =>
  (D27 b1 ∧ LoadA w5.drew ⟨b1, 0, none⟩ [.int .i64, .int .i64, .int .i64, .int .i64, .int .i64, .int .i64] fun (x44 : Int × Int × Int × Int × Int × Int × Unit) =>
  CallV Try.prog 21 #[.agg #[.int .i64 x43.1, .int .i64 x43.2.1, .int .i64 x43.2.2.1, .int .i64 x43.2.2.2.1, .int .i64 x43.2.2.2.2.1, .int .i64 x43.2.2.2.2.2.1]] w42 [.one (.int .i64)] fun (r45 : Int × Unit) w46 =>
  KeepOn D27 w5.drew w46 ∧
  CallV Try.prog 24 #[.agg #[.int .i64 x44.1, .int .i64 x44.2.1, .int .i64 x44.2.2.1, .int .i64 x44.2.2.2.1, .int .i64 x44.2.2.2.2.1, .int .i64 x44.2.2.2.2.2.1]] w46 [.one (.int .i64)] fun (r47 : Int × Unit) w48 =>
  KeepOn D27 w5.drew w48 ∧
  cond (r45.1 == r47.1)
  ((D27 b1 ∧ LoadA w5.drew ⟨b1, 0, none⟩ [.int .i64, .int .i64, .int .i64, .int .i64, .int .i64, .int .i64] fun (x49 : Int × Int × Int × Int × Int × Int × Unit) =>
  (D27 b1 ∧ LoadS w5.drew ⟨b1, 0, none⟩ (.int .i64) fun (x50 : Int) =>
  Rng .i64 ((40 : Int) * x50) ∧
  (D27 b1 ∧ LoadS w5.drew ⟨b1, 0, none⟩ (.int .i64) fun (x51 : Int) =>
  Rng .i64 (((40 : Int) * x50) * x51) ∧
  (D27 b1 ∧ LoadS w5.drew ⟨b1, 1, none⟩ (.int .i64) fun (x52 : Int) =>
  Rng .i64 ((((40 : Int) * x50) * x51) * x52) ∧
  (D27 b1 ∧ LoadS w5.drew ⟨b1, 1, none⟩ (.int .i64) fun (x53 : Int) =>
  Rng .i64 (((((40 : Int) * x50) * x51) * x52) * x53) ∧
  CallV Try.prog 22 #[.agg #[.int .i64 x49.1, .int .i64 x49.2.1, .int .i64 x49.2.2.1, .int .i64 x49.2.2.2.1, .int .i64 x49.2.2.2.2.1, .int .i64 x49.2.2.2.2.2.1]] w48 [.one (.int .i64)] fun (r54 : Int × Unit) w55 =>
  KeepOn D27 w5.drew w55 ∧
  cond (r54.1 == (((((40 : Int) * x50) * x51) * x52) * x53))
  (CallV Try.prog 23 #[] w55 [.one .bool] fun (r56 : Bool × Unit) w57 =>
  KeepOn D27 w5.drew w57 ∧
  K (r56.1, ()) w57)
  (K (false, ()) w55)))))))
  (K (false, ()) w48))))
  (K (false, ()) w42))))
  (K (false, ()) w38))))
  (K (false, ()) w34))))
  (K (false, ()) w30)))
theorem law11_GeometryChecks.vc (p0_0 : Int) (p0_1 : Int) (p0_2 : Int) (p0_3 : Int) (p0_4 : Int) (p0_5 : Int) (w : World) (K : Bool × Unit → World → Prop) (h : law11_GeometryChecks.P p0_0 p0_1 p0_2 p0_3 p0_4 p0_5 w K) : CallV Try.prog 4 #[.agg #[.int .i64 p0_0, .int .i64 p0_1, .int .i64 p0_2, .int .i64 p0_3, .int .i64 p0_4, .int .i64 p0_5]] w [.one .bool] K := by
  have e : vcFun Try.prog okf false Try.f4 law11_GeometryChecks.A #[.agg #[.int .i64 p0_0, .int .i64 p0_1, .int .i64 p0_2, .int .i64 p0_3, .int .i64 p0_4, .int .i64 p0_5]] w [.one .bool] K = law11_GeometryChecks.P p0_0 p0_1 p0_2 p0_3 p0_4 p0_5 w K := by kernel_rfl
  exact vcFun.calls okf_ok follows Try.func4 (e.symm ▸ h)

/-! ### nepenthe/nepenthelaw11.GeometryIndexes: function 5 -/
def law11_GeometryIndexes.A : Ann := .no
def law11_GeometryIndexes.P (p0_0 : Int) (p0_1 : Int) (p0_2 : Int) (p0_3 : Int) (p0_4 : Int) (p0_5 : Int) (p1_0 : Int) (p1_1 : Int) (w : World) (K : Bool × Unit → World → Prop) : Prop :=
  NewV #[.int .i64 p0_0, .int .i64 p0_1, .int .i64 p0_2, .int .i64 p0_3, .int .i64 p0_4, .int .i64 p0_5] 28 w fun b1 w2 =>
  NewV #[.int .i64 p1_0, .int .i64 p1_1] 34 w2 fun b3 w4 =>
  LoadA w4 ⟨b1, 0, none⟩ [.int .i64, .int .i64, .int .i64, .int .i64, .int .i64, .int .i64] fun (x5 : Int × Int × Int × Int × Int × Int × Unit) =>
  LoadA w4 ⟨b3, 0, none⟩ [.int .i64, .int .i64] fun (x6 : Int × Int × Unit) =>
  CallV Try.prog 25 #[.agg #[.int .i64 x5.1, .int .i64 x5.2.1, .int .i64 x5.2.2.1, .int .i64 x5.2.2.2.1, .int .i64 x5.2.2.2.2.1, .int .i64 x5.2.2.2.2.2.1], .agg #[.int .i64 x6.1, .int .i64 x6.2.1]] w4 [.one (.int .i64), .one (.int .i64)] fun (r7 : Int × Int × Unit) w8 =>
  LoadA w8 ⟨b1, 0, none⟩ [.int .i64, .int .i64, .int .i64, .int .i64, .int .i64, .int .i64] fun (x9 : Int × Int × Int × Int × Int × Int × Unit) =>
  CallV Try.prog 16 #[.agg #[.int .i64 x9.1, .int .i64 x9.2.1, .int .i64 x9.2.2.1, .int .i64 x9.2.2.2.1, .int .i64 x9.2.2.2.2.1, .int .i64 x9.2.2.2.2.2.1]] w8 [.one .bool] fun (r10 : Bool × Unit) w11 =>
  cond (!r10.1)
  (cond (r7.2.1 == 2)
  (cond (r7.1 == 0)
  (CallV Try.prog 23 #[] w11 [.one .bool] fun (r12 : Bool × Unit) w13 =>
  K (r12.1, ()) w13)
  (K (false, ()) w11))
  (K (false, ()) w11))
  (LoadS w11 ⟨b3, 0, none⟩ (.int .i64) fun (x14 : Int) =>
  cond (decide (x14 < 0))
  (cond (r7.2.1 == 2)
  (cond (r7.1 == 0)
  (CallV Try.prog 23 #[] w11 [.one .bool] fun (r15 : Bool × Unit) w16 =>
  K (r15.1, ()) w16)
  (K (false, ()) w11))
  (K (false, ()) w11))
  (LoadS w11 ⟨b3, 0, none⟩ (.int .i64) fun (x17 : Int) =>
  LoadS w11 ⟨b1, 0, none⟩ (.int .i64) fun (x18 : Int) =>
  cond (decide (x17 ≥ x18))
  (cond (r7.2.1 == 2)
  (cond (r7.1 == 0)
  (CallV Try.prog 23 #[] w11 [.one .bool] fun (r19 : Bool × Unit) w20 =>
  K (r19.1, ()) w20)
  (K (false, ()) w11))
  (K (false, ()) w11))
  (LoadS w11 ⟨b3, 1, none⟩ (.int .i64) fun (x21 : Int) =>
  cond (decide (x21 < 0))
  (cond (r7.2.1 == 2)
  (cond (r7.1 == 0)
  (CallV Try.prog 23 #[] w11 [.one .bool] fun (r22 : Bool × Unit) w23 =>
  K (r22.1, ()) w23)
  (K (false, ()) w11))
  (K (false, ()) w11))
  (LoadS w11 ⟨b3, 1, none⟩ (.int .i64) fun (x24 : Int) =>
  LoadS w11 ⟨b1, 1, none⟩ (.int .i64) fun (x25 : Int) =>
  cond (decide (x24 ≥ x25))
  (cond (r7.2.1 == 2)
  (cond (r7.1 == 0)
  (CallV Try.prog 23 #[] w11 [.one .bool] fun (r26 : Bool × Unit) w27 =>
  K (r26.1, ()) w27)
  (K (false, ()) w11))
  (K (false, ()) w11))
  (cond (r7.2.1 == 0)
  (LoadS w11 ⟨b3, 0, none⟩ (.int .i64) fun (x28 : Int) =>
  LoadS w11 ⟨b1, 1, none⟩ (.int .i64) fun (x29 : Int) =>
  Rng .i64 (x28 * x29) ∧
  LoadS w11 ⟨b3, 1, none⟩ (.int .i64) fun (x30 : Int) =>
  Rng .i64 ((x28 * x29) + x30) ∧
  cond (r7.1 == ((x28 * x29) + x30))
  (CallV Try.prog 23 #[] w11 [.one .bool] fun (r31 : Bool × Unit) w32 =>
  K (r31.1, ()) w32)
  (K (false, ()) w11))
  (K (false, ()) w11))))))
theorem law11_GeometryIndexes.vc (p0_0 : Int) (p0_1 : Int) (p0_2 : Int) (p0_3 : Int) (p0_4 : Int) (p0_5 : Int) (p1_0 : Int) (p1_1 : Int) (w : World) (K : Bool × Unit → World → Prop) (h : law11_GeometryIndexes.P p0_0 p0_1 p0_2 p0_3 p0_4 p0_5 p1_0 p1_1 w K) : CallV Try.prog 5 #[.agg #[.int .i64 p0_0, .int .i64 p0_1, .int .i64 p0_2, .int .i64 p0_3, .int .i64 p0_4, .int .i64 p0_5], .agg #[.int .i64 p1_0, .int .i64 p1_1]] w [.one .bool] K := by
  have e : vcFun Try.prog okf false Try.f5 law11_GeometryIndexes.A #[.agg #[.int .i64 p0_0, .int .i64 p0_1, .int .i64 p0_2, .int .i64 p0_3, .int .i64 p0_4, .int .i64 p0_5], .agg #[.int .i64 p1_0, .int .i64 p1_1]] w [.one .bool] K = law11_GeometryIndexes.P p0_0 p0_1 p0_2 p0_3 p0_4 p0_5 p1_0 p1_1 w K := by kernel_rfl
  exact vcFun.calls okf_ok follows Try.func5 (e.symm ▸ h)

/-! ### nepenthe/nepenthelaw11.GeometryQuotas: function 6 -/
def law11_GeometryQuotas.A : Ann := .no
def law11_GeometryQuotas.P (p0_0 : Int) (p0_1 : Int) (p0_2 : Int) (p0_3 : Int) (p0_4 : Int) (p0_5 : Int) (p1 : Int) (w : World) (K : Bool × Unit → World → Prop) : Prop :=
  NewV #[.int .i64 p0_0, .int .i64 p0_1, .int .i64 p0_2, .int .i64 p0_3, .int .i64 p0_4, .int .i64 p0_5] 28 w fun b1 w2 =>
  LoadA w2 ⟨b1, 0, none⟩ [.int .i64, .int .i64, .int .i64, .int .i64, .int .i64, .int .i64] fun (x3 : Int × Int × Int × Int × Int × Int × Unit) =>
  CallV Try.prog 26 #[.agg #[.int .i64 x3.1, .int .i64 x3.2.1, .int .i64 x3.2.2.1, .int .i64 x3.2.2.2.1, .int .i64 x3.2.2.2.2.1, .int .i64 x3.2.2.2.2.2.1], .int .i64 p1] w2 [.one (.int .i64), .one (.int .i64)] fun (r4 : Int × Int × Unit) w5 =>
  LoadA w5 ⟨b1, 0, none⟩ [.int .i64, .int .i64, .int .i64, .int .i64, .int .i64, .int .i64] fun (x6 : Int × Int × Int × Int × Int × Int × Unit) =>
  CallV Try.prog 16 #[.agg #[.int .i64 x6.1, .int .i64 x6.2.1, .int .i64 x6.2.2.1, .int .i64 x6.2.2.2.1, .int .i64 x6.2.2.2.2.1, .int .i64 x6.2.2.2.2.2.1]] w5 [.one .bool] fun (r7 : Bool × Unit) w8 =>
  cond (!r7.1)
  (cond (r4.2.1 == 2)
  (cond (r4.1 == 0)
  (CallV Try.prog 23 #[] w8 [.one .bool] fun (r9 : Bool × Unit) w10 =>
  K (r9.1, ()) w10)
  (K (false, ()) w8))
  (K (false, ()) w8))
  (cond (decide (p1 < 1))
  (cond (r4.2.1 == 13)
  (cond (r4.1 == 0)
  (CallV Try.prog 23 #[] w8 [.one .bool] fun (r11 : Bool × Unit) w12 =>
  K (r11.1, ()) w12)
  (K (false, ()) w8))
  (K (false, ()) w8))
  (cond (decide (p1 > 65535))
  (cond (r4.2.1 == 13)
  (cond (r4.1 == 0)
  (CallV Try.prog 23 #[] w8 [.one .bool] fun (r13 : Bool × Unit) w14 =>
  K (r13.1, ()) w14)
  (K (false, ()) w8))
  (K (false, ()) w8))
  (cond (r4.2.1 == 0)
  (LoadA w8 ⟨b1, 0, none⟩ [.int .i64, .int .i64, .int .i64, .int .i64, .int .i64, .int .i64] fun (x15 : Int × Int × Int × Int × Int × Int × Unit) =>
  CallV Try.prog 27 #[.agg #[.int .i64 x15.1, .int .i64 x15.2.1, .int .i64 x15.2.2.1, .int .i64 x15.2.2.2.1, .int .i64 x15.2.2.2.2.1, .int .i64 x15.2.2.2.2.2.1], .int .i64 p1] w8 [.one (.int .i64)] fun (r16 : Int × Unit) w17 =>
  cond (r4.1 == r16.1)
  (CallV Try.prog 23 #[] w17 [.one .bool] fun (r18 : Bool × Unit) w19 =>
  K (r18.1, ()) w19)
  (K (false, ()) w17))
  (K (false, ()) w8))))
theorem law11_GeometryQuotas.vc (p0_0 : Int) (p0_1 : Int) (p0_2 : Int) (p0_3 : Int) (p0_4 : Int) (p0_5 : Int) (p1 : Int) (w : World) (K : Bool × Unit → World → Prop) (h : law11_GeometryQuotas.P p0_0 p0_1 p0_2 p0_3 p0_4 p0_5 p1 w K) : CallV Try.prog 6 #[.agg #[.int .i64 p0_0, .int .i64 p0_1, .int .i64 p0_2, .int .i64 p0_3, .int .i64 p0_4, .int .i64 p0_5], .int .i64 p1] w [.one .bool] K := by
  have e : vcFun Try.prog okf false Try.f6 law11_GeometryQuotas.A #[.agg #[.int .i64 p0_0, .int .i64 p0_1, .int .i64 p0_2, .int .i64 p0_3, .int .i64 p0_4, .int .i64 p0_5], .int .i64 p1] w [.one .bool] K = law11_GeometryQuotas.P p0_0 p0_1 p0_2 p0_3 p0_4 p0_5 p1 w K := by kernel_rfl
  exact vcFun.calls okf_ok follows Try.func6 (e.symm ▸ h)

/-! ### nepenthe/nepenthelaw11.GeometryFewer: function 10 -/
def law11_GeometryFewer.A : Ann := .two .no (.two .no (.two .no (.two .no (.two .no (.two (.draw (.take 1 (.take 2 (.take 3 (.take 5 (.take 6 (.take 7 (.take 8 (.eff 0 (.eff 4 (.eff 9 (.take 10 (.done))))))))))))) .no)))))
def law11_GeometryFewer.P (p0_0 : Int) (p0_1 : Int) (p0_2 : Int) (p0_3 : Int) (p0_4 : Int) (p0_5 : Int) (a1 : Option Addr) (n1 c1 : Nat) (p2_0 : Int) (p2_1 : Int) (w : World) (K : Bool × Unit → World → Prop) : Prop :=
  NewV #[.int .i64 p0_0, .int .i64 p0_1, .int .i64 p0_2, .int .i64 p0_3, .int .i64 p0_4, .int .i64 p0_5] 28 w fun b1 w2 =>
  NewV #[.int .i64 p2_0, .int .i64 p2_1] 55 w2 fun b3 w4 =>
  (0 ≤ (0 : Int) ∧ 0 < (2 : Int)) ∧
  LoadS w4 ⟨b3, 0, none⟩ (.int .i64) fun (x5 : Int) =>
  (0 ≤ (1 : Int) ∧ 1 < (2 : Int)) ∧
  LoadS w4 ⟨b3, 1, none⟩ (.int .i64) fun (x6 : Int) =>
  cond (decide (((n1 : Nat) : Int) > 100))
  (CallV Try.prog 23 #[] w4 [.one .bool] fun (r7 : Bool × Unit) w8 =>
  K (r7.1, ()) w8)
  (LoadA w4 ⟨b1, 0, none⟩ [.int .i64, .int .i64, .int .i64, .int .i64, .int .i64, .int .i64] fun (x9 : Int × Int × Int × Int × Int × Int × Unit) =>
  CallV Try.prog 45 #[.agg #[.int .i64 x9.1, .int .i64 x9.2.1, .int .i64 x9.2.2.1, .int .i64 x9.2.2.2.1, .int .i64 x9.2.2.2.2.1, .int .i64 x9.2.2.2.2.2.1], .slice a1 n1 c1] w4 [.one (.int .i64)] fun (r10 : Int × Unit) w11 =>
  cond (r10.1 != 0)
  (CallV Try.prog 23 #[] w11 [.one .bool] fun (r12 : Bool × Unit) w13 =>
  K (r12.1, ()) w13)
  (cond (decide (x5 < 0))
  (CallV Try.prog 23 #[] w11 [.one .bool] fun (r14 : Bool × Unit) w15 =>
  K (r14.1, ()) w15)
  (cond (decide (x5 ≥ ((n1 : Nat) : Int)))
  (CallV Try.prog 23 #[] w11 [.one .bool] fun (r16 : Bool × Unit) w17 =>
  K (r16.1, ()) w17)
  (cond (decide (x6 < 0))
  (CallV Try.prog 23 #[] w11 [.one .bool] fun (r18 : Bool × Unit) w19 =>
  K (r18.1, ()) w19)
  ((0 ≤ x5 ∧ x5 < ((n1 : Nat) : Int)) ∧ ∃ q20 : Addr, a1 = some q20 ∧
  LoadS w11 (q20.add (x5.toNat * 1)) (.int .i64) fun (x21 : Int) =>
  cond (decide (x6 ≥ x21))
  (CallV Try.prog 23 #[] w11 [.one .bool] fun (r22 : Bool × Unit) w23 =>
  K (r22.1, ()) w23)
  (DrawV fun D24 =>
  ((0 : Int) ≤ x5 ∧ x5 ≤ ((c1 : Nat) : Int)) ∧
  SubK a1 0 c1 1 fun a25 =>
  Rng .i64 (x5 + 1) ∧
  ((0 : Int) ≤ (x5 + 1) ∧ (x5 + 1) ≤ ((n1 : Nat) : Int)) ∧
  SubK a1 ((x5 + 1).toNat) c1 1 fun a26 =>
  NewV #[] 3 w11.drew fun b27 w28 =>
  KeepOn D24 w11.drew w28 ∧
  AppS w28 a25 (x5.toNat - 0) 1 fun ns33 =>
  AppV w28 3 1 8 (some ⟨b27, 0, none⟩) 0 0 ns33 (x5.toNat - 0) fun a29 n30 c31 w32 =>
  KeepOn D24 w11.drew w32 ∧
  AppS w32 a26 (n1 - ((x5 + 1).toNat)) 1 fun ns38 =>
  AppV w32 3 1 8 a29 n30 c31 ns38 (n1 - ((x5 + 1).toNat)) fun a34 n35 c36 w37 =>
  KeepOn D24 w11.drew w37 ∧
  NewV #[] 3 w37 fun b39 w40 =>
  AppS w40 a1 n1 1 fun ns45 =>
  AppV w40 3 1 8 (some ⟨b39, 0, none⟩) 0 0 ns45 n1 fun a41 n42 c43 w44 =>
  (0 ≤ x5 ∧ x5 < ((n1 : Nat) : Int)) ∧ ∃ q46 : Addr, a1 = some q46 ∧
  LoadS w44 (q46.add (x5.toNat * 1)) (.int .i64) fun (x47 : Int) =>
  Rng .i64 (x47 - x6) ∧
  (0 ≤ x5 ∧ x5 < ((n42 : Nat) : Int)) ∧ ∃ q48 : Addr, a41 = some q48 ∧
  StoreV w44 (q48.add (x5.toNat * 1)) [.int .i64 (x47 - x6)] fun w49 =>
  LoadA w49 ⟨b1, 0, none⟩ [.int .i64, .int .i64, .int .i64, .int .i64, .int .i64, .int .i64] fun (x50 : Int × Int × Int × Int × Int × Int × Unit) =>
  CallV Try.prog 45 #[.agg #[.int .i64 x50.1, .int .i64 x50.2.1, .int .i64 x50.2.2.1, .int .i64 x50.2.2.2.1, .int .i64 x50.2.2.2.2.1, .int .i64 x50.2.2.2.2.2.1], .slice a34 n35 c36] w49 [.one (.int .i64)] fun (r51 : Int × Unit) w52 =>
  cond (r51.1 == 0)
  (LoadA w52 ⟨b1, 0, none⟩ [.int .i64, .int .i64, .int .i64, .int .i64, .int .i64, .int .i64] fun (x53 : Int × Int × Int × Int × Int × Int × Unit) =>
  CallV Try.prog 45 #[.agg #[.int .i64 x53.1, .int .i64 x53.2.1, .int .i64 x53.2.2.1, .int .i64 x53.2.2.2.1, .int .i64 x53.2.2.2.2.1, .int .i64 x53.2.2.2.2.2.1], .slice a41 n42 c43] w52 [.one (.int .i64)] fun (r54 : Int × Unit) w55 =>
  cond (r54.1 == 0)
  (CallV Try.prog 23 #[] w55 [.one .bool] fun (r56 : Bool × Unit) w57 =>
  K (r56.1, ()) w57)
  (K (false, ()) w55))
  (K (false, ()) w52)))))))
theorem law11_GeometryFewer.vc (p0_0 : Int) (p0_1 : Int) (p0_2 : Int) (p0_3 : Int) (p0_4 : Int) (p0_5 : Int) (a1 : Option Addr) (n1 c1 : Nat) (p2_0 : Int) (p2_1 : Int) (w : World) (K : Bool × Unit → World → Prop) (h : law11_GeometryFewer.P p0_0 p0_1 p0_2 p0_3 p0_4 p0_5 a1 n1 c1 p2_0 p2_1 w K) : CallV Try.prog 10 #[.agg #[.int .i64 p0_0, .int .i64 p0_1, .int .i64 p0_2, .int .i64 p0_3, .int .i64 p0_4, .int .i64 p0_5], .slice a1 n1 c1, .agg #[.int .i64 p2_0, .int .i64 p2_1]] w [.one .bool] K := by
  have e : vcFun Try.prog okf false Try.f10 law11_GeometryFewer.A #[.agg #[.int .i64 p0_0, .int .i64 p0_1, .int .i64 p0_2, .int .i64 p0_3, .int .i64 p0_4, .int .i64 p0_5], .slice a1 n1 c1, .agg #[.int .i64 p2_0, .int .i64 p2_1]] w [.one .bool] K = law11_GeometryFewer.P p0_0 p0_1 p0_2 p0_3 p0_4 p0_5 a1 n1 c1 p2_0 p2_1 w K := by kernel_rfl
  exact vcFun.calls okf_ok follows Try.func10 (e.symm ▸ h)

/-! ### nepenthe/nepenthelaw11.GeometryFits: function 11 -/
def law11_GeometryFits.A : Ann := .two .no (.two .no (.two .no (.two .no (.two .no (.two .no (.two .no (.two .no (.two (.two (.draw (.take 0 (.take 1 (.take 2 (.take 3 (.take 5 (.take 7 (.both 4 (.both 6 (.eff 8 (.eff 9 (.eff 10 (.take 11 (.take 12 (.done)))))) 8 (.eff 6 (.eff 9 (.eff 10 (.take 11 (.take 12 (.done))))))) 8 (.eff 4 (.eff 6 (.eff 9 (.eff 10 (.take 11 (.take 12 (.done))))))))))))))) .no) (.two (.draw (.take 0 (.take 1 (.take 2 (.take 3 (.take 5 (.take 7 (.take 8 (.both 4 (.both 6 (.eff 9 (.eff 10 (.eff 11 (.take 12 (.take 13 (.take 14 (.eff 15 (.take 16 (.take 17 (.done)))))))))) 9 (.eff 6 (.eff 10 (.eff 11 (.take 12 (.take 13 (.take 14 (.eff 15 (.take 16 (.take 17 (.done))))))))))) 9 (.eff 4 (.eff 6 (.eff 10 (.eff 11 (.take 12 (.take 13 (.take 14 (.eff 15 (.take 16 (.take 17 (.done)))))))))))))))))))) .no)))))))))
def law11_GeometryFits.P (p0_0 : Int) (p0_1 : Int) (p0_2 : Int) (p0_3 : Int) (p0_4 : Int) (p0_5 : Int) (a1 : Option Addr) (n1 c1 : Nat) (w : World) (K : Bool × Unit → World → Prop) : Prop :=
  NewV #[.int .i64 p0_0, .int .i64 p0_1, .int .i64 p0_2, .int .i64 p0_3, .int .i64 p0_4, .int .i64 p0_5] 28 w fun b1 w2 =>
  cond (decide (((n1 : Nat) : Int) > 100))
  (CallV Try.prog 23 #[] w2 [.one .bool] fun (r3 : Bool × Unit) w4 =>
  K (r3.1, ()) w4)
  (LoadA w2 ⟨b1, 0, none⟩ [.int .i64, .int .i64, .int .i64, .int .i64, .int .i64, .int .i64] fun (x5 : Int × Int × Int × Int × Int × Int × Unit) =>
  CallV Try.prog 45 #[.agg #[.int .i64 x5.1, .int .i64 x5.2.1, .int .i64 x5.2.2.1, .int .i64 x5.2.2.2.1, .int .i64 x5.2.2.2.2.1, .int .i64 x5.2.2.2.2.2.1], .slice a1 n1 c1] w2 [.one (.int .i64)] fun (r6 : Int × Unit) w7 =>
  LoadA w7 ⟨b1, 0, none⟩ [.int .i64, .int .i64, .int .i64, .int .i64, .int .i64, .int .i64] fun (x8 : Int × Int × Int × Int × Int × Int × Unit) =>
  CallV Try.prog 46 #[.agg #[.int .i64 x8.1, .int .i64 x8.2.1, .int .i64 x8.2.2.1, .int .i64 x8.2.2.2.1, .int .i64 x8.2.2.2.2.1, .int .i64 x8.2.2.2.2.2.1], .slice a1 n1 c1] w7 [.one (.int .i64)] fun (r9 : Int × Unit) w10 =>
  LoadA w10 ⟨b1, 0, none⟩ [.int .i64, .int .i64, .int .i64, .int .i64, .int .i64, .int .i64] fun (x11 : Int × Int × Int × Int × Int × Int × Unit) =>
  CallV Try.prog 16 #[.agg #[.int .i64 x11.1, .int .i64 x11.2.1, .int .i64 x11.2.2.1, .int .i64 x11.2.2.2.1, .int .i64 x11.2.2.2.2.1, .int .i64 x11.2.2.2.2.2.1]] w10 [.one .bool] fun (r12 : Bool × Unit) w13 =>
  cond (!r12.1)
  (cond (r6.1 == 2)
  (cond (r9.1 == 0)
  (CallV Try.prog 23 #[] w13 [.one .bool] fun (r14 : Bool × Unit) w15 =>
  K (r14.1, ()) w15)
  (K (false, ()) w13))
  (K (false, ()) w13))
  (LoadA w13 ⟨b1, 0, none⟩ [.int .i64, .int .i64, .int .i64, .int .i64, .int .i64, .int .i64] fun (x16 : Int × Int × Int × Int × Int × Int × Unit) =>
  CallV Try.prog 47 #[.agg #[.int .i64 x16.1, .int .i64 x16.2.1, .int .i64 x16.2.2.1, .int .i64 x16.2.2.2.1, .int .i64 x16.2.2.2.2.1, .int .i64 x16.2.2.2.2.2.1], .slice a1 n1 c1] w13 [.one (.int .i64)] fun (r17 : Int × Unit) w18 =>
  cond (r6.1 != r17.1)
  (K (false, ()) w18)
  (cond (r6.1 != 0)
  (cond (r9.1 == 0)
  (CallV Try.prog 23 #[] w18 [.one .bool] fun (r19 : Bool × Unit) w20 =>
  K (r19.1, ()) w20)
  (K (false, ()) w18))
  (cond (decide (r9.1 < 0))
  (K (false, ()) w18)
  (cond (decide (r9.1 > 65535))
  (K (false, ()) w18)
  (DrawV fun D21 =>
  cond (decide (r9.1 > 0))
  ((D21 b1 ∧ LoadA w18.drew ⟨b1, 0, none⟩ [.int .i64, .int .i64, .int .i64, .int .i64, .int .i64, .int .i64] fun (x22 : Int × Int × Int × Int × Int × Int × Unit) =>
  ((NewV #[] 3 w18.drew fun b23 w24 =>
  KeepOn D21 w18.drew w24 ∧
  ((AppS w24 a1 n1 1 fun ns29 =>
  AppV w24 3 1 8 (some ⟨b23, 0, none⟩) 0 0 ns29 n1 fun a25 n26 c27 w28 =>
  KeepOn D21 w18.drew w28 ∧
  NewV #[.int .i64 r9.1] 3 w28 fun b30 w31 =>
  KeepOn D21 w18.drew w31 ∧
  AppS w31 (some ⟨b30, 0, none⟩) 1 1 fun ns36 =>
  AppV w31 3 1 8 a25 n26 c27 ns36 1 fun a32 n33 c34 w35 =>
  KeepOn D21 w18.drew w35 ∧
  CallV Try.prog 47 #[.agg #[.int .i64 x22.1, .int .i64 x22.2.1, .int .i64 x22.2.2.1, .int .i64 x22.2.2.2.1, .int .i64 x22.2.2.2.2.1, .int .i64 x22.2.2.2.2.2.1], .slice a32 n33 c34] w35 [.one (.int .i64)] fun (r37 : Int × Unit) w38 =>
  KeepOn D21 w18.drew w38 ∧
  cond (r37.1 != 0)
  (K (false, ()) w38)
  (DrawV fun D39 =>
  cond (r9.1 == 65535)
  (((((CallV Try.prog 23 #[] w38.drew [.one .bool] fun (r40 : Bool × Unit) w41 =>
  KeepOn D39 w38.drew w41 ∧
  K (r40.1, ()) w41) ∧
  (CallV Try.prog 23 #[] w38.drew [.one .bool] fun (r42 : Bool × Unit) w43 =>
  KeepOn D39 w38.drew w43 ∧
  K (r42.1, ()) w43))) ∧
  (CallV Try.prog 23 #[] w38.drew [.one .bool] fun (r44 : Bool × Unit) w45 =>
  KeepOn D39 w38.drew w45 ∧
  K (r44.1, ()) w45)))
  ((D39 b1 ∧ LoadA w38.drew ⟨b1, 0, none⟩ [.int .i64, .int .i64, .int .i64, .int .i64, .int .i64, .int .i64] fun (x46 : Int × Int × Int × Int × Int × Int × Unit) =>
  Rng .i64 (r9.1 + 1) ∧
  ((NewV #[] 3 w38.drew fun b47 w48 =>
  KeepOn D39 w38.drew w48 ∧
  ((AppS w48 a1 n1 1 fun ns53 =>
  AppV w48 3 1 8 (some ⟨b47, 0, none⟩) 0 0 ns53 n1 fun a49 n50 c51 w52 =>
  KeepOn D39 w38.drew w52 ∧
  NewV #[.int .i64 (r9.1 + 1)] 3 w52 fun b54 w55 =>
  KeepOn D39 w38.drew w55 ∧
  AppS w55 (some ⟨b54, 0, none⟩) 1 1 fun ns60 =>
  AppV w55 3 1 8 a49 n50 c51 ns60 1 fun a56 n57 c58 w59 =>
  KeepOn D39 w38.drew w59 ∧
  CallV Try.prog 47 #[.agg #[.int .i64 x46.1, .int .i64 x46.2.1, .int .i64 x46.2.2.1, .int .i64 x46.2.2.2.1, .int .i64 x46.2.2.2.2.1, .int .i64 x46.2.2.2.2.2.1], .slice a56 n57 c58] w59 [.one (.int .i64)] fun (r61 : Int × Unit) w62 =>
  KeepOn D39 w38.drew w62 ∧
  cond (r61.1 != 0)
  (CallV Try.prog 23 #[] w62 [.one .bool] fun (r63 : Bool × Unit) w64 =>
  KeepOn D39 w38.drew w64 ∧
  K (r63.1, ()) w64)
  (K (false, ()) w62)) ∧
  (NewV #[.int .i64 (r9.1 + 1)] 3 w48 fun b65 w66 =>
  KeepOn D39 w38.drew w66 ∧
  AppS w66 a1 n1 1 fun ns71 =>
  AppV w66 3 1 8 (some ⟨b47, 0, none⟩) 0 0 ns71 n1 fun a67 n68 c69 w70 =>
  KeepOn D39 w38.drew w70 ∧
  AppS w70 (some ⟨b65, 0, none⟩) 1 1 fun ns76 =>
  AppV w70 3 1 8 a67 n68 c69 ns76 1 fun a72 n73 c74 w75 =>
  KeepOn D39 w38.drew w75 ∧
  CallV Try.prog 47 #[.agg #[.int .i64 x46.1, .int .i64 x46.2.1, .int .i64 x46.2.2.1, .int .i64 x46.2.2.2.1, .int .i64 x46.2.2.2.2.1, .int .i64 x46.2.2.2.2.2.1], .slice a72 n73 c74] w75 [.one (.int .i64)] fun (r77 : Int × Unit) w78 =>
  KeepOn D39 w38.drew w78 ∧
  cond (r77.1 != 0)
  (CallV Try.prog 23 #[] w78 [.one .bool] fun (r79 : Bool × Unit) w80 =>
  KeepOn D39 w38.drew w80 ∧
  K (r79.1, ()) w80)
  (K (false, ()) w78)))) ∧
  (NewV #[.int .i64 (r9.1 + 1)] 3 w38.drew fun b81 w82 =>
  KeepOn D39 w38.drew w82 ∧
  NewV #[] 3 w82 fun b83 w84 =>
  KeepOn D39 w38.drew w84 ∧
  AppS w84 a1 n1 1 fun ns89 =>
  AppV w84 3 1 8 (some ⟨b83, 0, none⟩) 0 0 ns89 n1 fun a85 n86 c87 w88 =>
  KeepOn D39 w38.drew w88 ∧
  AppS w88 (some ⟨b81, 0, none⟩) 1 1 fun ns94 =>
  AppV w88 3 1 8 a85 n86 c87 ns94 1 fun a90 n91 c92 w93 =>
  KeepOn D39 w38.drew w93 ∧
  CallV Try.prog 47 #[.agg #[.int .i64 x46.1, .int .i64 x46.2.1, .int .i64 x46.2.2.1, .int .i64 x46.2.2.2.1, .int .i64 x46.2.2.2.2.1, .int .i64 x46.2.2.2.2.2.1], .slice a90 n91 c92] w93 [.one (.int .i64)] fun (r95 : Int × Unit) w96 =>
  KeepOn D39 w38.drew w96 ∧
  cond (r95.1 != 0)
  (CallV Try.prog 23 #[] w96 [.one .bool] fun (r97 : Bool × Unit) w98 =>
  KeepOn D39 w38.drew w98 ∧
  K (r97.1, ()) w98)
  (K (false, ()) w96))))))) ∧
  (NewV #[.int .i64 r9.1] 3 w24 fun b99 w100 =>
  KeepOn D21 w18.drew w100 ∧
  AppS w100 a1 n1 1 fun ns105 =>
  AppV w100 3 1 8 (some ⟨b23, 0, none⟩) 0 0 ns105 n1 fun a101 n102 c103 w104 =>
  KeepOn D21 w18.drew w104 ∧
  AppS w104 (some ⟨b99, 0, none⟩) 1 1 fun ns110 =>
  AppV w104 3 1 8 a101 n102 c103 ns110 1 fun a106 n107 c108 w109 =>
  KeepOn D21 w18.drew w109 ∧
  CallV Try.prog 47 #[.agg #[.int .i64 x22.1, .int .i64 x22.2.1, .int .i64 x22.2.2.1, .int .i64 x22.2.2.2.1, .int .i64 x22.2.2.2.2.1, .int .i64 x22.2.2.2.2.2.1], .slice a106 n107 c108] w109 [.one (.int .i64)] fun (r111 : Int × Unit) w112 =>
  KeepOn D21 w18.drew w112 ∧
  cond (r111.1 != 0)
  (K (false, ()) w112)
  (DrawV fun D113 =>
  cond (r9.1 == 65535)
  (((((CallV Try.prog 23 #[] w112.drew [.one .bool] fun (r114 : Bool × Unit) w115 =>
  KeepOn D113 w112.drew w115 ∧
  K (r114.1, ()) w115) ∧
  (CallV Try.prog 23 #[] w112.drew [.one .bool] fun (r116 : Bool × Unit) w117 =>
  KeepOn D113 w112.drew w117 ∧
  K (r116.1, ()) w117))) ∧
  (CallV Try.prog 23 #[] w112.drew [.one .bool] fun (r118 : Bool × Unit) w119 =>
  KeepOn D113 w112.drew w119 ∧
  K (r118.1, ()) w119)))
  ((D113 b1 ∧ LoadA w112.drew ⟨b1, 0, none⟩ [.int .i64, .int .i64, .int .i64, .int .i64, .int .i64, .int .i64] fun (x120 : Int × Int × Int × Int × Int × Int × Unit) =>
  Rng .i64 (r9.1 + 1) ∧
  ((NewV #[] 3 w112.drew fun b121 w122 =>
  KeepOn D113 w112.drew w122 ∧
  ((AppS w122 a1 n1 1 fun ns127 =>
  AppV w122 3 1 8 (some ⟨b121, 0, none⟩) 0 0 ns127 n1 fun a123 n124 c125 w126 =>
  KeepOn D113 w112.drew w126 ∧
  NewV #[.int .i64 (r9.1 + 1)] 3 w126 fun b128 w129 =>
  KeepOn D113 w112.drew w129 ∧
  AppS w129 (some ⟨b128, 0, none⟩) 1 1 fun ns134 =>
  AppV w129 3 1 8 a123 n124 c125 ns134 1 fun a130 n131 c132 w133 =>
  KeepOn D113 w112.drew w133 ∧
  CallV Try.prog 47 #[.agg #[.int .i64 x120.1, .int .i64 x120.2.1, .int .i64 x120.2.2.1, .int .i64 x120.2.2.2.1, .int .i64 x120.2.2.2.2.1, .int .i64 x120.2.2.2.2.2.1], .slice a130 n131 c132] w133 [.one (.int .i64)] fun (r135 : Int × Unit) w136 =>
  KeepOn D113 w112.drew w136 ∧
  cond (r135.1 != 0)
  (CallV Try.prog 23 #[] w136 [.one .bool] fun (r137 : Bool × Unit) w138 =>
  KeepOn D113 w112.drew w138 ∧
  K (r137.1, ()) w138)
  (K (false, ()) w136)) ∧
  (NewV #[.int .i64 (r9.1 + 1)] 3 w122 fun b139 w140 =>
  KeepOn D113 w112.drew w140 ∧
  AppS w140 a1 n1 1 fun ns145 =>
  AppV w140 3 1 8 (some ⟨b121, 0, none⟩) 0 0 ns145 n1 fun a141 n142 c143 w144 =>
  KeepOn D113 w112.drew w144 ∧
  AppS w144 (some ⟨b139, 0, none⟩) 1 1 fun ns150 =>
  AppV w144 3 1 8 a141 n142 c143 ns150 1 fun a146 n147 c148 w149 =>
  KeepOn D113 w112.drew w149 ∧
  CallV Try.prog 47 #[.agg #[.int .i64 x120.1, .int .i64 x120.2.1, .int .i64 x120.2.2.1, .int .i64 x120.2.2.2.1, .int .i64 x120.2.2.2.2.1, .int .i64 x120.2.2.2.2.2.1], .slice a146 n147 c148] w149 [.one (.int .i64)] fun (r151 : Int × Unit) w152 =>
  KeepOn D113 w112.drew w152 ∧
  cond (r151.1 != 0)
  (CallV Try.prog 23 #[] w152 [.one .bool] fun (r153 : Bool × Unit) w154 =>
  KeepOn D113 w112.drew w154 ∧
  K (r153.1, ()) w154)
  (K (false, ()) w152)))) ∧
  (NewV #[.int .i64 (r9.1 + 1)] 3 w112.drew fun b155 w156 =>
  KeepOn D113 w112.drew w156 ∧
  NewV #[] 3 w156 fun b157 w158 =>
  KeepOn D113 w112.drew w158 ∧
  AppS w158 a1 n1 1 fun ns163 =>
  AppV w158 3 1 8 (some ⟨b157, 0, none⟩) 0 0 ns163 n1 fun a159 n160 c161 w162 =>
  KeepOn D113 w112.drew w162 ∧
  AppS w162 (some ⟨b155, 0, none⟩) 1 1 fun ns168 =>
  AppV w162 3 1 8 a159 n160 c161 ns168 1 fun a164 n165 c166 w167 =>
  KeepOn D113 w112.drew w167 ∧
  CallV Try.prog 47 #[.agg #[.int .i64 x120.1, .int .i64 x120.2.1, .int .i64 x120.2.2.1, .int .i64 x120.2.2.2.1, .int .i64 x120.2.2.2.2.1, .int .i64 x120.2.2.2.2.2.1], .slice a164 n165 c166] w167 [.one (.int .i64)] fun (r169 : Int × Unit) w170 =>
  KeepOn D113 w112.drew w170 ∧
  cond (r169.1 != 0)
  (CallV Try.prog 23 #[] w170 [.one .bool] fun (r171 : Bool × Unit) w172 =>
  KeepOn D113 w112.drew w172 ∧
  K (r171.1, ()) w172)
  (K (false, ()) w170))))))))) ∧
  (NewV #[.int .i64 r9.1] 3 w18.drew fun b173 w174 =>
  KeepOn D21 w18.drew w174 ∧
  NewV #[] 3 w174 fun b175 w176 =>
  KeepOn D21 w18.drew w176 ∧
  AppS w176 a1 n1 1 fun ns181 =>
  AppV w176 3 1 8 (some ⟨b175, 0, none⟩) 0 0 ns181 n1 fun a177 n178 c179 w180 =>
  KeepOn D21 w18.drew w180 ∧
  AppS w180 (some ⟨b173, 0, none⟩) 1 1 fun ns186 =>
  AppV w180 3 1 8 a177 n178 c179 ns186 1 fun a182 n183 c184 w185 =>
  KeepOn D21 w18.drew w185 ∧
  CallV Try.prog 47 #[.agg #[.int .i64 x22.1, .int .i64 x22.2.1, .int .i64 x22.2.2.1, .int .i64 x22.2.2.2.1, .int .i64 x22.2.2.2.2.1, .int .i64 x22.2.2.2.2.2.1], .slice a182 n183 c184] w185 [.one (.int .i64)] fun (r187 : Int × Unit) w188 =>
  KeepOn D21 w18.drew w188 ∧
  cond (r187.1 != 0)
  (K (false, ()) w188)
  (DrawV fun D189 =>
  cond (r9.1 == 65535)
  (((((CallV Try.prog 23 #[] w188.drew [.one .bool] fun (r190 : Bool × Unit) w191 =>
  KeepOn D189 w188.drew w191 ∧
  K (r190.1, ()) w191) ∧
  (CallV Try.prog 23 #[] w188.drew [.one .bool] fun (r192 : Bool × Unit) w193 =>
  KeepOn D189 w188.drew w193 ∧
  K (r192.1, ()) w193))) ∧
  (CallV Try.prog 23 #[] w188.drew [.one .bool] fun (r194 : Bool × Unit) w195 =>
  KeepOn D189 w188.drew w195 ∧
  K (r194.1, ()) w195)))
  ((D189 b1 ∧ LoadA w188.drew ⟨b1, 0, none⟩ [.int .i64, .int .i64, .int .i64, .int .i64, .int .i64, .int .i64] fun (x196 : Int × Int × Int × Int × Int × Int × Unit) =>
  Rng .i64 (r9.1 + 1) ∧
  ((NewV #[] 3 w188.drew fun b197 w198 =>
  KeepOn D189 w188.drew w198 ∧
  ((AppS w198 a1 n1 1 fun ns203 =>
  AppV w198 3 1 8 (some ⟨b197, 0, none⟩) 0 0 ns203 n1 fun a199 n200 c201 w202 =>
  KeepOn D189 w188.drew w202 ∧
  NewV #[.int .i64 (r9.1 + 1)] 3 w202 fun b204 w205 =>
  KeepOn D189 w188.drew w205 ∧
  AppS w205 (some ⟨b204, 0, none⟩) 1 1 fun ns210 =>
  AppV w205 3 1 8 a199 n200 c201 ns210 1 fun a206 n207 c208 w209 =>
  KeepOn D189 w188.drew w209 ∧
  CallV Try.prog 47 #[.agg #[.int .i64 x196.1, .int .i64 x196.2.1, .int .i64 x196.2.2.1, .int .i64 x196.2.2.2.1, .int .i64 x196.2.2.2.2.1, .int .i64 x196.2.2.2.2.2.1], .slice a206 n207 c208] w209 [.one (.int .i64)] fun (r211 : Int × Unit) w212 =>
  KeepOn D189 w188.drew w212 ∧
  cond (r211.1 != 0)
  (CallV Try.prog 23 #[] w212 [.one .bool] fun (r213 : Bool × Unit) w214 =>
  KeepOn D189 w188.drew w214 ∧
  K (r213.1, ()) w214)
  (K (false, ()) w212)) ∧
  (NewV #[.int .i64 (r9.1 + 1)] 3 w198 fun b215 w216 =>
  KeepOn D189 w188.drew w216 ∧
  AppS w216 a1 n1 1 fun ns221 =>
  AppV w216 3 1 8 (some ⟨b197, 0, none⟩) 0 0 ns221 n1 fun a217 n218 c219 w220 =>
  KeepOn D189 w188.drew w220 ∧
  AppS w220 (some ⟨b215, 0, none⟩) 1 1 fun ns226 =>
  AppV w220 3 1 8 a217 n218 c219 ns226 1 fun a222 n223 c224 w225 =>
  KeepOn D189 w188.drew w225 ∧
  CallV Try.prog 47 #[.agg #[.int .i64 x196.1, .int .i64 x196.2.1, .int .i64 x196.2.2.1, .int .i64 x196.2.2.2.1, .int .i64 x196.2.2.2.2.1, .int .i64 x196.2.2.2.2.2.1], .slice a222 n223 c224] w225 [.one (.int .i64)] fun (r227 : Int × Unit) w228 =>
  KeepOn D189 w188.drew w228 ∧
  cond (r227.1 != 0)
  (CallV Try.prog 23 #[] w228 [.one .bool] fun (r229 : Bool × Unit) w230 =>
  KeepOn D189 w188.drew w230 ∧
  K (r229.1, ()) w230)
  (K (false, ()) w228)))) ∧
  (NewV #[.int .i64 (r9.1 + 1)] 3 w188.drew fun b231 w232 =>
  KeepOn D189 w188.drew w232 ∧
  NewV #[] 3 w232 fun b233 w234 =>
  KeepOn D189 w188.drew w234 ∧
  AppS w234 a1 n1 1 fun ns239 =>
  AppV w234 3 1 8 (some ⟨b233, 0, none⟩) 0 0 ns239 n1 fun a235 n236 c237 w238 =>
  KeepOn D189 w188.drew w238 ∧
  AppS w238 (some ⟨b231, 0, none⟩) 1 1 fun ns244 =>
  AppV w238 3 1 8 a235 n236 c237 ns244 1 fun a240 n241 c242 w243 =>
  KeepOn D189 w188.drew w243 ∧
  CallV Try.prog 47 #[.agg #[.int .i64 x196.1, .int .i64 x196.2.1, .int .i64 x196.2.2.1, .int .i64 x196.2.2.2.1, .int .i64 x196.2.2.2.2.1, .int .i64 x196.2.2.2.2.2.1], .slice a240 n241 c242] w243 [.one (.int .i64)] fun (r245 : Int × Unit) w246 =>
  KeepOn D189 w188.drew w246 ∧
  cond (r245.1 != 0)
  (CallV Try.prog 23 #[] w246 [.one .bool] fun (r247 : Bool × Unit) w248 =>
  KeepOn D189 w188.drew w248 ∧
  K (r247.1, ()) w248)
  (K (false, ()) w246))))))))))
  (((((DrawV fun D249 =>
  cond (r9.1 == 65535)
  (((((CallV Try.prog 23 #[] w18.drew.drew [.one .bool] fun (r250 : Bool × Unit) w251 =>
  KeepOn D249 w18.drew.drew w251 ∧
  K (r250.1, ()) w251) ∧
  (CallV Try.prog 23 #[] w18.drew.drew [.one .bool] fun (r252 : Bool × Unit) w253 =>
  KeepOn D249 w18.drew.drew w253 ∧
  K (r252.1, ()) w253))) ∧
  (CallV Try.prog 23 #[] w18.drew.drew [.one .bool] fun (r254 : Bool × Unit) w255 =>
  KeepOn D249 w18.drew.drew w255 ∧
  K (r254.1, ()) w255)))
  ((D249 b1 ∧ LoadA w18.drew.drew ⟨b1, 0, none⟩ [.int .i64, .int .i64, .int .i64, .int .i64, .int .i64, .int .i64] fun (x256 : Int × Int × Int × Int × Int × Int × Unit) =>
  Rng .i64 (r9.1 + 1) ∧
  ((NewV #[] 3 w18.drew.drew fun b257 w258 =>
  KeepOn D249 w18.drew.drew w258 ∧
  ((AppS w258 a1 n1 1 fun ns263 =>
  AppV w258 3 1 8 (some ⟨b257, 0, none⟩) 0 0 ns263 n1 fun a259 n260 c261 w262 =>
  KeepOn D249 w18.drew.drew w262 ∧
  NewV #[.int .i64 (r9.1 + 1)] 3 w262 fun b264 w265 =>
  KeepOn D249 w18.drew.drew w265 ∧
  AppS w265 (some ⟨b264, 0, none⟩) 1 1 fun ns270 =>
  AppV w265 3 1 8 a259 n260 c261 ns270 1 fun a266 n267 c268 w269 =>
  KeepOn D249 w18.drew.drew w269 ∧
  CallV Try.prog 47 #[.agg #[.int .i64 x256.1, .int .i64 x256.2.1, .int .i64 x256.2.2.1, .int .i64 x256.2.2.2.1, .int .i64 x256.2.2.2.2.1, .int .i64 x256.2.2.2.2.2.1], .slice a266 n267 c268] w269 [.one (.int .i64)] fun (r271 : Int × Unit) w272 =>
  KeepOn D249 w18.drew.drew w272 ∧
  cond (r271.1 != 0)
  (CallV Try.prog 23 #[] w272 [.one .bool] fun (r273 : Bool × Unit) w274 =>
  KeepOn D249 w18.drew.drew w274 ∧
  K (r273.1, ()) w274)
  (K (false, ()) w272)) ∧
  (NewV #[.int .i64 (r9.1 + 1)] 3 w258 fun b275 w276 =>
  KeepOn D249 w18.drew.drew w276 ∧
  AppS w276 a1 n1 1 fun ns281 =>
  AppV w276 3 1 8 (some ⟨b257, 0, none⟩) 0 0 ns281 n1 fun a277 n278 c279 w280 =>
  KeepOn D249 w18.drew.drew w280 ∧
  AppS w280 (some ⟨b275, 0, none⟩) 1 1 fun ns286 =>
  AppV w280 3 1 8 a277 n278 c279 ns286 1 fun a282 n283 c284 w285 =>
  KeepOn D249 w18.drew.drew w285 ∧
  CallV Try.prog 47 #[.agg #[.int .i64 x256.1, .int .i64 x256.2.1, .int .i64 x256.2.2.1, .int .i64 x256.2.2.2.1, .int .i64 x256.2.2.2.2.1, .int .i64 x256.2.2.2.2.2.1], .slice a282 n283 c284] w285 [.one (.int .i64)] fun (r287 : Int × Unit) w288 =>
  KeepOn D249 w18.drew.drew w288 ∧
  cond (r287.1 != 0)
  (CallV Try.prog 23 #[] w288 [.one .bool] fun (r289 : Bool × Unit) w290 =>
  KeepOn D249 w18.drew.drew w290 ∧
  K (r289.1, ()) w290)
  (K (false, ()) w288)))) ∧
  (NewV #[.int .i64 (r9.1 + 1)] 3 w18.drew.drew fun b291 w292 =>
  KeepOn D249 w18.drew.drew w292 ∧
  NewV #[] 3 w292 fun b293 w294 =>
  KeepOn D249 w18.drew.drew w294 ∧
  AppS w294 a1 n1 1 fun ns299 =>
  AppV w294 3 1 8 (some ⟨b293, 0, none⟩) 0 0 ns299 n1 fun a295 n296 c297 w298 =>
  KeepOn D249 w18.drew.drew w298 ∧
  AppS w298 (some ⟨b291, 0, none⟩) 1 1 fun ns304 =>
  AppV w298 3 1 8 a295 n296 c297 ns304 1 fun a300 n301 c302 w303 =>
  KeepOn D249 w18.drew.drew w303 ∧
  CallV Try.prog 47 #[.agg #[.int .i64 x256.1, .int .i64 x256.2.1, .int .i64 x256.2.2.1, .int .i64 x256.2.2.2.1, .int .i64 x256.2.2.2.2.1, .int .i64 x256.2.2.2.2.2.1], .slice a300 n301 c302] w303 [.one (.int .i64)] fun (r305 : Int × Unit) w306 =>
  KeepOn D249 w18.drew.drew w306 ∧
  cond (r305.1 != 0)
  (CallV Try.prog 23 #[] w306 [.one .bool] fun (r307 : Bool × Unit) w308 =>
  KeepOn D249 w18.drew.drew w308 ∧
  K (r307.1, ()) w308)
  (K (false, ()) w306)))))) ∧
  (DrawV fun D309 =>
  cond (r9.1 == 65535)
  (((((CallV Try.prog 23 #[] w18.drew.drew [.one .bool] fun (r310 : Bool × Unit) w311 =>
  KeepOn D309 w18.drew.drew w311 ∧
  K (r310.1, ()) w311) ∧
  (CallV Try.prog 23 #[] w18.drew.drew [.one .bool] fun (r312 : Bool × Unit) w313 =>
  KeepOn D309 w18.drew.drew w313 ∧
  K (r312.1, ()) w313))) ∧
  (CallV Try.prog 23 #[] w18.drew.drew [.one .bool] fun (r314 : Bool × Unit) w315 =>
  KeepOn D309 w18.drew.drew w315 ∧
  K (r314.1, ()) w315)))
  ((D309 b1 ∧ LoadA w18.drew.drew ⟨b1, 0, none⟩ [.int .i64, .int .i64, .int .i64, .int .i64, .int .i64, .int .i64] fun (x316 : Int × Int × Int × Int × Int × Int × Unit) =>
  Rng .i64 (r9.1 + 1) ∧
  ((NewV #[] 3 w18.drew.drew fun b317 w318 =>
  KeepOn D309 w18.drew.drew w318 ∧
  ((AppS w318 a1 n1 1 fun ns323 =>
  AppV w318 3 1 8 (some ⟨b317, 0, none⟩) 0 0 ns323 n1 fun a319 n320 c321 w322 =>
  KeepOn D309 w18.drew.drew w322 ∧
  NewV #[.int .i64 (r9.1 + 1)] 3 w322 fun b324 w325 =>
  KeepOn D309 w18.drew.drew w325 ∧
  AppS w325 (some ⟨b324, 0, none⟩) 1 1 fun ns330 =>
  AppV w325 3 1 8 a319 n320 c321 ns330 1 fun a326 n327 c328 w329 =>
  KeepOn D309 w18.drew.drew w329 ∧
  CallV Try.prog 47 #[.agg #[.int .i64 x316.1, .int .i64 x316.2.1, .int .i64 x316.2.2.1, .int .i64 x316.2.2.2.1, .int .i64 x316.2.2.2.2.1, .int .i64 x316.2.2.2.2.2.1], .slice a326 n327 c328] w329 [.one (.int .i64)] fun (r331 : Int × Unit) w332 =>
  KeepOn D309 w18.drew.drew w332 ∧
  cond (r331.1 != 0)
  (CallV Try.prog 23 #[] w332 [.one .bool] fun (r333 : Bool × Unit) w334 =>
  KeepOn D309 w18.drew.drew w334 ∧
  K (r333.1, ()) w334)
  (K (false, ()) w332)) ∧
  (NewV #[.int .i64 (r9.1 + 1)] 3 w318 fun b335 w336 =>
  KeepOn D309 w18.drew.drew w336 ∧
  AppS w336 a1 n1 1 fun ns341 =>
  AppV w336 3 1 8 (some ⟨b317, 0, none⟩) 0 0 ns341 n1 fun a337 n338 c339 w340 =>
  KeepOn D309 w18.drew.drew w340 ∧
  AppS w340 (some ⟨b335, 0, none⟩) 1 1 fun ns346 =>
  AppV w340 3 1 8 a337 n338 c339 ns346 1 fun a342 n343 c344 w345 =>
  KeepOn D309 w18.drew.drew w345 ∧
  CallV Try.prog 47 #[.agg #[.int .i64 x316.1, .int .i64 x316.2.1, .int .i64 x316.2.2.1, .int .i64 x316.2.2.2.1, .int .i64 x316.2.2.2.2.1, .int .i64 x316.2.2.2.2.2.1], .slice a342 n343 c344] w345 [.one (.int .i64)] fun (r347 : Int × Unit) w348 =>
  KeepOn D309 w18.drew.drew w348 ∧
  cond (r347.1 != 0)
  (CallV Try.prog 23 #[] w348 [.one .bool] fun (r349 : Bool × Unit) w350 =>
  KeepOn D309 w18.drew.drew w350 ∧
  K (r349.1, ()) w350)
  (K (false, ()) w348)))) ∧
  (NewV #[.int .i64 (r9.1 + 1)] 3 w18.drew.drew fun b351 w352 =>
  KeepOn D309 w18.drew.drew w352 ∧
  NewV #[] 3 w352 fun b353 w354 =>
  KeepOn D309 w18.drew.drew w354 ∧
  AppS w354 a1 n1 1 fun ns359 =>
  AppV w354 3 1 8 (some ⟨b353, 0, none⟩) 0 0 ns359 n1 fun a355 n356 c357 w358 =>
  KeepOn D309 w18.drew.drew w358 ∧
  AppS w358 (some ⟨b351, 0, none⟩) 1 1 fun ns364 =>
  AppV w358 3 1 8 a355 n356 c357 ns364 1 fun a360 n361 c362 w363 =>
  KeepOn D309 w18.drew.drew w363 ∧
  CallV Try.prog 47 #[.agg #[.int .i64 x316.1, .int .i64 x316.2.1, .int .i64 x316.2.2.1, .int .i64 x316.2.2.2.1, .int .i64 x316.2.2.2.2.1, .int .i64 x316.2.2.2.2.2.1], .slice a360 n361 c362] w363 [.one (.int .i64)] fun (r365 : Int × Unit) w366 =>
  KeepOn D309 w18.drew.drew w366 ∧
  cond (r365.1 != 0)
  (CallV Try.prog 23 #[] w366 [.one .bool] fun (r367 : Bool × Unit) w368 =>
  KeepOn D309 w18.drew.drew w368 ∧
  K (r367.1, ()) w368)
  (K (false, ()) w366)))))))) ∧
  (DrawV fun D369 =>
  cond (r9.1 == 65535)
  (((((CallV Try.prog 23 #[] w18.drew.drew [.one .bool] fun (r370 : Bool × Unit) w371 =>
  KeepOn D369 w18.drew.drew w371 ∧
  K (r370.1, ()) w371) ∧
  (CallV Try.prog 23 #[] w18.drew.drew [.one .bool] fun (r372 : Bool × Unit) w373 =>
  KeepOn D369 w18.drew.drew w373 ∧
  K (r372.1, ()) w373))) ∧
  (CallV Try.prog 23 #[] w18.drew.drew [.one .bool] fun (r374 : Bool × Unit) w375 =>
  KeepOn D369 w18.drew.drew w375 ∧
  K (r374.1, ()) w375)))
  ((D369 b1 ∧ LoadA w18.drew.drew ⟨b1, 0, none⟩ [.int .i64, .int .i64, .int .i64, .int .i64, .int .i64, .int .i64] fun (x376 : Int × Int × Int × Int × Int × Int × Unit) =>
  Rng .i64 (r9.1 + 1) ∧
  ((NewV #[] 3 w18.drew.drew fun b377 w378 =>
  KeepOn D369 w18.drew.drew w378 ∧
  ((AppS w378 a1 n1 1 fun ns383 =>
  AppV w378 3 1 8 (some ⟨b377, 0, none⟩) 0 0 ns383 n1 fun a379 n380 c381 w382 =>
  KeepOn D369 w18.drew.drew w382 ∧
  NewV #[.int .i64 (r9.1 + 1)] 3 w382 fun b384 w385 =>
  KeepOn D369 w18.drew.drew w385 ∧
  AppS w385 (some ⟨b384, 0, none⟩) 1 1 fun ns390 =>
  AppV w385 3 1 8 a379 n380 c381 ns390 1 fun a386 n387 c388 w389 =>
  KeepOn D369 w18.drew.drew w389 ∧
  CallV Try.prog 47 #[.agg #[.int .i64 x376.1, .int .i64 x376.2.1, .int .i64 x376.2.2.1, .int .i64 x376.2.2.2.1, .int .i64 x376.2.2.2.2.1, .int .i64 x376.2.2.2.2.2.1], .slice a386 n387 c388] w389 [.one (.int .i64)] fun (r391 : Int × Unit) w392 =>
  KeepOn D369 w18.drew.drew w392 ∧
  cond (r391.1 != 0)
  (CallV Try.prog 23 #[] w392 [.one .bool] fun (r393 : Bool × Unit) w394 =>
  KeepOn D369 w18.drew.drew w394 ∧
  K (r393.1, ()) w394)
  (K (false, ()) w392)) ∧
  (NewV #[.int .i64 (r9.1 + 1)] 3 w378 fun b395 w396 =>
  KeepOn D369 w18.drew.drew w396 ∧
  AppS w396 a1 n1 1 fun ns401 =>
  AppV w396 3 1 8 (some ⟨b377, 0, none⟩) 0 0 ns401 n1 fun a397 n398 c399 w400 =>
  KeepOn D369 w18.drew.drew w400 ∧
  AppS w400 (some ⟨b395, 0, none⟩) 1 1 fun ns406 =>
  AppV w400 3 1 8 a397 n398 c399 ns406 1 fun a402 n403 c404 w405 =>
  KeepOn D369 w18.drew.drew w405 ∧
  CallV Try.prog 47 #[.agg #[.int .i64 x376.1, .int .i64 x376.2.1, .int .i64 x376.2.2.1, .int .i64 x376.2.2.2.1, .int .i64 x376.2.2.2.2.1, .int .i64 x376.2.2.2.2.2.1], .slice a402 n403 c404] w405 [.one (.int .i64)] fun (r407 : Int × Unit) w408 =>
  KeepOn D369 w18.drew.drew w408 ∧
  cond (r407.1 != 0)
  (CallV Try.prog 23 #[] w408 [.one .bool] fun (r409 : Bool × Unit) w410 =>
  KeepOn D369 w18.drew.drew w410 ∧
  K (r409.1, ()) w410)
  (K (false, ()) w408)))) ∧
  (NewV #[.int .i64 (r9.1 + 1)] 3 w18.drew.drew fun b411 w412 =>
  KeepOn D369 w18.drew.drew w412 ∧
  NewV #[] 3 w412 fun b413 w414 =>
  KeepOn D369 w18.drew.drew w414 ∧
  AppS w414 a1 n1 1 fun ns419 =>
  AppV w414 3 1 8 (some ⟨b413, 0, none⟩) 0 0 ns419 n1 fun a415 n416 c417 w418 =>
  KeepOn D369 w18.drew.drew w418 ∧
  AppS w418 (some ⟨b411, 0, none⟩) 1 1 fun ns424 =>
  AppV w418 3 1 8 a415 n416 c417 ns424 1 fun a420 n421 c422 w423 =>
  KeepOn D369 w18.drew.drew w423 ∧
  CallV Try.prog 47 #[.agg #[.int .i64 x376.1, .int .i64 x376.2.1, .int .i64 x376.2.2.1, .int .i64 x376.2.2.2.1, .int .i64 x376.2.2.2.2.1, .int .i64 x376.2.2.2.2.2.1], .slice a420 n421 c422] w423 [.one (.int .i64)] fun (r425 : Int × Unit) w426 =>
  KeepOn D369 w18.drew.drew w426 ∧
  cond (r425.1 != 0)
  (CallV Try.prog 23 #[] w426 [.one .bool] fun (r427 : Bool × Unit) w428 =>
  KeepOn D369 w18.drew.drew w428 ∧
  K (r427.1, ()) w428)
  (K (false, ()) w426))))))))))))))
theorem law11_GeometryFits.vc (p0_0 : Int) (p0_1 : Int) (p0_2 : Int) (p0_3 : Int) (p0_4 : Int) (p0_5 : Int) (a1 : Option Addr) (n1 c1 : Nat) (w : World) (K : Bool × Unit → World → Prop) (h : law11_GeometryFits.P p0_0 p0_1 p0_2 p0_3 p0_4 p0_5 a1 n1 c1 w K) : CallV Try.prog 11 #[.agg #[.int .i64 p0_0, .int .i64 p0_1, .int .i64 p0_2, .int .i64 p0_3, .int .i64 p0_4, .int .i64 p0_5], .slice a1 n1 c1] w [.one .bool] K := by
  have e : vcFun Try.prog okf false Try.f11 law11_GeometryFits.A #[.agg #[.int .i64 p0_0, .int .i64 p0_1, .int .i64 p0_2, .int .i64 p0_3, .int .i64 p0_4, .int .i64 p0_5], .slice a1 n1 c1] w [.one .bool] K = law11_GeometryFits.P p0_0 p0_1 p0_2 p0_3 p0_4 p0_5 a1 n1 c1 w K := by kernel_rfl
  exact vcFun.calls okf_ok follows Try.func11 (e.symm ▸ h)

end Go.Proofs.Ytimbomieepefcaa.Vc
