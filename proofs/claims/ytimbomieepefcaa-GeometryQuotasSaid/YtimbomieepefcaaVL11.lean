/- The plans of functions as plain statements, printed by wip/tools/vcgen.py; the kernel holds each to the code. -/
import Derived.Test.YtimbomieepefcaaEnv
namespace Go.Proofs.Ytimbomieepefcaa.Vc
open Go Go.Eng
set_option linter.unusedVariables false

/-! ### nepenthe/nepenthelaw11.GeometryChecks: function 4 -/
def law11_GeometryChecks.A : Ann := .two .no (.two (.two .no (.two (.two (.draw (.take 0 (.eff 1 (.take 2 (.take 3 (.take 4 (.take 6 (.take 9 (.take 12 (.take 15 (.eff 5 (.eff 7 (.take 8 (.eff 10 (.take 11 (.eff 13 (.take 14 (.eff 16 (.take 17 (.take 18 (.take 19 (.take 20 (.eff 21 (.take 22 (.take 23 (.done)))))))))))))))))))))))))) .no) .no)) (.two (.draw (.take 0 (.eff 1 (.take 2 (.take 3 (.take 4 (.take 6 (.take 7 (.take 8 (.eff 5 (.take 9 (.take 10 (.take 11 (.take 12 (.take 14 (.take 15 (.take 16 (.eff 13 (.take 17 (.take 18 (.take 19 (.take 20 (.take 22 (.take 23 (.take 24 (.eff 21 (.take 25 (.take 26 (.take 27 (.take 28 (.take 30 (.eff 29 (.eff 31 (.take 32 (.take 33 (.take 34 (.take 35 (.take 37 (.take 38 (.take 39 (.take 40 (.take 41 (.take 42 (.take 43 (.take 44 (.take 45 (.take 46 (.take 47 (.take 48 (.eff 36 (.take 49 (.take 50 (.take 51 (.eff 52 (.take 53 (.take 54 (.done))))))))))))))))))))))))))))))))))))))))))))))))))))))))) .no))
def law11_GeometryChecks.P (p0_0 : Int) (p0_1 : Int) (p0_2 : Int) (p0_3 : Int) (p0_4 : Int) (p0_5 : Int) (w : World) (K : Bool × Unit → World → Prop) : Prop :=
  NewV #[.int .i64 p0_0, .int .i64 p0_1, .int .i64 p0_2, .int .i64 p0_3, .int .i64 p0_4, .int .i64 p0_5] 28 w fun b1 w2 =>
  LoadA w2 ⟨b1, 0, none⟩ [.int .i64, .int .i64, .int .i64, .int .i64, .int .i64, .int .i64] fun (x3 : Int × Int × Int × Int × Int × Int × Unit) =>
  CallV Try.prog 16 #[.agg #[.int .i64 x3.1, .int .i64 x3.2.1, .int .i64 x3.2.2.1, .int .i64 x3.2.2.2.1, .int .i64 x3.2.2.2.2.1, .int .i64 x3.2.2.2.2.2.1]] w2 [.one .bool] fun (r4 : Bool × Unit) w5 =>
  cond (!r4.1)
  (DrawV fun D6 =>
  (D6 b1 ∧ LoadA w5.drew ⟨b1, 0, none⟩ [.int .i64, .int .i64, .int .i64, .int .i64, .int .i64, .int .i64] fun (x7 : Int × Int × Int × Int × Int × Int × Unit) =>
  CallV Try.prog 17 #[.agg #[.int .i64 x7.1, .int .i64 x7.2.1, .int .i64 x7.2.2.1, .int .i64 x7.2.2.2.1, .int .i64 x7.2.2.2.2.1, .int .i64 x7.2.2.2.2.2.1]] w5.drew [.one (.int .i64)] fun (r8 : Int × Unit) w9 =>
  KeepOn D6 w5.drew w9 ∧
  cond (r8.1 == 2)
  ((D6 b1 ∧ LoadA w5.drew ⟨b1, 0, none⟩ [.int .i64, .int .i64, .int .i64, .int .i64, .int .i64, .int .i64] fun (x10 : Int × Int × Int × Int × Int × Int × Unit) =>
  (D6 b1 ∧ LoadA w5.drew ⟨b1, 0, none⟩ [.int .i64, .int .i64, .int .i64, .int .i64, .int .i64, .int .i64] fun (x11 : Int × Int × Int × Int × Int × Int × Unit) =>
  (D6 b1 ∧ LoadA w5.drew ⟨b1, 0, none⟩ [.int .i64, .int .i64, .int .i64, .int .i64, .int .i64, .int .i64] fun (x12 : Int × Int × Int × Int × Int × Int × Unit) =>
  (D6 b1 ∧ LoadA w5.drew ⟨b1, 0, none⟩ [.int .i64, .int .i64, .int .i64, .int .i64, .int .i64, .int .i64] fun (x13 : Int × Int × Int × Int × Int × Int × Unit) =>
  (D6 b1 ∧ LoadA w5.drew ⟨b1, 0, none⟩ [.int .i64, .int .i64, .int .i64, .int .i64, .int .i64, .int .i64] fun (x14 : Int × Int × Int × Int × Int × Int × Unit) =>
  CallV Try.prog 18 #[.agg #[.int .i64 x10.1, .int .i64 x10.2.1, .int .i64 x10.2.2.1, .int .i64 x10.2.2.2.1, .int .i64 x10.2.2.2.2.1, .int .i64 x10.2.2.2.2.2.1]] w9 [.one (.int .i64)] fun (r15 : Int × Unit) w16 =>
  KeepOn D6 w5.drew w16 ∧
  CallV Try.prog 19 #[.agg #[.int .i64 x11.1, .int .i64 x11.2.1, .int .i64 x11.2.2.1, .int .i64 x11.2.2.2.1, .int .i64 x11.2.2.2.2.1, .int .i64 x11.2.2.2.2.2.1]] w16 [.one (.int .i64)] fun (r17 : Int × Unit) w18 =>
  KeepOn D6 w5.drew w18 ∧
  Rng .i64 (r15.1 + r17.1) ∧
  CallV Try.prog 20 #[.agg #[.int .i64 x12.1, .int .i64 x12.2.1, .int .i64 x12.2.2.1, .int .i64 x12.2.2.2.1, .int .i64 x12.2.2.2.2.1, .int .i64 x12.2.2.2.2.2.1]] w18 [.one (.int .i64)] fun (r19 : Int × Unit) w20 =>
  KeepOn D6 w5.drew w20 ∧
  Rng .i64 ((r15.1 + r17.1) + r19.1) ∧
  CallV Try.prog 21 #[.agg #[.int .i64 x13.1, .int .i64 x13.2.1, .int .i64 x13.2.2.1, .int .i64 x13.2.2.2.1, .int .i64 x13.2.2.2.2.1, .int .i64 x13.2.2.2.2.2.1]] w20 [.one (.int .i64)] fun (r21 : Int × Unit) w22 =>
  KeepOn D6 w5.drew w22 ∧
  Rng .i64 (((r15.1 + r17.1) + r19.1) + r21.1) ∧
  CallV Try.prog 22 #[.agg #[.int .i64 x14.1, .int .i64 x14.2.1, .int .i64 x14.2.2.1, .int .i64 x14.2.2.2.1, .int .i64 x14.2.2.2.2.1, .int .i64 x14.2.2.2.2.2.1]] w22 [.one (.int .i64)] fun (r23 : Int × Unit) w24 =>
  KeepOn D6 w5.drew w24 ∧
  Rng .i64 ((((r15.1 + r17.1) + r19.1) + r21.1) + r23.1) ∧
  cond (((((r15.1 + r17.1) + r19.1) + r21.1) + r23.1) == 0)
  (CallV Try.prog 23 #[] w24 [.one .bool] fun (r25 : Bool × Unit) w26 =>
  KeepOn D6 w5.drew w26 ∧
  K (r25.1, ()) w26)
  (K (false, ()) w24)))))))
  (K (false, ()) w9)))
  (DrawV fun D27 =>
  (D27 b1 ∧ LoadA w5.drew ⟨b1, 0, none⟩ [.int .i64, .int .i64, .int .i64, .int .i64, .int .i64, .int .i64] fun (x28 : Int × Int × Int × Int × Int × Int × Unit) =>
  CallV Try.prog 17 #[.agg #[.int .i64 x28.1, .int .i64 x28.2.1, .int .i64 x28.2.2.1, .int .i64 x28.2.2.2.1, .int .i64 x28.2.2.2.2.1, .int .i64 x28.2.2.2.2.2.1]] w5.drew [.one (.int .i64)] fun (r29 : Int × Unit) w30 =>
  KeepOn D27 w5.drew w30 ∧
  cond (r29.1 == 0)
  ((D27 b1 ∧ LoadA w5.drew ⟨b1, 0, none⟩ [.int .i64, .int .i64, .int .i64, .int .i64, .int .i64, .int .i64] fun (x31 : Int × Int × Int × Int × Int × Int × Unit) =>
  (D27 b1 ∧ LoadS w5.drew ⟨b1, 0, none⟩ (.int .i64) fun (x32 : Int) =>
  Rng .i64 (x32 - 4) ∧
  CallV Try.prog 18 #[.agg #[.int .i64 x31.1, .int .i64 x31.2.1, .int .i64 x31.2.2.1, .int .i64 x31.2.2.2.1, .int .i64 x31.2.2.2.2.1, .int .i64 x31.2.2.2.2.2.1]] w30 [.one (.int .i64)] fun (r33 : Int × Unit) w34 =>
  KeepOn D27 w5.drew w34 ∧
  cond (r33.1 == (x32 - 4))
  ((D27 b1 ∧ LoadA w5.drew ⟨b1, 0, none⟩ [.int .i64, .int .i64, .int .i64, .int .i64, .int .i64, .int .i64] fun (x35 : Int × Int × Int × Int × Int × Int × Unit) =>
  (D27 b1 ∧ LoadS w5.drew ⟨b1, 1, none⟩ (.int .i64) fun (x36 : Int) =>
  Rng .i64 (x36 - 1) ∧
  CallV Try.prog 19 #[.agg #[.int .i64 x35.1, .int .i64 x35.2.1, .int .i64 x35.2.2.1, .int .i64 x35.2.2.2.1, .int .i64 x35.2.2.2.2.1, .int .i64 x35.2.2.2.2.2.1]] w34 [.one (.int .i64)] fun (r37 : Int × Unit) w38 =>
  KeepOn D27 w5.drew w38 ∧
  cond (r37.1 == (x36 - 1))
  ((D27 b1 ∧ LoadA w5.drew ⟨b1, 0, none⟩ [.int .i64, .int .i64, .int .i64, .int .i64, .int .i64, .int .i64] fun (x39 : Int × Int × Int × Int × Int × Int × Unit) =>
  (D27 b1 ∧ LoadS w5.drew ⟨b1, 2, none⟩ (.int .i64) fun (x40 : Int) =>
  Rng .i64 (x40 + 88) ∧
  CallV Try.prog 20 #[.agg #[.int .i64 x39.1, .int .i64 x39.2.1, .int .i64 x39.2.2.1, .int .i64 x39.2.2.2.1, .int .i64 x39.2.2.2.2.1, .int .i64 x39.2.2.2.2.2.1]] w38 [.one (.int .i64)] fun (r41 : Int × Unit) w42 =>
  KeepOn D27 w5.drew w42 ∧
  cond (r41.1 == (x40 + 88))
  ((D27 b1 ∧ LoadA w5.drew ⟨b1, 0, none⟩ [.int .i64, .int .i64, .int .i64, .int .i64, .int .i64, .int .i64] fun (x43 : Int × Int × Int × Int × Int × Int × Unit) =>
  (D27 b1 ∧ LoadA w5.drew ⟨b1, 0, none⟩ [.int .i64, .int .i64, .int .i64, .int .i64, .int .i64, .int .i64] fun (x44 : Int × Int × Int × Int × Int × Int × Unit) =>
  CallV Try.prog 21 #[.agg #[.int .i64 x43.1, .int .i64 x43.2.1, .int .i64 x43.2.2.1, .int .i64 x43.2.2.2.1, .int .i64 x43.2.2.2.2.1, .int .i64 x43.2.2.2.2.2.1]] w42 [.one (.int .i64)] fun (r45 : Int × Unit) w46 =>
  KeepOn D27 w5.drew w46 ∧
  CallV Try.prog 24 #[.agg #[.int .i64 x44.1, .int .i64 x44.2.1, .int .i64 x44.2.2.1, .int .i64 x44.2.2.2.1, .int .i64 x44.2.2.2.2.1, .int .i64 x44.2.2.2.2.2.1]] w46 [.one (.int .i64)] fun (r47 : Int × Unit) w48 =>
  KeepOn D27 w5.drew w48 ∧
  cond (r45.1 == r47.1)
  ((D27 b1 ∧ LoadA w5.drew ⟨b1, 0, none⟩ [.int .i64, .int .i64, .int .i64, .int .i64, .int .i64, .int .i64] fun (x49 : Int × Int × Int × Int × Int × Int × Unit) =>
  (D27 b1 ∧ LoadS w5.drew ⟨b1, 0, none⟩ (.int .i64) fun (x50 : Int) =>
  Rng .i64 ((40 : Int) * x50) ∧
  (D27 b1 ∧ LoadS w5.drew ⟨b1, 0, none⟩ (.int .i64) fun (x51 : Int) =>
  Rng .i64 (((40 : Int) * x50) * x51) ∧
  (D27 b1 ∧ LoadS w5.drew ⟨b1, 1, none⟩ (.int .i64) fun (x52 : Int) =>
  Rng .i64 ((((40 : Int) * x50) * x51) * x52) ∧
  (D27 b1 ∧ LoadS w5.drew ⟨b1, 1, none⟩ (.int .i64) fun (x53 : Int) =>
  Rng .i64 (((((40 : Int) * x50) * x51) * x52) * x53) ∧
  CallV Try.prog 22 #[.agg #[.int .i64 x49.1, .int .i64 x49.2.1, .int .i64 x49.2.2.1, .int .i64 x49.2.2.2.1, .int .i64 x49.2.2.2.2.1, .int .i64 x49.2.2.2.2.2.1]] w48 [.one (.int .i64)] fun (r54 : Int × Unit) w55 =>
  KeepOn D27 w5.drew w55 ∧
  cond (r54.1 == (((((40 : Int) * x50) * x51) * x52) * x53))
  (CallV Try.prog 23 #[] w55 [.one .bool] fun (r56 : Bool × Unit) w57 =>
  KeepOn D27 w5.drew w57 ∧
  K (r56.1, ()) w57)
  (K (false, ()) w55)))))))
  (K (false, ()) w48))))
  (K (false, ()) w42))))
  (K (false, ()) w38))))
  (K (false, ()) w34))))
  (K (false, ()) w30)))
theorem law11_GeometryChecks.vc (p0_0 : Int) (p0_1 : Int) (p0_2 : Int) (p0_3 : Int) (p0_4 : Int) (p0_5 : Int) (w : World) (K : Bool × Unit → World → Prop) (h : law11_GeometryChecks.P p0_0 p0_1 p0_2 p0_3 p0_4 p0_5 w K) : CallV Try.prog 4 #[.agg #[.int .i64 p0_0, .int .i64 p0_1, .int .i64 p0_2, .int .i64 p0_3, .int .i64 p0_4, .int .i64 p0_5]] w [.one .bool] K := by
  have e : vcFun Try.prog okf false Try.f4 law11_GeometryChecks.A #[.agg #[.int .i64 p0_0, .int .i64 p0_1, .int .i64 p0_2, .int .i64 p0_3, .int .i64 p0_4, .int .i64 p0_5]] w [.one .bool] K = law11_GeometryChecks.P p0_0 p0_1 p0_2 p0_3 p0_4 p0_5 w K := by kernel_rfl
  exact vcFun.calls okf_ok follows Try.func4 (e.symm ▸ h)

/-! ### nepenthe/nepenthelaw11.GeometryIndexes: function 5 -/
def law11_GeometryIndexes.A : Ann := .no
def law11_GeometryIndexes.P (p0_0 : Int) (p0_1 : Int) (p0_2 : Int) (p0_3 : Int) (p0_4 : Int) (p0_5 : Int) (p1_0 : Int) (p1_1 : Int) (w : World) (K : Bool × Unit → World → Prop) : Prop :=
  NewV #[.int .i64 p0_0, .int .i64 p0_1, .int .i64 p0_2, .int .i64 p0_3, .int .i64 p0_4, .int .i64 p0_5] 28 w fun b1 w2 =>
  NewV #[.int .i64 p1_0, .int .i64 p1_1] 34 w2 fun b3 w4 =>
  LoadA w4 ⟨b1, 0, none⟩ [.int .i64, .int .i64, .int .i64, .int .i64, .int .i64, .int .i64] fun (x5 : Int × Int × Int × Int × Int × Int × Unit) =>
  LoadA w4 ⟨b3, 0, none⟩ [.int .i64, .int .i64] fun (x6 : Int × Int × Unit) =>
  CallV Try.prog 25 #[.agg #[.int .i64 x5.1, .int .i64 x5.2.1, .int .i64 x5.2.2.1, .int .i64 x5.2.2.2.1, .int .i64 x5.2.2.2.2.1, .int .i64 x5.2.2.2.2.2.1], .agg #[.int .i64 x6.1, .int .i64 x6.2.1]] w4 [.one (.int .i64), .one (.int .i64)] fun (r7 : Int × Int × Unit) w8 =>
  LoadA w8 ⟨b1, 0, none⟩ [.int .i64, .int .i64, .int .i64, .int .i64, .int .i64, .int .i64] fun (x9 : Int × Int × Int × Int × Int × Int × Unit) =>
  CallV Try.prog 16 #[.agg #[.int .i64 x9.1, .int .i64 x9.2.1, .int .i64 x9.2.2.1, .int .i64 x9.2.2.2.1, .int .i64 x9.2.2.2.2.1, .int .i64 x9.2.2.2.2.2.1]] w8 [.one .bool] fun (r10 : Bool × Unit) w11 =>
  cond (!r10.1)
  (cond (r7.2.1 == 2)
  (cond (r7.1 == 0)
  (CallV Try.prog 23 #[] w11 [.one .bool] fun (r12 : Bool × Unit) w13 =>
  K (r12.1, ()) w13)
  (K (false, ()) w11))
  (K (false, ()) w11))
  (LoadS w11 ⟨b3, 0, none⟩ (.int .i64) fun (x14 : Int) =>
  cond (decide (x14 < 0))
  (cond (r7.2.1 == 2)
  (cond (r7.1 == 0)
  (CallV Try.prog 23 #[] w11 [.one .bool] fun (r15 : Bool × Unit) w16 =>
  K (r15.1, ()) w16)
  (K (false, ()) w11))
  (K (false, ()) w11))
  (LoadS w11 ⟨b3, 0, none⟩ (.int .i64) fun (x17 : Int) =>
  LoadS w11 ⟨b1, 0, none⟩ (.int .i64) fun (x18 : Int) =>
  cond (decide (x17 ≥ x18))
  (cond (r7.2.1 == 2)
  (cond (r7.1 == 0)
  (CallV Try.prog 23 #[] w11 [.one .bool] fun (r19 : Bool × Unit) w20 =>
  K (r19.1, ()) w20)
  (K (false, ()) w11))
  (K (false, ()) w11))
  (LoadS w11 ⟨b3, 1, none⟩ (.int .i64) fun (x21 : Int) =>
  cond (decide (x21 < 0))
  (cond (r7.2.1 == 2)
  (cond (r7.1 == 0)
  (CallV Try.prog 23 #[] w11 [.one .bool] fun (r22 : Bool × Unit) w23 =>
  K (r22.1, ()) w23)
  (K (false, ()) w11))
  (K (false, ()) w11))
  (LoadS w11 ⟨b3, 1, none⟩ (.int .i64) fun (x24 : Int) =>
  LoadS w11 ⟨b1, 1, none⟩ (.int .i64) fun (x25 : Int) =>
  cond (decide (x24 ≥ x25))
  (cond (r7.2.1 == 2)
  (cond (r7.1 == 0)
  (CallV Try.prog 23 #[] w11 [.one .bool] fun (r26 : Bool × Unit) w27 =>
  K (r26.1, ()) w27)
  (K (false, ()) w11))
  (K (false, ()) w11))
  (cond (r7.2.1 == 0)
  (LoadS w11 ⟨b3, 0, none⟩ (.int .i64) fun (x28 : Int) =>
  LoadS w11 ⟨b1, 1, none⟩ (.int .i64) fun (x29 : Int) =>
  Rng .i64 (x28 * x29) ∧
  LoadS w11 ⟨b3, 1, none⟩ (.int .i64) fun (x30 : Int) =>
  Rng .i64 ((x28 * x29) + x30) ∧
  cond (r7.1 == ((x28 * x29) + x30))
  (CallV Try.prog 23 #[] w11 [.one .bool] fun (r31 : Bool × Unit) w32 =>
  K (r31.1, ()) w32)
  (K (false, ()) w11))
  (K (false, ()) w11))))))
theorem law11_GeometryIndexes.vc (p0_0 : Int) (p0_1 : Int) (p0_2 : Int) (p0_3 : Int) (p0_4 : Int) (p0_5 : Int) (p1_0 : Int) (p1_1 : Int) (w : World) (K : Bool × Unit → World → Prop) (h : law11_GeometryIndexes.P p0_0 p0_1 p0_2 p0_3 p0_4 p0_5 p1_0 p1_1 w K) : CallV Try.prog 5 #[.agg #[.int .i64 p0_0, .int .i64 p0_1, .int .i64 p0_2, .int .i64 p0_3, .int .i64 p0_4, .int .i64 p0_5], .agg #[.int .i64 p1_0, .int .i64 p1_1]] w [.one .bool] K := by
  have e : vcFun Try.prog okf false Try.f5 law11_GeometryIndexes.A #[.agg #[.int .i64 p0_0, .int .i64 p0_1, .int .i64 p0_2, .int .i64 p0_3, .int .i64 p0_4, .int .i64 p0_5], .agg #[.int .i64 p1_0, .int .i64 p1_1]] w [.one .bool] K = law11_GeometryIndexes.P p0_0 p0_1 p0_2 p0_3 p0_4 p0_5 p1_0 p1_1 w K := by kernel_rfl
  exact vcFun.calls okf_ok follows Try.func5 (e.symm ▸ h)

/-! ### nepenthe/nepenthelaw11.GeometryQuotas: function 6 -/
def law11_GeometryQuotas.A : Ann := .no
def law11_GeometryQuotas.P (p0_0 : Int) (p0_1 : Int) (p0_2 : Int) (p0_3 : Int) (p0_4 : Int) (p0_5 : Int) (p1 : Int) (w : World) (K : Bool × Unit → World → Prop) : Prop :=
  NewV #[.int .i64 p0_0, .int .i64 p0_1, .int .i64 p0_2, .int .i64 p0_3, .int .i64 p0_4, .int .i64 p0_5] 28 w fun b1 w2 =>
  LoadA w2 ⟨b1, 0, none⟩ [.int .i64, .int .i64, .int .i64, .int .i64, .int .i64, .int .i64] fun (x3 : Int × Int × Int × Int × Int × Int × Unit) =>
  CallV Try.prog 26 #[.agg #[.int .i64 x3.1, .int .i64 x3.2.1, .int .i64 x3.2.2.1, .int .i64 x3.2.2.2.1, .int .i64 x3.2.2.2.2.1, .int .i64 x3.2.2.2.2.2.1], .int .i64 p1] w2 [.one (.int .i64), .one (.int .i64)] fun (r4 : Int × Int × Unit) w5 =>
  LoadA w5 ⟨b1, 0, none⟩ [.int .i64, .int .i64, .int .i64, .int .i64, .int .i64, .int .i64] fun (x6 : Int × Int × Int × Int × Int × Int × Unit) =>
  CallV Try.prog 16 #[.agg #[.int .i64 x6.1, .int .i64 x6.2.1, .int .i64 x6.2.2.1, .int .i64 x6.2.2.2.1, .int .i64 x6.2.2.2.2.1, .int .i64 x6.2.2.2.2.2.1]] w5 [.one .bool] fun (r7 : Bool × Unit) w8 =>
  cond (!r7.1)
  (cond (r4.2.1 == 2)
  (cond (r4.1 == 0)
  (CallV Try.prog 23 #[] w8 [.one .bool] fun (r9 : Bool × Unit) w10 =>
  K (r9.1, ()) w10)
  (K (false, ()) w8))
  (K (false, ()) w8))
  (cond (decide (p1 < 1))
  (cond (r4.2.1 == 13)
  (cond (r4.1 == 0)
  (CallV Try.prog 23 #[] w8 [.one .bool] fun (r11 : Bool × Unit) w12 =>
  K (r11.1, ()) w12)
  (K (false, ()) w8))
  (K (false, ()) w8))
  (cond (decide (p1 > 65535))
  (cond (r4.2.1 == 13)
  (cond (r4.1 == 0)
  (CallV Try.prog 23 #[] w8 [.one .bool] fun (r13 : Bool × Unit) w14 =>
  K (r13.1, ()) w14)
  (K (false, ()) w8))
  (K (false, ()) w8))
  (cond (r4.2.1 == 0)
  (LoadA w8 ⟨b1, 0, none⟩ [.int .i64, .int .i64, .int .i64, .int .i64, .int .i64, .int .i64] fun (x15 : Int × Int × Int × Int × Int × Int × Unit) =>
  CallV Try.prog 27 #[.agg #[.int .i64 x15.1, .int .i64 x15.2.1, .int .i64 x15.2.2.1, .int .i64 x15.2.2.2.1, .int .i64 x15.2.2.2.2.1, .int .i64 x15.2.2.2.2.2.1], .int .i64 p1] w8 [.one (.int .i64)] fun (r16 : Int × Unit) w17 =>
  cond (r4.1 == r16.1)
  (CallV Try.prog 23 #[] w17 [.one .bool] fun (r18 : Bool × Unit) w19 =>
  K (r18.1, ()) w19)
  (K (false, ()) w17))
  (K (false, ()) w8))))
theorem law11_GeometryQuotas.vc (p0_0 : Int) (p0_1 : Int) (p0_2 : Int) (p0_3 : Int) (p0_4 : Int) (p0_5 : Int) (p1 : Int) (w : World) (K : Bool × Unit → World → Prop) (h : law11_GeometryQuotas.P p0_0 p0_1 p0_2 p0_3 p0_4 p0_5 p1 w K) : CallV Try.prog 6 #[.agg #[.int .i64 p0_0, .int .i64 p0_1, .int .i64 p0_2, .int .i64 p0_3, .int .i64 p0_4, .int .i64 p0_5], .int .i64 p1] w [.one .bool] K := by
  have e : vcFun Try.prog okf false Try.f6 law11_GeometryQuotas.A #[.agg #[.int .i64 p0_0, .int .i64 p0_1, .int .i64 p0_2, .int .i64 p0_3, .int .i64 p0_4, .int .i64 p0_5], .int .i64 p1] w [.one .bool] K = law11_GeometryQuotas.P p0_0 p0_1 p0_2 p0_3 p0_4 p0_5 p1 w K := by kernel_rfl
  exact vcFun.calls okf_ok follows Try.func6 (e.symm ▸ h)

/-! ### nepenthe/nepenthelaw11.GeometryFewer: function 10 -/
def law11_GeometryFewer.A : Ann := .two .no (.two .no (.two .no (.two .no (.two .no (.two (.draw (.take 1 (.take 2 (.take 3 (.take 5 (.take 6 (.take 7 (.take 8 (.eff 0 (.eff 4 (.eff 9 (.take 10 (.done))))))))))))) .no)))))
def law11_GeometryFewer.P (p0_0 : Int) (p0_1 : Int) (p0_2 : Int) (p0_3 : Int) (p0_4 : Int) (p0_5 : Int) (a1 : Option Addr) (n1 c1 : Nat) (p2_0 : Int) (p2_1 : Int) (w : World) (K : Bool × Unit → World → Prop) : Prop :=
  NewV #[.int .i64 p0_0, .int .i64 p0_1, .int .i64 p0_2, .int .i64 p0_3, .int .i64 p0_4, .int .i64 p0_5] 28 w fun b1 w2 =>
  NewV #[.int .i64 p2_0, .int .i64 p2_1] 55 w2 fun b3 w4 =>
  (0 ≤ (0 : Int) ∧ 0 < (2 : Int)) ∧
  LoadS w4 ⟨b3, 0, none⟩ (.int .i64) fun (x5 : Int) =>
  (0 ≤ (1 : Int) ∧ 1 < (2 : Int)) ∧
  LoadS w4 ⟨b3, 1, none⟩ (.int .i64) fun (x6 : Int) =>
  cond (decide (((n1 : Nat) : Int) > 100))
  (CallV Try.prog 23 #[] w4 [.one .bool] fun (r7 : Bool × Unit) w8 =>
  K (r7.1, ()) w8)
  (LoadA w4 ⟨b1, 0, none⟩ [.int .i64, .int .i64, .int .i64, .int .i64, .int .i64, .int .i64] fun (x9 : Int × Int × Int × Int × Int × Int × Unit) =>
  CallV Try.prog 45 #[.agg #[.int .i64 x9.1, .int .i64 x9.2.1, .int .i64 x9.2.2.1, .int .i64 x9.2.2.2.1, .int .i64 x9.2.2.2.2.1, .int .i64 x9.2.2.2.2.2.1], .slice a1 n1 c1] w4 [.one (.int .i64)] fun (r10 : Int × Unit) w11 =>
  cond (r10.1 != 0)
  (CallV Try.prog 23 #[] w11 [.one .bool] fun (r12 : Bool × Unit) w13 =>
  K (r12.1, ()) w13)
  (cond (decide (x5 < 0))
  (CallV Try.prog 23 #[] w11 [.one .bool] fun (r14 : Bool × Unit) w15 =>
  K (r14.1, ()) w15)
  (cond (decide (x5 ≥ ((n1 : Nat) : Int)))
  (CallV Try.prog 23 #[] w11 [.one .bool] fun (r16 : Bool × Unit) w17 =>
  K (r16.1, ()) w17)
  (cond (decide (x6 < 0))
  (CallV Try.prog 23 #[] w11 [.one .bool] fun (r18 : Bool × Unit) w19 =>
  K (r18.1, ()) w19)
  ((0 ≤ x5 ∧ x5 < ((n1 : Nat) : Int)) ∧ ∃ q20 : Addr, a1 = some q20 ∧
  LoadS w11 (q20.add (x5.toNat * 1)) (.int .i64) fun (x21 : Int) =>
  cond (decide (x6 ≥ x21))
  (CallV Try.prog 23 #[] w11 [.one .bool] fun (r22 : Bool × Unit) w23 =>
  K (r22.1, ()) w23)
  (DrawV fun D24 =>
  ((0 : Int) ≤ x5 ∧ x5 ≤ ((c1 : Nat) : Int)) ∧
  SubK a1 0 c1 1 fun a25 =>
  Rng .i64 (x5 + 1) ∧
  ((0 : Int) ≤ (x5 + 1) ∧ (x5 + 1) ≤ ((n1 : Nat) : Int)) ∧
  SubK a1 ((x5 + 1).toNat) c1 1 fun a26 =>
  NewV #[] 3 w11.drew fun b27 w28 =>
  KeepOn D24 w11.drew w28 ∧
  AppS w28 a25 (x5.toNat - 0) 1 fun ns33 =>
  AppV w28 3 1 8 (some ⟨b27, 0, none⟩) 0 0 ns33 (x5.toNat - 0) fun a29 n30 c31 w32 =>
  KeepOn D24 w11.drew w32 ∧
  AppS w32 a26 (n1 - ((x5 + 1).toNat)) 1 fun ns38 =>
  AppV w32 3 1 8 a29 n30 c31 ns38 (n1 - ((x5 + 1).toNat)) fun a34 n35 c36 w37 =>
  KeepOn D24 w11.drew w37 ∧
  NewV #[] 3 w37 fun b39 w40 =>
  AppS w40 a1 n1 1 fun ns45 =>
  AppV w40 3 1 8 (some ⟨b39, 0, none⟩) 0 0 ns45 n1 fun a41 n42 c43 w44 =>
  (0 ≤ x5 ∧ x5 < ((n1 : Nat) : Int)) ∧ ∃ q46 : Addr, a1 = some q46 ∧
  LoadS w44 (q46.add (x5.toNat * 1)) (.int .i64) fun (x47 : Int) =>
  Rng .i64 (x47 - x6) ∧
  (0 ≤ x5 ∧ x5 < ((n42 : Nat) : Int)) ∧ ∃ q48 : Addr, a41 = some q48 ∧
  StoreV w44 (q48.add (x5.toNat * 1)) [.int .i64 (x47 - x6)] fun w49 =>
  LoadA w49 ⟨b1, 0, none⟩ [.int .i64, .int .i64, .int .i64, .int .i64, .int .i64, .int .i64] fun (x50 : Int × Int × Int × Int × Int × Int × Unit) =>
  CallV Try.prog 45 #[.agg #[.int .i64 x50.1, .int .i64 x50.2.1, .int .i64 x50.2.2.1, .int .i64 x50.2.2.2.1, .int .i64 x50.2.2.2.2.1, .int .i64 x50.2.2.2.2.2.1], .slice a34 n35 c36] w49 [.one (.int .i64)] fun (r51 : Int × Unit) w52 =>
  cond (r51.1 == 0)
  (LoadA w52 ⟨b1, 0, none⟩ [.int .i64, .int .i64, .int .i64, .int .i64, .int .i64, .int .i64] fun (x53 : Int × Int × Int × Int × Int × Int × Unit) =>
  CallV Try.prog 45 #[.agg #[.int .i64 x53.1, .int .i64 x53.2.1, .int .i64 x53.2.2.1, .int .i64 x53.2.2.2.1, .int .i64 x53.2.2.2.2.1, .int .i64 x53.2.2.2.2.2.1], .slice a41 n42 c43] w52 [.one (.int .i64)] fun (r54 : Int × Unit) w55 =>
  cond (r54.1 == 0)
  (CallV Try.prog 23 #[] w55 [.one .bool] fun (r56 : Bool × Unit) w57 =>
  K (r56.1, ()) w57)
  (K (false, ()) w55))
  (K (false, ()) w52)))))))
theorem law11_GeometryFewer.vc (p0_0 : Int) (p0_1 : Int) (p0_2 : Int) (p0_3 : Int) (p0_4 : Int) (p0_5 : Int) (a1 : Option Addr) (n1 c1 : Nat) (p2_0 : Int) (p2_1 : Int) (w : World) (K : Bool × Unit → World → Prop) (h : law11_GeometryFewer.P p0_0 p0_1 p0_2 p0_3 p0_4 p0_5 a1 n1 c1 p2_0 p2_1 w K) : CallV Try.prog 10 #[.agg #[.int .i64 p0_0, .int .i64 p0_1, .int .i64 p0_2, .int .i64 p0_3, .int .i64 p0_4, .int .i64 p0_5], .slice a1 n1 c1, .agg #[.int .i64 p2_0, .int .i64 p2_1]] w [.one .bool] K := by
  have e : vcFun Try.prog okf false Try.f10 law11_GeometryFewer.A #[.agg #[.int .i64 p0_0, .int .i64 p0_1, .int .i64 p0_2, .int .i64 p0_3, .int .i64 p0_4, .int .i64 p0_5], .slice a1 n1 c1, .agg #[.int .i64 p2_0, .int .i64 p2_1]] w [.one .bool] K = law11_GeometryFewer.P p0_0 p0_1 p0_2 p0_3 p0_4 p0_5 a1 n1 c1 p2_0 p2_1 w K := by kernel_rfl
  exact vcFun.calls okf_ok follows Try.func10 (e.symm ▸ h)

end Go.Proofs.Ytimbomieepefcaa.Vc
