/- The plans of functions as plain statements, printed by wip/tools/vcgen.py; the kernel holds each to the code. -/
import Derived.Test.YtimbomieepefcaaEnv
namespace Go.Proofs.Ytimbomieepefcaa.Vc
open Go Go.Eng
set_option linter.unusedVariables false

/-! ### nepenthe/nepentheref11.in: function 48 -/
def ref11_in.A : Ann := .no
def ref11_in.P (p0 : Int) (p1 : Int) (p2 : Int) (w : World) (K : Bool × Unit → World → Prop) : Prop :=
  cond (decide (p0 ≥ p1))
  (K (decide (p0 ≤ p2), ()) w)
  (K (false, ()) w)
theorem ref11_in.vc (p0 : Int) (p1 : Int) (p2 : Int) (w : World) (K : Bool × Unit → World → Prop) (h : ref11_in.P p0 p1 p2 w K) : CallV Try.prog 48 #[.int .i64 p0, .int .i64 p1, .int .i64 p2] w [.one .bool] K := by
  have e : vcFun Try.prog okf false Try.f48 ref11_in.A #[.int .i64 p0, .int .i64 p1, .int .i64 p2] w [.one .bool] K = ref11_in.P p0 p1 p2 w K := by kernel_rfl
  exact vcFun.calls okf_ok follows Try.func48 (e.symm ▸ h)

/-! ### nepenthe/nepentheref11.Right: function 16 -/
def ref11_Right.A : Ann := .two .no (.two .no (.two (.draw (.take 0 (.take 1 (.take 2 (.take 3 (.take 4 (.take 5 (.take 7 (.take 8 (.eff 6 (.take 9 (.take 10 (.take 11 (.take 12 (.take 13 (.take 14 (.take 15 (.take 16 (.take 17 (.take 18 (.take 19 (.take 20 (.done))))))))))))))))))))))) .no))
def ref11_Right.P (p0_0 : Int) (p0_1 : Int) (p0_2 : Int) (p0_3 : Int) (p0_4 : Int) (p0_5 : Int) (w : World) (K : Bool × Unit → World → Prop) : Prop :=
  NewV #[.int .i64 p0_0, .int .i64 p0_1, .int .i64 p0_2, .int .i64 p0_3, .int .i64 p0_4, .int .i64 p0_5] 28 w fun b1 w2 =>
  LoadS w2 ⟨b1, 0, none⟩ (.int .i64) fun (x3 : Int) =>
  CallV Try.prog 48 #[.int .i64 x3, .int .i64 7, .int .i64 64] w2 [.one .bool] fun (r4 : Bool × Unit) w5 =>
  cond (!r4.1)
  (K (false, ()) w5)
  (LoadS w5 ⟨b1, 1, none⟩ (.int .i64) fun (x6 : Int) =>
  CallV Try.prog 48 #[.int .i64 x6, .int .i64 4, .int .i64 32] w5 [.one .bool] fun (r7 : Bool × Unit) w8 =>
  cond (!r7.1)
  (K (false, ()) w8)
  (LoadS w8 ⟨b1, 2, none⟩ (.int .i64) fun (x9 : Int) =>
  CallV Try.prog 48 #[.int .i64 x9, .int .i64 32, .int .i64 4096] w8 [.one .bool] fun (r10 : Bool × Unit) w11 =>
  cond (!r10.1)
  (K (false, ()) w11)
  (LoadS w11 ⟨b1, 3, none⟩ (.int .i64) fun (x12 : Int) =>
  CallV Try.prog 48 #[.int .i64 x12, .int .i64 0, .int .i64 8] w11 [.one .bool] fun (r13 : Bool × Unit) w14 =>
  cond (!r13.1)
  (K (false, ()) w14)
  (LoadS w14 ⟨b1, 4, none⟩ (.int .i64) fun (x15 : Int) =>
  CallV Try.prog 48 #[.int .i64 x15, .int .i64 1, .int .i64 1000] w14 [.one .bool] fun (r16 : Bool × Unit) w17 =>
  cond (!r16.1)
  (K (false, ()) w17)
  (LoadS w17 ⟨b1, 5, none⟩ (.int .i64) fun (x18 : Int) =>
  CallV Try.prog 48 #[.int .i64 x18, .int .i64 1, .int .i64 1000] w17 [.one .bool] fun (r19 : Bool × Unit) w20 =>
  cond (!r19.1)
  (K (false, ()) w20)
  (DrawV fun D21 =>
  (D21 b1 ∧ LoadS w20.drew ⟨b1, 2, none⟩ (.int .i64) fun (x22 : Int) =>
  16 ≠ (0 : Int) ∧
  cond ((Int.tmod x22 16) == 0)
  ((D21 b1 ∧ LoadA w20.drew ⟨b1, 0, none⟩ [.int .i64, .int .i64, .int .i64, .int .i64, .int .i64, .int .i64] fun (x23 : Int × Int × Int × Int × Int × Int × Unit) =>
  (D21 b1 ∧ LoadS w20.drew ⟨b1, 1, none⟩ (.int .i64) fun (x24 : Int) =>
  CallV Try.prog 24 #[.agg #[.int .i64 x23.1, .int .i64 x23.2.1, .int .i64 x23.2.2.1, .int .i64 x23.2.2.2.1, .int .i64 x23.2.2.2.2.1, .int .i64 x23.2.2.2.2.2.1]] w20.drew [.one (.int .i64)] fun (r25 : Int × Unit) w26 =>
  KeepOn D21 w20.drew w26 ∧
  cond (decide (r25.1 ≤ x24))
  ((D21 b1 ∧ LoadS w20.drew ⟨b1, 0, none⟩ (.int .i64) fun (x27 : Int) =>
  Rng .i64 (x27 - 4) ∧
  (D21 b1 ∧ LoadS w20.drew ⟨b1, 3, none⟩ (.int .i64) fun (x28 : Int) =>
  Rng .i64 (x28 + 3) ∧
  K (decide ((x27 - 4) ≥ (x28 + 3)), ()) w26)))
  (K (false, ()) w26))))
  (K (false, ()) w20.drew))))))))
theorem ref11_Right.vc (p0_0 : Int) (p0_1 : Int) (p0_2 : Int) (p0_3 : Int) (p0_4 : Int) (p0_5 : Int) (w : World) (K : Bool × Unit → World → Prop) (h : ref11_Right.P p0_0 p0_1 p0_2 p0_3 p0_4 p0_5 w K) : CallV Try.prog 16 #[.agg #[.int .i64 p0_0, .int .i64 p0_1, .int .i64 p0_2, .int .i64 p0_3, .int .i64 p0_4, .int .i64 p0_5]] w [.one .bool] K := by
  have e : vcFun Try.prog okf false Try.f16 ref11_Right.A #[.agg #[.int .i64 p0_0, .int .i64 p0_1, .int .i64 p0_2, .int .i64 p0_3, .int .i64 p0_4, .int .i64 p0_5]] w [.one .bool] K = ref11_Right.P p0_0 p0_1 p0_2 p0_3 p0_4 p0_5 w K := by kernel_rfl
  exact vcFun.calls okf_ok follows Try.func16 (e.symm ▸ h)

/-! ### nepenthe/nepentheref11.Chunks: function 24 -/
-- loop 0 carries 3: .one (.int .i64)
def ref11_Chunks.A : Ann := .two .no (.two .no (.two (.one (.loop [3, 4, 5, 6, 7, 8, 9, 10] [(3, .one (.int .i64))] .no)) .no))
def ref11_Chunks.P (p0_0 : Int) (p0_1 : Int) (p0_2 : Int) (p0_3 : Int) (p0_4 : Int) (p0_5 : Int) (w : World) (K : Int × Unit → World → Prop) : Prop :=
  NewV #[.int .i64 p0_0, .int .i64 p0_1, .int .i64 p0_2, .int .i64 p0_3, .int .i64 p0_4, .int .i64 p0_5] 28 w fun b1 w2 =>
  LoopV [.one (.int .i64)] ((0 : Int), ()) w2 fun (z3 : Int × Unit) w4 (K5 : Int × Unit → World → Prop) =>
  LoadS w4 ⟨b1, 2, none⟩ (.int .i64) fun (x6 : Int) =>
  Rng .i64 (z3.1 * x6) ∧
  cond (decide ((z3.1 * x6) < 624))
  (Rng .i64 (z3.1 + 1) ∧
  K5 (z3.1 + 1, ()) w4)
  (K (z3.1, ()) w4)
theorem ref11_Chunks.vc (p0_0 : Int) (p0_1 : Int) (p0_2 : Int) (p0_3 : Int) (p0_4 : Int) (p0_5 : Int) (w : World) (K : Int × Unit → World → Prop) (h : ref11_Chunks.P p0_0 p0_1 p0_2 p0_3 p0_4 p0_5 w K) : CallV Try.prog 24 #[.agg #[.int .i64 p0_0, .int .i64 p0_1, .int .i64 p0_2, .int .i64 p0_3, .int .i64 p0_4, .int .i64 p0_5]] w [.one (.int .i64)] K := by
  have e : vcFun Try.prog okf false Try.f24 ref11_Chunks.A #[.agg #[.int .i64 p0_0, .int .i64 p0_1, .int .i64 p0_2, .int .i64 p0_3, .int .i64 p0_4, .int .i64 p0_5]] w [.one (.int .i64)] K = ref11_Chunks.P p0_0 p0_1 p0_2 p0_3 p0_4 p0_5 w K := by kernel_rfl
  exact vcFun.calls okf_ok follows Try.func24 (e.symm ▸ h)

/-! ### nepenthe/nepentheref11.Quota: function 27 -/
-- loop 0 carries 5: .one (.int .i64)
def ref11_Quota.A : Ann := .two .no (.two .no (.two (.one (.loop [5, 6, 7, 8, 9, 10, 11, 12, 13, 14] [(5, .one (.int .i64))] .no)) .no))
def ref11_Quota.P (p0_0 : Int) (p0_1 : Int) (p0_2 : Int) (p0_3 : Int) (p0_4 : Int) (p0_5 : Int) (p1 : Int) (w : World) (K : Int × Unit → World → Prop) : Prop :=
  NewV #[.int .i64 p0_0, .int .i64 p0_1, .int .i64 p0_2, .int .i64 p0_3, .int .i64 p0_4, .int .i64 p0_5] 28 w fun b1 w2 =>
  LoopV [.one (.int .i64)] ((0 : Int), ()) w2 fun (z3 : Int × Unit) w4 (K5 : Int × Unit → World → Prop) =>
  LoadS w4 ⟨b1, 1, none⟩ (.int .i64) fun (x6 : Int) =>
  Rng .i64 (x6 - 1) ∧
  Rng .i64 (z3.1 * (x6 - 1)) ∧
  cond (decide ((z3.1 * (x6 - 1)) < p1))
  (Rng .i64 (z3.1 + 1) ∧
  K5 (z3.1 + 1, ()) w4)
  (Rng .i64 (z3.1 + 2) ∧
  K (z3.1 + 2, ()) w4)
theorem ref11_Quota.vc (p0_0 : Int) (p0_1 : Int) (p0_2 : Int) (p0_3 : Int) (p0_4 : Int) (p0_5 : Int) (p1 : Int) (w : World) (K : Int × Unit → World → Prop) (h : ref11_Quota.P p0_0 p0_1 p0_2 p0_3 p0_4 p0_5 p1 w K) : CallV Try.prog 27 #[.agg #[.int .i64 p0_0, .int .i64 p0_1, .int .i64 p0_2, .int .i64 p0_3, .int .i64 p0_4, .int .i64 p0_5], .int .i64 p1] w [.one (.int .i64)] K := by
  have e : vcFun Try.prog okf false Try.f27 ref11_Quota.A #[.agg #[.int .i64 p0_0, .int .i64 p0_1, .int .i64 p0_2, .int .i64 p0_3, .int .i64 p0_4, .int .i64 p0_5], .int .i64 p1] w [.one (.int .i64)] K = ref11_Quota.P p0_0 p0_1 p0_2 p0_3 p0_4 p0_5 p1 w K := by kernel_rfl
  exact vcFun.calls okf_ok follows Try.func27 (e.symm ▸ h)

/-! ### nepenthe/nepentheref11.Fit: function 47 -/
-- loop 0 carries 5: .one (.int .i64), 6: .one (.int .i64)
def ref11_Fit.A : Ann := .two .no (.two .no (.two (.two .no (.one (.loop [4, 5, 6, 9, 10, 11, 12, 13, 14, 15, 16, 17, 18, 19, 20, 21, 22, 23, 24, 25, 26, 27, 28, 29, 30] [(5, .one (.int .i64)), (6, .one (.int .i64))] (.two .no (.two (.one (.two .no (.two .no (.two (.draw (.take 0 (.take 1 (.take 2 (.take 3 (.take 4 (.take 5 (.eff 6 (.take 7 (.take 8 (.done))))))))))) .no)))) .no))))) .no))
def ref11_Fit.P (p0_0 : Int) (p0_1 : Int) (p0_2 : Int) (p0_3 : Int) (p0_4 : Int) (p0_5 : Int) (a1 : Option Addr) (n1 c1 : Nat) (w : World) (K : Int × Unit → World → Prop) : Prop :=
  NewV #[.int .i64 p0_0, .int .i64 p0_1, .int .i64 p0_2, .int .i64 p0_3, .int .i64 p0_4, .int .i64 p0_5] 28 w fun b1 w2 =>
  LoadS w2 ⟨b1, 3, none⟩ (.int .i64) fun (x3 : Int) =>
  LoopV [.one (.int .i64), .one (.int .i64)] (x3, (0 : Int), ()) w2 fun (z4 : Int × Int × Unit) w5 (K6 : Int × Int × Unit → World → Prop) =>
  cond (decide (z4.2.1 < ((n1 : Nat) : Int)))
  ((0 ≤ z4.2.1 ∧ z4.2.1 < ((n1 : Nat) : Int)) ∧ ∃ q7 : Addr, a1 = some q7 ∧
  LoadS w5 (q7.add (z4.2.1.toNat * 1)) (.int .i64) fun (x8 : Int) =>
  CallV Try.prog 48 #[.int .i64 x8, .int .i64 1, .int .i64 65535] w5 [.one .bool] fun (r9 : Bool × Unit) w10 =>
  cond (!r9.1)
  (K ((13 : Int), ()) w10)
  (cond (decide (z4.1 ≤ 64))
  (DrawV fun D11 =>
  (D11 b1 ∧ LoadA w10.drew ⟨b1, 0, none⟩ [.int .i64, .int .i64, .int .i64, .int .i64, .int .i64, .int .i64] fun (x12 : Int × Int × Int × Int × Int × Int × Unit) =>
  (0 ≤ z4.2.1 ∧ z4.2.1 < ((n1 : Nat) : Int)) ∧ ∃ q13 : Addr, a1 = some q13 ∧
  (D11 (q13.add (z4.2.1.toNat * 1)).block ∧ LoadS w10.drew (q13.add (z4.2.1.toNat * 1)) (.int .i64) fun (x14 : Int) =>
  CallV Try.prog 27 #[.agg #[.int .i64 x12.1, .int .i64 x12.2.1, .int .i64 x12.2.2.1, .int .i64 x12.2.2.2.1, .int .i64 x12.2.2.2.2.1, .int .i64 x12.2.2.2.2.2.1], .int .i64 x14] w10.drew [.one (.int .i64)] fun (r15 : Int × Unit) w16 =>
  KeepOn D11 w10.drew w16 ∧
  Rng .i64 (z4.1 + r15.1) ∧
  Rng .i64 (z4.2.1 + 1) ∧
  K6 (z4.1 + r15.1, z4.2.1 + 1, ()) w16)))
  (Rng .i64 (z4.2.1 + 1) ∧
  K6 (z4.1, z4.2.1 + 1, ()) w10)))
  (cond (decide (((n1 : Nat) : Int) > 4))
  (K ((14 : Int), ()) w5)
  (LoadS w5 ⟨b1, 0, none⟩ (.int .i64) fun (x17 : Int) =>
  Rng .i64 (x17 - 4) ∧
  cond (decide (z4.1 > (x17 - 4)))
  (K ((14 : Int), ()) w5)
  (K ((0 : Int), ()) w5)))
theorem ref11_Fit.vc (p0_0 : Int) (p0_1 : Int) (p0_2 : Int) (p0_3 : Int) (p0_4 : Int) (p0_5 : Int) (a1 : Option Addr) (n1 c1 : Nat) (w : World) (K : Int × Unit → World → Prop) (h : ref11_Fit.P p0_0 p0_1 p0_2 p0_3 p0_4 p0_5 a1 n1 c1 w K) : CallV Try.prog 47 #[.agg #[.int .i64 p0_0, .int .i64 p0_1, .int .i64 p0_2, .int .i64 p0_3, .int .i64 p0_4, .int .i64 p0_5], .slice a1 n1 c1] w [.one (.int .i64)] K := by
  have e : vcFun Try.prog okf false Try.f47 ref11_Fit.A #[.agg #[.int .i64 p0_0, .int .i64 p0_1, .int .i64 p0_2, .int .i64 p0_3, .int .i64 p0_4, .int .i64 p0_5], .slice a1 n1 c1] w [.one (.int .i64)] K = ref11_Fit.P p0_0 p0_1 p0_2 p0_3 p0_4 p0_5 a1 n1 c1 w K := by kernel_rfl
  exact vcFun.calls okf_ok follows Try.func47 (e.symm ▸ h)

/-! ### nepenthe/geometry.kept: function 49 -/
-- loop 0 carries 24: .one (.int .i64)
def geometry_kept.A : Ann := .two .no (.two (.two .no (.one (.loop [2, 4, 24, 25, 26, 27, 28, 29, 30, 31, 32, 33, 34, 35, 36, 37, 38, 39] [(24, .one (.int .i64))] .no))) .no)
def geometry_kept.P (p0_0 : Int) (p0_1 : Int) (p0_2 : Int) (p0_3 : Int) (p0_4 : Int) (p0_5 : Int) (w : World) (K : Bool × Unit → World → Prop) : Prop :=
  NewV #[.int .i64 p0_0, .int .i64 p0_1, .int .i64 p0_2, .int .i64 p0_3, .int .i64 p0_4, .int .i64 p0_5] 28 w fun b1 w2 =>
  LoadS w2 ⟨b1, 0, none⟩ (.int .i64) fun (x3 : Int) =>
  LoadS w2 ⟨b1, 1, none⟩ (.int .i64) fun (x4 : Int) =>
  LoadS w2 ⟨b1, 2, none⟩ (.int .i64) fun (x5 : Int) =>
  LoadS w2 ⟨b1, 3, none⟩ (.int .i64) fun (x6 : Int) =>
  LoadS w2 ⟨b1, 4, none⟩ (.int .i64) fun (x7 : Int) =>
  LoadS w2 ⟨b1, 5, none⟩ (.int .i64) fun (x8 : Int) =>
  LoopV [.one (.int .i64)] ((0 : Int), ()) w2 fun (z9 : Int × Unit) w10 (K11 : Int × Unit → World → Prop) =>
  cond (decide (z9.1 < 6))
  ((0 ≤ z9.1 ∧ z9.1 < (6 : Int)) ∧ ∃ y12 : Int × Int × Int × Unit, (List.take 3 (List.drop (z9.1.toNat * 3) ([.int .i64 x3, .int .i64 7, .int .i64 64, .int .i64 x4, .int .i64 4, .int .i64 32, .int .i64 x5, .int .i64 32, .int .i64 4096, .int .i64 x6, .int .i64 0, .int .i64 8, .int .i64 x7, .int .i64 1, .int .i64 1000, .int .i64 x8, .int .i64 1, .int .i64 1000] : List Value))) = [.int .i64 y12.1, .int .i64 y12.2.1, .int .i64 y12.2.2.1] ∧
  NewV #[.int .i64 0, .int .i64 0, .int .i64 0] 67 w10 fun b13 w14 =>
  StoreV w14 ⟨b13, 0, none⟩ [.int .i64 y12.1, .int .i64 y12.2.1, .int .i64 y12.2.2.1] fun w15 =>
  LoadS w15 ⟨b13, 0, none⟩ (.int .i64) fun (x16 : Int) =>
  LoadS w15 ⟨b13, 1, none⟩ (.int .i64) fun (x17 : Int) =>
  cond (decide (x16 < x17))
  (K (false, ()) w15)
  (LoadS w15 ⟨b13, 0, none⟩ (.int .i64) fun (x18 : Int) =>
  LoadS w15 ⟨b13, 2, none⟩ (.int .i64) fun (x19 : Int) =>
  cond (decide (x18 > x19))
  (K (false, ()) w15)
  (Rng .i64 (z9.1 + 1) ∧
  K11 (z9.1 + 1, ()) w15)))
  (LoadS w10 ⟨b1, 2, none⟩ (.int .i64) fun (x20 : Int) =>
  16 ≠ (0 : Int) ∧
  K (((Int.tmod x20 16) == 0), ()) w10)
theorem geometry_kept.vc (p0_0 : Int) (p0_1 : Int) (p0_2 : Int) (p0_3 : Int) (p0_4 : Int) (p0_5 : Int) (w : World) (K : Bool × Unit → World → Prop) (h : geometry_kept.P p0_0 p0_1 p0_2 p0_3 p0_4 p0_5 w K) : CallV Try.prog 49 #[.agg #[.int .i64 p0_0, .int .i64 p0_1, .int .i64 p0_2, .int .i64 p0_3, .int .i64 p0_4, .int .i64 p0_5]] w [.one .bool] K := by
  have e : vcFun Try.prog okf false Try.f49 geometry_kept.A #[.agg #[.int .i64 p0_0, .int .i64 p0_1, .int .i64 p0_2, .int .i64 p0_3, .int .i64 p0_4, .int .i64 p0_5]] w [.one .bool] K = geometry_kept.P p0_0 p0_1 p0_2 p0_3 p0_4 p0_5 w K := by kernel_rfl
  exact vcFun.calls okf_ok follows Try.func49 (e.symm ▸ h)

/-! ### nepenthe/geometry.chunks: function 50 -/
def geometry_chunks.A : Ann := .no
def geometry_chunks.P (p0 : Int) (w : World) (K : Int × Unit → World → Prop) : Prop :=
  Rng .i64 ((624 : Int) + p0) ∧
  Rng .i64 (((624 : Int) + p0) - 1) ∧
  p0 ≠ (0 : Int) ∧ Rng .i64 (Int.tdiv (((624 : Int) + p0) - 1) p0) ∧
  K (Int.tdiv (((624 : Int) + p0) - 1) p0, ()) w
theorem geometry_chunks.vc (p0 : Int) (w : World) (K : Int × Unit → World → Prop) (h : geometry_chunks.P p0 w K) : CallV Try.prog 50 #[.int .i64 p0] w [.one (.int .i64)] K := by
  have e : vcFun Try.prog okf false Try.f50 geometry_chunks.A #[.int .i64 p0] w [.one (.int .i64)] K = geometry_chunks.P p0 w K := by kernel_rfl
  exact vcFun.calls okf_ok follows Try.func50 (e.symm ▸ h)

/-! ### nepenthe/geometry.Check: function 17 -/
def geometry_Check.A : Ann := .two .no (.two (.two (.draw (.take 0 (.eff 1 (.take 2 (.take 3 (.take 4 (.take 5 (.take 7 (.take 8 (.eff 6 (.take 9 (.take 10 (.take 11 (.take 12 (.take 13 (.take 14 (.take 15 (.take 16 (.take 17 (.take 18 (.take 19 (.done)))))))))))))))))))))) .no) .no)
def geometry_Check.P (p0_0 : Int) (p0_1 : Int) (p0_2 : Int) (p0_3 : Int) (p0_4 : Int) (p0_5 : Int) (w : World) (K : Int × Unit → World → Prop) : Prop :=
  NewV #[.int .i64 p0_0, .int .i64 p0_1, .int .i64 p0_2, .int .i64 p0_3, .int .i64 p0_4, .int .i64 p0_5] 28 w fun b1 w2 =>
  DrawV fun D3 =>
  (D3 b1 ∧ LoadA w2.drew ⟨b1, 0, none⟩ [.int .i64, .int .i64, .int .i64, .int .i64, .int .i64, .int .i64] fun (x4 : Int × Int × Int × Int × Int × Int × Unit) =>
  CallV Try.prog 49 #[.agg #[.int .i64 x4.1, .int .i64 x4.2.1, .int .i64 x4.2.2.1, .int .i64 x4.2.2.2.1, .int .i64 x4.2.2.2.2.1, .int .i64 x4.2.2.2.2.2.1]] w2.drew [.one .bool] fun (r5 : Bool × Unit) w6 =>
  KeepOn D3 w2.drew w6 ∧
  cond (!r5.1)
  (K ((2 : Int), ()) w6)
  ((D3 b1 ∧ LoadS w2.drew ⟨b1, 2, none⟩ (.int .i64) fun (x7 : Int) =>
  (D3 b1 ∧ LoadS w2.drew ⟨b1, 1, none⟩ (.int .i64) fun (x8 : Int) =>
  CallV Try.prog 50 #[.int .i64 x7] w6 [.one (.int .i64)] fun (r9 : Int × Unit) w10 =>
  KeepOn D3 w2.drew w10 ∧
  cond (decide (r9.1 > x8))
  (K ((2 : Int), ()) w10)
  ((D3 b1 ∧ LoadS w2.drew ⟨b1, 0, none⟩ (.int .i64) fun (x11 : Int) =>
  Rng .i64 (x11 - 4) ∧
  (D3 b1 ∧ LoadS w2.drew ⟨b1, 3, none⟩ (.int .i64) fun (x12 : Int) =>
  Rng .i64 (x12 + 3) ∧
  cond (decide ((x11 - 4) < (x12 + 3)))
  (K ((2 : Int), ()) w10)
  (K ((0 : Int), ()) w10))))))))
theorem geometry_Check.vc (p0_0 : Int) (p0_1 : Int) (p0_2 : Int) (p0_3 : Int) (p0_4 : Int) (p0_5 : Int) (w : World) (K : Int × Unit → World → Prop) (h : geometry_Check.P p0_0 p0_1 p0_2 p0_3 p0_4 p0_5 w K) : CallV Try.prog 17 #[.agg #[.int .i64 p0_0, .int .i64 p0_1, .int .i64 p0_2, .int .i64 p0_3, .int .i64 p0_4, .int .i64 p0_5]] w [.one (.int .i64)] K := by
  have e : vcFun Try.prog okf false Try.f17 geometry_Check.A #[.agg #[.int .i64 p0_0, .int .i64 p0_1, .int .i64 p0_2, .int .i64 p0_3, .int .i64 p0_4, .int .i64 p0_5]] w [.one (.int .i64)] K = geometry_Check.P p0_0 p0_1 p0_2 p0_3 p0_4 p0_5 w K := by kernel_rfl
  exact vcFun.calls okf_ok follows Try.func17 (e.symm ▸ h)

/-! ### nepenthe/geometry.told: function 51 -/
def geometry_told.A : Ann := .no
def geometry_told.P (p0_0 : Int) (p0_1 : Int) (p0_2 : Int) (p0_3 : Int) (p0_4 : Int) (p0_5 : Int) (g1 : FuncId) (cap1 : Array Value) (w : World) (K : Int × Unit → World → Prop) : Prop :=
  NewV #[.int .i64 p0_0, .int .i64 p0_1, .int .i64 p0_2, .int .i64 p0_3, .int .i64 p0_4, .int .i64 p0_5] 28 w fun b1 w2 =>
  LoadA w2 ⟨b1, 0, none⟩ [.int .i64, .int .i64, .int .i64, .int .i64, .int .i64, .int .i64] fun (x3 : Int × Int × Int × Int × Int × Int × Unit) =>
  CallV Try.prog 17 #[.agg #[.int .i64 x3.1, .int .i64 x3.2.1, .int .i64 x3.2.2.1, .int .i64 x3.2.2.2.1, .int .i64 x3.2.2.2.2.1, .int .i64 x3.2.2.2.2.2.1]] w2 [.one (.int .i64)] fun (r4 : Int × Unit) w5 =>
  cond (r4.1 != 0)
  (K ((0 : Int), ()) w5)
  (cond (okf g1)
  (CallV Try.prog g1 ([] ++ ([] ++ (cap1).toList)).toArray w5 [.one (.int .i64)] fun (r6 : Int × Unit) w7 =>
  K (r6.1, ()) w7)
  False)
theorem geometry_told.vc (p0_0 : Int) (p0_1 : Int) (p0_2 : Int) (p0_3 : Int) (p0_4 : Int) (p0_5 : Int) (g1 : FuncId) (cap1 : Array Value) (w : World) (K : Int × Unit → World → Prop) (h : geometry_told.P p0_0 p0_1 p0_2 p0_3 p0_4 p0_5 g1 cap1 w K) : CallV Try.prog 51 #[.agg #[.int .i64 p0_0, .int .i64 p0_1, .int .i64 p0_2, .int .i64 p0_3, .int .i64 p0_4, .int .i64 p0_5], .func (.func g1) #[] cap1] w [.one (.int .i64)] K := by
  have e : vcFun Try.prog okf false Try.f51 geometry_told.A #[.agg #[.int .i64 p0_0, .int .i64 p0_1, .int .i64 p0_2, .int .i64 p0_3, .int .i64 p0_4, .int .i64 p0_5], .func (.func g1) #[] cap1] w [.one (.int .i64)] K = geometry_told.P p0_0 p0_1 p0_2 p0_3 p0_4 p0_5 g1 cap1 w K := by kernel_rfl
  exact vcFun.calls okf_ok follows Try.func51 (e.symm ▸ h)

/-! ### nepenthe/geometry.Data: function 18 -/
def geometry_Data.A : Ann := .no
def geometry_Data.P (p0_0 : Int) (p0_1 : Int) (p0_2 : Int) (p0_3 : Int) (p0_4 : Int) (p0_5 : Int) (w : World) (K : Int × Unit → World → Prop) : Prop :=
  NewV #[.int .i64 p0_0, .int .i64 p0_1, .int .i64 p0_2, .int .i64 p0_3, .int .i64 p0_4, .int .i64 p0_5] 28 w fun b1 w2 =>
  LoadA w2 ⟨b1, 0, none⟩ [.int .i64, .int .i64, .int .i64, .int .i64, .int .i64, .int .i64] fun (x3 : Int × Int × Int × Int × Int × Int × Unit) =>
  CallV Try.prog 51 #[.agg #[.int .i64 x3.1, .int .i64 x3.2.1, .int .i64 x3.2.2.1, .int .i64 x3.2.2.2.1, .int .i64 x3.2.2.2.2.1, .int .i64 x3.2.2.2.2.2.1], .func (.func 52) #[] #[.pointer (some ⟨b1, 0, none⟩)]] w2 [.one (.int .i64)] fun (r4 : Int × Unit) w5 =>
  K (r4.1, ()) w5
theorem geometry_Data.vc (p0_0 : Int) (p0_1 : Int) (p0_2 : Int) (p0_3 : Int) (p0_4 : Int) (p0_5 : Int) (w : World) (K : Int × Unit → World → Prop) (h : geometry_Data.P p0_0 p0_1 p0_2 p0_3 p0_4 p0_5 w K) : CallV Try.prog 18 #[.agg #[.int .i64 p0_0, .int .i64 p0_1, .int .i64 p0_2, .int .i64 p0_3, .int .i64 p0_4, .int .i64 p0_5]] w [.one (.int .i64)] K := by
  have e : vcFun Try.prog okf false Try.f18 geometry_Data.A #[.agg #[.int .i64 p0_0, .int .i64 p0_1, .int .i64 p0_2, .int .i64 p0_3, .int .i64 p0_4, .int .i64 p0_5]] w [.one (.int .i64)] K = geometry_Data.P p0_0 p0_1 p0_2 p0_3 p0_4 p0_5 w K := by kernel_rfl
  exact vcFun.calls okf_ok follows Try.func18 (e.symm ▸ h)

/-! ### nepenthe/geometry.Data$1: function 52 -/
def geometry_Data_1.A : Ann := .no
def geometry_Data_1.P (q0 : Addr) (w : World) (K : Int × Unit → World → Prop) : Prop :=
  LoadS w q0 (.int .i64) fun (x1 : Int) =>
  Rng .i64 (x1 - 4) ∧
  K (x1 - 4, ()) w
theorem geometry_Data_1.vc (q0 : Addr) (w : World) (K : Int × Unit → World → Prop) (h : geometry_Data_1.P q0 w K) : CallV Try.prog 52 #[.pointer (some q0)] w [.one (.int .i64)] K := by
  have e : vcFun Try.prog okf false Try.f52 geometry_Data_1.A #[.pointer (some q0)] w [.one (.int .i64)] K = geometry_Data_1.P q0 w K := by kernel_rfl
  exact vcFun.calls okf_ok follows Try.func52 (e.symm ▸ h)

/-! ### nepenthe/geometry.Unit: function 19 -/
def geometry_Unit.A : Ann := .no
def geometry_Unit.P (p0_0 : Int) (p0_1 : Int) (p0_2 : Int) (p0_3 : Int) (p0_4 : Int) (p0_5 : Int) (w : World) (K : Int × Unit → World → Prop) : Prop :=
  NewV #[.int .i64 p0_0, .int .i64 p0_1, .int .i64 p0_2, .int .i64 p0_3, .int .i64 p0_4, .int .i64 p0_5] 28 w fun b1 w2 =>
  LoadA w2 ⟨b1, 0, none⟩ [.int .i64, .int .i64, .int .i64, .int .i64, .int .i64, .int .i64] fun (x3 : Int × Int × Int × Int × Int × Int × Unit) =>
  CallV Try.prog 51 #[.agg #[.int .i64 x3.1, .int .i64 x3.2.1, .int .i64 x3.2.2.1, .int .i64 x3.2.2.2.1, .int .i64 x3.2.2.2.2.1, .int .i64 x3.2.2.2.2.2.1], .func (.func 53) #[] #[.pointer (some ⟨b1, 0, none⟩)]] w2 [.one (.int .i64)] fun (r4 : Int × Unit) w5 =>
  K (r4.1, ()) w5
theorem geometry_Unit.vc (p0_0 : Int) (p0_1 : Int) (p0_2 : Int) (p0_3 : Int) (p0_4 : Int) (p0_5 : Int) (w : World) (K : Int × Unit → World → Prop) (h : geometry_Unit.P p0_0 p0_1 p0_2 p0_3 p0_4 p0_5 w K) : CallV Try.prog 19 #[.agg #[.int .i64 p0_0, .int .i64 p0_1, .int .i64 p0_2, .int .i64 p0_3, .int .i64 p0_4, .int .i64 p0_5]] w [.one (.int .i64)] K := by
  have e : vcFun Try.prog okf false Try.f19 geometry_Unit.A #[.agg #[.int .i64 p0_0, .int .i64 p0_1, .int .i64 p0_2, .int .i64 p0_3, .int .i64 p0_4, .int .i64 p0_5]] w [.one (.int .i64)] K = geometry_Unit.P p0_0 p0_1 p0_2 p0_3 p0_4 p0_5 w K := by kernel_rfl
  exact vcFun.calls okf_ok follows Try.func19 (e.symm ▸ h)

/-! ### nepenthe/geometry.Unit$1: function 53 -/
def geometry_Unit_1.A : Ann := .no
def geometry_Unit_1.P (q0 : Addr) (w : World) (K : Int × Unit → World → Prop) : Prop :=
  LoadS w (q0.add 1) (.int .i64) fun (x1 : Int) =>
  Rng .i64 (x1 - 1) ∧
  K (x1 - 1, ()) w
theorem geometry_Unit_1.vc (q0 : Addr) (w : World) (K : Int × Unit → World → Prop) (h : geometry_Unit_1.P q0 w K) : CallV Try.prog 53 #[.pointer (some q0)] w [.one (.int .i64)] K := by
  have e : vcFun Try.prog okf false Try.f53 geometry_Unit_1.A #[.pointer (some q0)] w [.one (.int .i64)] K = geometry_Unit_1.P q0 w K := by kernel_rfl
  exact vcFun.calls okf_ok follows Try.func53 (e.symm ▸ h)

/-! ### nepenthe/geometry.PageSize: function 20 -/
def geometry_PageSize.A : Ann := .no
def geometry_PageSize.P (p0_0 : Int) (p0_1 : Int) (p0_2 : Int) (p0_3 : Int) (p0_4 : Int) (p0_5 : Int) (w : World) (K : Int × Unit → World → Prop) : Prop :=
  NewV #[.int .i64 p0_0, .int .i64 p0_1, .int .i64 p0_2, .int .i64 p0_3, .int .i64 p0_4, .int .i64 p0_5] 28 w fun b1 w2 =>
  LoadA w2 ⟨b1, 0, none⟩ [.int .i64, .int .i64, .int .i64, .int .i64, .int .i64, .int .i64] fun (x3 : Int × Int × Int × Int × Int × Int × Unit) =>
  CallV Try.prog 51 #[.agg #[.int .i64 x3.1, .int .i64 x3.2.1, .int .i64 x3.2.2.1, .int .i64 x3.2.2.2.1, .int .i64 x3.2.2.2.2.1, .int .i64 x3.2.2.2.2.2.1], .func (.func 54) #[] #[.pointer (some ⟨b1, 0, none⟩)]] w2 [.one (.int .i64)] fun (r4 : Int × Unit) w5 =>
  K (r4.1, ()) w5
theorem geometry_PageSize.vc (p0_0 : Int) (p0_1 : Int) (p0_2 : Int) (p0_3 : Int) (p0_4 : Int) (p0_5 : Int) (w : World) (K : Int × Unit → World → Prop) (h : geometry_PageSize.P p0_0 p0_1 p0_2 p0_3 p0_4 p0_5 w K) : CallV Try.prog 20 #[.agg #[.int .i64 p0_0, .int .i64 p0_1, .int .i64 p0_2, .int .i64 p0_3, .int .i64 p0_4, .int .i64 p0_5]] w [.one (.int .i64)] K := by
  have e : vcFun Try.prog okf false Try.f20 geometry_PageSize.A #[.agg #[.int .i64 p0_0, .int .i64 p0_1, .int .i64 p0_2, .int .i64 p0_3, .int .i64 p0_4, .int .i64 p0_5]] w [.one (.int .i64)] K = geometry_PageSize.P p0_0 p0_1 p0_2 p0_3 p0_4 p0_5 w K := by kernel_rfl
  exact vcFun.calls okf_ok follows Try.func20 (e.symm ▸ h)

/-! ### nepenthe/geometry.PageSize$1: function 54 -/
def geometry_PageSize_1.A : Ann := .no
def geometry_PageSize_1.P (q0 : Addr) (w : World) (K : Int × Unit → World → Prop) : Prop :=
  LoadS w (q0.add 2) (.int .i64) fun (x1 : Int) =>
  Rng .i64 (x1 + 88) ∧
  K (x1 + 88, ()) w
theorem geometry_PageSize_1.vc (q0 : Addr) (w : World) (K : Int × Unit → World → Prop) (h : geometry_PageSize_1.P q0 w K) : CallV Try.prog 54 #[.pointer (some q0)] w [.one (.int .i64)] K := by
  have e : vcFun Try.prog okf false Try.f54 geometry_PageSize_1.A #[.pointer (some q0)] w [.one (.int .i64)] K = geometry_PageSize_1.P q0 w K := by kernel_rfl
  exact vcFun.calls okf_ok follows Try.func54 (e.symm ▸ h)

/-! ### nepenthe/geometry.Chunks: function 21 -/
def geometry_Chunks.A : Ann := .no
def geometry_Chunks.P (p0_0 : Int) (p0_1 : Int) (p0_2 : Int) (p0_3 : Int) (p0_4 : Int) (p0_5 : Int) (w : World) (K : Int × Unit → World → Prop) : Prop :=
  NewV #[.int .i64 p0_0, .int .i64 p0_1, .int .i64 p0_2, .int .i64 p0_3, .int .i64 p0_4, .int .i64 p0_5] 28 w fun b1 w2 =>
  LoadA w2 ⟨b1, 0, none⟩ [.int .i64, .int .i64, .int .i64, .int .i64, .int .i64, .int .i64] fun (x3 : Int × Int × Int × Int × Int × Int × Unit) =>
  CallV Try.prog 51 #[.agg #[.int .i64 x3.1, .int .i64 x3.2.1, .int .i64 x3.2.2.1, .int .i64 x3.2.2.2.1, .int .i64 x3.2.2.2.2.1, .int .i64 x3.2.2.2.2.2.1], .func (.func 55) #[] #[.pointer (some ⟨b1, 0, none⟩)]] w2 [.one (.int .i64)] fun (r4 : Int × Unit) w5 =>
  K (r4.1, ()) w5
theorem geometry_Chunks.vc (p0_0 : Int) (p0_1 : Int) (p0_2 : Int) (p0_3 : Int) (p0_4 : Int) (p0_5 : Int) (w : World) (K : Int × Unit → World → Prop) (h : geometry_Chunks.P p0_0 p0_1 p0_2 p0_3 p0_4 p0_5 w K) : CallV Try.prog 21 #[.agg #[.int .i64 p0_0, .int .i64 p0_1, .int .i64 p0_2, .int .i64 p0_3, .int .i64 p0_4, .int .i64 p0_5]] w [.one (.int .i64)] K := by
  have e : vcFun Try.prog okf false Try.f21 geometry_Chunks.A #[.agg #[.int .i64 p0_0, .int .i64 p0_1, .int .i64 p0_2, .int .i64 p0_3, .int .i64 p0_4, .int .i64 p0_5]] w [.one (.int .i64)] K = geometry_Chunks.P p0_0 p0_1 p0_2 p0_3 p0_4 p0_5 w K := by kernel_rfl
  exact vcFun.calls okf_ok follows Try.func21 (e.symm ▸ h)

/-! ### nepenthe/geometry.Chunks$1: function 55 -/
def geometry_Chunks_1.A : Ann := .no
def geometry_Chunks_1.P (q0 : Addr) (w : World) (K : Int × Unit → World → Prop) : Prop :=
  LoadS w (q0.add 2) (.int .i64) fun (x1 : Int) =>
  CallV Try.prog 50 #[.int .i64 x1] w [.one (.int .i64)] fun (r2 : Int × Unit) w3 =>
  K (r2.1, ()) w3
theorem geometry_Chunks_1.vc (q0 : Addr) (w : World) (K : Int × Unit → World → Prop) (h : geometry_Chunks_1.P q0 w K) : CallV Try.prog 55 #[.pointer (some q0)] w [.one (.int .i64)] K := by
  have e : vcFun Try.prog okf false Try.f55 geometry_Chunks_1.A #[.pointer (some q0)] w [.one (.int .i64)] K = geometry_Chunks_1.P q0 w K := by kernel_rfl
  exact vcFun.calls okf_ok follows Try.func55 (e.symm ▸ h)

/-! ### nepenthe/geometry.Bound: function 22 -/
def geometry_Bound.A : Ann := .no
def geometry_Bound.P (p0_0 : Int) (p0_1 : Int) (p0_2 : Int) (p0_3 : Int) (p0_4 : Int) (p0_5 : Int) (w : World) (K : Int × Unit → World → Prop) : Prop :=
  NewV #[.int .i64 p0_0, .int .i64 p0_1, .int .i64 p0_2, .int .i64 p0_3, .int .i64 p0_4, .int .i64 p0_5] 28 w fun b1 w2 =>
  LoadA w2 ⟨b1, 0, none⟩ [.int .i64, .int .i64, .int .i64, .int .i64, .int .i64, .int .i64] fun (x3 : Int × Int × Int × Int × Int × Int × Unit) =>
  CallV Try.prog 51 #[.agg #[.int .i64 x3.1, .int .i64 x3.2.1, .int .i64 x3.2.2.1, .int .i64 x3.2.2.2.1, .int .i64 x3.2.2.2.2.1, .int .i64 x3.2.2.2.2.2.1], .func (.func 56) #[] #[.pointer (some ⟨b1, 0, none⟩)]] w2 [.one (.int .i64)] fun (r4 : Int × Unit) w5 =>
  K (r4.1, ()) w5
theorem geometry_Bound.vc (p0_0 : Int) (p0_1 : Int) (p0_2 : Int) (p0_3 : Int) (p0_4 : Int) (p0_5 : Int) (w : World) (K : Int × Unit → World → Prop) (h : geometry_Bound.P p0_0 p0_1 p0_2 p0_3 p0_4 p0_5 w K) : CallV Try.prog 22 #[.agg #[.int .i64 p0_0, .int .i64 p0_1, .int .i64 p0_2, .int .i64 p0_3, .int .i64 p0_4, .int .i64 p0_5]] w [.one (.int .i64)] K := by
  have e : vcFun Try.prog okf false Try.f22 geometry_Bound.A #[.agg #[.int .i64 p0_0, .int .i64 p0_1, .int .i64 p0_2, .int .i64 p0_3, .int .i64 p0_4, .int .i64 p0_5]] w [.one (.int .i64)] K = geometry_Bound.P p0_0 p0_1 p0_2 p0_3 p0_4 p0_5 w K := by kernel_rfl
  exact vcFun.calls okf_ok follows Try.func22 (e.symm ▸ h)

/-! ### nepenthe/geometry.Bound$1: function 56 -/
def geometry_Bound_1.A : Ann := .no
def geometry_Bound_1.P (q0 : Addr) (w : World) (K : Int × Unit → World → Prop) : Prop :=
  LoadS w q0 (.int .i64) fun (x1 : Int) =>
  Rng .i64 ((40 : Int) * x1) ∧
  LoadS w q0 (.int .i64) fun (x2 : Int) =>
  Rng .i64 (((40 : Int) * x1) * x2) ∧
  LoadS w (q0.add 1) (.int .i64) fun (x3 : Int) =>
  Rng .i64 ((((40 : Int) * x1) * x2) * x3) ∧
  LoadS w (q0.add 1) (.int .i64) fun (x4 : Int) =>
  Rng .i64 (((((40 : Int) * x1) * x2) * x3) * x4) ∧
  K (((((40 : Int) * x1) * x2) * x3) * x4, ()) w
theorem geometry_Bound_1.vc (q0 : Addr) (w : World) (K : Int × Unit → World → Prop) (h : geometry_Bound_1.P q0 w K) : CallV Try.prog 56 #[.pointer (some q0)] w [.one (.int .i64)] K := by
  have e : vcFun Try.prog okf false Try.f56 geometry_Bound_1.A #[.pointer (some q0)] w [.one (.int .i64)] K = geometry_Bound_1.P q0 w K := by kernel_rfl
  exact vcFun.calls okf_ok follows Try.func56 (e.symm ▸ h)

/-! ### nepenthe/geometry.Index: function 25 -/
def geometry_Index.A : Ann := .no
def geometry_Index.P (p0_0 : Int) (p0_1 : Int) (p0_2 : Int) (p0_3 : Int) (p0_4 : Int) (p0_5 : Int) (p1_0 : Int) (p1_1 : Int) (w : World) (K : Int × Int × Unit → World → Prop) : Prop :=
  NewV #[.int .i64 p0_0, .int .i64 p0_1, .int .i64 p0_2, .int .i64 p0_3, .int .i64 p0_4, .int .i64 p0_5] 28 w fun b1 w2 =>
  NewV #[.int .i64 p1_0, .int .i64 p1_1] 34 w2 fun b3 w4 =>
  LoadA w4 ⟨b1, 0, none⟩ [.int .i64, .int .i64, .int .i64, .int .i64, .int .i64, .int .i64] fun (x5 : Int × Int × Int × Int × Int × Int × Unit) =>
  CallV Try.prog 17 #[.agg #[.int .i64 x5.1, .int .i64 x5.2.1, .int .i64 x5.2.2.1, .int .i64 x5.2.2.2.1, .int .i64 x5.2.2.2.2.1, .int .i64 x5.2.2.2.2.2.1]] w4 [.one (.int .i64)] fun (r6 : Int × Unit) w7 =>
  cond (r6.1 != 0)
  (K ((0 : Int), (2 : Int), ()) w7)
  (LoadS w7 ⟨b3, 0, none⟩ (.int .i64) fun (x8 : Int) =>
  cond (decide (x8 < 0))
  (K ((0 : Int), (2 : Int), ()) w7)
  (LoadS w7 ⟨b3, 0, none⟩ (.int .i64) fun (x9 : Int) =>
  LoadS w7 ⟨b1, 0, none⟩ (.int .i64) fun (x10 : Int) =>
  cond (decide (x9 ≥ x10))
  (K ((0 : Int), (2 : Int), ()) w7)
  (LoadS w7 ⟨b3, 1, none⟩ (.int .i64) fun (x11 : Int) =>
  cond (decide (x11 < 0))
  (K ((0 : Int), (2 : Int), ()) w7)
  (LoadS w7 ⟨b3, 1, none⟩ (.int .i64) fun (x12 : Int) =>
  LoadS w7 ⟨b1, 1, none⟩ (.int .i64) fun (x13 : Int) =>
  cond (decide (x12 ≥ x13))
  (K ((0 : Int), (2 : Int), ()) w7)
  (LoadS w7 ⟨b3, 0, none⟩ (.int .i64) fun (x14 : Int) =>
  LoadS w7 ⟨b1, 1, none⟩ (.int .i64) fun (x15 : Int) =>
  Rng .i64 (x14 * x15) ∧
  LoadS w7 ⟨b3, 1, none⟩ (.int .i64) fun (x16 : Int) =>
  Rng .i64 ((x14 * x15) + x16) ∧
  K ((x14 * x15) + x16, (0 : Int), ()) w7)))))
theorem geometry_Index.vc (p0_0 : Int) (p0_1 : Int) (p0_2 : Int) (p0_3 : Int) (p0_4 : Int) (p0_5 : Int) (p1_0 : Int) (p1_1 : Int) (w : World) (K : Int × Int × Unit → World → Prop) (h : geometry_Index.P p0_0 p0_1 p0_2 p0_3 p0_4 p0_5 p1_0 p1_1 w K) : CallV Try.prog 25 #[.agg #[.int .i64 p0_0, .int .i64 p0_1, .int .i64 p0_2, .int .i64 p0_3, .int .i64 p0_4, .int .i64 p0_5], .agg #[.int .i64 p1_0, .int .i64 p1_1]] w [.one (.int .i64), .one (.int .i64)] K := by
  have e : vcFun Try.prog okf false Try.f25 geometry_Index.A #[.agg #[.int .i64 p0_0, .int .i64 p0_1, .int .i64 p0_2, .int .i64 p0_3, .int .i64 p0_4, .int .i64 p0_5], .agg #[.int .i64 p1_0, .int .i64 p1_1]] w [.one (.int .i64), .one (.int .i64)] K = geometry_Index.P p0_0 p0_1 p0_2 p0_3 p0_4 p0_5 p1_0 p1_1 w K := by kernel_rfl
  exact vcFun.calls okf_ok follows Try.func25 (e.symm ▸ h)

/-! ### nepenthe/geometry.Quota: function 26 -/
def geometry_Quota.A : Ann := .no
def geometry_Quota.P (p0_0 : Int) (p0_1 : Int) (p0_2 : Int) (p0_3 : Int) (p0_4 : Int) (p0_5 : Int) (p1 : Int) (w : World) (K : Int × Int × Unit → World → Prop) : Prop :=
  NewV #[.int .i64 p0_0, .int .i64 p0_1, .int .i64 p0_2, .int .i64 p0_3, .int .i64 p0_4, .int .i64 p0_5] 28 w fun b1 w2 =>
  LoadA w2 ⟨b1, 0, none⟩ [.int .i64, .int .i64, .int .i64, .int .i64, .int .i64, .int .i64] fun (x3 : Int × Int × Int × Int × Int × Int × Unit) =>
  CallV Try.prog 17 #[.agg #[.int .i64 x3.1, .int .i64 x3.2.1, .int .i64 x3.2.2.1, .int .i64 x3.2.2.2.1, .int .i64 x3.2.2.2.2.1, .int .i64 x3.2.2.2.2.2.1]] w2 [.one (.int .i64)] fun (r4 : Int × Unit) w5 =>
  cond (r4.1 != 0)
  (K ((0 : Int), r4.1, ()) w5)
  (cond (decide (p1 < 1))
  (K ((0 : Int), (13 : Int), ()) w5)
  (cond (decide (p1 > 65535))
  (K ((0 : Int), (13 : Int), ()) w5)
  (LoadS w5 ⟨b1, 1, none⟩ (.int .i64) fun (x6 : Int) =>
  Rng .i64 (x6 - 1) ∧
  Rng .i64 (p1 + (x6 - 1)) ∧
  Rng .i64 ((p1 + (x6 - 1)) - 1) ∧
  (x6 - 1) ≠ (0 : Int) ∧ Rng .i64 (Int.tdiv ((p1 + (x6 - 1)) - 1) (x6 - 1)) ∧
  Rng .i64 ((Int.tdiv ((p1 + (x6 - 1)) - 1) (x6 - 1)) + 2) ∧
  K ((Int.tdiv ((p1 + (x6 - 1)) - 1) (x6 - 1)) + 2, (0 : Int), ()) w5)))
theorem geometry_Quota.vc (p0_0 : Int) (p0_1 : Int) (p0_2 : Int) (p0_3 : Int) (p0_4 : Int) (p0_5 : Int) (p1 : Int) (w : World) (K : Int × Int × Unit → World → Prop) (h : geometry_Quota.P p0_0 p0_1 p0_2 p0_3 p0_4 p0_5 p1 w K) : CallV Try.prog 26 #[.agg #[.int .i64 p0_0, .int .i64 p0_1, .int .i64 p0_2, .int .i64 p0_3, .int .i64 p0_4, .int .i64 p0_5], .int .i64 p1] w [.one (.int .i64), .one (.int .i64)] K := by
  have e : vcFun Try.prog okf false Try.f26 geometry_Quota.A #[.agg #[.int .i64 p0_0, .int .i64 p0_1, .int .i64 p0_2, .int .i64 p0_3, .int .i64 p0_4, .int .i64 p0_5], .int .i64 p1] w [.one (.int .i64), .one (.int .i64)] K = geometry_Quota.P p0_0 p0_1 p0_2 p0_3 p0_4 p0_5 p1 w K := by kernel_rfl
  exact vcFun.calls okf_ok follows Try.func26 (e.symm ▸ h)

/-! ### nepenthe/geometry.Fit: function 45 -/
-- loop 0 carries 6: .one (.int .i64), 20: .one (.int .i64)
def geometry_Fit.A : Ann := .two .no (.two .no (.two .no (.two (.two .no (.one (.loop [4, 6, 8, 9, 10, 20, 21, 22, 23, 24, 25, 26, 27, 28, 29, 30, 31, 32, 33, 34, 35, 36, 37] [(6, .one (.int .i64)), (20, .one (.int .i64))] .no))) .no)))
def geometry_Fit.P (p0_0 : Int) (p0_1 : Int) (p0_2 : Int) (p0_3 : Int) (p0_4 : Int) (p0_5 : Int) (a1 : Option Addr) (n1 c1 : Nat) (w : World) (K : Int × Unit → World → Prop) : Prop :=
  NewV #[.int .i64 p0_0, .int .i64 p0_1, .int .i64 p0_2, .int .i64 p0_3, .int .i64 p0_4, .int .i64 p0_5] 28 w fun b1 w2 =>
  LoadA w2 ⟨b1, 0, none⟩ [.int .i64, .int .i64, .int .i64, .int .i64, .int .i64, .int .i64] fun (x3 : Int × Int × Int × Int × Int × Int × Unit) =>
  CallV Try.prog 17 #[.agg #[.int .i64 x3.1, .int .i64 x3.2.1, .int .i64 x3.2.2.1, .int .i64 x3.2.2.2.1, .int .i64 x3.2.2.2.2.1, .int .i64 x3.2.2.2.2.2.1]] w2 [.one (.int .i64)] fun (r4 : Int × Unit) w5 =>
  cond (r4.1 != 0)
  (K (r4.1, ()) w5)
  (LoadS w5 ⟨b1, 3, none⟩ (.int .i64) fun (x6 : Int) =>
  LoopV [.one (.int .i64), .one (.int .i64)] (x6, (0 : Int), ()) w5 fun (z7 : Int × Int × Unit) w8 (K9 : Int × Int × Unit → World → Prop) =>
  cond (decide (z7.2.1 < ((n1 : Nat) : Int)))
  ((0 ≤ z7.2.1 ∧ z7.2.1 < ((n1 : Nat) : Int)) ∧ ∃ q10 : Addr, a1 = some q10 ∧
  LoadS w8 (q10.add (z7.2.1.toNat * 1)) (.int .i64) fun (x11 : Int) =>
  LoadA w8 ⟨b1, 0, none⟩ [.int .i64, .int .i64, .int .i64, .int .i64, .int .i64, .int .i64] fun (x12 : Int × Int × Int × Int × Int × Int × Unit) =>
  CallV Try.prog 26 #[.agg #[.int .i64 x12.1, .int .i64 x12.2.1, .int .i64 x12.2.2.1, .int .i64 x12.2.2.2.1, .int .i64 x12.2.2.2.2.1, .int .i64 x12.2.2.2.2.2.1], .int .i64 x11] w8 [.one (.int .i64), .one (.int .i64)] fun (r13 : Int × Int × Unit) w14 =>
  cond (r13.2.1 != 0)
  (K (r13.2.1, ()) w14)
  (Rng .i64 (z7.1 + r13.1) ∧
  NameI (min (z7.1 + r13.1) (65 : Int)) fun z15 =>
  Rng .i64 (z7.2.1 + 1) ∧
  K9 (z15, z7.2.1 + 1, ()) w14))
  (cond (decide (((n1 : Nat) : Int) > 4))
  (K ((14 : Int), ()) w8)
  (LoadS w8 ⟨b1, 0, none⟩ (.int .i64) fun (x16 : Int) =>
  Rng .i64 (x16 - 4) ∧
  cond (decide (z7.1 > (x16 - 4)))
  (K ((14 : Int), ()) w8)
  (K ((0 : Int), ()) w8))))
theorem geometry_Fit.vc (p0_0 : Int) (p0_1 : Int) (p0_2 : Int) (p0_3 : Int) (p0_4 : Int) (p0_5 : Int) (a1 : Option Addr) (n1 c1 : Nat) (w : World) (K : Int × Unit → World → Prop) (h : geometry_Fit.P p0_0 p0_1 p0_2 p0_3 p0_4 p0_5 a1 n1 c1 w K) : CallV Try.prog 45 #[.agg #[.int .i64 p0_0, .int .i64 p0_1, .int .i64 p0_2, .int .i64 p0_3, .int .i64 p0_4, .int .i64 p0_5], .slice a1 n1 c1] w [.one (.int .i64)] K := by
  have e : vcFun Try.prog okf false Try.f45 geometry_Fit.A #[.agg #[.int .i64 p0_0, .int .i64 p0_1, .int .i64 p0_2, .int .i64 p0_3, .int .i64 p0_4, .int .i64 p0_5], .slice a1 n1 c1] w [.one (.int .i64)] K = geometry_Fit.P p0_0 p0_1 p0_2 p0_3 p0_4 p0_5 a1 n1 c1 w K := by kernel_rfl
  exact vcFun.calls okf_ok follows Try.func45 (e.symm ▸ h)

/-! ### nepenthe/geometry.Room: function 46 -/
-- loop 0 carries 5: .one (.int .i64), 28: .one (.int .i64)
def geometry_Room.A : Ann := .two .no (.two .no (.two .no (.two (.two .no (.one (.loop [5, 7, 8, 9, 28, 29, 30, 31, 32, 33, 34, 35, 36, 37, 38, 39, 40, 41] [(5, .one (.int .i64)), (28, .one (.int .i64))] .no))) .no)))
def geometry_Room.P (p0_0 : Int) (p0_1 : Int) (p0_2 : Int) (p0_3 : Int) (p0_4 : Int) (p0_5 : Int) (a1 : Option Addr) (n1 c1 : Nat) (w : World) (K : Int × Unit → World → Prop) : Prop :=
  NewV #[.int .i64 p0_0, .int .i64 p0_1, .int .i64 p0_2, .int .i64 p0_3, .int .i64 p0_4, .int .i64 p0_5] 28 w fun b1 w2 =>
  LoadA w2 ⟨b1, 0, none⟩ [.int .i64, .int .i64, .int .i64, .int .i64, .int .i64, .int .i64] fun (x3 : Int × Int × Int × Int × Int × Int × Unit) =>
  CallV Try.prog 45 #[.agg #[.int .i64 x3.1, .int .i64 x3.2.1, .int .i64 x3.2.2.1, .int .i64 x3.2.2.2.1, .int .i64 x3.2.2.2.2.1, .int .i64 x3.2.2.2.2.2.1], .slice a1 n1 c1] w2 [.one (.int .i64)] fun (r4 : Int × Unit) w5 =>
  cond (r4.1 != 0)
  (K ((0 : Int), ()) w5)
  (cond (decide (((n1 : Nat) : Int) ≥ 4))
  (K ((0 : Int), ()) w5)
  (LoadS w5 ⟨b1, 0, none⟩ (.int .i64) fun (x6 : Int) =>
  Rng .i64 (x6 - 4) ∧
  LoadS w5 ⟨b1, 3, none⟩ (.int .i64) fun (x7 : Int) =>
  Rng .i64 ((x6 - 4) - x7) ∧
  Rng .i64 (((x6 - 4) - x7) - 2) ∧
  LoopV [.one (.int .i64), .one (.int .i64)] (((x6 - 4) - x7) - 2, (0 : Int), ()) w5 fun (z8 : Int × Int × Unit) w9 (K10 : Int × Int × Unit → World → Prop) =>
  cond (decide (z8.2.1 < ((n1 : Nat) : Int)))
  ((0 ≤ z8.2.1 ∧ z8.2.1 < ((n1 : Nat) : Int)) ∧ ∃ q11 : Addr, a1 = some q11 ∧
  LoadS w9 (q11.add (z8.2.1.toNat * 1)) (.int .i64) fun (x12 : Int) =>
  LoadA w9 ⟨b1, 0, none⟩ [.int .i64, .int .i64, .int .i64, .int .i64, .int .i64, .int .i64] fun (x13 : Int × Int × Int × Int × Int × Int × Unit) =>
  CallV Try.prog 26 #[.agg #[.int .i64 x13.1, .int .i64 x13.2.1, .int .i64 x13.2.2.1, .int .i64 x13.2.2.2.1, .int .i64 x13.2.2.2.2.1, .int .i64 x13.2.2.2.2.2.1], .int .i64 x12] w9 [.one (.int .i64), .one (.int .i64)] fun (r14 : Int × Int × Unit) w15 =>
  Rng .i64 (z8.1 - r14.1) ∧
  Rng .i64 (z8.2.1 + 1) ∧
  K10 (z8.1 - r14.1, z8.2.1 + 1, ()) w15)
  (LoadS w9 ⟨b1, 1, none⟩ (.int .i64) fun (x16 : Int) =>
  Rng .i64 (x16 - 1) ∧
  Rng .i64 (z8.1 * (x16 - 1)) ∧
  NameI (max (0 : Int) (z8.1 * (x16 - 1))) fun z17 =>
  NameI (min z17 (65535 : Int)) fun z18 =>
  K (z18, ()) w9)))
theorem geometry_Room.vc (p0_0 : Int) (p0_1 : Int) (p0_2 : Int) (p0_3 : Int) (p0_4 : Int) (p0_5 : Int) (a1 : Option Addr) (n1 c1 : Nat) (w : World) (K : Int × Unit → World → Prop) (h : geometry_Room.P p0_0 p0_1 p0_2 p0_3 p0_4 p0_5 a1 n1 c1 w K) : CallV Try.prog 46 #[.agg #[.int .i64 p0_0, .int .i64 p0_1, .int .i64 p0_2, .int .i64 p0_3, .int .i64 p0_4, .int .i64 p0_5], .slice a1 n1 c1] w [.one (.int .i64)] K := by
  have e : vcFun Try.prog okf false Try.f46 geometry_Room.A #[.agg #[.int .i64 p0_0, .int .i64 p0_1, .int .i64 p0_2, .int .i64 p0_3, .int .i64 p0_4, .int .i64 p0_5], .slice a1 n1 c1] w [.one (.int .i64)] K = geometry_Room.P p0_0 p0_1 p0_2 p0_3 p0_4 p0_5 a1 n1 c1 w K := by kernel_rfl
  exact vcFun.calls okf_ok follows Try.func46 (e.symm ▸ h)

/-! ### nepenthe/nepenthelaw11.awake: function 23 -/
def law11_awake.A : Ann := .no
def law11_awake.P  (w : World) (K : Bool × Unit → World → Prop) : Prop :=
  NewV #[.int .i64 0, .int .i64 0, .int .i64 0, .int .i64 0, .int .i64 0, .int .i64 0] 28 w fun b1 w2 =>
  StoreV w2 ⟨b1, 0, none⟩ [.int .i64 10, .int .i64 16, .int .i64 64, .int .i64 1, .int .i64 4, .int .i64 1] fun w3 =>
  LoadA w3 ⟨b1, 0, none⟩ [.int .i64, .int .i64, .int .i64, .int .i64, .int .i64, .int .i64] fun (x4 : Int × Int × Int × Int × Int × Int × Unit) =>
  CallV Try.prog 18 #[.agg #[.int .i64 x4.1, .int .i64 x4.2.1, .int .i64 x4.2.2.1, .int .i64 x4.2.2.2.1, .int .i64 x4.2.2.2.2.1, .int .i64 x4.2.2.2.2.2.1]] w3 [.one (.int .i64)] fun (r5 : Int × Unit) w6 =>
  cond (r5.1 == 6)
  (LoadA w6 ⟨b1, 0, none⟩ [.int .i64, .int .i64, .int .i64, .int .i64, .int .i64, .int .i64] fun (x7 : Int × Int × Int × Int × Int × Int × Unit) =>
  CallV Try.prog 17 #[.agg #[.int .i64 x7.1, .int .i64 x7.2.1, .int .i64 x7.2.2.1, .int .i64 x7.2.2.2.1, .int .i64 x7.2.2.2.2.1, .int .i64 x7.2.2.2.2.2.1]] w6 [.one (.int .i64)] fun (r8 : Int × Unit) w9 =>
  cond (r8.1 == 0)
  (CallV Try.prog 17 #[.agg #[.int .i64 0, .int .i64 0, .int .i64 0, .int .i64 0, .int .i64 0, .int .i64 0]] w9 [.one (.int .i64)] fun (r10 : Int × Unit) w11 =>
  K ((r10.1 == 2), ()) w11)
  (K (false, ()) w9))
  (K (false, ()) w6)
theorem law11_awake.vc  (w : World) (K : Bool × Unit → World → Prop) (h : law11_awake.P  w K) : CallV Try.prog 23 #[] w [.one .bool] K := by
  have e : vcFun Try.prog okf false Try.f23 law11_awake.A #[] w [.one .bool] K = law11_awake.P  w K := by kernel_rfl
  exact vcFun.calls okf_ok follows Try.func23 (e.symm ▸ h)

end Go.Proofs.Ytimbomieepefcaa.Vc
