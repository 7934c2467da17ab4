/- The plans of functions as plain statements, printed by wip/tools/vcgen.py; the kernel holds each to the code. -/
import Derived.Test.YtombjhkdakmhpaaEnv
namespace Go.Proofs.Ytombjhkdakmhpaa.Vc
open Go Go.Eng
set_option linter.unusedVariables false

/-! ### nepenthe/fault.Bit: function 19 -/
def fault_Bit.A : Ann := .no
def fault_Bit.P (a0 : Option Addr) (n0 c0 : Nat) (p1 : Int) (w : World) (K : Bool × Unit → World → Prop) : Prop :=
  cond (decide (p1 < 0))
  (K (false, ()) w)
  (cond (((n0 : Nat) : Int) == 0)
  (K (true, ()) w)
  (8 ≠ (0 : Int) ∧ Rng .i64 (Int.tdiv p1 8) ∧
  ((n0 : Nat) : Int) ≠ (0 : Int) ∧
  (0 ≤ (Int.tmod (Int.tdiv p1 8) ((n0 : Nat) : Int)) ∧ (Int.tmod (Int.tdiv p1 8) ((n0 : Nat) : Int)) < ((n0 : Nat) : Int)) ∧ ∃ q1 : Addr, a0 = some q1 ∧
  LoadS w (q1.add ((Int.tmod (Int.tdiv p1 8) ((n0 : Nat) : Int)).toNat * 1)) (.int .u8) fun (x2 : Int) =>
  8 ≠ (0 : Int) ∧
  (0 : Int) ≤ (Int.tmod p1 8) ∧
  K (((Go.bits .and .u8 (Int.fdiv x2 (2 ^ (Nat.min ((Int.tmod p1 8)).toNat 8))) 1) == 1), ()) w))
theorem fault_Bit.vc (a0 : Option Addr) (n0 c0 : Nat) (p1 : Int) (w : World) (K : Bool × Unit → World → Prop) (h : fault_Bit.P a0 n0 c0 p1 w K) : CallV Try.prog 19 #[.slice a0 n0 c0, .int .i64 p1] w [.one .bool] K := by
  have e : vcFun Try.prog okf false Try.f19 fault_Bit.A #[.slice a0 n0 c0, .int .i64 p1] w [.one .bool] K = fault_Bit.P a0 n0 c0 p1 w K := by kernel_rfl
  exact vcFun.calls okf_ok follows Try.func19 (e.symm ▸ h)

/-! ### nepenthe/nepentheref12.Bit: function 20 -/
def ref12_Bit.A : Ann := .two .no (.two .no (.two (.draw (.take 0 (.take 1 (.take 2 (.take 3 (.take 4 (.take 5 (.take 6 (.take 7 (.take 8 (.take 9 (.take 10 (.take 11 (.take 12 (.take 13 (.take 14 (.eff 15 (.take 16 (.take 17 (.take 18 (.take 19 (.take 20 (.done))))))))))))))))))))))) .no))
def ref12_Bit.P (a0 : Option Addr) (n0 c0 : Nat) (p1 : Int) (w : World) (K : Bool × Unit → World → Prop) : Prop :=
  cond (decide (p1 < 0))
  (K (false, ()) w)
  (DrawV fun D1 =>
  cond (((n0 : Nat) : Int) == 0)
  (K (true, ()) w.drew)
  (8 ≠ (0 : Int) ∧ Rng .i64 (Int.tdiv p1 8) ∧
  ((n0 : Nat) : Int) ≠ (0 : Int) ∧
  (0 ≤ (Int.tmod (Int.tdiv p1 8) ((n0 : Nat) : Int)) ∧ (Int.tmod (Int.tdiv p1 8) ((n0 : Nat) : Int)) < ((n0 : Nat) : Int)) ∧ ∃ q2 : Addr, a0 = some q2 ∧
  (D1 (q2.add ((Int.tmod (Int.tdiv p1 8) ((n0 : Nat) : Int)).toNat * 1)).block ∧ LoadS w.drew (q2.add ((Int.tmod (Int.tdiv p1 8) ((n0 : Nat) : Int)).toNat * 1)) (.int .u8) fun (x3 : Int) =>
  8 ≠ (0 : Int) ∧
  CallV Try.prog 44 #[.int .i64 (Int.tmod p1 8)] w.drew [.one (.int .i64)] fun (r4 : Int × Unit) w5 =>
  KeepOn D1 w.drew w5 ∧
  r4.1 ≠ (0 : Int) ∧ Rng .i64 (Int.tdiv (IntKind.i64.wrap x3) r4.1) ∧
  2 ≠ (0 : Int) ∧
  K (((Int.tmod (Int.tdiv (IntKind.i64.wrap x3) r4.1) 2) == 1), ()) w5)))
theorem ref12_Bit.vc (a0 : Option Addr) (n0 c0 : Nat) (p1 : Int) (w : World) (K : Bool × Unit → World → Prop) (h : ref12_Bit.P a0 n0 c0 p1 w K) : CallV Try.prog 20 #[.slice a0 n0 c0, .int .i64 p1] w [.one .bool] K := by
  have e : vcFun Try.prog okf false Try.f20 ref12_Bit.A #[.slice a0 n0 c0, .int .i64 p1] w [.one .bool] K = ref12_Bit.P a0 n0 c0 p1 w K := by kernel_rfl
  exact vcFun.calls okf_ok follows Try.func20 (e.symm ▸ h)

/-! ### nepenthe/nepenthelaw12.awake: function 21 -/
def law12_awake.A : Ann := .no
def law12_awake.P  (w : World) (K : Bool × Unit → World → Prop) : Prop :=
  NewV #[.int .u8 255] 5 w fun b1 w2 =>
  NewV #[.int .u8 15] 5 w2 fun b3 w4 =>
  NewV #[.int .u8 48] 5 w4 fun b5 w6 =>
  CallV Try.prog 23 #[.slice (some ⟨b1, 0, none⟩) 1 1, .slice (some ⟨b3, 0, none⟩) 1 1, .slice (some ⟨b5, 0, none⟩) 1 1] w6 [.one .sl, .one (.int .i64)] fun (r7 : SlV × Int × Unit) w8 =>
  cond (r7.2.1 == 0)
  (cond (((r7.1.n : Nat) : Int) == 1)
  ((0 ≤ (0 : Int) ∧ 0 < ((r7.1.n : Nat) : Int)) ∧ ∃ q9 : Addr, r7.1.a = some q9 ∧
  LoadS w8 (q9.add (0 * 1)) (.int .u8) fun (x10 : Int) =>
  cond (x10 == 207)
  (CallV Try.prog 19 #[.slice none 0 0, .int .i64 3] w8 [.one .bool] fun (r11 : Bool × Unit) w12 =>
  K (r11.1, ()) w12)
  (K (false, ()) w8))
  (K (false, ()) w8))
  (K (false, ()) w8)
theorem law12_awake.vc  (w : World) (K : Bool × Unit → World → Prop) (h : law12_awake.P  w K) : CallV Try.prog 21 #[] w [.one .bool] K := by
  have e : vcFun Try.prog okf false Try.f21 law12_awake.A #[] w [.one .bool] K = law12_awake.P  w K := by kernel_rfl
  exact vcFun.calls okf_ok follows Try.func21 (e.symm ▸ h)

/-! ### nepenthe/fault.Clear: function 23 -/
def fault_Clear.A : Ann := .no
def fault_Clear.P (a0 : Option Addr) (n0 c0 : Nat) (a1 : Option Addr) (n1 c1 : Nat) (a2 : Option Addr) (n2 c2 : Nat) (w : World) (K : SlV × Int × Unit → World → Prop) : Prop :=
  cond (((n0 : Nat) : Int) != ((n1 : Nat) : Int))
  (K ((⟨none, 0, 0⟩ : SlV), (2 : Int), ()) w)
  (CallV Try.prog 46 #[.slice a0 n0 c0, .slice a1 n1 c1] w [.one .sl] fun (r1 : SlV × Unit) w2 =>
  CallV Try.prog 45 #[.slice a0 n0 c0, .slice r1.1.a r1.1.n r1.1.c, .slice a2 n2 c2, .bool false] w2 [.one .sl] fun (r3 : SlV × Unit) w4 =>
  K (r3.1, (0 : Int), ()) w4)
theorem fault_Clear.vc (a0 : Option Addr) (n0 c0 : Nat) (a1 : Option Addr) (n1 c1 : Nat) (a2 : Option Addr) (n2 c2 : Nat) (w : World) (K : SlV × Int × Unit → World → Prop) (h : fault_Clear.P a0 n0 c0 a1 n1 c1 a2 n2 c2 w K) : CallV Try.prog 23 #[.slice a0 n0 c0, .slice a1 n1 c1, .slice a2 n2 c2] w [.one .sl, .one (.int .i64)] K := by
  have e : vcFun Try.prog okf false Try.f23 fault_Clear.A #[.slice a0 n0 c0, .slice a1 n1 c1, .slice a2 n2 c2] w [.one .sl, .one (.int .i64)] K = fault_Clear.P a0 n0 c0 a1 n1 c1 a2 n2 c2 w K := by kernel_rfl
  exact vcFun.calls okf_ok follows Try.func23 (e.symm ▸ h)

/-! ### nepenthe/fault.Fail: function 24 -/
def fault_Fail.A : Ann := .no
def fault_Fail.P (a0 : Option Addr) (n0 c0 : Nat) (a1 : Option Addr) (n1 c1 : Nat) (a2 : Option Addr) (n2 c2 : Nat) (w : World) (K : SlV × Int × Unit → World → Prop) : Prop :=
  cond (((n0 : Nat) : Int) != ((n1 : Nat) : Int))
  (K ((⟨none, 0, 0⟩ : SlV), (2 : Int), ()) w)
  (CallV Try.prog 46 #[.slice a0 n0 c0, .slice a1 n1 c1] w [.one .sl] fun (r1 : SlV × Unit) w2 =>
  CallV Try.prog 45 #[.slice a0 n0 c0, .slice r1.1.a r1.1.n r1.1.c, .slice a2 n2 c2, .bool true] w2 [.one .sl] fun (r3 : SlV × Unit) w4 =>
  K (r3.1, (0 : Int), ()) w4)
theorem fault_Fail.vc (a0 : Option Addr) (n0 c0 : Nat) (a1 : Option Addr) (n1 c1 : Nat) (a2 : Option Addr) (n2 c2 : Nat) (w : World) (K : SlV × Int × Unit → World → Prop) (h : fault_Fail.P a0 n0 c0 a1 n1 c1 a2 n2 c2 w K) : CallV Try.prog 24 #[.slice a0 n0 c0, .slice a1 n1 c1, .slice a2 n2 c2] w [.one .sl, .one (.int .i64)] K := by
  have e : vcFun Try.prog okf false Try.f24 fault_Fail.A #[.slice a0 n0 c0, .slice a1 n1 c1, .slice a2 n2 c2] w [.one .sl, .one (.int .i64)] K = fault_Fail.P a0 n0 c0 a1 n1 c1 a2 n2 c2 w K := by kernel_rfl
  exact vcFun.calls okf_ok follows Try.func24 (e.symm ▸ h)

/-! ### nepenthe/nepentheref12.And: function 26 -/
-- loop 0 carries 5: .one .sl, 6: .one (.int .i64)
def ref12_And.A : Ann := .two .no (.two .no (.two (.two .no (.one (.loop [5, 6, 8, 9, 10, 11, 12, 13, 14, 15, 16, 17, 18, 19, 20, 21, 22, 23, 24, 25] [(5, .one .sl), (6, .one (.int .i64))] (.two .no (.two (.one (.draw (.take 0 (.take 1 (.take 2 (.take 3 (.take 4 (.take 5 (.take 6 (.take 7 (.take 8 (.take 9 (.eff 10 (.eff 11 (.take 12 (.done)))))))))))))))) .no))))) .no))
def ref12_And.P (a0 : Option Addr) (n0 c0 : Nat) (a1 : Option Addr) (n1 c1 : Nat) (w : World) (K : SlV × Unit → World → Prop) : Prop :=
  NewV #[] 5 w fun b1 w2 =>
  LoopV [.one .sl, .one (.int .i64)] ((⟨(some ⟨b1, 0, none⟩), 0, 0⟩ : SlV), (0 : Int), ()) w2 fun (z3 : SlV × Int × Unit) w4 (K5 : SlV × Int × Unit → World → Prop) =>
  cond (decide (z3.2.1 < ((n0 : Nat) : Int)))
  (DrawV fun D6 =>
  (0 ≤ z3.2.1 ∧ z3.2.1 < ((n0 : Nat) : Int)) ∧ ∃ q7 : Addr, a0 = some q7 ∧
  (D6 (q7.add (z3.2.1.toNat * 1)).block ∧ LoadS w4.drew (q7.add (z3.2.1.toNat * 1)) (.int .u8) fun (x8 : Int) =>
  (0 ≤ z3.2.1 ∧ z3.2.1 < ((n1 : Nat) : Int)) ∧ ∃ q9 : Addr, a1 = some q9 ∧
  (D6 (q9.add (z3.2.1.toNat * 1)).block ∧ LoadS w4.drew (q9.add (z3.2.1.toNat * 1)) (.int .u8) fun (x10 : Int) =>
  NewV #[.int .u8 (Go.bits .and .u8 x8 x10)] 5 w4.drew fun b11 w12 =>
  KeepOn D6 w4.drew w12 ∧
  AppS w12 (some ⟨b11, 0, none⟩) 1 1 fun ns17 =>
  AppV w12 5 1 1 z3.1.a z3.1.n z3.1.c ns17 1 fun a13 n14 c15 w16 =>
  KeepOn D6 w4.drew w16 ∧
  Rng .i64 (z3.2.1 + 1) ∧
  K5 ((⟨a13, n14, c15⟩ : SlV), z3.2.1 + 1, ()) w16)))
  (K (z3.1, ()) w4)
theorem ref12_And.vc (a0 : Option Addr) (n0 c0 : Nat) (a1 : Option Addr) (n1 c1 : Nat) (w : World) (K : SlV × Unit → World → Prop) (h : ref12_And.P a0 n0 c0 a1 n1 c1 w K) : CallV Try.prog 26 #[.slice a0 n0 c0, .slice a1 n1 c1] w [.one .sl] K := by
  have e : vcFun Try.prog okf false Try.f26 ref12_And.A #[.slice a0 n0 c0, .slice a1 n1 c1] w [.one .sl] K = ref12_And.P a0 n0 c0 a1 n1 c1 w K := by kernel_rfl
  exact vcFun.calls okf_ok follows Try.func26 (e.symm ▸ h)

/-! ### nepenthe/fault.Set: function 27 -/
def fault_Set.A : Ann := .no
def fault_Set.P (a0 : Option Addr) (n0 c0 : Nat) (a1 : Option Addr) (n1 c1 : Nat) (w : World) (K : SlV × Unit → World → Prop) : Prop :=
  CallV Try.prog 48 #[.slice a0 n0 c0] w [.one .sl] fun (r1 : SlV × Unit) w2 =>
  CallV Try.prog 45 #[.slice a0 n0 c0, .slice r1.1.a r1.1.n r1.1.c, .slice a1 n1 c1, .bool false] w2 [.one .sl] fun (r3 : SlV × Unit) w4 =>
  K (r3.1, ()) w4
theorem fault_Set.vc (a0 : Option Addr) (n0 c0 : Nat) (a1 : Option Addr) (n1 c1 : Nat) (w : World) (K : SlV × Unit → World → Prop) (h : fault_Set.P a0 n0 c0 a1 n1 c1 w K) : CallV Try.prog 27 #[.slice a0 n0 c0, .slice a1 n1 c1] w [.one .sl] K := by
  have e : vcFun Try.prog okf false Try.f27 fault_Set.A #[.slice a0 n0 c0, .slice a1 n1 c1] w [.one .sl] K = fault_Set.P a0 n0 c0 a1 n1 c1 w K := by kernel_rfl
  exact vcFun.calls okf_ok follows Try.func27 (e.symm ▸ h)

/-! ### nepenthe/fault.Check: function 30 -/
-- loop 0 carries 10: .one (.int .i64)
def fault_Check.A : Ann := .two .no (.two .no (.two (.two .no (.one (.loop [2, 4, 10, 11, 12, 13, 14, 15, 16, 17, 18, 19, 20, 21, 22, 23] [(10, .one (.int .i64))] .no))) .no))
def fault_Check.P (a0 : Option Addr) (n0 c0 : Nat) (w : World) (K : Int × Unit → World → Prop) : Prop :=
  cond (decide (((n0 : Nat) : Int) > 64))
  (K ((2 : Int), ()) w)
  (LoopV [.one (.int .i64)] ((0 : Int), ()) w fun (z1 : Int × Unit) w2 (K3 : Int × Unit → World → Prop) =>
  cond (decide (z1.1 < ((n0 : Nat) : Int)))
  ((0 ≤ z1.1 ∧ z1.1 < ((n0 : Nat) : Int)) ∧ ∃ q4 : Addr, a0 = some q4 ∧
  LoadA w2 (q4.add (z1.1.toNat * 3)) [.int .i64, .bool, .sl] fun (x5 : Int × Bool × SlV × Unit) =>
  NewV #[.int .i64 0, .bool false, .slice none 0 0] 45 w2 fun b6 w7 =>
  StoreV w7 ⟨b6, 0, none⟩ [.int .i64 x5.1, .bool x5.2.1, .slice x5.2.2.1.a x5.2.2.1.n x5.2.2.1.c] fun w8 =>
  LoadS w8 ⟨b6, 0, none⟩ (.int .i64) fun (x9 : Int) =>
  cond (decide (x9 < 0))
  (K ((2 : Int), ()) w8)
  (LoadS w8 ⟨b6, 2, none⟩ .sl fun (x10 : SlV) =>
  cond (decide (((x10.n : Nat) : Int) > 64))
  (K ((2 : Int), ()) w8)
  (Rng .i64 (z1.1 + 1) ∧
  K3 (z1.1 + 1, ()) w8)))
  (K ((0 : Int), ()) w2))
theorem fault_Check.vc (a0 : Option Addr) (n0 c0 : Nat) (w : World) (K : Int × Unit → World → Prop) (h : fault_Check.P a0 n0 c0 w K) : CallV Try.prog 30 #[.slice a0 n0 c0] w [.one (.int .i64)] K := by
  have e : vcFun Try.prog okf false Try.f30 fault_Check.A #[.slice a0 n0 c0] w [.one (.int .i64)] K = fault_Check.P a0 n0 c0 w K := by kernel_rfl
  exact vcFun.calls okf_ok follows Try.func30 (e.symm ▸ h)

/-! ### nepenthe/nepentheref12.Right: function 31 -/
-- loop 0 carries 3: .one (.int .i64)
def ref12_Right.A : Ann := .two .no (.two (.two .no (.one (.loop [2, 3, 4, 5, 6, 7, 8, 9, 10, 11, 12, 13, 14, 15, 16, 17, 18, 19, 20, 21, 22, 23, 24] [(3, .one (.int .i64))] .no))) .no)
def ref12_Right.P (a0 : Option Addr) (n0 c0 : Nat) (w : World) (K : Bool × Unit → World → Prop) : Prop :=
  LoopV [.one (.int .i64)] ((0 : Int), ()) w fun (z1 : Int × Unit) w2 (K3 : Int × Unit → World → Prop) =>
  cond (decide (z1.1 < ((n0 : Nat) : Int)))
  ((0 ≤ z1.1 ∧ z1.1 < ((n0 : Nat) : Int)) ∧ ∃ q4 : Addr, a0 = some q4 ∧
  LoadS w2 (q4.add (z1.1.toNat * 3)) (.int .i64) fun (x5 : Int) =>
  cond (decide (x5 < 0))
  (K (false, ()) w2)
  ((0 ≤ z1.1 ∧ z1.1 < ((n0 : Nat) : Int)) ∧ ∃ q6 : Addr, a0 = some q6 ∧
  LoadS w2 ((q6.add (z1.1.toNat * 3)).add 2) .sl fun (x7 : SlV) =>
  cond (decide (((x7.n : Nat) : Int) > 64))
  (K (false, ()) w2)
  (Rng .i64 (z1.1 + 1) ∧
  K3 (z1.1 + 1, ()) w2)))
  (K (decide (((n0 : Nat) : Int) ≤ 64), ()) w2)
theorem ref12_Right.vc (a0 : Option Addr) (n0 c0 : Nat) (w : World) (K : Bool × Unit → World → Prop) (h : ref12_Right.P a0 n0 c0 w K) : CallV Try.prog 31 #[.slice a0 n0 c0] w [.one .bool] K := by
  have e : vcFun Try.prog okf false Try.f31 ref12_Right.A #[.slice a0 n0 c0] w [.one .bool] K = ref12_Right.P a0 n0 c0 w K := by kernel_rfl
  exact vcFun.calls okf_ok follows Try.func31 (e.symm ▸ h)

/-! ### nepenthe/fault.At: function 32 -/
-- loop 0 carries 10: .one (.int .i64)
def fault_At.A : Ann := .two .no (.two (.two .no (.one (.loop [5, 7, 10, 11, 12, 13, 14, 15, 16, 17, 18, 19, 20, 21, 22, 23, 24] [(10, .one (.int .i64))] .no))) .no)
def fault_At.P (a0 : Option Addr) (n0 c0 : Nat) (p1 : Int) (w : World) (K : (Int × Bool × SlV × Unit) × Bool × Unit → World → Prop) : Prop :=
  NewV #[.int .i64 0, .bool false, .slice none 0 0] 45 w fun b1 w2 =>
  LoopV [.one (.int .i64)] ((0 : Int), ()) w2 fun (z3 : Int × Unit) w4 (K5 : Int × Unit → World → Prop) =>
  cond (decide (z3.1 < ((n0 : Nat) : Int)))
  ((0 ≤ z3.1 ∧ z3.1 < ((n0 : Nat) : Int)) ∧ ∃ q6 : Addr, a0 = some q6 ∧
  LoadA w4 (q6.add (z3.1.toNat * 3)) [.int .i64, .bool, .sl] fun (x7 : Int × Bool × SlV × Unit) =>
  NewV #[.int .i64 0, .bool false, .slice none 0 0] 45 w4 fun b8 w9 =>
  StoreV w9 ⟨b8, 0, none⟩ [.int .i64 x7.1, .bool x7.2.1, .slice x7.2.2.1.a x7.2.2.1.n x7.2.2.1.c] fun w10 =>
  LoadS w10 ⟨b8, 0, none⟩ (.int .i64) fun (x11 : Int) =>
  cond (x11 == p1)
  (NewV #[] 5 w10 fun b12 w13 =>
  LoadS w13 ⟨b8, 2, none⟩ .sl fun (x14 : SlV) =>
  AppS w13 x14.a x14.n 1 fun ns19 =>
  AppV w13 5 1 1 (some ⟨b12, 0, none⟩) 0 0 ns19 x14.n fun a15 n16 c17 w18 =>
  StoreV w18 ⟨b8, 2, none⟩ [.slice a15 n16 c17] fun w20 =>
  LoadA w20 ⟨b8, 0, none⟩ [.int .i64, .bool, .sl] fun (x21 : Int × Bool × SlV × Unit) =>
  StoreV w20 ⟨b1, 0, none⟩ [.int .i64 x21.1, .bool x21.2.1, .slice x21.2.2.1.a x21.2.2.1.n x21.2.2.1.c] fun w22 =>
  LoadA w22 ⟨b1, 0, none⟩ [.int .i64, .bool, .sl] fun (x23 : Int × Bool × SlV × Unit) =>
  K ((x23.1, x23.2.1, x23.2.2.1, ()), true, ()) w22)
  (Rng .i64 (z3.1 + 1) ∧
  K5 (z3.1 + 1, ()) w10))
  (StoreV w4 ⟨b1, 0, none⟩ [.int .i64 0, .bool false, .slice none 0 0] fun w24 =>
  LoadA w24 ⟨b1, 0, none⟩ [.int .i64, .bool, .sl] fun (x25 : Int × Bool × SlV × Unit) =>
  K ((x25.1, x25.2.1, x25.2.2.1, ()), false, ()) w24)
theorem fault_At.vc (a0 : Option Addr) (n0 c0 : Nat) (p1 : Int) (w : World) (K : (Int × Bool × SlV × Unit) × Bool × Unit → World → Prop) (h : fault_At.P a0 n0 c0 p1 w K) : CallV Try.prog 32 #[.slice a0 n0 c0, .int .i64 p1] w [.agg [.int .i64, .bool, .sl], .one .bool] K := by
  have e : vcFun Try.prog okf false Try.f32 fault_At.A #[.slice a0 n0 c0, .int .i64 p1] w [.agg [.int .i64, .bool, .sl], .one .bool] K = fault_At.P a0 n0 c0 p1 w K := by kernel_rfl
  exact vcFun.calls okf_ok follows Try.func32 (e.symm ▸ h)

/-! ### nepenthe/nepentheref12.At: function 33 -/
-- loop 0 carries 5: .one (.int .i64)
def ref12_At.A : Ann := .two .no (.two (.two .no (.one (.loop [4, 5, 6, 7, 8, 9, 10, 11, 12, 13, 14, 15, 16, 17, 18, 19] [(5, .one (.int .i64))] .no))) .no)
def ref12_At.P (a0 : Option Addr) (n0 c0 : Nat) (p1 : Int) (w : World) (K : Int × Unit → World → Prop) : Prop :=
  LoopV [.one (.int .i64)] ((0 : Int), ()) w fun (z1 : Int × Unit) w2 (K3 : Int × Unit → World → Prop) =>
  cond (decide (z1.1 < ((n0 : Nat) : Int)))
  ((0 ≤ z1.1 ∧ z1.1 < ((n0 : Nat) : Int)) ∧ ∃ q4 : Addr, a0 = some q4 ∧
  LoadS w2 (q4.add (z1.1.toNat * 3)) (.int .i64) fun (x5 : Int) =>
  cond (x5 == p1)
  (K (z1.1, ()) w2)
  (Rng .i64 (z1.1 + 1) ∧
  K3 (z1.1 + 1, ()) w2))
  (K (((-1) : Int), ()) w2)
theorem ref12_At.vc (a0 : Option Addr) (n0 c0 : Nat) (p1 : Int) (w : World) (K : Int × Unit → World → Prop) (h : ref12_At.P a0 n0 c0 p1 w K) : CallV Try.prog 33 #[.slice a0 n0 c0, .int .i64 p1] w [.one (.int .i64)] K := by
  have e : vcFun Try.prog okf false Try.f33 ref12_At.A #[.slice a0 n0 c0, .int .i64 p1] w [.one (.int .i64)] K = ref12_At.P a0 n0 c0 p1 w K := by kernel_rfl
  exact vcFun.calls okf_ok follows Try.func33 (e.symm ▸ h)

/-! ### nepenthe/fault.Copy: function 34 -/
-- loop 0 carries 3: .one .sl, 8: .one (.int .i64)
def fault_Copy.A : Ann := .two .no (.two .no (.two (.two .no (.one (.loop [3, 5, 8, 9, 10, 11, 12, 13, 14, 15, 16, 17, 18, 19, 20, 21] [(3, .one .sl), (8, .one (.int .i64))] .no))) .no))
def fault_Copy.P (a0 : Option Addr) (n0 c0 : Nat) (w : World) (K : SlV × Unit → World → Prop) : Prop :=
  LoopV [.one .sl, .one (.int .i64)] ((⟨none, 0, 0⟩ : SlV), (0 : Int), ()) w fun (z1 : SlV × Int × Unit) w2 (K3 : SlV × Int × Unit → World → Prop) =>
  cond (decide (z1.2.1 < ((n0 : Nat) : Int)))
  ((0 ≤ z1.2.1 ∧ z1.2.1 < ((n0 : Nat) : Int)) ∧ ∃ q4 : Addr, a0 = some q4 ∧
  LoadA w2 (q4.add (z1.2.1.toNat * 3)) [.int .i64, .bool, .sl] fun (x5 : Int × Bool × SlV × Unit) =>
  NewV #[.int .i64 0, .bool false, .slice none 0 0] 45 w2 fun b6 w7 =>
  StoreV w7 ⟨b6, 0, none⟩ [.int .i64 x5.1, .bool x5.2.1, .slice x5.2.2.1.a x5.2.2.1.n x5.2.2.1.c] fun w8 =>
  NewV #[] 5 w8 fun b9 w10 =>
  LoadS w10 ⟨b6, 2, none⟩ .sl fun (x11 : SlV) =>
  AppS w10 x11.a x11.n 1 fun ns16 =>
  AppV w10 5 1 1 (some ⟨b9, 0, none⟩) 0 0 ns16 x11.n fun a12 n13 c14 w15 =>
  StoreV w15 ⟨b6, 2, none⟩ [.slice a12 n13 c14] fun w17 =>
  LoadA w17 ⟨b6, 0, none⟩ [.int .i64, .bool, .sl] fun (x18 : Int × Bool × SlV × Unit) =>
  NewV #[.int .i64 x18.1, .bool x18.2.1, .slice x18.2.2.1.a x18.2.2.1.n x18.2.2.1.c] 45 w17 fun b19 w20 =>
  AppS w20 (some ⟨b19, 0, none⟩) 1 3 fun ns25 =>
  AppV w20 45 3 40 z1.1.a z1.1.n z1.1.c ns25 1 fun a21 n22 c23 w24 =>
  Rng .i64 (z1.2.1 + 1) ∧
  K3 ((⟨a21, n22, c23⟩ : SlV), z1.2.1 + 1, ()) w24)
  (K (z1.1, ()) w2)
theorem fault_Copy.vc (a0 : Option Addr) (n0 c0 : Nat) (w : World) (K : SlV × Unit → World → Prop) (h : fault_Copy.P a0 n0 c0 w K) : CallV Try.prog 34 #[.slice a0 n0 c0] w [.one .sl] K := by
  have e : vcFun Try.prog okf false Try.f34 fault_Copy.A #[.slice a0 n0 c0] w [.one .sl] K = fault_Copy.P a0 n0 c0 w K := by kernel_rfl
  exact vcFun.calls okf_ok follows Try.func34 (e.symm ▸ h)

/-! ### nepenthe/nepentheref12.power: function 44 -/
-- loop 0 carries 3: .one (.int .i64), 4: .one (.int .i64)
def ref12_power.A : Ann := .two .no (.two .no (.two (.two .no (.one (.loop [3, 4, 5, 6, 7, 8, 9, 10, 11] [(3, .one (.int .i64)), (4, .one (.int .i64))] .no))) .no))
def ref12_power.P (p0 : Int) (w : World) (K : Int × Unit → World → Prop) : Prop :=
  LoopV [.one (.int .i64), .one (.int .i64)] ((1 : Int), (0 : Int), ()) w fun (z1 : Int × Int × Unit) w2 (K3 : Int × Int × Unit → World → Prop) =>
  cond (decide (z1.2.1 < p0))
  (Rng .i64 (z1.1 * 2) ∧
  Rng .i64 (z1.2.1 + 1) ∧
  K3 (z1.1 * 2, z1.2.1 + 1, ()) w2)
  (K (z1.1, ()) w2)
theorem ref12_power.vc (p0 : Int) (w : World) (K : Int × Unit → World → Prop) (h : ref12_power.P p0 w K) : CallV Try.prog 44 #[.int .i64 p0] w [.one (.int .i64)] K := by
  have e : vcFun Try.prog okf false Try.f44 ref12_power.A #[.int .i64 p0] w [.one (.int .i64)] K = ref12_power.P p0 w K := by kernel_rfl
  exact vcFun.calls okf_ok follows Try.func44 (e.symm ▸ h)

/-! ### nepenthe/fault.cleared: function 46 -/
-- loop 0 carries 12: .one (.int .i64)
def fault_cleared.A : Ann := .two .no (.two .no (.two (.two .no (.one (.loop [6, 12, 13, 14, 15, 16, 17, 18, 19, 20, 21, 22, 23, 24, 25, 26, 27] [(12, .one (.int .i64))] (.two .no (.two .no (.two (.one (.two .no (.draw (.take 0 (.take 1 (.take 2 (.take 3 (.take 4 (.take 5 (.take 6 (.take 7 (.take 8 (.take 9 (.take 10 (.take 11 (.eff 12 (.done))))))))))))))))) .no)))))) .no))
def fault_cleared.P (a0 : Option Addr) (n0 c0 : Nat) (a1 : Option Addr) (n1 c1 : Nat) (w : World) (K : SlV × Unit → World → Prop) : Prop :=
  ((0 : Int) ≤ (((n0 : Nat) : Int) : Int) ∧ (((n0 : Nat) : Int) : Int) ≤ (((n0 : Nat) : Int) : Int) ∧ (((n0 : Nat) : Int) : Int) ≤ 9223372036854775807 ∧ ((1 : Nat) : Int) * (((n0 : Nat) : Int) : Int) ≤ 140737488355328) ∧
  NewV (List.replicate (((n0 : Nat) : Int).toNat) [.int .u8 0]).flatten.toArray 5 w fun b1 w2 =>
  LoopV [.one (.int .i64)] ((0 : Int), ()) w2 fun (z3 : Int × Unit) w4 (K5 : Int × Unit → World → Prop) =>
  cond (decide (z3.1 < ((((n0 : Nat) : Int).toNat : Nat) : Int)))
  (DrawV fun D6 =>
  (0 ≤ z3.1 ∧ z3.1 < ((n0 : Nat) : Int)) ∧ ∃ q7 : Addr, a0 = some q7 ∧
  (D6 (q7.add (z3.1.toNat * 1)).block ∧ LoadS w4.drew (q7.add (z3.1.toNat * 1)) (.int .u8) fun (x8 : Int) =>
  (0 ≤ z3.1 ∧ z3.1 < ((n1 : Nat) : Int)) ∧ ∃ q9 : Addr, a1 = some q9 ∧
  (D6 (q9.add (z3.1.toNat * 1)).block ∧ LoadS w4.drew (q9.add (z3.1.toNat * 1)) (.int .u8) fun (x10 : Int) =>
  (0 ≤ z3.1 ∧ z3.1 < ((((n0 : Nat) : Int).toNat : Nat) : Int)) ∧ ∃ q11 : Addr, (some ⟨b1, 0, none⟩) = some q11 ∧
  StoreV w4.drew (q11.add (z3.1.toNat * 1)) [.int .u8 (Go.bits .andNot .u8 x8 x10)] fun w12 =>
  KeepOn D6 w4.drew w12 ∧
  Rng .i64 (z3.1 + 1) ∧
  K5 (z3.1 + 1, ()) w12)))
  (K ((⟨(some ⟨b1, 0, none⟩), ((n0 : Nat) : Int).toNat, ((n0 : Nat) : Int).toNat⟩ : SlV), ()) w4)
theorem fault_cleared.vc (a0 : Option Addr) (n0 c0 : Nat) (a1 : Option Addr) (n1 c1 : Nat) (w : World) (K : SlV × Unit → World → Prop) (h : fault_cleared.P a0 n0 c0 a1 n1 c1 w K) : CallV Try.prog 46 #[.slice a0 n0 c0, .slice a1 n1 c1] w [.one .sl] K := by
  have e : vcFun Try.prog okf false Try.f46 fault_cleared.A #[.slice a0 n0 c0, .slice a1 n1 c1] w [.one .sl] K = fault_cleared.P a0 n0 c0 a1 n1 c1 w K := by kernel_rfl
  exact vcFun.calls okf_ok follows Try.func46 (e.symm ▸ h)

/-! ### nepenthe/nepentheref12.Has: function 47 -/
def ref12_Has.A : Ann := .two .no (.two (.draw (.take 0 (.take 1 (.take 2 (.take 3 (.take 4 (.take 5 (.take 6 (.take 7 (.eff 8 (.take 9 (.take 10 (.take 11 (.take 12 (.done))))))))))))))) .no)
def ref12_Has.P (a0 : Option Addr) (n0 c0 : Nat) (p1 : Int) (w : World) (K : Bool × Unit → World → Prop) : Prop :=
  DrawV fun D1 =>
  8 ≠ (0 : Int) ∧ Rng .i64 (Int.tdiv p1 8) ∧
  (0 ≤ (Int.tdiv p1 8) ∧ (Int.tdiv p1 8) < ((n0 : Nat) : Int)) ∧ ∃ q2 : Addr, a0 = some q2 ∧
  (D1 (q2.add ((Int.tdiv p1 8).toNat * 1)).block ∧ LoadS w.drew (q2.add ((Int.tdiv p1 8).toNat * 1)) (.int .u8) fun (x3 : Int) =>
  8 ≠ (0 : Int) ∧
  CallV Try.prog 44 #[.int .i64 (Int.tmod p1 8)] w.drew [.one (.int .i64)] fun (r4 : Int × Unit) w5 =>
  KeepOn D1 w.drew w5 ∧
  r4.1 ≠ (0 : Int) ∧ Rng .i64 (Int.tdiv (IntKind.i64.wrap x3) r4.1) ∧
  2 ≠ (0 : Int) ∧
  K (((Int.tmod (Int.tdiv (IntKind.i64.wrap x3) r4.1) 2) == 1), ()) w5)
theorem ref12_Has.vc (a0 : Option Addr) (n0 c0 : Nat) (p1 : Int) (w : World) (K : Bool × Unit → World → Prop) (h : ref12_Has.P a0 n0 c0 p1 w K) : CallV Try.prog 47 #[.slice a0 n0 c0, .int .i64 p1] w [.one .bool] K := by
  have e : vcFun Try.prog okf false Try.f47 ref12_Has.A #[.slice a0 n0 c0, .int .i64 p1] w [.one .bool] K = ref12_Has.P a0 n0 c0 p1 w K := by kernel_rfl
  exact vcFun.calls okf_ok follows Try.func47 (e.symm ▸ h)

/-! ### nepenthe/fault.turned$1: function 56 -/
def fault_turned_1.A : Ann := .no
def fault_turned_1.P (p0 : Int) (q0 : Addr) (q1 : Addr) (q2 : Addr) (w : World) (K : Bool × Unit → World → Prop) : Prop :=
  LoadS w q0 (.int .i64) fun (x1 : Int) =>
  cond (p0 != x1)
  (LoadS w q1 .sl fun (x2 : SlV) =>
  8 ≠ (0 : Int) ∧ Rng .i64 (Int.tdiv p0 8) ∧
  (0 ≤ (Int.tdiv p0 8) ∧ (Int.tdiv p0 8) < ((x2.n : Nat) : Int)) ∧ ∃ q3 : Addr, x2.a = some q3 ∧
  LoadS w (q3.add ((Int.tdiv p0 8).toNat * 1)) (.int .u8) fun (x4 : Int) =>
  8 ≠ (0 : Int) ∧
  (0 : Int) ≤ (Int.tmod p0 8) ∧
  cond ((Go.bits .and .u8 (Int.fdiv x4 (2 ^ (Nat.min ((Int.tmod p0 8)).toNat 8))) 1) == 1)
  (LoadS w q2 .sl fun (x5 : SlV) =>
  CallV Try.prog 19 #[.slice x5.a x5.n x5.c, .int .i64 p0] w [.one .bool] fun (r6 : Bool × Unit) w7 =>
  K (r6.1, ()) w7)
  (K (false, ()) w))
  (K (false, ()) w)
theorem fault_turned_1.vc (p0 : Int) (q0 : Addr) (q1 : Addr) (q2 : Addr) (w : World) (K : Bool × Unit → World → Prop) (h : fault_turned_1.P p0 q0 q1 q2 w K) : CallV Try.prog 56 #[.int .i64 p0, .pointer (some q0), .pointer (some q1), .pointer (some q2)] w [.one .bool] K := by
  have e : vcFun Try.prog okf false Try.f56 fault_turned_1.A #[.int .i64 p0, .pointer (some q0), .pointer (some q1), .pointer (some q2)] w [.one .bool] K = fault_turned_1.P p0 q0 q1 q2 w K := by kernel_rfl
  exact vcFun.calls okf_ok follows Try.func56 (e.symm ▸ h)

end Go.Proofs.Ytombjhkdakmhpaa.Vc
