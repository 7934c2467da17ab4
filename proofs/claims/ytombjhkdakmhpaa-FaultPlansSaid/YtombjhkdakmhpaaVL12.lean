/- The plans of functions as plain statements, printed by wip/tools/vcgen.py; the kernel holds each to the code. -/
import Derived.Test.YtombjhkdakmhpaaEnv
namespace Go.Proofs.Ytombjhkdakmhpaa.Vc
open Go Go.Eng
set_option linter.unusedVariables false

/-! ### nepenthe/nepenthelaw12.FaultBits: function 4 -/
def law12_FaultBits.A : Ann := .no
def law12_FaultBits.P (a0 : Option Addr) (n0 c0 : Nat) (p1 : Int) (w : World) (K : Bool × Unit → World → Prop) : Prop :=
  CallV Try.prog 19 #[.slice a0 n0 c0, .int .i64 p1] w [.one .bool] fun (r1 : Bool × Unit) w2 =>
  CallV Try.prog 20 #[.slice a0 n0 c0, .int .i64 p1] w2 [.one .bool] fun (r3 : Bool × Unit) w4 =>
  cond (r1.1 == r3.1)
  (CallV Try.prog 21 #[] w4 [.one .bool] fun (r5 : Bool × Unit) w6 =>
  K (r5.1, ()) w6)
  (K (false, ()) w4)
theorem law12_FaultBits.vc (a0 : Option Addr) (n0 c0 : Nat) (p1 : Int) (w : World) (K : Bool × Unit → World → Prop) (h : law12_FaultBits.P a0 n0 c0 p1 w K) : CallV Try.prog 4 #[.slice a0 n0 c0, .int .i64 p1] w [.one .bool] K := by
  have e : vcFun Try.prog okf false Try.f4 law12_FaultBits.A #[.slice a0 n0 c0, .int .i64 p1] w [.one .bool] K = law12_FaultBits.P a0 n0 c0 p1 w K := by kernel_rfl
  exact vcFun.calls okf_ok follows Try.func4 (e.symm ▸ h)

/-! ### nepenthe/nepenthelaw12.FaultClears: function 6 -/
def law12_FaultClears.A : Ann := .no
def law12_FaultClears.P (a0 : Option Addr) (n0 c0 : Nat) (a1 : Option Addr) (n1 c1 : Nat) (a2 : Option Addr) (n2 c2 : Nat) (w : World) (K : Bool × Unit → World → Prop) : Prop :=
  cond (decide (((n0 : Nat) : Int) > 300))
  (CallV Try.prog 21 #[] w [.one .bool] fun (r1 : Bool × Unit) w2 =>
  K (r1.1, ()) w2)
  (cond (decide (((n1 : Nat) : Int) > 300))
  (CallV Try.prog 21 #[] w [.one .bool] fun (r3 : Bool × Unit) w4 =>
  K (r3.1, ()) w4)
  (CallV Try.prog 23 #[.slice a0 n0 c0, .slice a1 n1 c1, .slice a2 n2 c2] w [.one .sl, .one (.int .i64)] fun (r5 : SlV × Int × Unit) w6 =>
  CallV Try.prog 24 #[.slice a0 n0 c0, .slice a1 n1 c1, .slice a2 n2 c2] w6 [.one .sl, .one (.int .i64)] fun (r7 : SlV × Int × Unit) w8 =>
  cond (((n0 : Nat) : Int) != ((n1 : Nat) : Int))
  (cond (r5.2.1 == 2)
  (cond (r7.2.1 == 2)
  (Rng .i64 (((r5.1.n : Nat) : Int) + ((r7.1.n : Nat) : Int)) ∧
  cond ((((r5.1.n : Nat) : Int) + ((r7.1.n : Nat) : Int)) == 0)
  (CallV Try.prog 21 #[] w8 [.one .bool] fun (r9 : Bool × Unit) w10 =>
  K (r9.1, ()) w10)
  (K (false, ()) w8))
  (K (false, ()) w8))
  (K (false, ()) w8))
  (cond (r5.2.1 != 0)
  (K (false, ()) w8)
  (cond (r7.2.1 != 0)
  (K (false, ()) w8)
  (CallV Try.prog 25 #[.slice a0 n0 c0, .slice a1 n1 c1, .slice a2 n2 c2, .bool false] w8 [.one .sl] fun (r11 : SlV × Unit) w12 =>
  CallV Try.prog 17 #[.slice r5.1.a r5.1.n r5.1.c, .slice r11.1.a r11.1.n r11.1.c] w12 [.one .bool] fun (r13 : Bool × Unit) w14 =>
  cond (!r13.1)
  (K (false, ()) w14)
  (CallV Try.prog 25 #[.slice a0 n0 c0, .slice a1 n1 c1, .slice a2 n2 c2, .bool true] w14 [.one .sl] fun (r15 : SlV × Unit) w16 =>
  CallV Try.prog 17 #[.slice r7.1.a r7.1.n r7.1.c, .slice r15.1.a r15.1.n r15.1.c] w16 [.one .bool] fun (r17 : Bool × Unit) w18 =>
  cond (!r17.1)
  (K (false, ()) w18)
  (CallV Try.prog 26 #[.slice r5.1.a r5.1.n r5.1.c, .slice a0 n0 c0] w18 [.one .sl] fun (r19 : SlV × Unit) w20 =>
  CallV Try.prog 17 #[.slice r19.1.a r19.1.n r19.1.c, .slice r5.1.a r5.1.n r5.1.c] w20 [.one .bool] fun (r21 : Bool × Unit) w22 =>
  cond r21.1
  (CallV Try.prog 26 #[.slice r7.1.a r7.1.n r7.1.c, .slice a0 n0 c0] w22 [.one .sl] fun (r23 : SlV × Unit) w24 =>
  CallV Try.prog 17 #[.slice r23.1.a r23.1.n r23.1.c, .slice r7.1.a r7.1.n r7.1.c] w24 [.one .bool] fun (r25 : Bool × Unit) w26 =>
  cond r25.1
  (CallV Try.prog 21 #[] w26 [.one .bool] fun (r27 : Bool × Unit) w28 =>
  K (r27.1, ()) w28)
  (K (false, ()) w26))
  (K (false, ()) w22))))))))
theorem law12_FaultClears.vc (a0 : Option Addr) (n0 c0 : Nat) (a1 : Option Addr) (n1 c1 : Nat) (a2 : Option Addr) (n2 c2 : Nat) (w : World) (K : Bool × Unit → World → Prop) (h : law12_FaultClears.P a0 n0 c0 a1 n1 c1 a2 n2 c2 w K) : CallV Try.prog 6 #[.slice a0 n0 c0, .slice a1 n1 c1, .slice a2 n2 c2] w [.one .bool] K := by
  have e : vcFun Try.prog okf false Try.f6 law12_FaultClears.A #[.slice a0 n0 c0, .slice a1 n1 c1, .slice a2 n2 c2] w [.one .bool] K = law12_FaultClears.P a0 n0 c0 a1 n1 c1 a2 n2 c2 w K := by kernel_rfl
  exact vcFun.calls okf_ok follows Try.func6 (e.symm ▸ h)

/-! ### nepenthe/nepenthelaw12.FaultSets: function 8 -/
def law12_FaultSets.A : Ann := .no
def law12_FaultSets.P (a0 : Option Addr) (n0 c0 : Nat) (a1 : Option Addr) (n1 c1 : Nat) (w : World) (K : Bool × Unit → World → Prop) : Prop :=
  cond (decide (((n0 : Nat) : Int) > 300))
  (CallV Try.prog 21 #[] w [.one .bool] fun (r1 : Bool × Unit) w2 =>
  K (r1.1, ()) w2)
  (CallV Try.prog 27 #[.slice a0 n0 c0, .slice a1 n1 c1] w [.one .sl] fun (r3 : SlV × Unit) w4 =>
  CallV Try.prog 27 #[.slice a0 n0 c0, .slice none 0 0] w4 [.one .sl] fun (r5 : SlV × Unit) w6 =>
  CallV Try.prog 28 #[.slice a0 n0 c0, .slice a1 n1 c1] w6 [.one .sl] fun (r7 : SlV × Unit) w8 =>
  CallV Try.prog 17 #[.slice r3.1.a r3.1.n r3.1.c, .slice r7.1.a r7.1.n r7.1.c] w8 [.one .bool] fun (r9 : Bool × Unit) w10 =>
  cond r9.1
  (CallV Try.prog 26 #[.slice r3.1.a r3.1.n r3.1.c, .slice a0 n0 c0] w10 [.one .sl] fun (r11 : SlV × Unit) w12 =>
  CallV Try.prog 17 #[.slice r11.1.a r11.1.n r11.1.c, .slice a0 n0 c0] w12 [.one .bool] fun (r13 : Bool × Unit) w14 =>
  cond r13.1
  (CallV Try.prog 29 #[.int .u8 255, .int .i64 ((n0 : Nat) : Int)] w14 [.one .sl] fun (r15 : SlV × Unit) w16 =>
  CallV Try.prog 17 #[.slice r5.1.a r5.1.n r5.1.c, .slice r15.1.a r15.1.n r15.1.c] w16 [.one .bool] fun (r17 : Bool × Unit) w18 =>
  cond r17.1
  (CallV Try.prog 21 #[] w18 [.one .bool] fun (r19 : Bool × Unit) w20 =>
  K (r19.1, ()) w20)
  (K (false, ()) w18))
  (K (false, ()) w14))
  (K (false, ()) w10))
theorem law12_FaultSets.vc (a0 : Option Addr) (n0 c0 : Nat) (a1 : Option Addr) (n1 c1 : Nat) (w : World) (K : Bool × Unit → World → Prop) (h : law12_FaultSets.P a0 n0 c0 a1 n1 c1 w K) : CallV Try.prog 8 #[.slice a0 n0 c0, .slice a1 n1 c1] w [.one .bool] K := by
  have e : vcFun Try.prog okf false Try.f8 law12_FaultSets.A #[.slice a0 n0 c0, .slice a1 n1 c1] w [.one .bool] K = law12_FaultSets.P a0 n0 c0 a1 n1 c1 w K := by kernel_rfl
  exact vcFun.calls okf_ok follows Try.func8 (e.symm ▸ h)

/-! ### nepenthe/nepenthelaw12.FaultWhole: function 7 -/
def law12_FaultWhole.A : Ann := .no
def law12_FaultWhole.P (a0 : Option Addr) (n0 c0 : Nat) (a1 : Option Addr) (n1 c1 : Nat) (a2 : Option Addr) (n2 c2 : Nat) (w : World) (K : Bool × Unit → World → Prop) : Prop :=
  cond (((n0 : Nat) : Int) != ((n1 : Nat) : Int))
  (CallV Try.prog 21 #[] w [.one .bool] fun (r1 : Bool × Unit) w2 =>
  K (r1.1, ()) w2)
  (cond (decide (((n0 : Nat) : Int) > 300))
  (CallV Try.prog 21 #[] w [.one .bool] fun (r3 : Bool × Unit) w4 =>
  K (r3.1, ()) w4)
  (CallV Try.prog 26 #[.slice a0 n0 c0, .slice a1 n1 c1] w [.one .sl] fun (r5 : SlV × Unit) w6 =>
  CallV Try.prog 23 #[.slice a0 n0 c0, .slice a1 n1 c1, .slice none 0 0] w6 [.one .sl, .one (.int .i64)] fun (r7 : SlV × Int × Unit) w8 =>
  CallV Try.prog 24 #[.slice a0 n0 c0, .slice a1 n1 c1, .slice a2 n2 c2] w8 [.one .sl, .one (.int .i64)] fun (r9 : SlV × Int × Unit) w10 =>
  CallV Try.prog 17 #[.slice a0 n0 c0, .slice r5.1.a r5.1.n r5.1.c] w10 [.one .bool] fun (r11 : Bool × Unit) w12 =>
  cond (r7.2.1 == 0)
  (cond (r9.2.1 == 0)
  (CallV Try.prog 17 #[.slice r7.1.a r7.1.n r7.1.c, .slice r5.1.a r5.1.n r5.1.c] w12 [.one .bool] fun (r13 : Bool × Unit) w14 =>
  cond r13.1
  (CallV Try.prog 17 #[.slice r9.1.a r9.1.n r9.1.c, .slice r5.1.a r5.1.n r5.1.c] w14 [.one .bool] fun (r15 : Bool × Unit) w16 =>
  cond (r15.1 == r11.1)
  (CallV Try.prog 21 #[] w16 [.one .bool] fun (r17 : Bool × Unit) w18 =>
  K (r17.1, ()) w18)
  (K (false, ()) w16))
  (K (false, ()) w14))
  (K (false, ()) w12))
  (K (false, ()) w12)))
theorem law12_FaultWhole.vc (a0 : Option Addr) (n0 c0 : Nat) (a1 : Option Addr) (n1 c1 : Nat) (a2 : Option Addr) (n2 c2 : Nat) (w : World) (K : Bool × Unit → World → Prop) (h : law12_FaultWhole.P a0 n0 c0 a1 n1 c1 a2 n2 c2 w K) : CallV Try.prog 7 #[.slice a0 n0 c0, .slice a1 n1 c1, .slice a2 n2 c2] w [.one .bool] K := by
  have e : vcFun Try.prog okf false Try.f7 law12_FaultWhole.A #[.slice a0 n0 c0, .slice a1 n1 c1, .slice a2 n2 c2] w [.one .bool] K = law12_FaultWhole.P a0 n0 c0 a1 n1 c1 a2 n2 c2 w K := by kernel_rfl
  exact vcFun.calls okf_ok follows Try.func7 (e.symm ▸ h)

end Go.Proofs.Ytombjhkdakmhpaa.Vc
