/- The plans of functions as plain statements, printed by wip/tools/vcgen.py; the kernel holds each to the code. -/
import Derived.Test.YtimbomieepefcaaEnv
namespace Go.Proofs.Ytimbomieepefcaa.Vc
open Go Go.Eng
set_option linter.unusedVariables false

/-! ### nepenthe/nepenthelaw01.OctetFills: function 3 -/
def law01_OctetFills.A : Ann := .no
def law01_OctetFills.P (p0 : Int) (p1 : Int) (w : World) (K : Bool × Unit → World → Prop) : Prop :=
  CallV Try.prog 13 #[.int .u8 p0, .int .i64 p1] w [.one .sl] fun (r1 : SlV × Unit) w2 =>
  CallV Try.prog 14 #[.int .u8 p0, .int .i64 p1] w2 [.one .sl] fun (r3 : SlV × Unit) w4 =>
  CallV Try.prog 12 #[.slice r1.1.a r1.1.n r1.1.c, .slice r3.1.a r3.1.n r3.1.c] w4 [.one .bool] fun (r5 : Bool × Unit) w6 =>
  cond r5.1
  (CallV Try.prog 15 #[] w6 [.one .bool] fun (r7 : Bool × Unit) w8 =>
  K (r7.1, ()) w8)
  (K (false, ()) w6)
theorem law01_OctetFills.vc (p0 : Int) (p1 : Int) (w : World) (K : Bool × Unit → World → Prop) (h : law01_OctetFills.P p0 p1 w K) : CallV Try.prog 3 #[.int .u8 p0, .int .i64 p1] w [.one .bool] K := by
  have e : vcFun Try.prog okf false Try.f3 law01_OctetFills.A #[.int .u8 p0, .int .i64 p1] w [.one .bool] K = law01_OctetFills.P p0 p1 w K := by kernel_rfl
  exact vcFun.calls okf_ok follows Try.func3 (e.symm ▸ h)

/-! ### nepenthe/nepenthelaw01.OctetNumbers: function 7 -/
def law01_OctetNumbers.A : Ann := .no
def law01_OctetNumbers.P (p0 : Int) (p1 : Int) (a2 : Option Addr) (n2 c2 : Nat) (w : World) (K : Bool × Unit → World → Prop) : Prop :=
  cond (decide (((n2 : Nat) : Int) > 70000))
  (CallV Try.prog 15 #[] w [.one .bool] fun (r1 : Bool × Unit) w2 =>
  K (r1.1, ()) w2)
  (CallV Try.prog 28 #[.int .u64 p0, .int .i64 p1] w [.one .sl] fun (r3 : SlV × Unit) w4 =>
  CallV Try.prog 29 #[.int .u64 p0, .int .i64 p1] w4 [.one .sl] fun (r5 : SlV × Unit) w6 =>
  CallV Try.prog 12 #[.slice r3.1.a r3.1.n r3.1.c, .slice r5.1.a r5.1.n r5.1.c] w6 [.one .bool] fun (r7 : Bool × Unit) w8 =>
  cond (!r7.1)
  (K (false, ()) w8)
  (CallV Try.prog 30 #[.int .u64 p0, .int .i64 p1] w8 [.one .sl] fun (r9 : SlV × Unit) w10 =>
  CallV Try.prog 31 #[.int .u64 p0, .int .i64 p1] w10 [.one .sl] fun (r11 : SlV × Unit) w12 =>
  CallV Try.prog 12 #[.slice r9.1.a r9.1.n r9.1.c, .slice r11.1.a r11.1.n r11.1.c] w12 [.one .bool] fun (r13 : Bool × Unit) w14 =>
  cond (!r13.1)
  (K (false, ()) w14)
  (CallV Try.prog 32 #[.slice a2 n2 c2] w14 [.one (.int .u64)] fun (r15 : Int × Unit) w16 =>
  CallV Try.prog 33 #[.slice a2 n2 c2] w16 [.one (.int .u64)] fun (r17 : Int × Unit) w18 =>
  cond (r15.1 == r17.1)
  (CallV Try.prog 34 #[.slice a2 n2 c2] w18 [.one (.int .u64)] fun (r19 : Int × Unit) w20 =>
  CallV Try.prog 35 #[.slice a2 n2 c2] w20 [.one (.int .u64)] fun (r21 : Int × Unit) w22 =>
  cond (r19.1 == r21.1)
  (CallV Try.prog 28 #[.int .u64 p0, .int .i64 8] w22 [.one .sl] fun (r23 : SlV × Unit) w24 =>
  CallV Try.prog 32 #[.slice r23.1.a r23.1.n r23.1.c] w24 [.one (.int .u64)] fun (r25 : Int × Unit) w26 =>
  cond (r25.1 == p0)
  (CallV Try.prog 30 #[.int .u64 p0, .int .i64 8] w26 [.one .sl] fun (r27 : SlV × Unit) w28 =>
  CallV Try.prog 34 #[.slice r27.1.a r27.1.n r27.1.c] w28 [.one (.int .u64)] fun (r29 : Int × Unit) w30 =>
  cond (r29.1 == p0)
  (CallV Try.prog 15 #[] w30 [.one .bool] fun (r31 : Bool × Unit) w32 =>
  K (r31.1, ()) w32)
  (K (false, ()) w30))
  (K (false, ()) w26))
  (K (false, ()) w22))
  (K (false, ()) w18))))
theorem law01_OctetNumbers.vc (p0 : Int) (p1 : Int) (a2 : Option Addr) (n2 c2 : Nat) (w : World) (K : Bool × Unit → World → Prop) (h : law01_OctetNumbers.P p0 p1 a2 n2 c2 w K) : CallV Try.prog 7 #[.int .u64 p0, .int .i64 p1, .slice a2 n2 c2] w [.one .bool] K := by
  have e : vcFun Try.prog okf false Try.f7 law01_OctetNumbers.A #[.int .u64 p0, .int .i64 p1, .slice a2 n2 c2] w [.one .bool] K = law01_OctetNumbers.P p0 p1 a2 n2 c2 w K := by kernel_rfl
  exact vcFun.calls okf_ok follows Try.func7 (e.symm ▸ h)

/-! ### nepenthe/nepenthelaw01.OctetHexes: function 8 -/
def law01_OctetHexes.A : Ann := .no
def law01_OctetHexes.P (a0 : Option Addr) (n0 c0 : Nat) (p1 : ByteArray) (w : World) (K : Bool × Unit → World → Prop) : Prop :=
  cond (decide (((n0 : Nat) : Int) > 2000))
  (CallV Try.prog 15 #[] w [.one .bool] fun (r1 : Bool × Unit) w2 =>
  K (r1.1, ()) w2)
  (cond (decide (((p1.size : Nat) : Int) > 4000))
  (CallV Try.prog 15 #[] w [.one .bool] fun (r3 : Bool × Unit) w4 =>
  K (r3.1, ()) w4)
  (CallV Try.prog 36 #[.slice a0 n0 c0] w [.one .str] fun (r5 : ByteArray × Unit) w6 =>
  CallV Try.prog 37 #[.slice a0 n0 c0] w6 [.one .str] fun (r7 : ByteArray × Unit) w8 =>
  cond (!(r5.1.toList == r7.1.toList))
  (K (false, ()) w8)
  (CallV Try.prog 36 #[.slice a0 n0 c0] w8 [.one .str] fun (r9 : ByteArray × Unit) w10 =>
  CallV Try.prog 38 #[.string r9.1] w10 [.one .sl, .one (.int .i64)] fun (r11 : SlV × Int × Unit) w12 =>
  CallV Try.prog 38 #[.string p1] w12 [.one .sl, .one (.int .i64)] fun (r13 : SlV × Int × Unit) w14 =>
  CallV Try.prog 39 #[.string p1] w14 [.one .sl, .one .bool] fun (r15 : SlV × Bool × Unit) w16 =>
  cond (!r15.2.1)
  (cond (r13.2.1 == 1)
  (cond (((r13.1.n : Nat) : Int) == 0)
  (cond (r11.2.1 == 0)
  (CallV Try.prog 12 #[.slice r11.1.a r11.1.n r11.1.c, .slice a0 n0 c0] w16 [.one .bool] fun (r17 : Bool × Unit) w18 =>
  cond r17.1
  (CallV Try.prog 15 #[] w18 [.one .bool] fun (r19 : Bool × Unit) w20 =>
  K (r19.1, ()) w20)
  (K (false, ()) w18))
  (K (false, ()) w16))
  (K (false, ()) w16))
  (K (false, ()) w16))
  (cond (r13.2.1 == 0)
  (CallV Try.prog 12 #[.slice r13.1.a r13.1.n r13.1.c, .slice r15.1.a r15.1.n r15.1.c] w16 [.one .bool] fun (r21 : Bool × Unit) w22 =>
  cond r21.1
  (cond (r11.2.1 == 0)
  (CallV Try.prog 12 #[.slice r11.1.a r11.1.n r11.1.c, .slice a0 n0 c0] w22 [.one .bool] fun (r23 : Bool × Unit) w24 =>
  cond r23.1
  (CallV Try.prog 15 #[] w24 [.one .bool] fun (r25 : Bool × Unit) w26 =>
  K (r25.1, ()) w26)
  (K (false, ()) w24))
  (K (false, ()) w22))
  (K (false, ()) w22))
  (K (false, ()) w16)))))
theorem law01_OctetHexes.vc (a0 : Option Addr) (n0 c0 : Nat) (p1 : ByteArray) (w : World) (K : Bool × Unit → World → Prop) (h : law01_OctetHexes.P a0 n0 c0 p1 w K) : CallV Try.prog 8 #[.slice a0 n0 c0, .string p1] w [.one .bool] K := by
  have e : vcFun Try.prog okf false Try.f8 law01_OctetHexes.A #[.slice a0 n0 c0, .string p1] w [.one .bool] K = law01_OctetHexes.P a0 n0 c0 p1 w K := by kernel_rfl
  exact vcFun.calls okf_ok follows Try.func8 (e.symm ▸ h)

/-! ### nepenthe/nepenthelaw01.OctetXors: function 9 -/
def law01_OctetXors.A : Ann := .two .no (.two .no (.two .no (.two (.two (.draw (.take 0 (.take 1 (.take 3 (.take 4 (.eff 2 (.eff 5 (.take 6 (.take 7 (.take 8 (.take 9 (.eff 10 (.take 11 (.take 12 (.take 13 (.take 14 (.take 16 (.take 17 (.take 18 (.take 19 (.take 20 (.eff 15 (.eff 21 (.eff 22 (.take 23 (.take 24 (.take 25 (.take 26 (.take 27 (.take 28 (.take 29 (.done)))))))))))))))))))))))))))))))) .no) .no)))
def law01_OctetXors.P (a0 : Option Addr) (n0 c0 : Nat) (a1 : Option Addr) (n1 c1 : Nat) (w : World) (K : Bool × Unit → World → Prop) : Prop :=
  cond (decide (((n0 : Nat) : Int) > 70000))
  (CallV Try.prog 15 #[] w [.one .bool] fun (r1 : Bool × Unit) w2 =>
  K (r1.1, ()) w2)
  (cond (decide (((n1 : Nat) : Int) > 70000))
  (CallV Try.prog 15 #[] w [.one .bool] fun (r3 : Bool × Unit) w4 =>
  K (r3.1, ()) w4)
  (CallV Try.prog 40 #[.slice a0 n0 c0, .slice a1 n1 c1] w [.one .sl, .one (.int .i64)] fun (r5 : SlV × Int × Unit) w6 =>
  DrawV fun D7 =>
  CallV Try.prog 41 #[.slice a0 n0 c0, .slice a1 n1 c1] w6.drew [.one .bool] fun (r8 : Bool × Unit) w9 =>
  KeepOn D7 w6.drew w9 ∧
  CallV Try.prog 12 #[.slice a0 n0 c0, .slice a1 n1 c1] w9 [.one .bool] fun (r10 : Bool × Unit) w11 =>
  KeepOn D7 w6.drew w11 ∧
  cond (!(r8.1 == r10.1))
  (K (false, ()) w11)
  (CallV Try.prog 41 #[.slice a0 n0 c0, .slice a0 n0 c0] w11 [.one .bool] fun (r12 : Bool × Unit) w13 =>
  KeepOn D7 w6.drew w13 ∧
  cond (!r12.1)
  (K (false, ()) w13)
  (NameI (min ((n0 : Nat) : Int) (65536 : Int)) fun z14 =>
  ((0 : Int) ≤ z14 ∧ z14 ≤ ((c0 : Nat) : Int)) ∧
  SubK a0 0 c0 1 fun a15 =>
  CallV Try.prog 42 #[.slice a0 n0 c0] w13 [.one .sl] fun (r16 : SlV × Unit) w17 =>
  KeepOn D7 w6.drew w17 ∧
  CallV Try.prog 43 #[.slice a15 (z14.toNat - 0) (c0 - 0)] w17 [.one .sl] fun (r18 : SlV × Unit) w19 =>
  KeepOn D7 w6.drew w19 ∧
  CallV Try.prog 12 #[.slice r16.1.a r16.1.n r16.1.c, .slice r18.1.a r18.1.n r18.1.c] w19 [.one .bool] fun (r20 : Bool × Unit) w21 =>
  KeepOn D7 w6.drew w21 ∧
  cond (!r20.1)
  (cond (decide (((n0 : Nat) : Int) ≤ 65536))
  (K (false, ()) w21)
  (cond (((n0 : Nat) : Int) != ((n1 : Nat) : Int))
  (cond (r5.2.1 == 2)
  (cond (((r5.1.n : Nat) : Int) == 0)
  (CallV Try.prog 15 #[] w21 [.one .bool] fun (r22 : Bool × Unit) w23 =>
  K (r22.1, ()) w23)
  (K (false, ()) w21))
  (K (false, ()) w21))
  (CallV Try.prog 40 #[.slice r5.1.a r5.1.n r5.1.c, .slice a1 n1 c1] w21 [.one .sl, .one (.int .i64)] fun (r24 : SlV × Int × Unit) w25 =>
  cond (r5.2.1 == 0)
  (cond (r24.2.1 == 0)
  (CallV Try.prog 44 #[.slice a0 n0 c0, .slice a1 n1 c1] w25 [.one .sl] fun (r26 : SlV × Unit) w27 =>
  CallV Try.prog 12 #[.slice r5.1.a r5.1.n r5.1.c, .slice r26.1.a r26.1.n r26.1.c] w27 [.one .bool] fun (r28 : Bool × Unit) w29 =>
  cond r28.1
  (CallV Try.prog 12 #[.slice r24.1.a r24.1.n r24.1.c, .slice a0 n0 c0] w29 [.one .bool] fun (r30 : Bool × Unit) w31 =>
  cond r30.1
  (CallV Try.prog 15 #[] w31 [.one .bool] fun (r32 : Bool × Unit) w33 =>
  K (r32.1, ()) w33)
  (K (false, ()) w31))
  (K (false, ()) w29))
  (K (false, ()) w25))
  (K (false, ()) w25))))
  (cond (((n0 : Nat) : Int) != ((n1 : Nat) : Int))
  (cond (r5.2.1 == 2)
  (cond (((r5.1.n : Nat) : Int) == 0)
  (CallV Try.prog 15 #[] w21 [.one .bool] fun (r34 : Bool × Unit) w35 =>
  K (r34.1, ()) w35)
  (K (false, ()) w21))
  (K (false, ()) w21))
  (CallV Try.prog 40 #[.slice r5.1.a r5.1.n r5.1.c, .slice a1 n1 c1] w21 [.one .sl, .one (.int .i64)] fun (r36 : SlV × Int × Unit) w37 =>
  cond (r5.2.1 == 0)
  (cond (r36.2.1 == 0)
  (CallV Try.prog 44 #[.slice a0 n0 c0, .slice a1 n1 c1] w37 [.one .sl] fun (r38 : SlV × Unit) w39 =>
  CallV Try.prog 12 #[.slice r5.1.a r5.1.n r5.1.c, .slice r38.1.a r38.1.n r38.1.c] w39 [.one .bool] fun (r40 : Bool × Unit) w41 =>
  cond r40.1
  (CallV Try.prog 12 #[.slice r36.1.a r36.1.n r36.1.c, .slice a0 n0 c0] w41 [.one .bool] fun (r42 : Bool × Unit) w43 =>
  cond r42.1
  (CallV Try.prog 15 #[] w43 [.one .bool] fun (r44 : Bool × Unit) w45 =>
  K (r44.1, ()) w45)
  (K (false, ()) w43))
  (K (false, ()) w41))
  (K (false, ()) w37))
  (K (false, ()) w37)))))))
theorem law01_OctetXors.vc (a0 : Option Addr) (n0 c0 : Nat) (a1 : Option Addr) (n1 c1 : Nat) (w : World) (K : Bool × Unit → World → Prop) (h : law01_OctetXors.P a0 n0 c0 a1 n1 c1 w K) : CallV Try.prog 9 #[.slice a0 n0 c0, .slice a1 n1 c1] w [.one .bool] K := by
  have e : vcFun Try.prog okf false Try.f9 law01_OctetXors.A #[.slice a0 n0 c0, .slice a1 n1 c1] w [.one .bool] K = law01_OctetXors.P a0 n0 c0 a1 n1 c1 w K := by kernel_rfl
  exact vcFun.calls okf_ok follows Try.func9 (e.symm ▸ h)

end Go.Proofs.Ytimbomieepefcaa.Vc
