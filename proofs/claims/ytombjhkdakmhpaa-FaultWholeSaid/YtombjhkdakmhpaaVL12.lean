/- The plans of functions as plain statements, printed by wip/tools/vcgen.py; the kernel holds each to the code. -/
import Derived.Test.YtombjhkdakmhpaaEnv
namespace Go.Proofs.Ytombjhkdakmhpaa.Vc
open Go Go.Eng
set_option linter.unusedVariables false

/-! ### nepenthe/nepenthelaw12.FaultBits: function 4 -/
def law12_FaultBits.A : Ann := .no
def law12_FaultBits.P (a0 : Option Addr) (n0 c0 : Nat) (p1 : Int) (w : World) (K : Bool × Unit → World → Prop) : Prop :=
  CallV Try.prog 19 #[.slice a0 n0 c0, .int .i64 p1] w [.one .bool] fun (r1 : Bool × Unit) w2 =>
  CallV Try.prog 20 #[.slice a0 n0 c0, .int .i64 p1] w2 [.one .bool] fun (r3 : Bool × Unit) w4 =>
  cond (r1.1 == r3.1)
  (CallV Try.prog 21 #[] w4 [.one .bool] fun (r5 : Bool × Unit) w6 =>
  K (r5.1, ()) w6)
  (K (false, ()) w4)
theorem law12_FaultBits.vc (a0 : Option Addr) (n0 c0 : Nat) (p1 : Int) (w : World) (K : Bool × Unit → World → Prop) (h : law12_FaultBits.P a0 n0 c0 p1 w K) : CallV Try.prog 4 #[.slice a0 n0 c0, .int .i64 p1] w [.one .bool] K := by
  have e : vcFun Try.prog okf false Try.f4 law12_FaultBits.A #[.slice a0 n0 c0, .int .i64 p1] w [.one .bool] K = law12_FaultBits.P a0 n0 c0 p1 w K := by kernel_rfl
  exact vcFun.calls okf_ok follows Try.func4 (e.symm ▸ h)

/-! ### nepenthe/nepenthelaw12.FaultClears: function 6 -/
def law12_FaultClears.A : Ann := .no
def law12_FaultClears.P (a0 : Option Addr) (n0 c0 : Nat) (a1 : Option Addr) (n1 c1 : Nat) (a2 : Option Addr) (n2 c2 : Nat) (w : World) (K : Bool × Unit → World → Prop) : Prop :=
  cond (decide (((n0 : Nat) : Int) > 300))
  (CallV Try.prog 21 #[] w [.one .bool] fun (r1 : Bool × Unit) w2 =>
  K (r1.1, ()) w2)
  (cond (decide (((n1 : Nat) : Int) > 300))
  (CallV Try.prog 21 #[] w [.one .bool] fun (r3 : Bool × Unit) w4 =>
  K (r3.1, ()) w4)
  (CallV Try.prog 23 #[.slice a0 n0 c0, .slice a1 n1 c1, .slice a2 n2 c2] w [.one .sl, .one (.int .i64)] fun (r5 : SlV × Int × Unit) w6 =>
  CallV Try.prog 24 #[.slice a0 n0 c0, .slice a1 n1 c1, .slice a2 n2 c2] w6 [.one .sl, .one (.int .i64)] fun (r7 : SlV × Int × Unit) w8 =>
  cond (((n0 : Nat) : Int) != ((n1 : Nat) : Int))
  (cond (r5.2.1 == 2)
  (cond (r7.2.1 == 2)
  (Rng .i64 (((r5.1.n : Nat) : Int) + ((r7.1.n : Nat) : Int)) ∧
  cond ((((r5.1.n : Nat) : Int) + ((r7.1.n : Nat) : Int)) == 0)
  (CallV Try.prog 21 #[] w8 [.one .bool] fun (r9 : Bool × Unit) w10 =>
  K (r9.1, ()) w10)
  (K (false, ()) w8))
  (K (false, ()) w8))
  (K (false, ()) w8))
  (cond (r5.2.1 != 0)
  (K (false, ()) w8)
  (cond (r7.2.1 != 0)
  (K (false, ()) w8)
  (CallV Try.prog 25 #[.slice a0 n0 c0, .slice a1 n1 c1, .slice a2 n2 c2, .bool false] w8 [.one .sl] fun (r11 : SlV × Unit) w12 =>
  CallV Try.prog 17 #[.slice r5.1.a r5.1.n r5.1.c, .slice r11.1.a r11.1.n r11.1.c] w12 [.one .bool] fun (r13 : Bool × Unit) w14 =>
  cond (!r13.1)
  (K (false, ()) w14)
  (CallV Try.prog 25 #[.slice a0 n0 c0, .slice a1 n1 c1, .slice a2 n2 c2, .bool true] w14 [.one .sl] fun (r15 : SlV × Unit) w16 =>
  CallV Try.prog 17 #[.slice r7.1.a r7.1.n r7.1.c, .slice r15.1.a r15.1.n r15.1.c] w16 [.one .bool] fun (r17 : Bool × Unit) w18 =>
  cond (!r17.1)
  (K (false, ()) w18)
  (CallV Try.prog 26 #[.slice r5.1.a r5.1.n r5.1.c, .slice a0 n0 c0] w18 [.one .sl] fun (r19 : SlV × Unit) w20 =>
  CallV Try.prog 17 #[.slice r19.1.a r19.1.n r19.1.c, .slice r5.1.a r5.1.n r5.1.c] w20 [.one .bool] fun (r21 : Bool × Unit) w22 =>
  cond r21.1
  (CallV Try.prog 26 #[.slice r7.1.a r7.1.n r7.1.c, .slice a0 n0 c0] w22 [.one .sl] fun (r23 : SlV × Unit) w24 =>
  CallV Try.prog 17 #[.slice r23.1.a r23.1.n r23.1.c, .slice r7.1.a r7.1.n r7.1.c] w24 [.one .bool] fun (r25 : Bool × Unit) w26 =>
  cond r25.1
  (CallV Try.prog 21 #[] w26 [.one .bool] fun (r27 : Bool × Unit) w28 =>
  K (r27.1, ()) w28)
  (K (false, ()) w26))
  (K (false, ()) w22))))))))
theorem law12_FaultClears.vc (a0 : Option Addr) (n0 c0 : Nat) (a1 : Option Addr) (n1 c1 : Nat) (a2 : Option Addr) (n2 c2 : Nat) (w : World) (K : Bool × Unit → World → Prop) (h : law12_FaultClears.P a0 n0 c0 a1 n1 c1 a2 n2 c2 w K) : CallV Try.prog 6 #[.slice a0 n0 c0, .slice a1 n1 c1, .slice a2 n2 c2] w [.one .bool] K := by
  have e : vcFun Try.prog okf false Try.f6 law12_FaultClears.A #[.slice a0 n0 c0, .slice a1 n1 c1, .slice a2 n2 c2] w [.one .bool] K = law12_FaultClears.P a0 n0 c0 a1 n1 c1 a2 n2 c2 w K := by kernel_rfl
  exact vcFun.calls okf_ok follows Try.func6 (e.symm ▸ h)

/-! ### nepenthe/nepenthelaw12.FaultWhole: function 7 -/
def law12_FaultWhole.A : Ann := .no
def law12_FaultWhole.P (a0 : Option Addr) (n0 c0 : Nat) (a1 : Option Addr) (n1 c1 : Nat) (a2 : Option Addr) (n2 c2 : Nat) (w : World) (K : Bool × Unit → World → Prop) : Prop :=
  cond (((n0 : Nat) : Int) != ((n1 : Nat) : Int))
  (CallV Try.prog 21 #[] w [.one .bool] fun (r1 : Bool × Unit) w2 =>
  K (r1.1, ()) w2)
  (cond (decide (((n0 : Nat) : Int) > 300))
  (CallV Try.prog 21 #[] w [.one .bool] fun (r3 : Bool × Unit) w4 =>
  K (r3.1, ()) w4)
  (CallV Try.prog 26 #[.slice a0 n0 c0, .slice a1 n1 c1] w [.one .sl] fun (r5 : SlV × Unit) w6 =>
  CallV Try.prog 23 #[.slice a0 n0 c0, .slice a1 n1 c1, .slice none 0 0] w6 [.one .sl, .one (.int .i64)] fun (r7 : SlV × Int × Unit) w8 =>
  CallV Try.prog 24 #[.slice a0 n0 c0, .slice a1 n1 c1, .slice a2 n2 c2] w8 [.one .sl, .one (.int .i64)] fun (r9 : SlV × Int × Unit) w10 =>
  CallV Try.prog 17 #[.slice a0 n0 c0, .slice r5.1.a r5.1.n r5.1.c] w10 [.one .bool] fun (r11 : Bool × Unit) w12 =>
  cond (r7.2.1 == 0)
  (cond (r9.2.1 == 0)
  (CallV Try.prog 17 #[.slice r7.1.a r7.1.n r7.1.c, .slice r5.1.a r5.1.n r5.1.c] w12 [.one .bool] fun (r13 : Bool × Unit) w14 =>
  cond r13.1
  (CallV Try.prog 17 #[.slice r9.1.a r9.1.n r9.1.c, .slice r5.1.a r5.1.n r5.1.c] w14 [.one .bool] fun (r15 : Bool × Unit) w16 =>
  cond (r15.1 == r11.1)
  (CallV Try.prog 21 #[] w16 [.one .bool] fun (r17 : Bool × Unit) w18 =>
  K (r17.1, ()) w18)
  (K (false, ()) w16))
  (K (false, ()) w14))
  (K (false, ()) w12))
  (K (false, ()) w12)))
theorem law12_FaultWhole.vc (a0 : Option Addr) (n0 c0 : Nat) (a1 : Option Addr) (n1 c1 : Nat) (a2 : Option Addr) (n2 c2 : Nat) (w : World) (K : Bool × Unit → World → Prop) (h : law12_FaultWhole.P a0 n0 c0 a1 n1 c1 a2 n2 c2 w K) : CallV Try.prog 7 #[.slice a0 n0 c0, .slice a1 n1 c1, .slice a2 n2 c2] w [.one .bool] K := by
  have e : vcFun Try.prog okf false Try.f7 law12_FaultWhole.A #[.slice a0 n0 c0, .slice a1 n1 c1, .slice a2 n2 c2] w [.one .bool] K = law12_FaultWhole.P a0 n0 c0 a1 n1 c1 a2 n2 c2 w K := by kernel_rfl
  exact vcFun.calls okf_ok follows Try.func7 (e.symm ▸ h)

/-! ### nepenthe/nepenthelaw12.FaultSets: function 8 -/
def law12_FaultSets.A : Ann := .no
def law12_FaultSets.P (a0 : Option Addr) (n0 c0 : Nat) (a1 : Option Addr) (n1 c1 : Nat) (w : World) (K : Bool × Unit → World → Prop) : Prop :=
  cond (decide (((n0 : Nat) : Int) > 300))
  (CallV Try.prog 21 #[] w [.one .bool] fun (r1 : Bool × Unit) w2 =>
  K (r1.1, ()) w2)
  (CallV Try.prog 27 #[.slice a0 n0 c0, .slice a1 n1 c1] w [.one .sl] fun (r3 : SlV × Unit) w4 =>
  CallV Try.prog 27 #[.slice a0 n0 c0, .slice none 0 0] w4 [.one .sl] fun (r5 : SlV × Unit) w6 =>
  CallV Try.prog 28 #[.slice a0 n0 c0, .slice a1 n1 c1] w6 [.one .sl] fun (r7 : SlV × Unit) w8 =>
  CallV Try.prog 17 #[.slice r3.1.a r3.1.n r3.1.c, .slice r7.1.a r7.1.n r7.1.c] w8 [.one .bool] fun (r9 : Bool × Unit) w10 =>
  cond r9.1
  (CallV Try.prog 26 #[.slice r3.1.a r3.1.n r3.1.c, .slice a0 n0 c0] w10 [.one .sl] fun (r11 : SlV × Unit) w12 =>
  CallV Try.prog 17 #[.slice r11.1.a r11.1.n r11.1.c, .slice a0 n0 c0] w12 [.one .bool] fun (r13 : Bool × Unit) w14 =>
  cond r13.1
  (CallV Try.prog 29 #[.int .u8 255, .int .i64 ((n0 : Nat) : Int)] w14 [.one .sl] fun (r15 : SlV × Unit) w16 =>
  CallV Try.prog 17 #[.slice r5.1.a r5.1.n r5.1.c, .slice r15.1.a r15.1.n r15.1.c] w16 [.one .bool] fun (r17 : Bool × Unit) w18 =>
  cond r17.1
  (CallV Try.prog 21 #[] w18 [.one .bool] fun (r19 : Bool × Unit) w20 =>
  K (r19.1, ()) w20)
  (K (false, ()) w18))
  (K (false, ()) w14))
  (K (false, ()) w10))
theorem law12_FaultSets.vc (a0 : Option Addr) (n0 c0 : Nat) (a1 : Option Addr) (n1 c1 : Nat) (w : World) (K : Bool × Unit → World → Prop) (h : law12_FaultSets.P a0 n0 c0 a1 n1 c1 w K) : CallV Try.prog 8 #[.slice a0 n0 c0, .slice a1 n1 c1] w [.one .bool] K := by
  have e : vcFun Try.prog okf false Try.f8 law12_FaultSets.A #[.slice a0 n0 c0, .slice a1 n1 c1] w [.one .bool] K = law12_FaultSets.P a0 n0 c0 a1 n1 c1 w K := by kernel_rfl
  exact vcFun.calls okf_ok follows Try.func8 (e.symm ▸ h)

/-! ### nepenthe/nepenthelaw12.FaultPlans: function 9 -/
-- loop 0 carries 11: .one (.int .i64)
-- loop 1 carries 10: .one (.int .i64)
-- loop 2 carries 11: .one (.int .i64)
-- loop 3 carries 10: .one (.int .i64)
-- loop 4 carries 11: .one (.int .i64)
-- loop 5 carries 10: .one (.int .i64)
-- loop 6 carries 11: .one (.int .i64)
-- loop 7 carries 10: .one (.int .i64)
-- loop 8 carries 11: .one (.int .i64)
-- loop 9 carries 10: .one (.int .i64)
-- loop 10 carries 11: .one (.int .i64)
-- loop 11 carries 10: .one (.int .i64)
-- loop 12 carries 11: .one (.int .i64)
-- loop 13 carries 10: .one (.int .i64)
-- loop 14 carries 11: .one (.int .i64)
-- loop 15 carries 10: .one (.int .i64)
def law12_FaultPlans.A : Ann := .two .no (.two .no (.two .no (.two .no (.two .no (.two .no (.two (.two (.draw (.take 0 (.take 1 (.take 2 (.take 3 (.take 4 (.take 5 (.take 6 (.take 7 (.take 8 (.take 9 (.take 10 (.take 11 (.take 12 (.take 13 (.take 14 (.take 15 (.take 16 (.take 17 (.take 18 (.take 19 (.take 20 (.take 21 (.take 22 (.take 23 (.eff 24 (.take 25 (.take 26 (.take 27 (.take 28 (.take 29 (.take 30 (.take 31 (.take 32 (.take 33 (.take 34 (.take 35 (.take 36 (.take 37 (.take 38 (.take 39 (.take 40 (.take 41 (.take 42 (.take 43 (.take 44 (.take 45 (.take 46 (.done))))))))))))))))))))))))))))))))))))))))))))))))) .no) (.two .no (.two .no (.two .no (.two (.two .no (.one (.loop [4, 10, 11, 108, 109, 110, 111, 112, 113, 114, 115, 116, 117, 118, 119, 120, 121, 122, 123, 124, 125, 126, 127, 128, 129, 130, 131, 132, 133, 134, 135, 136, 137, 138, 139, 140, 141, 142, 143, 144, 145, 146, 147, 148, 149, 150, 151, 152, 153, 154, 155, 156, 157, 158, 159, 160, 161, 162, 163, 164, 165, 166, 167, 168, 169, 170, 171] [(10, .one (.int .i64))] (.two .no (.two (.one (.two (.two .no (.one (.loop [11, 114, 115, 116, 117, 118, 119, 120, 121, 122, 123, 124, 125, 126, 127, 128, 129, 130, 131, 132, 133] [(11, .one (.int .i64))] .no))) (.two (.draw (.take 0 (.take 1 (.take 2 (.take 3 (.take 4 (.take 5 (.take 6 (.take 7 (.take 8 (.take 9 (.take 10 (.take 11 (.take 12 (.take 13 (.take 14 (.take 15 (.take 16 (.take 17 (.take 18 (.take 19 (.take 20 (.take 21 (.take 22 (.take 23 (.take 24 (.take 25 (.take 26 (.take 27 (.take 28 (.take 29 (.take 30 (.take 31 (.take 32 (.take 33 (.take 34 (.eff 35 (.take 36 (.take 37 (.done)))))))))))))))))))))))))))))))))))))))) .no))) .no))))) .no))))))))))
def law12_FaultPlans.P (a0 : Option Addr) (n0 c0 : Nat) (p1 : Int) (w : World) (K : Bool × Unit → World → Prop) : Prop :=
  cond (decide (((n0 : Nat) : Int) > 100))
  (CallV Try.prog 21 #[] w [.one .bool] fun (r1 : Bool × Unit) w2 =>
  K (r1.1, ()) w2)
  (CallV Try.prog 30 #[.slice a0 n0 c0] w [.one (.int .i64)] fun (r3 : Int × Unit) w4 =>
  CallV Try.prog 31 #[.slice a0 n0 c0] w4 [.one .bool] fun (r5 : Bool × Unit) w6 =>
  cond (!((r3.1 == 0) == r5.1))
  (K (false, ()) w6)
  (CallV Try.prog 31 #[.slice a0 n0 c0] w6 [.one .bool] fun (r7 : Bool × Unit) w8 =>
  cond (!r7.1)
  (CallV Try.prog 30 #[.slice a0 n0 c0] w8 [.one (.int .i64)] fun (r9 : Int × Unit) w10 =>
  cond (r9.1 != 2)
  (K (false, ()) w10)
  (CallV Try.prog 32 #[.slice a0 n0 c0, .int .i64 p1] w10 [.agg [.int .i64, .bool, .sl], .one .bool] fun (r11 : (Int × Bool × SlV × Unit) × Bool × Unit) w12 =>
  NewV #[.int .i64 0, .bool false, .slice none 0 0] 45 w12 fun b13 w14 =>
  StoreV w14 ⟨b13, 0, none⟩ [.int .i64 r11.1.1, .bool r11.1.2.1, .slice r11.1.2.2.1.a r11.1.2.2.1.n r11.1.2.2.1.c] fun w15 =>
  CallV Try.prog 33 #[.slice a0 n0 c0, .int .i64 p1] w15 [.one (.int .i64)] fun (r16 : Int × Unit) w17 =>
  cond (!(r11.2.1 == decide (r16.1 ≥ 0)))
  (K (false, ()) w17)
  (DrawV fun D18 =>
  cond r11.2.1
  ((D18 b13 ∧ LoadS w17.drew ⟨b13, 0, none⟩ (.int .i64) fun (x19 : Int) =>
  cond (x19 != p1)
  (K (false, ()) w17.drew)
  ((D18 b13 ∧ LoadS w17.drew ⟨b13, 1, none⟩ .bool fun (x20 : Bool) =>
  (0 ≤ r16.1 ∧ r16.1 < ((n0 : Nat) : Int)) ∧ ∃ q21 : Addr, a0 = some q21 ∧
  (D18 ((q21.add (r16.1.toNat * 3)).add 1).block ∧ LoadS w17.drew ((q21.add (r16.1.toNat * 3)).add 1) .bool fun (x22 : Bool) =>
  cond (!(x20 == x22))
  (K (false, ()) w17.drew)
  ((D18 b13 ∧ LoadS w17.drew ⟨b13, 2, none⟩ .sl fun (x23 : SlV) =>
  (0 ≤ r16.1 ∧ r16.1 < ((n0 : Nat) : Int)) ∧ ∃ q24 : Addr, a0 = some q24 ∧
  (D18 ((q24.add (r16.1.toNat * 3)).add 2).block ∧ LoadS w17.drew ((q24.add (r16.1.toNat * 3)).add 2) .sl fun (x25 : SlV) =>
  CallV Try.prog 17 #[.slice x23.a x23.n x23.c, .slice x25.a x25.n x25.c] w17.drew [.one .bool] fun (r26 : Bool × Unit) w27 =>
  KeepOn D18 w17.drew w27 ∧
  cond (!r26.1)
  (K (false, ()) w27)
  (cond (!r11.2.1)
  ((D18 b13 ∧ LoadS w17.drew ⟨b13, 0, none⟩ (.int .i64) fun (x28 : Int) =>
  cond (x28 != 0)
  (K (false, ()) w27)
  ((D18 b13 ∧ LoadS w17.drew ⟨b13, 1, none⟩ .bool fun (x29 : Bool) =>
  cond x29
  (K (false, ()) w27)
  ((D18 b13 ∧ LoadS w17.drew ⟨b13, 2, none⟩ .sl fun (x30 : SlV) =>
  cond (decide (((x30.n : Nat) : Int) > 0))
  (K (false, ()) w27)
  (CallV Try.prog 34 #[.slice a0 n0 c0] w27 [.one .sl] fun (r31 : SlV × Unit) w32 =>
  CallV Try.prog 34 #[.slice r31.1.a r31.1.n r31.1.c] w32 [.one .sl] fun (r33 : SlV × Unit) w34 =>
  cond (((r31.1.n : Nat) : Int) != ((n0 : Nat) : Int))
  (K (false, ()) w34)
  (cond (((r33.1.n : Nat) : Int) != ((n0 : Nat) : Int))
  (K (false, ()) w34)
  (LoopV [.one (.int .i64)] ((0 : Int), ()) w34 fun (z35 : Int × Unit) w36 (K37 : Int × Unit → World → Prop) =>
  cond (decide (z35.1 < ((n0 : Nat) : Int)))
  (LoopV [.one (.int .i64)] ((0 : Int), ()) w36 fun (z38 : Int × Unit) w39 (K40 : Int × Unit → World → Prop) =>
  (0 ≤ z35.1 ∧ z35.1 < ((r31.1.n : Nat) : Int)) ∧ ∃ q41 : Addr, r31.1.a = some q41 ∧
  LoadS w39 ((q41.add (z35.1.toNat * 3)).add 2) .sl fun (x42 : SlV) =>
  cond (decide (z38.1 < ((x42.n : Nat) : Int)))
  ((0 ≤ z35.1 ∧ z35.1 < ((r31.1.n : Nat) : Int)) ∧ ∃ q43 : Addr, r31.1.a = some q43 ∧
  LoadS w39 ((q43.add (z35.1.toNat * 3)).add 2) .sl fun (x44 : SlV) =>
  (0 ≤ z38.1 ∧ z38.1 < ((x44.n : Nat) : Int)) ∧ ∃ q45 : Addr, x44.a = some q45 ∧
  LoadS w39 (q45.add (z38.1.toNat * 1)) (.int .u8) fun (x46 : Int) =>
  (0 ≤ z38.1 ∧ z38.1 < ((x44.n : Nat) : Int)) ∧ ∃ q47 : Addr, x44.a = some q47 ∧
  StoreV w39 (q47.add (z38.1.toNat * 1)) [.int .u8 (Go.bits .xor .u8 x46 255)] fun w48 =>
  Rng .i64 (z38.1 + 1) ∧
  K40 (z38.1 + 1, ()) w48)
  (DrawV fun D49 =>
  (0 ≤ z35.1 ∧ z35.1 < ((r33.1.n : Nat) : Int)) ∧ ∃ q50 : Addr, r33.1.a = some q50 ∧
  (D49 (q50.add (z35.1.toNat * 3)).block ∧ LoadS w39.drew (q50.add (z35.1.toNat * 3)) (.int .i64) fun (x51 : Int) =>
  (0 ≤ z35.1 ∧ z35.1 < ((n0 : Nat) : Int)) ∧ ∃ q52 : Addr, a0 = some q52 ∧
  (D49 (q52.add (z35.1.toNat * 3)).block ∧ LoadS w39.drew (q52.add (z35.1.toNat * 3)) (.int .i64) fun (x53 : Int) =>
  cond (x51 != x53)
  (K (false, ()) w39.drew)
  ((0 ≤ z35.1 ∧ z35.1 < ((r33.1.n : Nat) : Int)) ∧ ∃ q54 : Addr, r33.1.a = some q54 ∧
  (D49 ((q54.add (z35.1.toNat * 3)).add 1).block ∧ LoadS w39.drew ((q54.add (z35.1.toNat * 3)).add 1) .bool fun (x55 : Bool) =>
  (0 ≤ z35.1 ∧ z35.1 < ((n0 : Nat) : Int)) ∧ ∃ q56 : Addr, a0 = some q56 ∧
  (D49 ((q56.add (z35.1.toNat * 3)).add 1).block ∧ LoadS w39.drew ((q56.add (z35.1.toNat * 3)).add 1) .bool fun (x57 : Bool) =>
  cond (!(x55 == x57))
  (K (false, ()) w39.drew)
  ((0 ≤ z35.1 ∧ z35.1 < ((r33.1.n : Nat) : Int)) ∧ ∃ q58 : Addr, r33.1.a = some q58 ∧
  (D49 ((q58.add (z35.1.toNat * 3)).add 2).block ∧ LoadS w39.drew ((q58.add (z35.1.toNat * 3)).add 2) .sl fun (x59 : SlV) =>
  (0 ≤ z35.1 ∧ z35.1 < ((n0 : Nat) : Int)) ∧ ∃ q60 : Addr, a0 = some q60 ∧
  (D49 ((q60.add (z35.1.toNat * 3)).add 2).block ∧ LoadS w39.drew ((q60.add (z35.1.toNat * 3)).add 2) .sl fun (x61 : SlV) =>
  CallV Try.prog 17 #[.slice x59.a x59.n x59.c, .slice x61.a x61.n x61.c] w39.drew [.one .bool] fun (r62 : Bool × Unit) w63 =>
  KeepOn D49 w39.drew w63 ∧
  cond (!r62.1)
  (K (false, ()) w63)
  (Rng .i64 (z35.1 + 1) ∧
  K37 (z35.1 + 1, ()) w63)))))))))))
  (CallV Try.prog 21 #[] w36 [.one .bool] fun (r64 : Bool × Unit) w65 =>
  K (r64.1, ()) w65))))))))))
  (CallV Try.prog 34 #[.slice a0 n0 c0] w27 [.one .sl] fun (r66 : SlV × Unit) w67 =>
  CallV Try.prog 34 #[.slice r66.1.a r66.1.n r66.1.c] w67 [.one .sl] fun (r68 : SlV × Unit) w69 =>
  cond (((r66.1.n : Nat) : Int) != ((n0 : Nat) : Int))
  (K (false, ()) w69)
  (cond (((r68.1.n : Nat) : Int) != ((n0 : Nat) : Int))
  (K (false, ()) w69)
  (LoopV [.one (.int .i64)] ((0 : Int), ()) w69 fun (z70 : Int × Unit) w71 (K72 : Int × Unit → World → Prop) =>
  cond (decide (z70.1 < ((n0 : Nat) : Int)))
  (LoopV [.one (.int .i64)] ((0 : Int), ()) w71 fun (z73 : Int × Unit) w74 (K75 : Int × Unit → World → Prop) =>
  (0 ≤ z70.1 ∧ z70.1 < ((r66.1.n : Nat) : Int)) ∧ ∃ q76 : Addr, r66.1.a = some q76 ∧
  LoadS w74 ((q76.add (z70.1.toNat * 3)).add 2) .sl fun (x77 : SlV) =>
  cond (decide (z73.1 < ((x77.n : Nat) : Int)))
  ((0 ≤ z70.1 ∧ z70.1 < ((r66.1.n : Nat) : Int)) ∧ ∃ q78 : Addr, r66.1.a = some q78 ∧
  LoadS w74 ((q78.add (z70.1.toNat * 3)).add 2) .sl fun (x79 : SlV) =>
  (0 ≤ z73.1 ∧ z73.1 < ((x79.n : Nat) : Int)) ∧ ∃ q80 : Addr, x79.a = some q80 ∧
  LoadS w74 (q80.add (z73.1.toNat * 1)) (.int .u8) fun (x81 : Int) =>
  (0 ≤ z73.1 ∧ z73.1 < ((x79.n : Nat) : Int)) ∧ ∃ q82 : Addr, x79.a = some q82 ∧
  StoreV w74 (q82.add (z73.1.toNat * 1)) [.int .u8 (Go.bits .xor .u8 x81 255)] fun w83 =>
  Rng .i64 (z73.1 + 1) ∧
  K75 (z73.1 + 1, ()) w83)
  (DrawV fun D84 =>
  (0 ≤ z70.1 ∧ z70.1 < ((r68.1.n : Nat) : Int)) ∧ ∃ q85 : Addr, r68.1.a = some q85 ∧
  (D84 (q85.add (z70.1.toNat * 3)).block ∧ LoadS w74.drew (q85.add (z70.1.toNat * 3)) (.int .i64) fun (x86 : Int) =>
  (0 ≤ z70.1 ∧ z70.1 < ((n0 : Nat) : Int)) ∧ ∃ q87 : Addr, a0 = some q87 ∧
  (D84 (q87.add (z70.1.toNat * 3)).block ∧ LoadS w74.drew (q87.add (z70.1.toNat * 3)) (.int .i64) fun (x88 : Int) =>
  cond (x86 != x88)
  (K (false, ()) w74.drew)
  ((0 ≤ z70.1 ∧ z70.1 < ((r68.1.n : Nat) : Int)) ∧ ∃ q89 : Addr, r68.1.a = some q89 ∧
  (D84 ((q89.add (z70.1.toNat * 3)).add 1).block ∧ LoadS w74.drew ((q89.add (z70.1.toNat * 3)).add 1) .bool fun (x90 : Bool) =>
  (0 ≤ z70.1 ∧ z70.1 < ((n0 : Nat) : Int)) ∧ ∃ q91 : Addr, a0 = some q91 ∧
  (D84 ((q91.add (z70.1.toNat * 3)).add 1).block ∧ LoadS w74.drew ((q91.add (z70.1.toNat * 3)).add 1) .bool fun (x92 : Bool) =>
  cond (!(x90 == x92))
  (K (false, ()) w74.drew)
  ((0 ≤ z70.1 ∧ z70.1 < ((r68.1.n : Nat) : Int)) ∧ ∃ q93 : Addr, r68.1.a = some q93 ∧
  (D84 ((q93.add (z70.1.toNat * 3)).add 2).block ∧ LoadS w74.drew ((q93.add (z70.1.toNat * 3)).add 2) .sl fun (x94 : SlV) =>
  (0 ≤ z70.1 ∧ z70.1 < ((n0 : Nat) : Int)) ∧ ∃ q95 : Addr, a0 = some q95 ∧
  (D84 ((q95.add (z70.1.toNat * 3)).add 2).block ∧ LoadS w74.drew ((q95.add (z70.1.toNat * 3)).add 2) .sl fun (x96 : SlV) =>
  CallV Try.prog 17 #[.slice x94.a x94.n x94.c, .slice x96.a x96.n x96.c] w74.drew [.one .bool] fun (r97 : Bool × Unit) w98 =>
  KeepOn D84 w74.drew w98 ∧
  cond (!r97.1)
  (K (false, ()) w98)
  (Rng .i64 (z70.1 + 1) ∧
  K72 (z70.1 + 1, ()) w98)))))))))))
  (CallV Try.prog 21 #[] w71 [.one .bool] fun (r99 : Bool × Unit) w100 =>
  K (r99.1, ()) w100)))))))))))))
  (cond (!r11.2.1)
  ((D18 b13 ∧ LoadS w17.drew ⟨b13, 0, none⟩ (.int .i64) fun (x101 : Int) =>
  cond (x101 != 0)
  (K (false, ()) w17.drew)
  ((D18 b13 ∧ LoadS w17.drew ⟨b13, 1, none⟩ .bool fun (x102 : Bool) =>
  cond x102
  (K (false, ()) w17.drew)
  ((D18 b13 ∧ LoadS w17.drew ⟨b13, 2, none⟩ .sl fun (x103 : SlV) =>
  cond (decide (((x103.n : Nat) : Int) > 0))
  (K (false, ()) w17.drew)
  (CallV Try.prog 34 #[.slice a0 n0 c0] w17.drew [.one .sl] fun (r104 : SlV × Unit) w105 =>
  CallV Try.prog 34 #[.slice r104.1.a r104.1.n r104.1.c] w105 [.one .sl] fun (r106 : SlV × Unit) w107 =>
  cond (((r104.1.n : Nat) : Int) != ((n0 : Nat) : Int))
  (K (false, ()) w107)
  (cond (((r106.1.n : Nat) : Int) != ((n0 : Nat) : Int))
  (K (false, ()) w107)
  (LoopV [.one (.int .i64)] ((0 : Int), ()) w107 fun (z108 : Int × Unit) w109 (K110 : Int × Unit → World → Prop) =>
  cond (decide (z108.1 < ((n0 : Nat) : Int)))
  (LoopV [.one (.int .i64)] ((0 : Int), ()) w109 fun (z111 : Int × Unit) w112 (K113 : Int × Unit → World → Prop) =>
  (0 ≤ z108.1 ∧ z108.1 < ((r104.1.n : Nat) : Int)) ∧ ∃ q114 : Addr, r104.1.a = some q114 ∧
  LoadS w112 ((q114.add (z108.1.toNat * 3)).add 2) .sl fun (x115 : SlV) =>
  cond (decide (z111.1 < ((x115.n : Nat) : Int)))
  ((0 ≤ z108.1 ∧ z108.1 < ((r104.1.n : Nat) : Int)) ∧ ∃ q116 : Addr, r104.1.a = some q116 ∧
  LoadS w112 ((q116.add (z108.1.toNat * 3)).add 2) .sl fun (x117 : SlV) =>
  (0 ≤ z111.1 ∧ z111.1 < ((x117.n : Nat) : Int)) ∧ ∃ q118 : Addr, x117.a = some q118 ∧
  LoadS w112 (q118.add (z111.1.toNat * 1)) (.int .u8) fun (x119 : Int) =>
  (0 ≤ z111.1 ∧ z111.1 < ((x117.n : Nat) : Int)) ∧ ∃ q120 : Addr, x117.a = some q120 ∧
  StoreV w112 (q120.add (z111.1.toNat * 1)) [.int .u8 (Go.bits .xor .u8 x119 255)] fun w121 =>
  Rng .i64 (z111.1 + 1) ∧
  K113 (z111.1 + 1, ()) w121)
  (DrawV fun D122 =>
  (0 ≤ z108.1 ∧ z108.1 < ((r106.1.n : Nat) : Int)) ∧ ∃ q123 : Addr, r106.1.a = some q123 ∧
  (D122 (q123.add (z108.1.toNat * 3)).block ∧ LoadS w112.drew (q123.add (z108.1.toNat * 3)) (.int .i64) fun (x124 : Int) =>
  (0 ≤ z108.1 ∧ z108.1 < ((n0 : Nat) : Int)) ∧ ∃ q125 : Addr, a0 = some q125 ∧
  (D122 (q125.add (z108.1.toNat * 3)).block ∧ LoadS w112.drew (q125.add (z108.1.toNat * 3)) (.int .i64) fun (x126 : Int) =>
  cond (x124 != x126)
  (K (false, ()) w112.drew)
  ((0 ≤ z108.1 ∧ z108.1 < ((r106.1.n : Nat) : Int)) ∧ ∃ q127 : Addr, r106.1.a = some q127 ∧
  (D122 ((q127.add (z108.1.toNat * 3)).add 1).block ∧ LoadS w112.drew ((q127.add (z108.1.toNat * 3)).add 1) .bool fun (x128 : Bool) =>
  (0 ≤ z108.1 ∧ z108.1 < ((n0 : Nat) : Int)) ∧ ∃ q129 : Addr, a0 = some q129 ∧
  (D122 ((q129.add (z108.1.toNat * 3)).add 1).block ∧ LoadS w112.drew ((q129.add (z108.1.toNat * 3)).add 1) .bool fun (x130 : Bool) =>
  cond (!(x128 == x130))
  (K (false, ()) w112.drew)
  ((0 ≤ z108.1 ∧ z108.1 < ((r106.1.n : Nat) : Int)) ∧ ∃ q131 : Addr, r106.1.a = some q131 ∧
  (D122 ((q131.add (z108.1.toNat * 3)).add 2).block ∧ LoadS w112.drew ((q131.add (z108.1.toNat * 3)).add 2) .sl fun (x132 : SlV) =>
  (0 ≤ z108.1 ∧ z108.1 < ((n0 : Nat) : Int)) ∧ ∃ q133 : Addr, a0 = some q133 ∧
  (D122 ((q133.add (z108.1.toNat * 3)).add 2).block ∧ LoadS w112.drew ((q133.add (z108.1.toNat * 3)).add 2) .sl fun (x134 : SlV) =>
  CallV Try.prog 17 #[.slice x132.a x132.n x132.c, .slice x134.a x134.n x134.c] w112.drew [.one .bool] fun (r135 : Bool × Unit) w136 =>
  KeepOn D122 w112.drew w136 ∧
  cond (!r135.1)
  (K (false, ()) w136)
  (Rng .i64 (z108.1 + 1) ∧
  K110 (z108.1 + 1, ()) w136)))))))))))
  (CallV Try.prog 21 #[] w109 [.one .bool] fun (r137 : Bool × Unit) w138 =>
  K (r137.1, ()) w138))))))))))
  (CallV Try.prog 34 #[.slice a0 n0 c0] w17.drew [.one .sl] fun (r139 : SlV × Unit) w140 =>
  CallV Try.prog 34 #[.slice r139.1.a r139.1.n r139.1.c] w140 [.one .sl] fun (r141 : SlV × Unit) w142 =>
  cond (((r139.1.n : Nat) : Int) != ((n0 : Nat) : Int))
  (K (false, ()) w142)
  (cond (((r141.1.n : Nat) : Int) != ((n0 : Nat) : Int))
  (K (false, ()) w142)
  (LoopV [.one (.int .i64)] ((0 : Int), ()) w142 fun (z143 : Int × Unit) w144 (K145 : Int × Unit → World → Prop) =>
  cond (decide (z143.1 < ((n0 : Nat) : Int)))
  (LoopV [.one (.int .i64)] ((0 : Int), ()) w144 fun (z146 : Int × Unit) w147 (K148 : Int × Unit → World → Prop) =>
  (0 ≤ z143.1 ∧ z143.1 < ((r139.1.n : Nat) : Int)) ∧ ∃ q149 : Addr, r139.1.a = some q149 ∧
  LoadS w147 ((q149.add (z143.1.toNat * 3)).add 2) .sl fun (x150 : SlV) =>
  cond (decide (z146.1 < ((x150.n : Nat) : Int)))
  ((0 ≤ z143.1 ∧ z143.1 < ((r139.1.n : Nat) : Int)) ∧ ∃ q151 : Addr, r139.1.a = some q151 ∧
  LoadS w147 ((q151.add (z143.1.toNat * 3)).add 2) .sl fun (x152 : SlV) =>
  (0 ≤ z146.1 ∧ z146.1 < ((x152.n : Nat) : Int)) ∧ ∃ q153 : Addr, x152.a = some q153 ∧
  LoadS w147 (q153.add (z146.1.toNat * 1)) (.int .u8) fun (x154 : Int) =>
  (0 ≤ z146.1 ∧ z146.1 < ((x152.n : Nat) : Int)) ∧ ∃ q155 : Addr, x152.a = some q155 ∧
  StoreV w147 (q155.add (z146.1.toNat * 1)) [.int .u8 (Go.bits .xor .u8 x154 255)] fun w156 =>
  Rng .i64 (z146.1 + 1) ∧
  K148 (z146.1 + 1, ()) w156)
  (DrawV fun D157 =>
  (0 ≤ z143.1 ∧ z143.1 < ((r141.1.n : Nat) : Int)) ∧ ∃ q158 : Addr, r141.1.a = some q158 ∧
  (D157 (q158.add (z143.1.toNat * 3)).block ∧ LoadS w147.drew (q158.add (z143.1.toNat * 3)) (.int .i64) fun (x159 : Int) =>
  (0 ≤ z143.1 ∧ z143.1 < ((n0 : Nat) : Int)) ∧ ∃ q160 : Addr, a0 = some q160 ∧
  (D157 (q160.add (z143.1.toNat * 3)).block ∧ LoadS w147.drew (q160.add (z143.1.toNat * 3)) (.int .i64) fun (x161 : Int) =>
  cond (x159 != x161)
  (K (false, ()) w147.drew)
  ((0 ≤ z143.1 ∧ z143.1 < ((r141.1.n : Nat) : Int)) ∧ ∃ q162 : Addr, r141.1.a = some q162 ∧
  (D157 ((q162.add (z143.1.toNat * 3)).add 1).block ∧ LoadS w147.drew ((q162.add (z143.1.toNat * 3)).add 1) .bool fun (x163 : Bool) =>
  (0 ≤ z143.1 ∧ z143.1 < ((n0 : Nat) : Int)) ∧ ∃ q164 : Addr, a0 = some q164 ∧
  (D157 ((q164.add (z143.1.toNat * 3)).add 1).block ∧ LoadS w147.drew ((q164.add (z143.1.toNat * 3)).add 1) .bool fun (x165 : Bool) =>
  cond (!(x163 == x165))
  (K (false, ()) w147.drew)
  ((0 ≤ z143.1 ∧ z143.1 < ((r141.1.n : Nat) : Int)) ∧ ∃ q166 : Addr, r141.1.a = some q166 ∧
  (D157 ((q166.add (z143.1.toNat * 3)).add 2).block ∧ LoadS w147.drew ((q166.add (z143.1.toNat * 3)).add 2) .sl fun (x167 : SlV) =>
  (0 ≤ z143.1 ∧ z143.1 < ((n0 : Nat) : Int)) ∧ ∃ q168 : Addr, a0 = some q168 ∧
  (D157 ((q168.add (z143.1.toNat * 3)).add 2).block ∧ LoadS w147.drew ((q168.add (z143.1.toNat * 3)).add 2) .sl fun (x169 : SlV) =>
  CallV Try.prog 17 #[.slice x167.a x167.n x167.c, .slice x169.a x169.n x169.c] w147.drew [.one .bool] fun (r170 : Bool × Unit) w171 =>
  KeepOn D157 w147.drew w171 ∧
  cond (!r170.1)
  (K (false, ()) w171)
  (Rng .i64 (z143.1 + 1) ∧
  K145 (z143.1 + 1, ()) w171)))))))))))
  (CallV Try.prog 21 #[] w144 [.one .bool] fun (r172 : Bool × Unit) w173 =>
  K (r172.1, ()) w173))))))))
  (CallV Try.prog 32 #[.slice a0 n0 c0, .int .i64 p1] w8 [.agg [.int .i64, .bool, .sl], .one .bool] fun (r174 : (Int × Bool × SlV × Unit) × Bool × Unit) w175 =>
  NewV #[.int .i64 0, .bool false, .slice none 0 0] 45 w175 fun b176 w177 =>
  StoreV w177 ⟨b176, 0, none⟩ [.int .i64 r174.1.1, .bool r174.1.2.1, .slice r174.1.2.2.1.a r174.1.2.2.1.n r174.1.2.2.1.c] fun w178 =>
  CallV Try.prog 33 #[.slice a0 n0 c0, .int .i64 p1] w178 [.one (.int .i64)] fun (r179 : Int × Unit) w180 =>
  cond (!(r174.2.1 == decide (r179.1 ≥ 0)))
  (K (false, ()) w180)
  (DrawV fun D181 =>
  cond r174.2.1
  ((D181 b176 ∧ LoadS w180.drew ⟨b176, 0, none⟩ (.int .i64) fun (x182 : Int) =>
  cond (x182 != p1)
  (K (false, ()) w180.drew)
  ((D181 b176 ∧ LoadS w180.drew ⟨b176, 1, none⟩ .bool fun (x183 : Bool) =>
  (0 ≤ r179.1 ∧ r179.1 < ((n0 : Nat) : Int)) ∧ ∃ q184 : Addr, a0 = some q184 ∧
  (D181 ((q184.add (r179.1.toNat * 3)).add 1).block ∧ LoadS w180.drew ((q184.add (r179.1.toNat * 3)).add 1) .bool fun (x185 : Bool) =>
  cond (!(x183 == x185))
  (K (false, ()) w180.drew)
  ((D181 b176 ∧ LoadS w180.drew ⟨b176, 2, none⟩ .sl fun (x186 : SlV) =>
  (0 ≤ r179.1 ∧ r179.1 < ((n0 : Nat) : Int)) ∧ ∃ q187 : Addr, a0 = some q187 ∧
  (D181 ((q187.add (r179.1.toNat * 3)).add 2).block ∧ LoadS w180.drew ((q187.add (r179.1.toNat * 3)).add 2) .sl fun (x188 : SlV) =>
  CallV Try.prog 17 #[.slice x186.a x186.n x186.c, .slice x188.a x188.n x188.c] w180.drew [.one .bool] fun (r189 : Bool × Unit) w190 =>
  KeepOn D181 w180.drew w190 ∧
  cond (!r189.1)
  (K (false, ()) w190)
  (cond (!r174.2.1)
  ((D181 b176 ∧ LoadS w180.drew ⟨b176, 0, none⟩ (.int .i64) fun (x191 : Int) =>
  cond (x191 != 0)
  (K (false, ()) w190)
  ((D181 b176 ∧ LoadS w180.drew ⟨b176, 1, none⟩ .bool fun (x192 : Bool) =>
  cond x192
  (K (false, ()) w190)
  ((D181 b176 ∧ LoadS w180.drew ⟨b176, 2, none⟩ .sl fun (x193 : SlV) =>
  cond (decide (((x193.n : Nat) : Int) > 0))
  (K (false, ()) w190)
  (CallV Try.prog 34 #[.slice a0 n0 c0] w190 [.one .sl] fun (r194 : SlV × Unit) w195 =>
  CallV Try.prog 34 #[.slice r194.1.a r194.1.n r194.1.c] w195 [.one .sl] fun (r196 : SlV × Unit) w197 =>
  cond (((r194.1.n : Nat) : Int) != ((n0 : Nat) : Int))
  (K (false, ()) w197)
  (cond (((r196.1.n : Nat) : Int) != ((n0 : Nat) : Int))
  (K (false, ()) w197)
  (LoopV [.one (.int .i64)] ((0 : Int), ()) w197 fun (z198 : Int × Unit) w199 (K200 : Int × Unit → World → Prop) =>
  cond (decide (z198.1 < ((n0 : Nat) : Int)))
  (LoopV [.one (.int .i64)] ((0 : Int), ()) w199 fun (z201 : Int × Unit) w202 (K203 : Int × Unit → World → Prop) =>
  (0 ≤ z198.1 ∧ z198.1 < ((r194.1.n : Nat) : Int)) ∧ ∃ q204 : Addr, r194.1.a = some q204 ∧
  LoadS w202 ((q204.add (z198.1.toNat * 3)).add 2) .sl fun (x205 : SlV) =>
  cond (decide (z201.1 < ((x205.n : Nat) : Int)))
  ((0 ≤ z198.1 ∧ z198.1 < ((r194.1.n : Nat) : Int)) ∧ ∃ q206 : Addr, r194.1.a = some q206 ∧
  LoadS w202 ((q206.add (z198.1.toNat * 3)).add 2) .sl fun (x207 : SlV) =>
  (0 ≤ z201.1 ∧ z201.1 < ((x207.n : Nat) : Int)) ∧ ∃ q208 : Addr, x207.a = some q208 ∧
  LoadS w202 (q208.add (z201.1.toNat * 1)) (.int .u8) fun (x209 : Int) =>
  (0 ≤ z201.1 ∧ z201.1 < ((x207.n : Nat) : Int)) ∧ ∃ q210 : Addr, x207.a = some q210 ∧
  StoreV w202 (q210.add (z201.1.toNat * 1)) [.int .u8 (Go.bits .xor .u8 x209 255)] fun w211 =>
  Rng .i64 (z201.1 + 1) ∧
  K203 (z201.1 + 1, ()) w211)
  (DrawV fun D212 =>
  (0 ≤ z198.1 ∧ z198.1 < ((r196.1.n : Nat) : Int)) ∧ ∃ q213 : Addr, r196.1.a = some q213 ∧
  (D212 (q213.add (z198.1.toNat * 3)).block ∧ LoadS w202.drew (q213.add (z198.1.toNat * 3)) (.int .i64) fun (x214 : Int) =>
  (0 ≤ z198.1 ∧ z198.1 < ((n0 : Nat) : Int)) ∧ ∃ q215 : Addr, a0 = some q215 ∧
  (D212 (q215.add (z198.1.toNat * 3)).block ∧ LoadS w202.drew (q215.add (z198.1.toNat * 3)) (.int .i64) fun (x216 : Int) =>
  cond (x214 != x216)
  (K (false, ()) w202.drew)
  ((0 ≤ z198.1 ∧ z198.1 < ((r196.1.n : Nat) : Int)) ∧ ∃ q217 : Addr, r196.1.a = some q217 ∧
  (D212 ((q217.add (z198.1.toNat * 3)).add 1).block ∧ LoadS w202.drew ((q217.add (z198.1.toNat * 3)).add 1) .bool fun (x218 : Bool) =>
  (0 ≤ z198.1 ∧ z198.1 < ((n0 : Nat) : Int)) ∧ ∃ q219 : Addr, a0 = some q219 ∧
  (D212 ((q219.add (z198.1.toNat * 3)).add 1).block ∧ LoadS w202.drew ((q219.add (z198.1.toNat * 3)).add 1) .bool fun (x220 : Bool) =>
  cond (!(x218 == x220))
  (K (false, ()) w202.drew)
  ((0 ≤ z198.1 ∧ z198.1 < ((r196.1.n : Nat) : Int)) ∧ ∃ q221 : Addr, r196.1.a = some q221 ∧
  (D212 ((q221.add (z198.1.toNat * 3)).add 2).block ∧ LoadS w202.drew ((q221.add (z198.1.toNat * 3)).add 2) .sl fun (x222 : SlV) =>
  (0 ≤ z198.1 ∧ z198.1 < ((n0 : Nat) : Int)) ∧ ∃ q223 : Addr, a0 = some q223 ∧
  (D212 ((q223.add (z198.1.toNat * 3)).add 2).block ∧ LoadS w202.drew ((q223.add (z198.1.toNat * 3)).add 2) .sl fun (x224 : SlV) =>
  CallV Try.prog 17 #[.slice x222.a x222.n x222.c, .slice x224.a x224.n x224.c] w202.drew [.one .bool] fun (r225 : Bool × Unit) w226 =>
  KeepOn D212 w202.drew w226 ∧
  cond (!r225.1)
  (K (false, ()) w226)
  (Rng .i64 (z198.1 + 1) ∧
  K200 (z198.1 + 1, ()) w226)))))))))))
  (CallV Try.prog 21 #[] w199 [.one .bool] fun (r227 : Bool × Unit) w228 =>
  K (r227.1, ()) w228))))))))))
  (CallV Try.prog 34 #[.slice a0 n0 c0] w190 [.one .sl] fun (r229 : SlV × Unit) w230 =>
  CallV Try.prog 34 #[.slice r229.1.a r229.1.n r229.1.c] w230 [.one .sl] fun (r231 : SlV × Unit) w232 =>
  cond (((r229.1.n : Nat) : Int) != ((n0 : Nat) : Int))
  (K (false, ()) w232)
  (cond (((r231.1.n : Nat) : Int) != ((n0 : Nat) : Int))
  (K (false, ()) w232)
  (LoopV [.one (.int .i64)] ((0 : Int), ()) w232 fun (z233 : Int × Unit) w234 (K235 : Int × Unit → World → Prop) =>
  cond (decide (z233.1 < ((n0 : Nat) : Int)))
  (LoopV [.one (.int .i64)] ((0 : Int), ()) w234 fun (z236 : Int × Unit) w237 (K238 : Int × Unit → World → Prop) =>
  (0 ≤ z233.1 ∧ z233.1 < ((r229.1.n : Nat) : Int)) ∧ ∃ q239 : Addr, r229.1.a = some q239 ∧
  LoadS w237 ((q239.add (z233.1.toNat * 3)).add 2) .sl fun (x240 : SlV) =>
  cond (decide (z236.1 < ((x240.n : Nat) : Int)))
  ((0 ≤ z233.1 ∧ z233.1 < ((r229.1.n : Nat) : Int)) ∧ ∃ q241 : Addr, r229.1.a = some q241 ∧
  LoadS w237 ((q241.add (z233.1.toNat * 3)).add 2) .sl fun (x242 : SlV) =>
  (0 ≤ z236.1 ∧ z236.1 < ((x242.n : Nat) : Int)) ∧ ∃ q243 : Addr, x242.a = some q243 ∧
  LoadS w237 (q243.add (z236.1.toNat * 1)) (.int .u8) fun (x244 : Int) =>
  (0 ≤ z236.1 ∧ z236.1 < ((x242.n : Nat) : Int)) ∧ ∃ q245 : Addr, x242.a = some q245 ∧
  StoreV w237 (q245.add (z236.1.toNat * 1)) [.int .u8 (Go.bits .xor .u8 x244 255)] fun w246 =>
  Rng .i64 (z236.1 + 1) ∧
  K238 (z236.1 + 1, ()) w246)
  (DrawV fun D247 =>
  (0 ≤ z233.1 ∧ z233.1 < ((r231.1.n : Nat) : Int)) ∧ ∃ q248 : Addr, r231.1.a = some q248 ∧
  (D247 (q248.add (z233.1.toNat * 3)).block ∧ LoadS w237.drew (q248.add (z233.1.toNat * 3)) (.int .i64) fun (x249 : Int) =>
  (0 ≤ z233.1 ∧ z233.1 < ((n0 : Nat) : Int)) ∧ ∃ q250 : Addr, a0 = some q250 ∧
  (D247 (q250.add (z233.1.toNat * 3)).block ∧ LoadS w237.drew (q250.add (z233.1.toNat * 3)) (.int .i64) fun (x251 : Int) =>
  cond (x249 != x251)
  (K (false, ()) w237.drew)
  ((0 ≤ z233.1 ∧ z233.1 < ((r231.1.n : Nat) : Int)) ∧ ∃ q252 : Addr, r231.1.a = some q252 ∧
  (D247 ((q252.add (z233.1.toNat * 3)).add 1).block ∧ LoadS w237.drew ((q252.add (z233.1.toNat * 3)).add 1) .bool fun (x253 : Bool) =>
  (0 ≤ z233.1 ∧ z233.1 < ((n0 : Nat) : Int)) ∧ ∃ q254 : Addr, a0 = some q254 ∧
  (D247 ((q254.add (z233.1.toNat * 3)).add 1).block ∧ LoadS w237.drew ((q254.add (z233.1.toNat * 3)).add 1) .bool fun (x255 : Bool) =>
  cond (!(x253 == x255))
  (K (false, ()) w237.drew)
  ((0 ≤ z233.1 ∧ z233.1 < ((r231.1.n : Nat) : Int)) ∧ ∃ q256 : Addr, r231.1.a = some q256 ∧
  (D247 ((q256.add (z233.1.toNat * 3)).add 2).block ∧ LoadS w237.drew ((q256.add (z233.1.toNat * 3)).add 2) .sl fun (x257 : SlV) =>
  (0 ≤ z233.1 ∧ z233.1 < ((n0 : Nat) : Int)) ∧ ∃ q258 : Addr, a0 = some q258 ∧
  (D247 ((q258.add (z233.1.toNat * 3)).add 2).block ∧ LoadS w237.drew ((q258.add (z233.1.toNat * 3)).add 2) .sl fun (x259 : SlV) =>
  CallV Try.prog 17 #[.slice x257.a x257.n x257.c, .slice x259.a x259.n x259.c] w237.drew [.one .bool] fun (r260 : Bool × Unit) w261 =>
  KeepOn D247 w237.drew w261 ∧
  cond (!r260.1)
  (K (false, ()) w261)
  (Rng .i64 (z233.1 + 1) ∧
  K235 (z233.1 + 1, ()) w261)))))))))))
  (CallV Try.prog 21 #[] w234 [.one .bool] fun (r262 : Bool × Unit) w263 =>
  K (r262.1, ()) w263)))))))))))))
  (cond (!r174.2.1)
  ((D181 b176 ∧ LoadS w180.drew ⟨b176, 0, none⟩ (.int .i64) fun (x264 : Int) =>
  cond (x264 != 0)
  (K (false, ()) w180.drew)
  ((D181 b176 ∧ LoadS w180.drew ⟨b176, 1, none⟩ .bool fun (x265 : Bool) =>
  cond x265
  (K (false, ()) w180.drew)
  ((D181 b176 ∧ LoadS w180.drew ⟨b176, 2, none⟩ .sl fun (x266 : SlV) =>
  cond (decide (((x266.n : Nat) : Int) > 0))
  (K (false, ()) w180.drew)
  (CallV Try.prog 34 #[.slice a0 n0 c0] w180.drew [.one .sl] fun (r267 : SlV × Unit) w268 =>
  CallV Try.prog 34 #[.slice r267.1.a r267.1.n r267.1.c] w268 [.one .sl] fun (r269 : SlV × Unit) w270 =>
  cond (((r267.1.n : Nat) : Int) != ((n0 : Nat) : Int))
  (K (false, ()) w270)
  (cond (((r269.1.n : Nat) : Int) != ((n0 : Nat) : Int))
  (K (false, ()) w270)
  (LoopV [.one (.int .i64)] ((0 : Int), ()) w270 fun (z271 : Int × Unit) w272 (K273 : Int × Unit → World → Prop) =>
  cond (decide (z271.1 < ((n0 : Nat) : Int)))
  (LoopV [.one (.int .i64)] ((0 : Int), ()) w272 fun (z274 : Int × Unit) w275 (K276 : Int × Unit → World → Prop) =>
  (0 ≤ z271.1 ∧ z271.1 < ((r267.1.n : Nat) : Int)) ∧ ∃ q277 : Addr, r267.1.a = some q277 ∧
  LoadS w275 ((q277.add (z271.1.toNat * 3)).add 2) .sl fun (x278 : SlV) =>
  cond (decide (z274.1 < ((x278.n : Nat) : Int)))
  ((0 ≤ z271.1 ∧ z271.1 < ((r267.1.n : Nat) : Int)) ∧ ∃ q279 : Addr, r267.1.a = some q279 ∧
  LoadS w275 ((q279.add (z271.1.toNat * 3)).add 2) .sl fun (x280 : SlV) =>
  (0 ≤ z274.1 ∧ z274.1 < ((x280.n : Nat) : Int)) ∧ ∃ q281 : Addr, x280.a = some q281 ∧
  LoadS w275 (q281.add (z274.1.toNat * 1)) (.int .u8) fun (x282 : Int) =>
  (0 ≤ z274.1 ∧ z274.1 < ((x280.n : Nat) : Int)) ∧ ∃ q283 : Addr, x280.a = some q283 ∧
  StoreV w275 (q283.add (z274.1.toNat * 1)) [.int .u8 (Go.bits .xor .u8 x282 255)] fun w284 =>
  Rng .i64 (z274.1 + 1) ∧
  K276 (z274.1 + 1, ()) w284)
  (DrawV fun D285 =>
  (0 ≤ z271.1 ∧ z271.1 < ((r269.1.n : Nat) : Int)) ∧ ∃ q286 : Addr, r269.1.a = some q286 ∧
  (D285 (q286.add (z271.1.toNat * 3)).block ∧ LoadS w275.drew (q286.add (z271.1.toNat * 3)) (.int .i64) fun (x287 : Int) =>
  (0 ≤ z271.1 ∧ z271.1 < ((n0 : Nat) : Int)) ∧ ∃ q288 : Addr, a0 = some q288 ∧
  (D285 (q288.add (z271.1.toNat * 3)).block ∧ LoadS w275.drew (q288.add (z271.1.toNat * 3)) (.int .i64) fun (x289 : Int) =>
  cond (x287 != x289)
  (K (false, ()) w275.drew)
  ((0 ≤ z271.1 ∧ z271.1 < ((r269.1.n : Nat) : Int)) ∧ ∃ q290 : Addr, r269.1.a = some q290 ∧
  (D285 ((q290.add (z271.1.toNat * 3)).add 1).block ∧ LoadS w275.drew ((q290.add (z271.1.toNat * 3)).add 1) .bool fun (x291 : Bool) =>
  (0 ≤ z271.1 ∧ z271.1 < ((n0 : Nat) : Int)) ∧ ∃ q292 : Addr, a0 = some q292 ∧
  (D285 ((q292.add (z271.1.toNat * 3)).add 1).block ∧ LoadS w275.drew ((q292.add (z271.1.toNat * 3)).add 1) .bool fun (x293 : Bool) =>
  cond (!(x291 == x293))
  (K (false, ()) w275.drew)
  ((0 ≤ z271.1 ∧ z271.1 < ((r269.1.n : Nat) : Int)) ∧ ∃ q294 : Addr, r269.1.a = some q294 ∧
  (D285 ((q294.add (z271.1.toNat * 3)).add 2).block ∧ LoadS w275.drew ((q294.add (z271.1.toNat * 3)).add 2) .sl fun (x295 : SlV) =>
  (0 ≤ z271.1 ∧ z271.1 < ((n0 : Nat) : Int)) ∧ ∃ q296 : Addr, a0 = some q296 ∧
  (D285 ((q296.add (z271.1.toNat * 3)).add 2).block ∧ LoadS w275.drew ((q296.add (z271.1.toNat * 3)).add 2) .sl fun (x297 : SlV) =>
  CallV Try.prog 17 #[.slice x295.a x295.n x295.c, .slice x297.a x297.n x297.c] w275.drew [.one .bool] fun (r298 : Bool × Unit) w299 =>
  KeepOn D285 w275.drew w299 ∧
  cond (!r298.1)
  (K (false, ()) w299)
  (Rng .i64 (z271.1 + 1) ∧
  K273 (z271.1 + 1, ()) w299)))))))))))
  (CallV Try.prog 21 #[] w272 [.one .bool] fun (r300 : Bool × Unit) w301 =>
  K (r300.1, ()) w301))))))))))
  (CallV Try.prog 34 #[.slice a0 n0 c0] w180.drew [.one .sl] fun (r302 : SlV × Unit) w303 =>
  CallV Try.prog 34 #[.slice r302.1.a r302.1.n r302.1.c] w303 [.one .sl] fun (r304 : SlV × Unit) w305 =>
  cond (((r302.1.n : Nat) : Int) != ((n0 : Nat) : Int))
  (K (false, ()) w305)
  (cond (((r304.1.n : Nat) : Int) != ((n0 : Nat) : Int))
  (K (false, ()) w305)
  (LoopV [.one (.int .i64)] ((0 : Int), ()) w305 fun (z306 : Int × Unit) w307 (K308 : Int × Unit → World → Prop) =>
  cond (decide (z306.1 < ((n0 : Nat) : Int)))
  (LoopV [.one (.int .i64)] ((0 : Int), ()) w307 fun (z309 : Int × Unit) w310 (K311 : Int × Unit → World → Prop) =>
  (0 ≤ z306.1 ∧ z306.1 < ((r302.1.n : Nat) : Int)) ∧ ∃ q312 : Addr, r302.1.a = some q312 ∧
  LoadS w310 ((q312.add (z306.1.toNat * 3)).add 2) .sl fun (x313 : SlV) =>
  cond (decide (z309.1 < ((x313.n : Nat) : Int)))
  ((0 ≤ z306.1 ∧ z306.1 < ((r302.1.n : Nat) : Int)) ∧ ∃ q314 : Addr, r302.1.a = some q314 ∧
  LoadS w310 ((q314.add (z306.1.toNat * 3)).add 2) .sl fun (x315 : SlV) =>
  (0 ≤ z309.1 ∧ z309.1 < ((x315.n : Nat) : Int)) ∧ ∃ q316 : Addr, x315.a = some q316 ∧
  LoadS w310 (q316.add (z309.1.toNat * 1)) (.int .u8) fun (x317 : Int) =>
  (0 ≤ z309.1 ∧ z309.1 < ((x315.n : Nat) : Int)) ∧ ∃ q318 : Addr, x315.a = some q318 ∧
  StoreV w310 (q318.add (z309.1.toNat * 1)) [.int .u8 (Go.bits .xor .u8 x317 255)] fun w319 =>
  Rng .i64 (z309.1 + 1) ∧
  K311 (z309.1 + 1, ()) w319)
  (DrawV fun D320 =>
  (0 ≤ z306.1 ∧ z306.1 < ((r304.1.n : Nat) : Int)) ∧ ∃ q321 : Addr, r304.1.a = some q321 ∧
  (D320 (q321.add (z306.1.toNat * 3)).block ∧ LoadS w310.drew (q321.add (z306.1.toNat * 3)) (.int .i64) fun (x322 : Int) =>
  (0 ≤ z306.1 ∧ z306.1 < ((n0 : Nat) : Int)) ∧ ∃ q323 : Addr, a0 = some q323 ∧
  (D320 (q323.add (z306.1.toNat * 3)).block ∧ LoadS w310.drew (q323.add (z306.1.toNat * 3)) (.int .i64) fun (x324 : Int) =>
  cond (x322 != x324)
  (K (false, ()) w310.drew)
  ((0 ≤ z306.1 ∧ z306.1 < ((r304.1.n : Nat) : Int)) ∧ ∃ q325 : Addr, r304.1.a = some q325 ∧
  (D320 ((q325.add (z306.1.toNat * 3)).add 1).block ∧ LoadS w310.drew ((q325.add (z306.1.toNat * 3)).add 1) .bool fun (x326 : Bool) =>
  (0 ≤ z306.1 ∧ z306.1 < ((n0 : Nat) : Int)) ∧ ∃ q327 : Addr, a0 = some q327 ∧
  (D320 ((q327.add (z306.1.toNat * 3)).add 1).block ∧ LoadS w310.drew ((q327.add (z306.1.toNat * 3)).add 1) .bool fun (x328 : Bool) =>
  cond (!(x326 == x328))
  (K (false, ()) w310.drew)
  ((0 ≤ z306.1 ∧ z306.1 < ((r304.1.n : Nat) : Int)) ∧ ∃ q329 : Addr, r304.1.a = some q329 ∧
  (D320 ((q329.add (z306.1.toNat * 3)).add 2).block ∧ LoadS w310.drew ((q329.add (z306.1.toNat * 3)).add 2) .sl fun (x330 : SlV) =>
  (0 ≤ z306.1 ∧ z306.1 < ((n0 : Nat) : Int)) ∧ ∃ q331 : Addr, a0 = some q331 ∧
  (D320 ((q331.add (z306.1.toNat * 3)).add 2).block ∧ LoadS w310.drew ((q331.add (z306.1.toNat * 3)).add 2) .sl fun (x332 : SlV) =>
  CallV Try.prog 17 #[.slice x330.a x330.n x330.c, .slice x332.a x332.n x332.c] w310.drew [.one .bool] fun (r333 : Bool × Unit) w334 =>
  KeepOn D320 w310.drew w334 ∧
  cond (!r333.1)
  (K (false, ()) w334)
  (Rng .i64 (z306.1 + 1) ∧
  K308 (z306.1 + 1, ()) w334)))))))))))
  (CallV Try.prog 21 #[] w307 [.one .bool] fun (r335 : Bool × Unit) w336 =>
  K (r335.1, ()) w336)))))))))
theorem law12_FaultPlans.vc (a0 : Option Addr) (n0 c0 : Nat) (p1 : Int) (w : World) (K : Bool × Unit → World → Prop) (h : law12_FaultPlans.P a0 n0 c0 p1 w K) : CallV Try.prog 9 #[.slice a0 n0 c0, .int .i64 p1] w [.one .bool] K := by
  have e : vcFun Try.prog okf false Try.f9 law12_FaultPlans.A #[.slice a0 n0 c0, .int .i64 p1] w [.one .bool] K = law12_FaultPlans.P a0 n0 c0 p1 w K := by kernel_rfl
  exact vcFun.calls okf_ok follows Try.func9 (e.symm ▸ h)

end Go.Proofs.Ytombjhkdakmhpaa.Vc
