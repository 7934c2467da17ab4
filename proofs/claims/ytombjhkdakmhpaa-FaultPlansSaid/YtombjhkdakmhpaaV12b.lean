/- The plans of functions as plain statements, printed by wip/tools/vcgen.py; the kernel holds each to the code. -/
import Derived.Test.YtombjhkdakmhpaaEnv
namespace Go.Proofs.Ytombjhkdakmhpaa.Vc
open Go Go.Eng
set_option linter.unusedVariables false

/-! ### nepenthe/fault.turned: function 45 -/
-- loop 0 carries 40: .one (.int .i64)
-- loop 1 carries 18: .one (.int .i64)
-- loop 2 carries 40: .one (.int .i64)
def fault_turned.A : Ann := .two .no (.two .no (.two (.two .no (.two (.two .no (.one (.loop [10, 18, 19, 20, 21, 22, 23, 24, 25, 26, 27, 28, 29, 30, 31, 32] [(18, .one (.int .i64))] .no))) .no)) (.two .no (.two .no (.two (.two .no (.one (.loop [13, 40, 41, 42, 43, 44, 45, 46, 47, 48, 49, 50, 51, 52, 53, 54, 55, 56] [(40, .one (.int .i64))] (.two .no (.two .no (.two (.one (.two .no (.two .no (.two (.draw (.take 0 (.take 1 (.take 2 (.take 3 (.take 5 (.take 6 (.take 7 (.eff 4 (.take 8 (.take 9 (.eff 10 (.done))))))))))))) .no)))) .no)))))) .no)))))
def fault_turned.P (a0 : Option Addr) (n0 c0 : Nat) (a1 : Option Addr) (n1 c1 : Nat) (a2 : Option Addr) (n2 c2 : Nat) (p3 : Bool) (w : World) (K : SlV × Unit → World → Prop) : Prop :=
  NewV #[.slice a1 n1 c1] 26 w fun b1 w2 =>
  NewV #[.slice a2 n2 c2] 26 w2 fun b3 w4 =>
  NewV #[.int .i64 0] 3 w4 fun b5 w6 =>
  StoreV w6 ⟨b5, 0, none⟩ [.int .i64 (-1)] fun w7 =>
  cond p3
  (LoadS w7 ⟨b1, 0, none⟩ .sl fun (x8 : SlV) =>
  Rng .i64 ((8 : Int) * ((x8.n : Nat) : Int)) ∧
  LoopV [.one (.int .i64)] ((0 : Int), ()) w7 fun (z9 : Int × Unit) w10 (K11 : Int × Unit → World → Prop) =>
  cond (decide (z9.1 < ((8 : Int) * ((x8.n : Nat) : Int))))
  (LoadS w10 ⟨b1, 0, none⟩ .sl fun (x12 : SlV) =>
  8 ≠ (0 : Int) ∧ Rng .i64 (Int.tdiv z9.1 8) ∧
  (0 ≤ (Int.tdiv z9.1 8) ∧ (Int.tdiv z9.1 8) < ((x12.n : Nat) : Int)) ∧ ∃ q13 : Addr, x12.a = some q13 ∧
  LoadS w10 (q13.add ((Int.tdiv z9.1 8).toNat * 1)) (.int .u8) fun (x14 : Int) =>
  8 ≠ (0 : Int) ∧
  (0 : Int) ≤ (Int.tmod z9.1 8) ∧
  cond ((Go.bits .and .u8 (Int.fdiv x14 (2 ^ (Nat.min ((Int.tmod z9.1 8)).toNat 8))) 1) == 1)
  (StoreV w10 ⟨b5, 0, none⟩ [.int .i64 z9.1] fun w15 =>
  Rng .i64 (z9.1 + 1) ∧
  K11 (z9.1 + 1, ()) w15)
  (Rng .i64 (z9.1 + 1) ∧
  K11 (z9.1 + 1, ()) w10))
  (NewV #[] 5 w10 fun b16 w17 =>
  AppS w17 a0 n0 1 fun ns22 =>
  AppV w17 5 1 1 (some ⟨b16, 0, none⟩) 0 0 ns22 n0 fun a18 n19 c20 w21 =>
  Rng .i64 ((8 : Int) * ((n19 : Nat) : Int)) ∧
  LoopV [.one (.int .i64)] ((0 : Int), ()) w21 fun (z23 : Int × Unit) w24 (K25 : Int × Unit → World → Prop) =>
  cond (decide (z23.1 < ((8 : Int) * ((n19 : Nat) : Int))))
  (CallV Try.prog 56 #[.int .i64 z23.1, .pointer (some ⟨b5, 0, none⟩), .pointer (some ⟨b1, 0, none⟩), .pointer (some ⟨b3, 0, none⟩)] w24 [.one .bool] fun (r26 : Bool × Unit) w27 =>
  cond r26.1
  (DrawV fun D28 =>
  8 ≠ (0 : Int) ∧ Rng .i64 (Int.tdiv z23.1 8) ∧
  (0 ≤ (Int.tdiv z23.1 8) ∧ (Int.tdiv z23.1 8) < ((n19 : Nat) : Int)) ∧ ∃ q29 : Addr, a18 = some q29 ∧
  8 ≠ (0 : Int) ∧
  (0 : Int) ≤ (Int.tmod z23.1 8) ∧
  LoadS w27.drew (q29.add ((Int.tdiv z23.1 8).toNat * 1)) (.int .u8) fun (x30 : Int) =>
  KeepOn D28 w27.drew w27.drew ∧
  (0 ≤ (Int.tdiv z23.1 8) ∧ (Int.tdiv z23.1 8) < ((n19 : Nat) : Int)) ∧ ∃ q31 : Addr, a18 = some q31 ∧
  StoreV w27.drew (q31.add ((Int.tdiv z23.1 8).toNat * 1)) [.int .u8 (Go.bits .xor .u8 x30 (IntKind.u8.wrap ((1 : Int) * (2 ^ (Nat.min ((Int.tmod z23.1 8)).toNat 8)))))] fun w32 =>
  KeepOn D28 w27.drew w32 ∧
  Rng .i64 (z23.1 + 1) ∧
  K25 (z23.1 + 1, ()) w32)
  (Rng .i64 (z23.1 + 1) ∧
  K25 (z23.1 + 1, ()) w27))
  (K ((⟨a18, n19, c20⟩ : SlV), ()) w24)))
  (NewV #[] 5 w7 fun b33 w34 =>
  AppS w34 a0 n0 1 fun ns39 =>
  AppV w34 5 1 1 (some ⟨b33, 0, none⟩) 0 0 ns39 n0 fun a35 n36 c37 w38 =>
  Rng .i64 ((8 : Int) * ((n36 : Nat) : Int)) ∧
  LoopV [.one (.int .i64)] ((0 : Int), ()) w38 fun (z40 : Int × Unit) w41 (K42 : Int × Unit → World → Prop) =>
  cond (decide (z40.1 < ((8 : Int) * ((n36 : Nat) : Int))))
  (CallV Try.prog 56 #[.int .i64 z40.1, .pointer (some ⟨b5, 0, none⟩), .pointer (some ⟨b1, 0, none⟩), .pointer (some ⟨b3, 0, none⟩)] w41 [.one .bool] fun (r43 : Bool × Unit) w44 =>
  cond r43.1
  (DrawV fun D45 =>
  8 ≠ (0 : Int) ∧ Rng .i64 (Int.tdiv z40.1 8) ∧
  (0 ≤ (Int.tdiv z40.1 8) ∧ (Int.tdiv z40.1 8) < ((n36 : Nat) : Int)) ∧ ∃ q46 : Addr, a35 = some q46 ∧
  8 ≠ (0 : Int) ∧
  (0 : Int) ≤ (Int.tmod z40.1 8) ∧
  LoadS w44.drew (q46.add ((Int.tdiv z40.1 8).toNat * 1)) (.int .u8) fun (x47 : Int) =>
  KeepOn D45 w44.drew w44.drew ∧
  (0 ≤ (Int.tdiv z40.1 8) ∧ (Int.tdiv z40.1 8) < ((n36 : Nat) : Int)) ∧ ∃ q48 : Addr, a35 = some q48 ∧
  StoreV w44.drew (q48.add ((Int.tdiv z40.1 8).toNat * 1)) [.int .u8 (Go.bits .xor .u8 x47 (IntKind.u8.wrap ((1 : Int) * (2 ^ (Nat.min ((Int.tmod z40.1 8)).toNat 8)))))] fun w49 =>
  KeepOn D45 w44.drew w49 ∧
  Rng .i64 (z40.1 + 1) ∧
  K42 (z40.1 + 1, ()) w49)
  (Rng .i64 (z40.1 + 1) ∧
  K42 (z40.1 + 1, ()) w44))
  (K ((⟨a35, n36, c37⟩ : SlV), ()) w41))
theorem fault_turned.vc (a0 : Option Addr) (n0 c0 : Nat) (a1 : Option Addr) (n1 c1 : Nat) (a2 : Option Addr) (n2 c2 : Nat) (p3 : Bool) (w : World) (K : SlV × Unit → World → Prop) (h : fault_turned.P a0 n0 c0 a1 n1 c1 a2 n2 c2 p3 w K) : CallV Try.prog 45 #[.slice a0 n0 c0, .slice a1 n1 c1, .slice a2 n2 c2, .bool p3] w [.one .sl] K := by
  have e : vcFun Try.prog okf false Try.f45 fault_turned.A #[.slice a0 n0 c0, .slice a1 n1 c1, .slice a2 n2 c2, .bool p3] w [.one .sl] K = fault_turned.P a0 n0 c0 a1 n1 c1 a2 n2 c2 p3 w K := by kernel_rfl
  exact vcFun.calls okf_ok follows Try.func45 (e.symm ▸ h)

/-! ### nepenthe/nepentheref12.Program: function 25 -/
-- loop 0 carries 12: .one (.int .i64)
-- loop 1 carries 10: .one (.int .i64), 11: .one (.int .i64)
def ref12_Program.A : Ann := .two .no (.two .no (.two .no (.two (.two .no (.one (.loop [10, 11, 16, 17, 18, 19, 20, 21, 22, 23, 24, 25, 26, 27, 28, 29, 30, 31, 32] [(10, .one (.int .i64)), (11, .one (.int .i64))] .no))) (.two (.two .no (.one (.loop [12, 33, 34, 35, 36, 37, 38, 39, 40, 41, 42, 43, 44, 45, 46, 47, 48, 49, 50, 51, 52, 53, 54, 55, 56, 57, 58, 59, 60, 61, 62, 63, 64, 65, 66, 67, 68, 69, 70, 71, 72, 73, 74, 75, 76] [(12, .one (.int .i64))] (.two .no (.two (.one (.two .no (.two (.draw (.take 0 (.take 1 (.take 2 (.take 3 (.take 4 (.take 5 (.take 6 (.take 8 (.take 9 (.both 7 (.eff 10 (.take 11 (.take 12 (.take 13 (.eff 14 (.done)))))) 10 (.take 11 (.eff 7 (.take 12 (.take 13 (.eff 14 (.done))))))))))))))))) .no))) .no))))) .no))))
def ref12_Program.P (a0 : Option Addr) (n0 c0 : Nat) (a1 : Option Addr) (n1 c1 : Nat) (a2 : Option Addr) (n2 c2 : Nat) (p3 : Bool) (w : World) (K : SlV × Unit → World → Prop) : Prop :=
  NewV #[] 5 w fun b1 w2 =>
  AppS w2 a0 n0 1 fun ns7 =>
  AppV w2 5 1 1 (some ⟨b1, 0, none⟩) 0 0 ns7 n0 fun a3 n4 c5 w6 =>
  LoopV [.one (.int .i64), .one (.int .i64)] (((-1) : Int), (0 : Int), ()) w6 fun (z8 : Int × Int × Unit) w9 (K10 : Int × Int × Unit → World → Prop) =>
  Rng .i64 ((8 : Int) * ((n0 : Nat) : Int)) ∧
  cond (decide (z8.2.1 < ((8 : Int) * ((n0 : Nat) : Int))))
  (CallV Try.prog 47 #[.slice a0 n0 c0, .int .i64 z8.2.1] w9 [.one .bool] fun (r11 : Bool × Unit) w12 =>
  cond r11.1
  (CallV Try.prog 47 #[.slice a1 n1 c1, .int .i64 z8.2.1] w12 [.one .bool] fun (r13 : Bool × Unit) w14 =>
  cond (!r13.1)
  (Rng .i64 (z8.2.1 + 1) ∧
  K10 (z8.2.1, z8.2.1 + 1, ()) w14)
  (Rng .i64 (z8.2.1 + 1) ∧
  K10 (z8.1, z8.2.1 + 1, ()) w14))
  (Rng .i64 (z8.2.1 + 1) ∧
  K10 (z8.1, z8.2.1 + 1, ()) w12))
  (LoopV [.one (.int .i64)] ((0 : Int), ()) w9 fun (z15 : Int × Unit) w16 (K17 : Int × Unit → World → Prop) =>
  Rng .i64 ((8 : Int) * ((n0 : Nat) : Int)) ∧
  cond (decide (z15.1 < ((8 : Int) * ((n0 : Nat) : Int))))
  (CallV Try.prog 47 #[.slice a0 n0 c0, .int .i64 z15.1] w16 [.one .bool] fun (r18 : Bool × Unit) w19 =>
  cond r18.1
  (CallV Try.prog 47 #[.slice a1 n1 c1, .int .i64 z15.1] w19 [.one .bool] fun (r20 : Bool × Unit) w21 =>
  cond (!r20.1)
  (CallV Try.prog 20 #[.slice a2 n2 c2, .int .i64 z15.1] w21 [.one .bool] fun (r22 : Bool × Unit) w23 =>
  cond r22.1
  (cond p3
  (cond (!(z15.1 == z8.1))
  (DrawV fun D24 =>
  8 ≠ (0 : Int) ∧ Rng .i64 (Int.tdiv z15.1 8) ∧
  8 ≠ (0 : Int) ∧ Rng .i64 (Int.tdiv z15.1 8) ∧
  (0 ≤ (Int.tdiv z15.1 8) ∧ (Int.tdiv z15.1 8) < ((n4 : Nat) : Int)) ∧ ∃ q25 : Addr, a3 = some q25 ∧
  8 ≠ (0 : Int) ∧
  ((LoadS w23.drew (q25.add ((Int.tdiv z15.1 8).toNat * 1)) (.int .u8) fun (x26 : Int) =>
  KeepOn D24 w23.drew w23.drew ∧
  CallV Try.prog 44 #[.int .i64 (Int.tmod z15.1 8)] w23.drew [.one (.int .i64)] fun (r27 : Int × Unit) w28 =>
  KeepOn D24 w23.drew w28 ∧
  (0 ≤ (Int.tdiv z15.1 8) ∧ (Int.tdiv z15.1 8) < ((n4 : Nat) : Int)) ∧ ∃ q29 : Addr, a3 = some q29 ∧
  StoreV w28 (q29.add ((Int.tdiv z15.1 8).toNat * 1)) [.int .u8 (IntKind.u8.wrap (x26 - (IntKind.u8.wrap r27.1)))] fun w30 =>
  KeepOn D24 w23.drew w30 ∧
  Rng .i64 (z15.1 + 1) ∧
  K17 (z15.1 + 1, ()) w30) ∧
  (CallV Try.prog 44 #[.int .i64 (Int.tmod z15.1 8)] w23.drew [.one (.int .i64)] fun (r31 : Int × Unit) w32 =>
  KeepOn D24 w23.drew w32 ∧
  LoadS w32 (q25.add ((Int.tdiv z15.1 8).toNat * 1)) (.int .u8) fun (x33 : Int) =>
  KeepOn D24 w23.drew w32 ∧
  (0 ≤ (Int.tdiv z15.1 8) ∧ (Int.tdiv z15.1 8) < ((n4 : Nat) : Int)) ∧ ∃ q34 : Addr, a3 = some q34 ∧
  StoreV w32 (q34.add ((Int.tdiv z15.1 8).toNat * 1)) [.int .u8 (IntKind.u8.wrap (x33 - (IntKind.u8.wrap r31.1)))] fun w35 =>
  KeepOn D24 w23.drew w35 ∧
  Rng .i64 (z15.1 + 1) ∧
  K17 (z15.1 + 1, ()) w35)))
  (Rng .i64 (z15.1 + 1) ∧
  K17 (z15.1 + 1, ()) w23))
  (DrawV fun D36 =>
  8 ≠ (0 : Int) ∧ Rng .i64 (Int.tdiv z15.1 8) ∧
  8 ≠ (0 : Int) ∧ Rng .i64 (Int.tdiv z15.1 8) ∧
  (0 ≤ (Int.tdiv z15.1 8) ∧ (Int.tdiv z15.1 8) < ((n4 : Nat) : Int)) ∧ ∃ q37 : Addr, a3 = some q37 ∧
  8 ≠ (0 : Int) ∧
  ((LoadS w23.drew (q37.add ((Int.tdiv z15.1 8).toNat * 1)) (.int .u8) fun (x38 : Int) =>
  KeepOn D36 w23.drew w23.drew ∧
  CallV Try.prog 44 #[.int .i64 (Int.tmod z15.1 8)] w23.drew [.one (.int .i64)] fun (r39 : Int × Unit) w40 =>
  KeepOn D36 w23.drew w40 ∧
  (0 ≤ (Int.tdiv z15.1 8) ∧ (Int.tdiv z15.1 8) < ((n4 : Nat) : Int)) ∧ ∃ q41 : Addr, a3 = some q41 ∧
  StoreV w40 (q41.add ((Int.tdiv z15.1 8).toNat * 1)) [.int .u8 (IntKind.u8.wrap (x38 - (IntKind.u8.wrap r39.1)))] fun w42 =>
  KeepOn D36 w23.drew w42 ∧
  Rng .i64 (z15.1 + 1) ∧
  K17 (z15.1 + 1, ()) w42) ∧
  (CallV Try.prog 44 #[.int .i64 (Int.tmod z15.1 8)] w23.drew [.one (.int .i64)] fun (r43 : Int × Unit) w44 =>
  KeepOn D36 w23.drew w44 ∧
  LoadS w44 (q37.add ((Int.tdiv z15.1 8).toNat * 1)) (.int .u8) fun (x45 : Int) =>
  KeepOn D36 w23.drew w44 ∧
  (0 ≤ (Int.tdiv z15.1 8) ∧ (Int.tdiv z15.1 8) < ((n4 : Nat) : Int)) ∧ ∃ q46 : Addr, a3 = some q46 ∧
  StoreV w44 (q46.add ((Int.tdiv z15.1 8).toNat * 1)) [.int .u8 (IntKind.u8.wrap (x45 - (IntKind.u8.wrap r43.1)))] fun w47 =>
  KeepOn D36 w23.drew w47 ∧
  Rng .i64 (z15.1 + 1) ∧
  K17 (z15.1 + 1, ()) w47))))
  (Rng .i64 (z15.1 + 1) ∧
  K17 (z15.1 + 1, ()) w23))
  (Rng .i64 (z15.1 + 1) ∧
  K17 (z15.1 + 1, ()) w21))
  (Rng .i64 (z15.1 + 1) ∧
  K17 (z15.1 + 1, ()) w19))
  (K ((⟨a3, n4, c5⟩ : SlV), ()) w16))
theorem ref12_Program.vc (a0 : Option Addr) (n0 c0 : Nat) (a1 : Option Addr) (n1 c1 : Nat) (a2 : Option Addr) (n2 c2 : Nat) (p3 : Bool) (w : World) (K : SlV × Unit → World → Prop) (h : ref12_Program.P a0 n0 c0 a1 n1 c1 a2 n2 c2 p3 w K) : CallV Try.prog 25 #[.slice a0 n0 c0, .slice a1 n1 c1, .slice a2 n2 c2, .bool p3] w [.one .sl] K := by
  have e : vcFun Try.prog okf false Try.f25 ref12_Program.A #[.slice a0 n0 c0, .slice a1 n1 c1, .slice a2 n2 c2, .bool p3] w [.one .sl] K = ref12_Program.P a0 n0 c0 a1 n1 c1 a2 n2 c2 p3 w K := by kernel_rfl
  exact vcFun.calls okf_ok follows Try.func25 (e.symm ▸ h)

/-! ### nepenthe/nepentheref12.Erase: function 28 -/
-- loop 0 carries 6: .one (.int .i64)
def ref12_Erase.A : Ann := .two .no (.two .no (.two (.two .no (.one (.loop [6, 10, 11, 12, 13, 14, 15, 16, 17, 18, 19, 20, 21, 22, 23, 24, 25, 26, 27, 28, 29, 30, 31, 32, 33, 34, 35, 36, 37, 38, 39] [(6, .one (.int .i64))] (.two .no (.two (.one (.two .no (.two (.draw (.take 0 (.take 1 (.take 2 (.take 3 (.take 4 (.take 5 (.take 6 (.take 8 (.take 9 (.both 7 (.eff 10 (.take 11 (.take 12 (.take 13 (.eff 14 (.done)))))) 10 (.take 11 (.eff 7 (.take 12 (.take 13 (.eff 14 (.done))))))))))))))))) .no))) .no))))) .no))
def ref12_Erase.P (a0 : Option Addr) (n0 c0 : Nat) (a1 : Option Addr) (n1 c1 : Nat) (w : World) (K : SlV × Unit → World → Prop) : Prop :=
  NewV #[] 5 w fun b1 w2 =>
  AppS w2 a0 n0 1 fun ns7 =>
  AppV w2 5 1 1 (some ⟨b1, 0, none⟩) 0 0 ns7 n0 fun a3 n4 c5 w6 =>
  LoopV [.one (.int .i64)] ((0 : Int), ()) w6 fun (z8 : Int × Unit) w9 (K10 : Int × Unit → World → Prop) =>
  Rng .i64 ((8 : Int) * ((n0 : Nat) : Int)) ∧
  cond (decide (z8.1 < ((8 : Int) * ((n0 : Nat) : Int))))
  (CallV Try.prog 47 #[.slice a0 n0 c0, .int .i64 z8.1] w9 [.one .bool] fun (r11 : Bool × Unit) w12 =>
  cond (!r11.1)
  (CallV Try.prog 20 #[.slice a1 n1 c1, .int .i64 z8.1] w12 [.one .bool] fun (r13 : Bool × Unit) w14 =>
  cond r13.1
  (DrawV fun D15 =>
  8 ≠ (0 : Int) ∧ Rng .i64 (Int.tdiv z8.1 8) ∧
  8 ≠ (0 : Int) ∧ Rng .i64 (Int.tdiv z8.1 8) ∧
  (0 ≤ (Int.tdiv z8.1 8) ∧ (Int.tdiv z8.1 8) < ((n4 : Nat) : Int)) ∧ ∃ q16 : Addr, a3 = some q16 ∧
  8 ≠ (0 : Int) ∧
  ((LoadS w14.drew (q16.add ((Int.tdiv z8.1 8).toNat * 1)) (.int .u8) fun (x17 : Int) =>
  KeepOn D15 w14.drew w14.drew ∧
  CallV Try.prog 44 #[.int .i64 (Int.tmod z8.1 8)] w14.drew [.one (.int .i64)] fun (r18 : Int × Unit) w19 =>
  KeepOn D15 w14.drew w19 ∧
  (0 ≤ (Int.tdiv z8.1 8) ∧ (Int.tdiv z8.1 8) < ((n4 : Nat) : Int)) ∧ ∃ q20 : Addr, a3 = some q20 ∧
  StoreV w19 (q20.add ((Int.tdiv z8.1 8).toNat * 1)) [.int .u8 (IntKind.u8.wrap (x17 + (IntKind.u8.wrap r18.1)))] fun w21 =>
  KeepOn D15 w14.drew w21 ∧
  Rng .i64 (z8.1 + 1) ∧
  K10 (z8.1 + 1, ()) w21) ∧
  (CallV Try.prog 44 #[.int .i64 (Int.tmod z8.1 8)] w14.drew [.one (.int .i64)] fun (r22 : Int × Unit) w23 =>
  KeepOn D15 w14.drew w23 ∧
  LoadS w23 (q16.add ((Int.tdiv z8.1 8).toNat * 1)) (.int .u8) fun (x24 : Int) =>
  KeepOn D15 w14.drew w23 ∧
  (0 ≤ (Int.tdiv z8.1 8) ∧ (Int.tdiv z8.1 8) < ((n4 : Nat) : Int)) ∧ ∃ q25 : Addr, a3 = some q25 ∧
  StoreV w23 (q25.add ((Int.tdiv z8.1 8).toNat * 1)) [.int .u8 (IntKind.u8.wrap (x24 + (IntKind.u8.wrap r22.1)))] fun w26 =>
  KeepOn D15 w14.drew w26 ∧
  Rng .i64 (z8.1 + 1) ∧
  K10 (z8.1 + 1, ()) w26)))
  (Rng .i64 (z8.1 + 1) ∧
  K10 (z8.1 + 1, ()) w14))
  (Rng .i64 (z8.1 + 1) ∧
  K10 (z8.1 + 1, ()) w12))
  (K ((⟨a3, n4, c5⟩ : SlV), ()) w9)
theorem ref12_Erase.vc (a0 : Option Addr) (n0 c0 : Nat) (a1 : Option Addr) (n1 c1 : Nat) (w : World) (K : SlV × Unit → World → Prop) (h : ref12_Erase.P a0 n0 c0 a1 n1 c1 w K) : CallV Try.prog 28 #[.slice a0 n0 c0, .slice a1 n1 c1] w [.one .sl] K := by
  have e : vcFun Try.prog okf false Try.f28 ref12_Erase.A #[.slice a0 n0 c0, .slice a1 n1 c1] w [.one .sl] K = ref12_Erase.P a0 n0 c0 a1 n1 c1 w K := by kernel_rfl
  exact vcFun.calls okf_ok follows Try.func28 (e.symm ▸ h)

end Go.Proofs.Ytombjhkdakmhpaa.Vc
