/- The plans of functions as plain statements, printed by wip/tools/vcgen.py; the kernel holds each to the code. -/
import Derived.Test.YtimbomieepefcaaEnv
namespace Go.Proofs.Ytimbomieepefcaa.Vc
open Go Go.Eng
set_option linter.unusedVariables false

/-! ### nepenthe/nepentheref01.SameBytes: function 12 -/
-- loop 0 carries 5: .one (.int .i64)
def ref01_SameBytes.A : Ann := .two .no (.two .no (.two (.two .no (.one (.loop [4, 5, 11, 12, 13, 14, 15, 16, 17, 18, 19, 20, 21, 22, 23, 24, 25] [(5, .one (.int .i64))] (.two .no (.two (.one (.two (.draw (.take 0 (.take 1 (.take 2 (.take 3 (.take 4 (.take 5 (.take 6 (.take 7 (.take 8 (.done))))))))))) .no)) .no))))) .no))
def ref01_SameBytes.P (a0 : Option Addr) (n0 c0 : Nat) (a1 : Option Addr) (n1 c1 : Nat) (w : World) (K : Bool × Unit → World → Prop) : Prop :=
  cond (((n0 : Nat) : Int) != ((n1 : Nat) : Int))
  (K (false, ()) w)
  (LoopV [.one (.int .i64)] ((0 : Int), ()) w fun (z1 : Int × Unit) w2 (K3 : Int × Unit → World → Prop) =>
  cond (decide (z1.1 < ((n0 : Nat) : Int)))
  (DrawV fun D4 =>
  (0 ≤ z1.1 ∧ z1.1 < ((n0 : Nat) : Int)) ∧ ∃ q5 : Addr, a0 = some q5 ∧
  (D4 (q5.add (z1.1.toNat * 1)).block ∧ LoadS w2.drew (q5.add (z1.1.toNat * 1)) (.int .u8) fun (x6 : Int) =>
  (0 ≤ z1.1 ∧ z1.1 < ((n1 : Nat) : Int)) ∧ ∃ q7 : Addr, a1 = some q7 ∧
  (D4 (q7.add (z1.1.toNat * 1)).block ∧ LoadS w2.drew (q7.add (z1.1.toNat * 1)) (.int .u8) fun (x8 : Int) =>
  cond (x6 != x8)
  (K (false, ()) w2.drew)
  (Rng .i64 (z1.1 + 1) ∧
  K3 (z1.1 + 1, ()) w2.drew))))
  (K (true, ()) w2))
theorem ref01_SameBytes.vc (a0 : Option Addr) (n0 c0 : Nat) (a1 : Option Addr) (n1 c1 : Nat) (w : World) (K : Bool × Unit → World → Prop) (h : ref01_SameBytes.P a0 n0 c0 a1 n1 c1 w K) : CallV Try.prog 12 #[.slice a0 n0 c0, .slice a1 n1 c1] w [.one .bool] K := by
  have e : vcFun Try.prog okf false Try.f12 ref01_SameBytes.A #[.slice a0 n0 c0, .slice a1 n1 c1] w [.one .bool] K = ref01_SameBytes.P a0 n0 c0 a1 n1 c1 w K := by kernel_rfl
  exact vcFun.calls okf_ok follows Try.func12 (e.symm ▸ h)

/-! ### nepenthe/nepentheref01.Fill: function 14 -/
-- loop 0 carries 5: .one .sl, 6: .one (.int .i64)
def ref01_Fill.A : Ann := .two .no (.two .no (.two (.two .no (.one (.loop [5, 6, 8, 9, 10, 11, 12, 13, 14, 15, 16, 17, 18, 19, 20] [(5, .one .sl), (6, .one (.int .i64))] .no))) .no))
def ref01_Fill.P (p0 : Int) (p1 : Int) (w : World) (K : SlV × Unit → World → Prop) : Prop :=
  NewV #[] 5 w fun b1 w2 =>
  LoopV [.one .sl, .one (.int .i64)] ((⟨(some ⟨b1, 0, none⟩), 0, 0⟩ : SlV), (0 : Int), ()) w2 fun (z3 : SlV × Int × Unit) w4 (K5 : SlV × Int × Unit → World → Prop) =>
  cond (decide (z3.2.1 < p1))
  (cond (decide (z3.2.1 < 65536))
  (NewV #[.int .u8 p0] 5 w4 fun b6 w7 =>
  AppS w7 (some ⟨b6, 0, none⟩) 1 1 fun ns12 =>
  AppV w7 5 1 1 z3.1.a z3.1.n z3.1.c ns12 1 fun a8 n9 c10 w11 =>
  Rng .i64 (z3.2.1 + 1) ∧
  K5 ((⟨a8, n9, c10⟩ : SlV), z3.2.1 + 1, ()) w11)
  (K (z3.1, ()) w4))
  (K (z3.1, ()) w4)
theorem ref01_Fill.vc (p0 : Int) (p1 : Int) (w : World) (K : SlV × Unit → World → Prop) (h : ref01_Fill.P p0 p1 w K) : CallV Try.prog 14 #[.int .u8 p0, .int .i64 p1] w [.one .sl] K := by
  have e : vcFun Try.prog okf false Try.f14 ref01_Fill.A #[.int .u8 p0, .int .i64 p1] w [.one .sl] K = ref01_Fill.P p0 p1 w K := by kernel_rfl
  exact vcFun.calls okf_ok follows Try.func14 (e.symm ▸ h)

/-! ### nepenthe/nepentheref01.Back: function 57 -/
-- loop 0 carries 3: .one .sl, 4: .one (.int .i64)
def ref01_Back.A : Ann := .two .no (.two .no (.two (.two .no (.one (.loop [3, 4, 9, 10, 11, 12, 13, 14, 15, 16, 17, 18, 19] [(3, .one .sl), (4, .one (.int .i64))] .no))) .no))
def ref01_Back.P (a0 : Option Addr) (n0 c0 : Nat) (w : World) (K : SlV × Unit → World → Prop) : Prop :=
  NewV #[] 5 w fun b1 w2 =>
  Rng .i64 (((n0 : Nat) : Int) - 1) ∧
  LoopV [.one .sl, .one (.int .i64)] ((⟨(some ⟨b1, 0, none⟩), 0, 0⟩ : SlV), ((n0 : Nat) : Int) - 1, ()) w2 fun (z3 : SlV × Int × Unit) w4 (K5 : SlV × Int × Unit → World → Prop) =>
  cond (decide (z3.2.1 ≥ 0))
  ((0 ≤ z3.2.1 ∧ z3.2.1 < ((n0 : Nat) : Int)) ∧ ∃ q6 : Addr, a0 = some q6 ∧
  LoadS w4 (q6.add (z3.2.1.toNat * 1)) (.int .u8) fun (x7 : Int) =>
  NewV #[.int .u8 x7] 5 w4 fun b8 w9 =>
  AppS w9 (some ⟨b8, 0, none⟩) 1 1 fun ns14 =>
  AppV w9 5 1 1 z3.1.a z3.1.n z3.1.c ns14 1 fun a10 n11 c12 w13 =>
  Rng .i64 (z3.2.1 - 1) ∧
  K5 ((⟨a10, n11, c12⟩ : SlV), z3.2.1 - 1, ()) w13)
  (K (z3.1, ()) w4)
theorem ref01_Back.vc (a0 : Option Addr) (n0 c0 : Nat) (w : World) (K : SlV × Unit → World → Prop) (h : ref01_Back.P a0 n0 c0 w K) : CallV Try.prog 57 #[.slice a0 n0 c0] w [.one .sl] K := by
  have e : vcFun Try.prog okf false Try.f57 ref01_Back.A #[.slice a0 n0 c0] w [.one .sl] K = ref01_Back.P a0 n0 c0 w K := by kernel_rfl
  exact vcFun.calls okf_ok follows Try.func57 (e.symm ▸ h)

/-! ### nepenthe/nepentheref01.Little: function 31 -/
-- loop 0 carries 0: .one (.int .u64), 5: .one .sl, 6: .one (.int .i64)
def ref01_Little.A : Ann := .two .no (.two .no (.two (.two .no (.one (.loop [0, 5, 6, 8, 9, 10, 11, 12, 13, 14, 15, 16, 17, 18, 19, 20, 21, 22, 23, 24] [(0, .one (.int .u64)), (5, .one .sl), (6, .one (.int .i64))] .no))) .no))
def ref01_Little.P (p0 : Int) (p1 : Int) (w : World) (K : SlV × Unit → World → Prop) : Prop :=
  NewV #[] 5 w fun b1 w2 =>
  LoopV [.one (.int .u64), .one .sl, .one (.int .i64)] (p0, (⟨(some ⟨b1, 0, none⟩), 0, 0⟩ : SlV), (0 : Int), ()) w2 fun (z3 : Int × SlV × Int × Unit) w4 (K5 : Int × SlV × Int × Unit → World → Prop) =>
  cond (decide (z3.2.2.1 < p1))
  (cond (decide (z3.2.2.1 < 8))
  (256 ≠ (0 : Int) ∧
  NewV #[.int .u8 (IntKind.u8.wrap (Int.tmod z3.1 256))] 5 w4 fun b6 w7 =>
  AppS w7 (some ⟨b6, 0, none⟩) 1 1 fun ns12 =>
  AppV w7 5 1 1 z3.2.1.a z3.2.1.n z3.2.1.c ns12 1 fun a8 n9 c10 w11 =>
  256 ≠ (0 : Int) ∧ Rng .u64 (Int.tdiv z3.1 256) ∧
  Rng .i64 (z3.2.2.1 + 1) ∧
  K5 (Int.tdiv z3.1 256, (⟨a8, n9, c10⟩ : SlV), z3.2.2.1 + 1, ()) w11)
  (K (z3.2.1, ()) w4))
  (K (z3.2.1, ()) w4)
theorem ref01_Little.vc (p0 : Int) (p1 : Int) (w : World) (K : SlV × Unit → World → Prop) (h : ref01_Little.P p0 p1 w K) : CallV Try.prog 31 #[.int .u64 p0, .int .i64 p1] w [.one .sl] K := by
  have e : vcFun Try.prog okf false Try.f31 ref01_Little.A #[.int .u64 p0, .int .i64 p1] w [.one .sl] K = ref01_Little.P p0 p1 w K := by kernel_rfl
  exact vcFun.calls okf_ok follows Try.func31 (e.symm ▸ h)

/-! ### nepenthe/nepentheref01.Big: function 29 -/
def ref01_Big.A : Ann := .no
def ref01_Big.P (p0 : Int) (p1 : Int) (w : World) (K : SlV × Unit → World → Prop) : Prop :=
  CallV Try.prog 31 #[.int .u64 p0, .int .i64 p1] w [.one .sl] fun (r1 : SlV × Unit) w2 =>
  CallV Try.prog 57 #[.slice r1.1.a r1.1.n r1.1.c] w2 [.one .sl] fun (r3 : SlV × Unit) w4 =>
  K (r3.1, ()) w4
theorem ref01_Big.vc (p0 : Int) (p1 : Int) (w : World) (K : SlV × Unit → World → Prop) (h : ref01_Big.P p0 p1 w K) : CallV Try.prog 29 #[.int .u64 p0, .int .i64 p1] w [.one .sl] K := by
  have e : vcFun Try.prog okf false Try.f29 ref01_Big.A #[.int .u64 p0, .int .i64 p1] w [.one .sl] K = ref01_Big.P p0 p1 w K := by kernel_rfl
  exact vcFun.calls okf_ok follows Try.func29 (e.symm ▸ h)

/-! ### nepenthe/nepentheref01.NumLittle: function 35 -/
-- loop 0 carries 3: .one (.int .u64), 4: .one (.int .i64)
def ref01_NumLittle.A : Ann := .two .no (.two .no (.two (.two .no (.one (.loop [3, 4, 9, 10, 11, 12, 13, 14, 15, 16, 17, 18, 19, 20] [(3, .one (.int .u64)), (4, .one (.int .i64))] .no))) .no))
def ref01_NumLittle.P (a0 : Option Addr) (n0 c0 : Nat) (w : World) (K : Int × Unit → World → Prop) : Prop :=
  Rng .i64 (((n0 : Nat) : Int) - 1) ∧
  NameI (min (7 : Int) (((n0 : Nat) : Int) - 1)) fun z1 =>
  LoopV [.one (.int .u64), .one (.int .i64)] ((0 : Int), z1, ()) w fun (z2 : Int × Int × Unit) w3 (K4 : Int × Int × Unit → World → Prop) =>
  cond (decide (z2.2.1 ≥ 0))
  ((0 ≤ z2.2.1 ∧ z2.2.1 < ((n0 : Nat) : Int)) ∧ ∃ q5 : Addr, a0 = some q5 ∧
  LoadS w3 (q5.add (z2.2.1.toNat * 1)) (.int .u8) fun (x6 : Int) =>
  Rng .i64 (z2.2.1 - 1) ∧
  K4 (IntKind.u64.wrap ((IntKind.u64.wrap (z2.1 * 256)) + (IntKind.u64.wrap x6)), z2.2.1 - 1, ()) w3)
  (K (z2.1, ()) w3)
theorem ref01_NumLittle.vc (a0 : Option Addr) (n0 c0 : Nat) (w : World) (K : Int × Unit → World → Prop) (h : ref01_NumLittle.P a0 n0 c0 w K) : CallV Try.prog 35 #[.slice a0 n0 c0] w [.one (.int .u64)] K := by
  have e : vcFun Try.prog okf false Try.f35 ref01_NumLittle.A #[.slice a0 n0 c0] w [.one (.int .u64)] K = ref01_NumLittle.P a0 n0 c0 w K := by kernel_rfl
  exact vcFun.calls okf_ok follows Try.func35 (e.symm ▸ h)

/-! ### nepenthe/nepentheref01.Num: function 33 -/
def ref01_Num.A : Ann := .no
def ref01_Num.P (a0 : Option Addr) (n0 c0 : Nat) (w : World) (K : Int × Unit → World → Prop) : Prop :=
  CallV Try.prog 57 #[.slice a0 n0 c0] w [.one .sl] fun (r1 : SlV × Unit) w2 =>
  CallV Try.prog 35 #[.slice r1.1.a r1.1.n r1.1.c] w2 [.one (.int .u64)] fun (r3 : Int × Unit) w4 =>
  K (r3.1, ()) w4
theorem ref01_Num.vc (a0 : Option Addr) (n0 c0 : Nat) (w : World) (K : Int × Unit → World → Prop) (h : ref01_Num.P a0 n0 c0 w K) : CallV Try.prog 33 #[.slice a0 n0 c0] w [.one (.int .u64)] K := by
  have e : vcFun Try.prog okf false Try.f33 ref01_Num.A #[.slice a0 n0 c0] w [.one (.int .u64)] K = ref01_Num.P a0 n0 c0 w K := by kernel_rfl
  exact vcFun.calls okf_ok follows Try.func33 (e.symm ▸ h)

/-! ### nepenthe/nepentheref01.Xor: function 44 -/
-- loop 0 carries 5: .one .sl, 6: .one (.int .i64)
def ref01_Xor.A : Ann := .two .no (.two .no (.two (.two .no (.one (.loop [5, 6, 8, 9, 10, 11, 12, 13, 14, 15, 16, 17, 18, 19, 20, 21, 22, 23, 24, 25] [(5, .one .sl), (6, .one (.int .i64))] (.two .no (.two (.one (.draw (.take 0 (.take 1 (.take 2 (.take 3 (.take 4 (.take 5 (.take 6 (.take 7 (.take 8 (.take 9 (.eff 10 (.eff 11 (.take 12 (.done)))))))))))))))) .no))))) .no))
def ref01_Xor.P (a0 : Option Addr) (n0 c0 : Nat) (a1 : Option Addr) (n1 c1 : Nat) (w : World) (K : SlV × Unit → World → Prop) : Prop :=
  NewV #[] 5 w fun b1 w2 =>
  LoopV [.one .sl, .one (.int .i64)] ((⟨(some ⟨b1, 0, none⟩), 0, 0⟩ : SlV), (0 : Int), ()) w2 fun (z3 : SlV × Int × Unit) w4 (K5 : SlV × Int × Unit → World → Prop) =>
  cond (decide (z3.2.1 < ((n0 : Nat) : Int)))
  (DrawV fun D6 =>
  (0 ≤ z3.2.1 ∧ z3.2.1 < ((n0 : Nat) : Int)) ∧ ∃ q7 : Addr, a0 = some q7 ∧
  (D6 (q7.add (z3.2.1.toNat * 1)).block ∧ LoadS w4.drew (q7.add (z3.2.1.toNat * 1)) (.int .u8) fun (x8 : Int) =>
  (0 ≤ z3.2.1 ∧ z3.2.1 < ((n1 : Nat) : Int)) ∧ ∃ q9 : Addr, a1 = some q9 ∧
  (D6 (q9.add (z3.2.1.toNat * 1)).block ∧ LoadS w4.drew (q9.add (z3.2.1.toNat * 1)) (.int .u8) fun (x10 : Int) =>
  NewV #[.int .u8 (Go.bits .xor .u8 x8 x10)] 5 w4.drew fun b11 w12 =>
  KeepOn D6 w4.drew w12 ∧
  AppS w12 (some ⟨b11, 0, none⟩) 1 1 fun ns17 =>
  AppV w12 5 1 1 z3.1.a z3.1.n z3.1.c ns17 1 fun a13 n14 c15 w16 =>
  KeepOn D6 w4.drew w16 ∧
  Rng .i64 (z3.2.1 + 1) ∧
  K5 ((⟨a13, n14, c15⟩ : SlV), z3.2.1 + 1, ()) w16)))
  (K (z3.1, ()) w4)
theorem ref01_Xor.vc (a0 : Option Addr) (n0 c0 : Nat) (a1 : Option Addr) (n1 c1 : Nat) (w : World) (K : SlV × Unit → World → Prop) (h : ref01_Xor.P a0 n0 c0 a1 n1 c1 w K) : CallV Try.prog 44 #[.slice a0 n0 c0, .slice a1 n1 c1] w [.one .sl] K := by
  have e : vcFun Try.prog okf false Try.f44 ref01_Xor.A #[.slice a0 n0 c0, .slice a1 n1 c1] w [.one .sl] K = ref01_Xor.P a0 n0 c0 a1 n1 c1 w K := by kernel_rfl
  exact vcFun.calls okf_ok follows Try.func44 (e.symm ▸ h)

/-! ### nepenthe/nepentheref01.Invert: function 43 -/
def ref01_Invert.A : Ann := .no
def ref01_Invert.P (a0 : Option Addr) (n0 c0 : Nat) (w : World) (K : SlV × Unit → World → Prop) : Prop :=
  CallV Try.prog 14 #[.int .u8 255, .int .i64 ((n0 : Nat) : Int)] w [.one .sl] fun (r1 : SlV × Unit) w2 =>
  CallV Try.prog 44 #[.slice a0 n0 c0, .slice r1.1.a r1.1.n r1.1.c] w2 [.one .sl] fun (r3 : SlV × Unit) w4 =>
  K (r3.1, ()) w4
theorem ref01_Invert.vc (a0 : Option Addr) (n0 c0 : Nat) (w : World) (K : SlV × Unit → World → Prop) (h : ref01_Invert.P a0 n0 c0 w K) : CallV Try.prog 43 #[.slice a0 n0 c0] w [.one .sl] K := by
  have e : vcFun Try.prog okf false Try.f43 ref01_Invert.A #[.slice a0 n0 c0] w [.one .sl] K = ref01_Invert.P a0 n0 c0 w K := by kernel_rfl
  exact vcFun.calls okf_ok follows Try.func43 (e.symm ▸ h)

/-! ### nepenthe/nepentheref01.Hex: function 37 -/
-- loop 0 carries 4: .one .str, 5: .one (.int .i64)
def ref01_Hex.A : Ann := .two .no (.two .no (.two .no (.two (.two .no (.one (.loop [4, 5, 6, 7, 8, 9, 10, 11, 12, 13, 14, 15, 16, 17, 18, 19, 20, 21, 22, 23, 24, 25, 26, 27, 28, 29, 30, 31, 32, 33, 34, 35, 36, 37, 38, 39, 40] [(4, .one .str), (5, .one (.int .i64))] (.two .no (.two (.one (.draw (.take 0 (.take 1 (.take 2 (.take 3 (.take 4 (.take 5 (.take 6 (.take 7 (.take 8 (.take 9 (.take 10 (.take 11 (.take 12 (.take 13 (.take 14 (.take 15 (.take 16 (.take 17 (.take 18 (.take 19 (.take 20 (.take 21 (.take 22 (.take 23 (.take 24 (.take 25 (.take 26 (.take 27 (.take 28 (.take 29 (.done))))))))))))))))))))))))))))))))) .no))))) .no)))
def ref01_Hex.P (a0 : Option Addr) (n0 c0 : Nat) (w : World) (K : ByteArray × Unit → World → Prop) : Prop :=
  LoopV [.one .str, .one (.int .i64)] ((⟨#[]⟩ : ByteArray), (0 : Int), ()) w fun (z1 : ByteArray × Int × Unit) w2 (K3 : ByteArray × Int × Unit → World → Prop) =>
  cond (decide (z1.2.1 < ((n0 : Nat) : Int)))
  (DrawV fun D4 =>
  (0 ≤ z1.2.1 ∧ z1.2.1 < ((n0 : Nat) : Int)) ∧ ∃ q5 : Addr, a0 = some q5 ∧
  (D4 (q5.add (z1.2.1.toNat * 1)).block ∧ LoadS w2.drew (q5.add (z1.2.1.toNat * 1)) (.int .u8) fun (x6 : Int) =>
  16 ≠ (0 : Int) ∧ Rng .u8 (Int.tdiv x6 16) ∧
  (0 ≤ z1.2.1 ∧ z1.2.1 < ((n0 : Nat) : Int)) ∧ ∃ q7 : Addr, a0 = some q7 ∧
  (D4 (q7.add (z1.2.1.toNat * 1)).block ∧ LoadS w2.drew (q7.add (z1.2.1.toNat * 1)) (.int .u8) fun (x8 : Int) =>
  16 ≠ (0 : Int) ∧ Rng .u8 (Int.tdiv x8 16) ∧
  ((0 : Int) ≤ (Int.tdiv x6 16) ∧ (Int.tdiv x6 16) ≤ (IntKind.u8.wrap ((Int.tdiv x8 16) + 1)) ∧ (IntKind.u8.wrap ((Int.tdiv x8 16) + 1)) ≤ (((⟨#[48, 49, 50, 51, 52, 53, 54, 55, 56, 57, 97, 98, 99, 100, 101, 102]⟩ : ByteArray).size : Nat) : Int)) ∧
  ((z1.1.size + ((⟨#[48, 49, 50, 51, 52, 53, 54, 55, 56, 57, 97, 98, 99, 100, 101, 102]⟩ : ByteArray).extract ((Int.tdiv x6 16).toNat) ((IntKind.u8.wrap ((Int.tdiv x8 16) + 1)).toNat)).size : Nat) : Int) ≤ 9223372036854775807 ∧
  (0 ≤ z1.2.1 ∧ z1.2.1 < ((n0 : Nat) : Int)) ∧ ∃ q9 : Addr, a0 = some q9 ∧
  (D4 (q9.add (z1.2.1.toNat * 1)).block ∧ LoadS w2.drew (q9.add (z1.2.1.toNat * 1)) (.int .u8) fun (x10 : Int) =>
  16 ≠ (0 : Int) ∧
  (0 ≤ z1.2.1 ∧ z1.2.1 < ((n0 : Nat) : Int)) ∧ ∃ q11 : Addr, a0 = some q11 ∧
  (D4 (q11.add (z1.2.1.toNat * 1)).block ∧ LoadS w2.drew (q11.add (z1.2.1.toNat * 1)) (.int .u8) fun (x12 : Int) =>
  16 ≠ (0 : Int) ∧
  ((0 : Int) ≤ (Int.tmod x10 16) ∧ (Int.tmod x10 16) ≤ (IntKind.u8.wrap ((Int.tmod x12 16) + 1)) ∧ (IntKind.u8.wrap ((Int.tmod x12 16) + 1)) ≤ (((⟨#[48, 49, 50, 51, 52, 53, 54, 55, 56, 57, 97, 98, 99, 100, 101, 102]⟩ : ByteArray).size : Nat) : Int)) ∧
  (((z1.1 ++ ((⟨#[48, 49, 50, 51, 52, 53, 54, 55, 56, 57, 97, 98, 99, 100, 101, 102]⟩ : ByteArray).extract ((Int.tdiv x6 16).toNat) ((IntKind.u8.wrap ((Int.tdiv x8 16) + 1)).toNat))).size + ((⟨#[48, 49, 50, 51, 52, 53, 54, 55, 56, 57, 97, 98, 99, 100, 101, 102]⟩ : ByteArray).extract ((Int.tmod x10 16).toNat) ((IntKind.u8.wrap ((Int.tmod x12 16) + 1)).toNat)).size : Nat) : Int) ≤ 9223372036854775807 ∧
  Rng .i64 (z1.2.1 + 1) ∧
  K3 ((z1.1 ++ ((⟨#[48, 49, 50, 51, 52, 53, 54, 55, 56, 57, 97, 98, 99, 100, 101, 102]⟩ : ByteArray).extract ((Int.tdiv x6 16).toNat) ((IntKind.u8.wrap ((Int.tdiv x8 16) + 1)).toNat))) ++ ((⟨#[48, 49, 50, 51, 52, 53, 54, 55, 56, 57, 97, 98, 99, 100, 101, 102]⟩ : ByteArray).extract ((Int.tmod x10 16).toNat) ((IntKind.u8.wrap ((Int.tmod x12 16) + 1)).toNat)), z1.2.1 + 1, ()) w2.drew)))))
  (K (z1.1, ()) w2)
theorem ref01_Hex.vc (a0 : Option Addr) (n0 c0 : Nat) (w : World) (K : ByteArray × Unit → World → Prop) (h : ref01_Hex.P a0 n0 c0 w K) : CallV Try.prog 37 #[.slice a0 n0 c0] w [.one .str] K := by
  have e : vcFun Try.prog okf false Try.f37 ref01_Hex.A #[.slice a0 n0 c0] w [.one .str] K = ref01_Hex.P a0 n0 c0 w K := by kernel_rfl
  exact vcFun.calls okf_ok follows Try.func37 (e.symm ▸ h)

/-! ### nepenthe/nepentheref01.Unhex: function 39 -/
-- loop 0 carries 8: .one (.int .i64), 9: .one (.int .i64)
-- loop 1 carries 5: .one .sl, 6: .one (.int .i64), 7: .one (.int .i64)
def ref01_Unhex.A : Ann := .two .no (.two .no (.two .no (.two .no (.two (.two .no (.one (.loop [2, 3, 5, 6, 7, 8, 9, 11, 12, 13, 14, 15, 16, 17, 18, 19, 20, 21, 22, 23, 24, 25, 26, 27, 28, 29, 30, 31, 32, 33, 34, 35, 36, 37, 38, 39, 40, 41, 42] [(5, .one .sl), (6, .one (.int .i64)), (7, .one (.int .i64))] (.two .no (.two (.one (.two .no (.two (.two .no (.one (.loop [8, 9, 17, 18, 19, 20, 21, 22, 23, 24, 25, 26, 27, 28] [(8, .one (.int .i64)), (9, .one (.int .i64))] (.two .no (.two (.one (.two (.draw (.take 0 (.take 1 (.take 2 (.take 3 (.take 4 (.take 5 (.take 6 (.done))))))))) .no)) .no))))) .no))) .no))))) .no))))
def ref01_Unhex.P (p0 : ByteArray) (w : World) (K : SlV × Bool × Unit → World → Prop) : Prop :=
  NewV #[] 5 w fun b1 w2 =>
  LoopV [.one .sl, .one (.int .i64), .one (.int .i64)] ((⟨(some ⟨b1, 0, none⟩), 0, 0⟩ : SlV), (0 : Int), (0 : Int), ()) w2 fun (z3 : SlV × Int × Int × Unit) w4 (K5 : SlV × Int × Int × Unit → World → Prop) =>
  cond (decide (z3.2.2.1 < ((p0.size : Nat) : Int)))
  (LoopV [.one (.int .i64), .one (.int .i64)] (((-1) : Int), (0 : Int), ()) w4 fun (z6 : Int × Int × Unit) w7 (K8 : Int × Int × Unit → World → Prop) =>
  cond (decide (z6.2.1 < 16))
  (DrawV fun D9 =>
  (0 ≤ z6.2.1 ∧ z6.2.1 < (((⟨#[48, 49, 50, 51, 52, 53, 54, 55, 56, 57, 97, 98, 99, 100, 101, 102]⟩ : ByteArray).size : Nat) : Int)) ∧ ∃ b10 : UInt8, (⟨#[48, 49, 50, 51, 52, 53, 54, 55, 56, 57, 97, 98, 99, 100, 101, 102]⟩ : ByteArray)[z6.2.1.toNat]? = some b10 ∧
  (0 ≤ z3.2.2.1 ∧ z3.2.2.1 < ((p0.size : Nat) : Int)) ∧ ∃ b11 : UInt8, p0[z3.2.2.1.toNat]? = some b11 ∧
  cond ((b10.toNat : Int) == (b11.toNat : Int))
  (Rng .i64 (z6.2.1 + 1) ∧
  K8 (z6.2.1, z6.2.1 + 1, ()) w7.drew)
  (Rng .i64 (z6.2.1 + 1) ∧
  K8 (z6.1, z6.2.1 + 1, ()) w7.drew))
  (cond (decide (z6.1 < 0))
  (K ((⟨none, 0, 0⟩ : SlV), false, ()) w7)
  (2 ≠ (0 : Int) ∧
  cond ((Int.tmod z3.2.2.1 2) == 1)
  (Rng .i64 (z3.2.1 * 16) ∧
  Rng .i64 ((z3.2.1 * 16) + z6.1) ∧
  NewV #[.int .u8 (IntKind.u8.wrap ((z3.2.1 * 16) + z6.1))] 5 w7 fun b12 w13 =>
  AppS w13 (some ⟨b12, 0, none⟩) 1 1 fun ns18 =>
  AppV w13 5 1 1 z3.1.a z3.1.n z3.1.c ns18 1 fun a14 n15 c16 w17 =>
  Rng .i64 (z3.2.2.1 + 1) ∧
  K5 ((⟨a14, n15, c16⟩ : SlV), z6.1, z3.2.2.1 + 1, ()) w17)
  (Rng .i64 (z3.2.2.1 + 1) ∧
  K5 (z3.1, z6.1, z3.2.2.1 + 1, ()) w7))))
  (2 ≠ (0 : Int) ∧
  K (z3.1, ((Int.tmod ((p0.size : Nat) : Int) 2) == 0), ()) w4)
theorem ref01_Unhex.vc (p0 : ByteArray) (w : World) (K : SlV × Bool × Unit → World → Prop) (h : ref01_Unhex.P p0 w K) : CallV Try.prog 39 #[.string p0] w [.one .sl, .one .bool] K := by
  have e : vcFun Try.prog okf false Try.f39 ref01_Unhex.A #[.string p0] w [.one .sl, .one .bool] K = ref01_Unhex.P p0 w K := by kernel_rfl
  exact vcFun.calls okf_ok follows Try.func39 (e.symm ▸ h)

/-! ### nepenthe/octet.Fill: function 13 -/
-- loop 0 carries 13: .one (.int .i64)
def octet_Fill.A : Ann := .two .no (.two .no (.two (.two .no (.one (.loop [6, 13, 14, 15, 16, 17, 18, 19, 20] [(13, .one (.int .i64))] .no))) .no))
def octet_Fill.P (p0 : Int) (p1 : Int) (w : World) (K : SlV × Unit → World → Prop) : Prop :=
  NameI (min (65536 : Int) p1) fun z1 =>
  NameI (max (0 : Int) z1) fun z2 =>
  ((0 : Int) ≤ (z2 : Int) ∧ (z2 : Int) ≤ (z2 : Int) ∧ (z2 : Int) ≤ 9223372036854775807 ∧ ((1 : Nat) : Int) * (z2 : Int) ≤ 140737488355328) ∧
  NewV (List.replicate z2.toNat [.int .u8 0]).flatten.toArray 5 w fun b3 w4 =>
  LoopV [.one (.int .i64)] ((0 : Int), ()) w4 fun (z5 : Int × Unit) w6 (K7 : Int × Unit → World → Prop) =>
  cond (decide (z5.1 < ((z2.toNat : Nat) : Int)))
  ((0 ≤ z5.1 ∧ z5.1 < ((z2.toNat : Nat) : Int)) ∧ ∃ q8 : Addr, (some ⟨b3, 0, none⟩) = some q8 ∧
  StoreV w6 (q8.add (z5.1.toNat * 1)) [.int .u8 p0] fun w9 =>
  Rng .i64 (z5.1 + 1) ∧
  K7 (z5.1 + 1, ()) w9)
  (K ((⟨(some ⟨b3, 0, none⟩), z2.toNat, z2.toNat⟩ : SlV), ()) w6)
theorem octet_Fill.vc (p0 : Int) (p1 : Int) (w : World) (K : SlV × Unit → World → Prop) (h : octet_Fill.P p0 p1 w K) : CallV Try.prog 13 #[.int .u8 p0, .int .i64 p1] w [.one .sl] K := by
  have e : vcFun Try.prog okf false Try.f13 octet_Fill.A #[.int .u8 p0, .int .i64 p1] w [.one .sl] K = octet_Fill.P p0 p1 w K := by kernel_rfl
  exact vcFun.calls okf_ok follows Try.func13 (e.symm ▸ h)

/-! ### nepenthe/octet.Big: function 28 -/
-- loop 0 carries 13: .one (.int .i64)
def octet_Big.A : Ann := .two .no (.two .no (.two .no (.two (.two .no (.one (.loop [6, 13, 14, 15, 16, 17, 18, 19, 20, 21, 22, 23, 24, 25, 26, 27] [(13, .one (.int .i64))] .no))) .no)))
def octet_Big.P (p0 : Int) (p1 : Int) (w : World) (K : SlV × Unit → World → Prop) : Prop :=
  NameI (min (8 : Int) p1) fun z1 =>
  NameI (max (0 : Int) z1) fun z2 =>
  ((0 : Int) ≤ (z2 : Int) ∧ (z2 : Int) ≤ (z2 : Int) ∧ (z2 : Int) ≤ 9223372036854775807 ∧ ((1 : Nat) : Int) * (z2 : Int) ≤ 140737488355328) ∧
  NewV (List.replicate z2.toNat [.int .u8 0]).flatten.toArray 5 w fun b3 w4 =>
  LoopV [.one (.int .i64)] ((0 : Int), ()) w4 fun (z5 : Int × Unit) w6 (K7 : Int × Unit → World → Prop) =>
  cond (decide (z5.1 < z2))
  (Rng .i64 (z2 - 1) ∧
  Rng .i64 ((z2 - 1) - z5.1) ∧
  Rng .i64 ((8 : Int) * z5.1) ∧
  (0 : Int) ≤ ((8 : Int) * z5.1) ∧
  (0 ≤ ((z2 - 1) - z5.1) ∧ ((z2 - 1) - z5.1) < ((z2.toNat : Nat) : Int)) ∧ ∃ q8 : Addr, (some ⟨b3, 0, none⟩) = some q8 ∧
  StoreV w6 (q8.add (((z2 - 1) - z5.1).toNat * 1)) [.int .u8 (IntKind.u8.wrap (Int.fdiv p0 (2 ^ (Nat.min (((8 : Int) * z5.1)).toNat 64))))] fun w9 =>
  Rng .i64 (z5.1 + 1) ∧
  K7 (z5.1 + 1, ()) w9)
  (K ((⟨(some ⟨b3, 0, none⟩), z2.toNat, z2.toNat⟩ : SlV), ()) w6)
theorem octet_Big.vc (p0 : Int) (p1 : Int) (w : World) (K : SlV × Unit → World → Prop) (h : octet_Big.P p0 p1 w K) : CallV Try.prog 28 #[.int .u64 p0, .int .i64 p1] w [.one .sl] K := by
  have e : vcFun Try.prog okf false Try.f28 octet_Big.A #[.int .u64 p0, .int .i64 p1] w [.one .sl] K = octet_Big.P p0 p1 w K := by kernel_rfl
  exact vcFun.calls okf_ok follows Try.func28 (e.symm ▸ h)

/-! ### nepenthe/octet.Num: function 32 -/
-- loop 0 carries 3: .one (.int .u64), 13: .one (.int .i64)
def octet_Num.A : Ann := .two .no (.two .no (.two (.two .no (.one (.loop [3, 5, 13, 14, 15, 16, 17, 18, 19, 20, 21, 22] [(3, .one (.int .u64)), (13, .one (.int .i64))] .no))) .no))
def octet_Num.P (a0 : Option Addr) (n0 c0 : Nat) (w : World) (K : Int × Unit → World → Prop) : Prop :=
  Rng .i64 (((n0 : Nat) : Int) - 8) ∧
  NameI (max (0 : Int) (((n0 : Nat) : Int) - 8)) fun z1 =>
  ((0 : Int) ≤ z1 ∧ z1 ≤ ((n0 : Nat) : Int)) ∧
  SubK a0 z1.toNat c0 1 fun a2 =>
  LoopV [.one (.int .u64), .one (.int .i64)] ((0 : Int), (0 : Int), ()) w fun (z3 : Int × Int × Unit) w4 (K5 : Int × Int × Unit → World → Prop) =>
  cond (decide (z3.2.1 < ((n0 - z1.toNat : Nat) : Int)))
  ((0 ≤ z3.2.1 ∧ z3.2.1 < ((n0 - z1.toNat : Nat) : Int)) ∧ ∃ q6 : Addr, a2 = some q6 ∧
  LoadS w4 (q6.add (z3.2.1.toNat * 1)) (.int .u8) fun (x7 : Int) =>
  (0 : Int) ≤ 8 ∧
  Rng .i64 (z3.2.1 + 1) ∧
  K5 (Go.bits .or .u64 (IntKind.u64.wrap (z3.1 * 256)) (IntKind.u64.wrap x7), z3.2.1 + 1, ()) w4)
  (K (z3.1, ()) w4)
theorem octet_Num.vc (a0 : Option Addr) (n0 c0 : Nat) (w : World) (K : Int × Unit → World → Prop) (h : octet_Num.P a0 n0 c0 w K) : CallV Try.prog 32 #[.slice a0 n0 c0] w [.one (.int .u64)] K := by
  have e : vcFun Try.prog okf false Try.f32 octet_Num.A #[.slice a0 n0 c0] w [.one (.int .u64)] K = octet_Num.P a0 n0 c0 w K := by kernel_rfl
  exact vcFun.calls okf_ok follows Try.func32 (e.symm ▸ h)

/-! ### nepenthe/octet.Little: function 30 -/
-- loop 0 carries 13: .one (.int .i64)
def octet_Little.A : Ann := .two .no (.two .no (.two .no (.two (.two .no (.one (.loop [6, 13, 14, 15, 16, 17, 18, 19, 20, 21, 22, 23, 24] [(13, .one (.int .i64))] .no))) .no)))
def octet_Little.P (p0 : Int) (p1 : Int) (w : World) (K : SlV × Unit → World → Prop) : Prop :=
  NameI (min (8 : Int) p1) fun z1 =>
  NameI (max (0 : Int) z1) fun z2 =>
  ((0 : Int) ≤ (z2 : Int) ∧ (z2 : Int) ≤ (z2 : Int) ∧ (z2 : Int) ≤ 9223372036854775807 ∧ ((1 : Nat) : Int) * (z2 : Int) ≤ 140737488355328) ∧
  NewV (List.replicate z2.toNat [.int .u8 0]).flatten.toArray 5 w fun b3 w4 =>
  LoopV [.one (.int .i64)] ((0 : Int), ()) w4 fun (z5 : Int × Unit) w6 (K7 : Int × Unit → World → Prop) =>
  cond (decide (z5.1 < z2))
  (Rng .i64 ((8 : Int) * z5.1) ∧
  (0 : Int) ≤ ((8 : Int) * z5.1) ∧
  (0 ≤ z5.1 ∧ z5.1 < ((z2.toNat : Nat) : Int)) ∧ ∃ q8 : Addr, (some ⟨b3, 0, none⟩) = some q8 ∧
  StoreV w6 (q8.add (z5.1.toNat * 1)) [.int .u8 (IntKind.u8.wrap (Int.fdiv p0 (2 ^ (Nat.min (((8 : Int) * z5.1)).toNat 64))))] fun w9 =>
  Rng .i64 (z5.1 + 1) ∧
  K7 (z5.1 + 1, ()) w9)
  (K ((⟨(some ⟨b3, 0, none⟩), z2.toNat, z2.toNat⟩ : SlV), ()) w6)
theorem octet_Little.vc (p0 : Int) (p1 : Int) (w : World) (K : SlV × Unit → World → Prop) (h : octet_Little.P p0 p1 w K) : CallV Try.prog 30 #[.int .u64 p0, .int .i64 p1] w [.one .sl] K := by
  have e : vcFun Try.prog okf false Try.f30 octet_Little.A #[.int .u64 p0, .int .i64 p1] w [.one .sl] K = octet_Little.P p0 p1 w K := by kernel_rfl
  exact vcFun.calls okf_ok follows Try.func30 (e.symm ▸ h)

/-! ### nepenthe/octet.NumLittle: function 34 -/
-- loop 0 carries 3: .one (.int .u64), 12: .one (.int .i64)
def octet_NumLittle.A : Ann := .two .no (.two .no (.two (.two .no (.one (.loop [3, 4, 5, 12, 13, 14, 15, 16, 17, 18, 19, 20, 21, 22, 23, 24] [(3, .one (.int .u64)), (12, .one (.int .i64))] .no))) .no))
def octet_NumLittle.P (a0 : Option Addr) (n0 c0 : Nat) (w : World) (K : Int × Unit → World → Prop) : Prop :=
  NameI (min (8 : Int) ((n0 : Nat) : Int)) fun z1 =>
  ((0 : Int) ≤ z1 ∧ z1 ≤ ((c0 : Nat) : Int)) ∧
  SubK a0 0 c0 1 fun a2 =>
  LoopV [.one (.int .u64), .one (.int .i64)] ((0 : Int), (0 : Int), ()) w fun (z3 : Int × Int × Unit) w4 (K5 : Int × Int × Unit → World → Prop) =>
  cond (decide (z3.2.1 < ((z1.toNat - 0 : Nat) : Int)))
  ((0 ≤ z3.2.1 ∧ z3.2.1 < ((z1.toNat - 0 : Nat) : Int)) ∧ ∃ q6 : Addr, a2 = some q6 ∧
  LoadS w4 (q6.add (z3.2.1.toNat * 1)) (.int .u8) fun (x7 : Int) =>
  Rng .i64 ((8 : Int) * z3.2.1) ∧
  (0 : Int) ≤ ((8 : Int) * z3.2.1) ∧
  Rng .i64 (z3.2.1 + 1) ∧
  K5 (Go.bits .or .u64 z3.1 (IntKind.u64.wrap ((IntKind.u64.wrap x7) * (2 ^ (Nat.min (((8 : Int) * z3.2.1)).toNat 64)))), z3.2.1 + 1, ()) w4)
  (K (z3.1, ()) w4)
theorem octet_NumLittle.vc (a0 : Option Addr) (n0 c0 : Nat) (w : World) (K : Int × Unit → World → Prop) (h : octet_NumLittle.P a0 n0 c0 w K) : CallV Try.prog 34 #[.slice a0 n0 c0] w [.one (.int .u64)] K := by
  have e : vcFun Try.prog okf false Try.f34 octet_NumLittle.A #[.slice a0 n0 c0] w [.one (.int .u64)] K = octet_NumLittle.P a0 n0 c0 w K := by kernel_rfl
  exact vcFun.calls okf_ok follows Try.func34 (e.symm ▸ h)

/-! ### nepenthe/octet.Xor: function 40 -/
-- loop 0 carries 18: .one (.int .i64)
def octet_Xor.A : Ann := .two .no (.two .no (.two .no (.two (.two .no (.one (.loop [7, 18, 19, 20, 21, 22, 23, 24, 25, 26, 27, 28, 29, 30, 31, 32, 33] [(18, .one (.int .i64))] (.two .no (.two .no (.two (.one (.two .no (.draw (.take 0 (.take 1 (.take 2 (.take 3 (.take 4 (.take 5 (.take 6 (.take 7 (.take 8 (.take 9 (.take 10 (.take 11 (.eff 12 (.done))))))))))))))))) .no)))))) .no)))
def octet_Xor.P (a0 : Option Addr) (n0 c0 : Nat) (a1 : Option Addr) (n1 c1 : Nat) (w : World) (K : SlV × Int × Unit → World → Prop) : Prop :=
  cond (((n0 : Nat) : Int) != ((n1 : Nat) : Int))
  (K ((⟨none, 0, 0⟩ : SlV), (2 : Int), ()) w)
  (((0 : Int) ≤ (((n0 : Nat) : Int) : Int) ∧ (((n0 : Nat) : Int) : Int) ≤ (((n0 : Nat) : Int) : Int) ∧ (((n0 : Nat) : Int) : Int) ≤ 9223372036854775807 ∧ ((1 : Nat) : Int) * (((n0 : Nat) : Int) : Int) ≤ 140737488355328) ∧
  NewV (List.replicate (((n0 : Nat) : Int).toNat) [.int .u8 0]).flatten.toArray 5 w fun b1 w2 =>
  LoopV [.one (.int .i64)] ((0 : Int), ()) w2 fun (z3 : Int × Unit) w4 (K5 : Int × Unit → World → Prop) =>
  cond (decide (z3.1 < ((n0 : Nat) : Int)))
  (DrawV fun D6 =>
  (0 ≤ z3.1 ∧ z3.1 < ((n0 : Nat) : Int)) ∧ ∃ q7 : Addr, a0 = some q7 ∧
  (D6 (q7.add (z3.1.toNat * 1)).block ∧ LoadS w4.drew (q7.add (z3.1.toNat * 1)) (.int .u8) fun (x8 : Int) =>
  (0 ≤ z3.1 ∧ z3.1 < ((n1 : Nat) : Int)) ∧ ∃ q9 : Addr, a1 = some q9 ∧
  (D6 (q9.add (z3.1.toNat * 1)).block ∧ LoadS w4.drew (q9.add (z3.1.toNat * 1)) (.int .u8) fun (x10 : Int) =>
  (0 ≤ z3.1 ∧ z3.1 < ((((n0 : Nat) : Int).toNat : Nat) : Int)) ∧ ∃ q11 : Addr, (some ⟨b1, 0, none⟩) = some q11 ∧
  StoreV w4.drew (q11.add (z3.1.toNat * 1)) [.int .u8 (Go.bits .xor .u8 x8 x10)] fun w12 =>
  KeepOn D6 w4.drew w12 ∧
  Rng .i64 (z3.1 + 1) ∧
  K5 (z3.1 + 1, ()) w12)))
  (K ((⟨(some ⟨b1, 0, none⟩), ((n0 : Nat) : Int).toNat, ((n0 : Nat) : Int).toNat⟩ : SlV), (0 : Int), ()) w4))
theorem octet_Xor.vc (a0 : Option Addr) (n0 c0 : Nat) (a1 : Option Addr) (n1 c1 : Nat) (w : World) (K : SlV × Int × Unit → World → Prop) (h : octet_Xor.P a0 n0 c0 a1 n1 c1 w K) : CallV Try.prog 40 #[.slice a0 n0 c0, .slice a1 n1 c1] w [.one .sl, .one (.int .i64)] K := by
  have e : vcFun Try.prog okf false Try.f40 octet_Xor.A #[.slice a0 n0 c0, .slice a1 n1 c1] w [.one .sl, .one (.int .i64)] K = octet_Xor.P a0 n0 c0 a1 n1 c1 w K := by kernel_rfl
  exact vcFun.calls okf_ok follows Try.func40 (e.symm ▸ h)

/-! ### nepenthe/octet.Invert: function 42 -/
-- loop 0 carries 11: .one (.int .i64)
def octet_Invert.A : Ann := .two .no (.two .no (.two (.two .no (.one (.loop [4, 5, 11, 12, 13, 14, 15, 16, 17, 18, 19, 20, 21] [(11, .one (.int .i64))] .no))) .no))
def octet_Invert.P (a0 : Option Addr) (n0 c0 : Nat) (w : World) (K : SlV × Unit → World → Prop) : Prop :=
  ((0 : Int) ≤ (((n0 : Nat) : Int) : Int) ∧ (((n0 : Nat) : Int) : Int) ≤ (((n0 : Nat) : Int) : Int) ∧ (((n0 : Nat) : Int) : Int) ≤ 9223372036854775807 ∧ ((1 : Nat) : Int) * (((n0 : Nat) : Int) : Int) ≤ 140737488355328) ∧
  NewV (List.replicate (((n0 : Nat) : Int).toNat) [.int .u8 0]).flatten.toArray 5 w fun b1 w2 =>
  LoopV [.one (.int .i64)] ((0 : Int), ()) w2 fun (z3 : Int × Unit) w4 (K5 : Int × Unit → World → Prop) =>
  cond (decide (z3.1 < ((n0 : Nat) : Int)))
  ((0 ≤ z3.1 ∧ z3.1 < ((n0 : Nat) : Int)) ∧ ∃ q6 : Addr, a0 = some q6 ∧
  LoadS w4 (q6.add (z3.1.toNat * 1)) (.int .u8) fun (x7 : Int) =>
  (0 ≤ z3.1 ∧ z3.1 < ((((n0 : Nat) : Int).toNat : Nat) : Int)) ∧ ∃ q8 : Addr, (some ⟨b1, 0, none⟩) = some q8 ∧
  StoreV w4 (q8.add (z3.1.toNat * 1)) [.int .u8 (Go.bits .xor .u8 255 x7)] fun w9 =>
  Rng .i64 (z3.1 + 1) ∧
  K5 (z3.1 + 1, ()) w9)
  (K ((⟨(some ⟨b1, 0, none⟩), ((n0 : Nat) : Int).toNat, ((n0 : Nat) : Int).toNat⟩ : SlV), ()) w4)
theorem octet_Invert.vc (a0 : Option Addr) (n0 c0 : Nat) (w : World) (K : SlV × Unit → World → Prop) (h : octet_Invert.P a0 n0 c0 w K) : CallV Try.prog 42 #[.slice a0 n0 c0] w [.one .sl] K := by
  have e : vcFun Try.prog okf false Try.f42 octet_Invert.A #[.slice a0 n0 c0] w [.one .sl] K = octet_Invert.P a0 n0 c0 w K := by kernel_rfl
  exact vcFun.calls okf_ok follows Try.func42 (e.symm ▸ h)

/-! ### nepenthe/octet.Same: function 41 -/
-- loop 0 carries 5: .one (.int .u8), 14: .one (.int .i64)
def octet_Same.A : Ann := .two .no (.two .no (.two .no (.two (.two .no (.one (.loop [5, 6, 14, 15, 16, 17, 18, 19, 20, 21, 22, 23, 24, 25, 26, 27, 28] [(5, .one (.int .u8)), (14, .one (.int .i64))] (.two .no (.two .no (.two (.one (.two .no (.draw (.take 0 (.take 1 (.take 2 (.take 3 (.take 4 (.take 5 (.take 6 (.take 7 (.take 8 (.take 9 (.take 10 (.take 11 (.done)))))))))))))))) .no)))))) .no)))
def octet_Same.P (a0 : Option Addr) (n0 c0 : Nat) (a1 : Option Addr) (n1 c1 : Nat) (w : World) (K : Bool × Unit → World → Prop) : Prop :=
  cond (((n0 : Nat) : Int) != ((n1 : Nat) : Int))
  (K (false, ()) w)
  (LoopV [.one (.int .u8), .one (.int .i64)] ((0 : Int), (0 : Int), ()) w fun (z1 : Int × Int × Unit) w2 (K3 : Int × Int × Unit → World → Prop) =>
  cond (decide (z1.2.1 < ((n0 : Nat) : Int)))
  (DrawV fun D4 =>
  (0 ≤ z1.2.1 ∧ z1.2.1 < ((n0 : Nat) : Int)) ∧ ∃ q5 : Addr, a0 = some q5 ∧
  (D4 (q5.add (z1.2.1.toNat * 1)).block ∧ LoadS w2.drew (q5.add (z1.2.1.toNat * 1)) (.int .u8) fun (x6 : Int) =>
  (0 ≤ z1.2.1 ∧ z1.2.1 < ((n1 : Nat) : Int)) ∧ ∃ q7 : Addr, a1 = some q7 ∧
  (D4 (q7.add (z1.2.1.toNat * 1)).block ∧ LoadS w2.drew (q7.add (z1.2.1.toNat * 1)) (.int .u8) fun (x8 : Int) =>
  Rng .i64 (z1.2.1 + 1) ∧
  K3 (Go.bits .or .u8 z1.1 (Go.bits .xor .u8 x6 x8), z1.2.1 + 1, ()) w2.drew)))
  (K ((z1.1 == 0), ()) w2))
theorem octet_Same.vc (a0 : Option Addr) (n0 c0 : Nat) (a1 : Option Addr) (n1 c1 : Nat) (w : World) (K : Bool × Unit → World → Prop) (h : octet_Same.P a0 n0 c0 a1 n1 c1 w K) : CallV Try.prog 41 #[.slice a0 n0 c0, .slice a1 n1 c1] w [.one .bool] K := by
  have e : vcFun Try.prog okf false Try.f41 octet_Same.A #[.slice a0 n0 c0, .slice a1 n1 c1] w [.one .bool] K = octet_Same.P a0 n0 c0 a1 n1 c1 w K := by kernel_rfl
  exact vcFun.calls okf_ok follows Try.func41 (e.symm ▸ h)

/-! ### nepenthe/octet.digit: function 58 -/
def octet_digit.A : Ann := .no
def octet_digit.P (p0 : Int) (w : World) (K : Int × Unit → World → Prop) : Prop :=
  (0 ≤ (Go.bits .and .u8 p0 15) ∧ (Go.bits .and .u8 p0 15) < (16 : Int)) ∧ ∃ y1 : Int, ([.int .u8 48, .int .u8 49, .int .u8 50, .int .u8 51, .int .u8 52, .int .u8 53, .int .u8 54, .int .u8 55, .int .u8 56, .int .u8 57, .int .u8 97, .int .u8 98, .int .u8 99, .int .u8 100, .int .u8 101, .int .u8 102] : List Value)[(Go.bits .and .u8 p0 15).toNat * 1]? = some (.int .u8 y1) ∧
  K (y1, ()) w
theorem octet_digit.vc (p0 : Int) (w : World) (K : Int × Unit → World → Prop) (h : octet_digit.P p0 w K) : CallV Try.prog 58 #[.int .u8 p0] w [.one (.int .u8)] K := by
  have e : vcFun Try.prog okf false Try.f58 octet_digit.A #[.int .u8 p0] w [.one (.int .u8)] K = octet_digit.P p0 w K := by kernel_rfl
  exact vcFun.calls okf_ok follows Try.func58 (e.symm ▸ h)

/-! ### nepenthe/octet.Hex: function 36 -/
-- loop 0 carries 3: .one .sl, 11: .one (.int .i64)
def octet_Hex.A : Ann := .two .no (.two .no (.two (.two .no (.one (.loop [3, 5, 11, 12, 13, 14, 15, 16, 17, 18, 19, 20, 21, 22, 23] [(3, .one .sl), (11, .one (.int .i64))] .no))) .no))
def octet_Hex.P (a0 : Option Addr) (n0 c0 : Nat) (w : World) (K : ByteArray × Unit → World → Prop) : Prop :=
  ((0 : Int) ≤ (0 : Int) ∧ (0 : Int) ≤ (((n0 : Nat) : Int) : Int) ∧ (((n0 : Nat) : Int) : Int) ≤ 9223372036854775807 ∧ ((1 : Nat) : Int) * (((n0 : Nat) : Int) : Int) ≤ 140737488355328) ∧
  NewV (List.replicate (((n0 : Nat) : Int).toNat) [.int .u8 0]).flatten.toArray 5 w fun b1 w2 =>
  LoopV [.one .sl, .one (.int .i64)] ((⟨(some ⟨b1, 0, none⟩), 0, ((n0 : Nat) : Int).toNat⟩ : SlV), (0 : Int), ()) w2 fun (z3 : SlV × Int × Unit) w4 (K5 : SlV × Int × Unit → World → Prop) =>
  cond (decide (z3.2.1 < ((n0 : Nat) : Int)))
  ((0 ≤ z3.2.1 ∧ z3.2.1 < ((n0 : Nat) : Int)) ∧ ∃ q6 : Addr, a0 = some q6 ∧
  LoadS w4 (q6.add (z3.2.1.toNat * 1)) (.int .u8) fun (x7 : Int) =>
  (0 : Int) ≤ 4 ∧
  CallV Try.prog 58 #[.int .u8 (Int.fdiv x7 16)] w4 [.one (.int .u8)] fun (r8 : Int × Unit) w9 =>
  CallV Try.prog 58 #[.int .u8 x7] w9 [.one (.int .u8)] fun (r10 : Int × Unit) w11 =>
  NewV #[.int .u8 r8.1, .int .u8 r10.1] 5 w11 fun b12 w13 =>
  AppS w13 (some ⟨b12, 0, none⟩) 2 1 fun ns18 =>
  AppV w13 5 1 1 z3.1.a z3.1.n z3.1.c ns18 2 fun a14 n15 c16 w17 =>
  Rng .i64 (z3.2.1 + 1) ∧
  K5 ((⟨a14, n15, c16⟩ : SlV), z3.2.1 + 1, ()) w17)
  (∃ ns20 : List Int, ns20.length = z3.1.n ∧ ((z3.1.a = none ∧ z3.1.n = 0) ∨ ∃ p19, z3.1.a = some p19 ∧ CellsAt w4 p19 (ns20.map (Value.int .u8))) ∧
  K (ns20.foldl (fun r m => r.push (UInt8.ofNat m.toNat)) ByteArray.empty, ()) w4)
theorem octet_Hex.vc (a0 : Option Addr) (n0 c0 : Nat) (w : World) (K : ByteArray × Unit → World → Prop) (h : octet_Hex.P a0 n0 c0 w K) : CallV Try.prog 36 #[.slice a0 n0 c0] w [.one .str] K := by
  have e : vcFun Try.prog okf false Try.f36 octet_Hex.A #[.slice a0 n0 c0] w [.one .str] K = octet_Hex.P a0 n0 c0 w K := by kernel_rfl
  exact vcFun.calls okf_ok follows Try.func36 (e.symm ▸ h)

/-! ### nepenthe/octet.value: function 59 -/
def octet_value.A : Ann := .no
def octet_value.P (p0 : Int) (w : World) (K : Int × Unit → World → Prop) : Prop :=
  cond (decide (p0 ≥ 48))
  (cond (decide (p0 ≤ 57))
  (K (IntKind.u8.wrap (p0 - 48), ()) w)
  (cond (decide (p0 ≥ 97))
  (cond (decide (p0 ≤ 102))
  (K (IntKind.u8.wrap ((IntKind.u8.wrap (p0 - 97)) + 10), ()) w)
  (K ((16 : Int), ()) w))
  (K ((16 : Int), ()) w)))
  (cond (decide (p0 ≥ 97))
  (cond (decide (p0 ≤ 102))
  (K (IntKind.u8.wrap ((IntKind.u8.wrap (p0 - 97)) + 10), ()) w)
  (K ((16 : Int), ()) w))
  (K ((16 : Int), ()) w))
theorem octet_value.vc (p0 : Int) (w : World) (K : Int × Unit → World → Prop) (h : octet_value.P p0 w K) : CallV Try.prog 59 #[.int .u8 p0] w [.one (.int .u8)] K := by
  have e : vcFun Try.prog okf false Try.f59 octet_value.A #[.int .u8 p0] w [.one (.int .u8)] K = octet_value.P p0 w K := by kernel_rfl
  exact vcFun.calls okf_ok follows Try.func59 (e.symm ▸ h)

/-! ### nepenthe/octet.Unhex: function 38 -/
-- loop 0 carries 4: .one .sl, 5: .one (.int .i64)
def octet_Unhex.A : Ann := .two .no (.two .no (.two .no (.two (.two .no (.one (.loop [2, 3, 4, 5, 6, 7, 16, 17, 18, 19, 20, 21, 22, 23, 24, 25, 26, 27, 28, 29, 30, 31, 32, 33, 34, 35, 36, 37, 38, 39, 40, 41, 42, 43] [(4, .one .sl), (5, .one (.int .i64))] (.two .no (.two (.one (.two (.draw (.take 0 (.take 1 (.take 2 (.take 4 (.take 5 (.take 6 (.take 7 (.eff 3 (.eff 8 (.take 9 (.take 10 (.done))))))))))))) .no)) .no))))) .no)))
def octet_Unhex.P (p0 : ByteArray) (w : World) (K : SlV × Int × Unit → World → Prop) : Prop :=
  2 ≠ (0 : Int) ∧
  cond ((Int.tmod ((p0.size : Nat) : Int) 2) != 0)
  (K ((⟨none, 0, 0⟩ : SlV), (1 : Int), ()) w)
  (2 ≠ (0 : Int) ∧ Rng .i64 (Int.tdiv ((p0.size : Nat) : Int) 2) ∧
  ((0 : Int) ≤ (0 : Int) ∧ (0 : Int) ≤ (Int.tdiv ((p0.size : Nat) : Int) 2 : Int) ∧ (Int.tdiv ((p0.size : Nat) : Int) 2 : Int) ≤ 9223372036854775807 ∧ ((1 : Nat) : Int) * (Int.tdiv ((p0.size : Nat) : Int) 2 : Int) ≤ 140737488355328) ∧
  NewV (List.replicate ((Int.tdiv ((p0.size : Nat) : Int) 2).toNat) [.int .u8 0]).flatten.toArray 5 w fun b1 w2 =>
  LoopV [.one .sl, .one (.int .i64)] ((⟨(some ⟨b1, 0, none⟩), 0, (Int.tdiv ((p0.size : Nat) : Int) 2).toNat⟩ : SlV), (0 : Int), ()) w2 fun (z3 : SlV × Int × Unit) w4 (K5 : SlV × Int × Unit → World → Prop) =>
  cond (decide (z3.2.1 < ((p0.size : Nat) : Int)))
  (DrawV fun D6 =>
  (0 ≤ z3.2.1 ∧ z3.2.1 < ((p0.size : Nat) : Int)) ∧ ∃ b7 : UInt8, p0[z3.2.1.toNat]? = some b7 ∧
  Rng .i64 (z3.2.1 + 1) ∧
  (0 ≤ (z3.2.1 + 1) ∧ (z3.2.1 + 1) < ((p0.size : Nat) : Int)) ∧ ∃ b8 : UInt8, p0[(z3.2.1 + 1).toNat]? = some b8 ∧
  CallV Try.prog 59 #[.int .u8 (b7.toNat : Int)] w4.drew [.one (.int .u8)] fun (r9 : Int × Unit) w10 =>
  KeepOn D6 w4.drew w10 ∧
  CallV Try.prog 59 #[.int .u8 (b8.toNat : Int)] w10 [.one (.int .u8)] fun (r11 : Int × Unit) w12 =>
  KeepOn D6 w4.drew w12 ∧
  cond (decide (r9.1 > 15))
  (K ((⟨none, 0, 0⟩ : SlV), (1 : Int), ()) w12)
  (cond (decide (r11.1 > 15))
  (K ((⟨none, 0, 0⟩ : SlV), (1 : Int), ()) w12)
  ((0 : Int) ≤ 4 ∧
  NewV #[.int .u8 (Go.bits .or .u8 (IntKind.u8.wrap (r9.1 * 16)) r11.1)] 5 w12 fun b13 w14 =>
  AppS w14 (some ⟨b13, 0, none⟩) 1 1 fun ns19 =>
  AppV w14 5 1 1 z3.1.a z3.1.n z3.1.c ns19 1 fun a15 n16 c17 w18 =>
  Rng .i64 (z3.2.1 + 2) ∧
  K5 ((⟨a15, n16, c17⟩ : SlV), z3.2.1 + 2, ()) w18)))
  (K (z3.1, (0 : Int), ()) w4))
theorem octet_Unhex.vc (p0 : ByteArray) (w : World) (K : SlV × Int × Unit → World → Prop) (h : octet_Unhex.P p0 w K) : CallV Try.prog 38 #[.string p0] w [.one .sl, .one (.int .i64)] K := by
  have e : vcFun Try.prog okf false Try.f38 octet_Unhex.A #[.string p0] w [.one .sl, .one (.int .i64)] K = octet_Unhex.P p0 w K := by kernel_rfl
  exact vcFun.calls okf_ok follows Try.func38 (e.symm ▸ h)

/-! ### nepenthe/nepenthelaw01.awake: function 15 -/
def law01_awake.A : Ann := .no
def law01_awake.P  (w : World) (K : Bool × Unit → World → Prop) : Prop :=
  NewV #[.int .u8 26] 5 w fun b1 w2 =>
  CallV Try.prog 36 #[.slice (some ⟨b1, 0, none⟩) 1 1] w2 [.one .str] fun (r3 : ByteArray × Unit) w4 =>
  cond (r3.1.toList == (⟨#[49, 97]⟩ : ByteArray).toList)
  (NewV #[.int .u8 1, .int .u8 2] 5 w4 fun b5 w6 =>
  CallV Try.prog 32 #[.slice (some ⟨b5, 0, none⟩) 2 2] w6 [.one (.int .u64)] fun (r7 : Int × Unit) w8 =>
  K ((r7.1 == 258), ()) w8)
  (K (false, ()) w4)
theorem law01_awake.vc  (w : World) (K : Bool × Unit → World → Prop) (h : law01_awake.P  w K) : CallV Try.prog 15 #[] w [.one .bool] K := by
  have e : vcFun Try.prog okf false Try.f15 law01_awake.A #[] w [.one .bool] K = law01_awake.P  w K := by kernel_rfl
  exact vcFun.calls okf_ok follows Try.func15 (e.symm ▸ h)

end Go.Proofs.Ytimbomieepefcaa.Vc
