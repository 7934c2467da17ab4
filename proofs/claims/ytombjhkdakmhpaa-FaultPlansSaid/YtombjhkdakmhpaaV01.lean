/- The plans of functions as plain statements, printed by wip/tools/vcgen.py; the kernel holds each to the code. -/
import Derived.Test.YtombjhkdakmhpaaEnv
namespace Go.Proofs.Ytombjhkdakmhpaa.Vc
open Go Go.Eng
set_option linter.unusedVariables false

/-! ### nepenthe/nepentheref01.SameBytes: function 17 -/
-- loop 0 carries 5: .one (.int .i64)
def ref01_SameBytes.A : Ann := .two .no (.two .no (.two (.two .no (.one (.loop [4, 5, 11, 12, 13, 14, 15, 16, 17, 18, 19, 20, 21, 22, 23, 24, 25] [(5, .one (.int .i64))] (.two .no (.two (.one (.two (.draw (.take 0 (.take 1 (.take 2 (.take 3 (.take 4 (.take 5 (.take 6 (.take 7 (.take 8 (.done))))))))))) .no)) .no))))) .no))
def ref01_SameBytes.P (a0 : Option Addr) (n0 c0 : Nat) (a1 : Option Addr) (n1 c1 : Nat) (w : World) (K : Bool × Unit → World → Prop) : Prop :=
  cond (((n0 : Nat) : Int) != ((n1 : Nat) : Int))
  (K (false, ()) w)
  (LoopV [.one (.int .i64)] ((0 : Int), ()) w fun (z1 : Int × Unit) w2 (K3 : Int × Unit → World → Prop) =>
  cond (decide (z1.1 < ((n0 : Nat) : Int)))
  (DrawV fun D4 =>
  (0 ≤ z1.1 ∧ z1.1 < ((n0 : Nat) : Int)) ∧ ∃ q5 : Addr, a0 = some q5 ∧
  (D4 (q5.add (z1.1.toNat * 1)).block ∧ LoadS w2.drew (q5.add (z1.1.toNat * 1)) (.int .u8) fun (x6 : Int) =>
  (0 ≤ z1.1 ∧ z1.1 < ((n1 : Nat) : Int)) ∧ ∃ q7 : Addr, a1 = some q7 ∧
  (D4 (q7.add (z1.1.toNat * 1)).block ∧ LoadS w2.drew (q7.add (z1.1.toNat * 1)) (.int .u8) fun (x8 : Int) =>
  cond (x6 != x8)
  (K (false, ()) w2.drew)
  (Rng .i64 (z1.1 + 1) ∧
  K3 (z1.1 + 1, ()) w2.drew))))
  (K (true, ()) w2))
theorem ref01_SameBytes.vc (a0 : Option Addr) (n0 c0 : Nat) (a1 : Option Addr) (n1 c1 : Nat) (w : World) (K : Bool × Unit → World → Prop) (h : ref01_SameBytes.P a0 n0 c0 a1 n1 c1 w K) : CallV Try.prog 17 #[.slice a0 n0 c0, .slice a1 n1 c1] w [.one .bool] K := by
  have e : vcFun Try.prog okf false Try.f17 ref01_SameBytes.A #[.slice a0 n0 c0, .slice a1 n1 c1] w [.one .bool] K = ref01_SameBytes.P a0 n0 c0 a1 n1 c1 w K := by kernel_rfl
  exact vcFun.calls okf_ok follows Try.func17 (e.symm ▸ h)

/-! ### nepenthe/nepentheref01.Fill: function 29 -/
-- loop 0 carries 5: .one .sl, 6: .one (.int .i64)
def ref01_Fill.A : Ann := .two .no (.two .no (.two (.two .no (.one (.loop [5, 6, 8, 9, 10, 11, 12, 13, 14, 15, 16, 17, 18, 19, 20] [(5, .one .sl), (6, .one (.int .i64))] .no))) .no))
def ref01_Fill.P (p0 : Int) (p1 : Int) (w : World) (K : SlV × Unit → World → Prop) : Prop :=
  NewV #[] 5 w fun b1 w2 =>
  LoopV [.one .sl, .one (.int .i64)] ((⟨(some ⟨b1, 0, none⟩), 0, 0⟩ : SlV), (0 : Int), ()) w2 fun (z3 : SlV × Int × Unit) w4 (K5 : SlV × Int × Unit → World → Prop) =>
  cond (decide (z3.2.1 < p1))
  (cond (decide (z3.2.1 < 65536))
  (NewV #[.int .u8 p0] 5 w4 fun b6 w7 =>
  AppS w7 (some ⟨b6, 0, none⟩) 1 1 fun ns12 =>
  AppV w7 5 1 1 z3.1.a z3.1.n z3.1.c ns12 1 fun a8 n9 c10 w11 =>
  Rng .i64 (z3.2.1 + 1) ∧
  K5 ((⟨a8, n9, c10⟩ : SlV), z3.2.1 + 1, ()) w11)
  (K (z3.1, ()) w4))
  (K (z3.1, ()) w4)
theorem ref01_Fill.vc (p0 : Int) (p1 : Int) (w : World) (K : SlV × Unit → World → Prop) (h : ref01_Fill.P p0 p1 w K) : CallV Try.prog 29 #[.int .u8 p0, .int .i64 p1] w [.one .sl] K := by
  have e : vcFun Try.prog okf false Try.f29 ref01_Fill.A #[.int .u8 p0, .int .i64 p1] w [.one .sl] K = ref01_Fill.P p0 p1 w K := by kernel_rfl
  exact vcFun.calls okf_ok follows Try.func29 (e.symm ▸ h)

/-! ### nepenthe/nepentheref01.Back: function 54 -/
-- loop 0 carries 3: .one .sl, 4: .one (.int .i64)
def ref01_Back.A : Ann := .two .no (.two .no (.two (.two .no (.one (.loop [3, 4, 9, 10, 11, 12, 13, 14, 15, 16, 17, 18, 19] [(3, .one .sl), (4, .one (.int .i64))] .no))) .no))
def ref01_Back.P (a0 : Option Addr) (n0 c0 : Nat) (w : World) (K : SlV × Unit → World → Prop) : Prop :=
  NewV #[] 5 w fun b1 w2 =>
  Rng .i64 (((n0 : Nat) : Int) - 1) ∧
  LoopV [.one .sl, .one (.int .i64)] ((⟨(some ⟨b1, 0, none⟩), 0, 0⟩ : SlV), ((n0 : Nat) : Int) - 1, ()) w2 fun (z3 : SlV × Int × Unit) w4 (K5 : SlV × Int × Unit → World → Prop) =>
  cond (decide (z3.2.1 ≥ 0))
  ((0 ≤ z3.2.1 ∧ z3.2.1 < ((n0 : Nat) : Int)) ∧ ∃ q6 : Addr, a0 = some q6 ∧
  LoadS w4 (q6.add (z3.2.1.toNat * 1)) (.int .u8) fun (x7 : Int) =>
  NewV #[.int .u8 x7] 5 w4 fun b8 w9 =>
  AppS w9 (some ⟨b8, 0, none⟩) 1 1 fun ns14 =>
  AppV w9 5 1 1 z3.1.a z3.1.n z3.1.c ns14 1 fun a10 n11 c12 w13 =>
  Rng .i64 (z3.2.1 - 1) ∧
  K5 ((⟨a10, n11, c12⟩ : SlV), z3.2.1 - 1, ()) w13)
  (K (z3.1, ()) w4)
theorem ref01_Back.vc (a0 : Option Addr) (n0 c0 : Nat) (w : World) (K : SlV × Unit → World → Prop) (h : ref01_Back.P a0 n0 c0 w K) : CallV Try.prog 54 #[.slice a0 n0 c0] w [.one .sl] K := by
  have e : vcFun Try.prog okf false Try.f54 ref01_Back.A #[.slice a0 n0 c0] w [.one .sl] K = ref01_Back.P a0 n0 c0 w K := by kernel_rfl
  exact vcFun.calls okf_ok follows Try.func54 (e.symm ▸ h)

/-! ### nepenthe/nepentheref01.Little: function 55 -/
-- loop 0 carries 0: .one (.int .u64), 5: .one .sl, 6: .one (.int .i64)
def ref01_Little.A : Ann := .two .no (.two .no (.two (.two .no (.one (.loop [0, 5, 6, 8, 9, 10, 11, 12, 13, 14, 15, 16, 17, 18, 19, 20, 21, 22, 23, 24] [(0, .one (.int .u64)), (5, .one .sl), (6, .one (.int .i64))] .no))) .no))
def ref01_Little.P (p0 : Int) (p1 : Int) (w : World) (K : SlV × Unit → World → Prop) : Prop :=
  NewV #[] 5 w fun b1 w2 =>
  LoopV [.one (.int .u64), .one .sl, .one (.int .i64)] (p0, (⟨(some ⟨b1, 0, none⟩), 0, 0⟩ : SlV), (0 : Int), ()) w2 fun (z3 : Int × SlV × Int × Unit) w4 (K5 : Int × SlV × Int × Unit → World → Prop) =>
  cond (decide (z3.2.2.1 < p1))
  (cond (decide (z3.2.2.1 < 8))
  (256 ≠ (0 : Int) ∧
  NewV #[.int .u8 (IntKind.u8.wrap (Int.tmod z3.1 256))] 5 w4 fun b6 w7 =>
  AppS w7 (some ⟨b6, 0, none⟩) 1 1 fun ns12 =>
  AppV w7 5 1 1 z3.2.1.a z3.2.1.n z3.2.1.c ns12 1 fun a8 n9 c10 w11 =>
  256 ≠ (0 : Int) ∧ Rng .u64 (Int.tdiv z3.1 256) ∧
  Rng .i64 (z3.2.2.1 + 1) ∧
  K5 (Int.tdiv z3.1 256, (⟨a8, n9, c10⟩ : SlV), z3.2.2.1 + 1, ()) w11)
  (K (z3.2.1, ()) w4))
  (K (z3.2.1, ()) w4)
theorem ref01_Little.vc (p0 : Int) (p1 : Int) (w : World) (K : SlV × Unit → World → Prop) (h : ref01_Little.P p0 p1 w K) : CallV Try.prog 55 #[.int .u64 p0, .int .i64 p1] w [.one .sl] K := by
  have e : vcFun Try.prog okf false Try.f55 ref01_Little.A #[.int .u64 p0, .int .i64 p1] w [.one .sl] K = ref01_Little.P p0 p1 w K := by kernel_rfl
  exact vcFun.calls okf_ok follows Try.func55 (e.symm ▸ h)

/-! ### nepenthe/nepentheref01.Big: function 43 -/
def ref01_Big.A : Ann := .no
def ref01_Big.P (p0 : Int) (p1 : Int) (w : World) (K : SlV × Unit → World → Prop) : Prop :=
  CallV Try.prog 55 #[.int .u64 p0, .int .i64 p1] w [.one .sl] fun (r1 : SlV × Unit) w2 =>
  CallV Try.prog 54 #[.slice r1.1.a r1.1.n r1.1.c] w2 [.one .sl] fun (r3 : SlV × Unit) w4 =>
  K (r3.1, ()) w4
theorem ref01_Big.vc (p0 : Int) (p1 : Int) (w : World) (K : SlV × Unit → World → Prop) (h : ref01_Big.P p0 p1 w K) : CallV Try.prog 43 #[.int .u64 p0, .int .i64 p1] w [.one .sl] K := by
  have e : vcFun Try.prog okf false Try.f43 ref01_Big.A #[.int .u64 p0, .int .i64 p1] w [.one .sl] K = ref01_Big.P p0 p1 w K := by kernel_rfl
  exact vcFun.calls okf_ok follows Try.func43 (e.symm ▸ h)

/-! ### nepenthe/nepentheref01.NumLittle: function 57 -/
-- loop 0 carries 3: .one (.int .u64), 4: .one (.int .i64)
def ref01_NumLittle.A : Ann := .two .no (.two .no (.two (.two .no (.one (.loop [3, 4, 9, 10, 11, 12, 13, 14, 15, 16, 17, 18, 19, 20] [(3, .one (.int .u64)), (4, .one (.int .i64))] .no))) .no))
def ref01_NumLittle.P (a0 : Option Addr) (n0 c0 : Nat) (w : World) (K : Int × Unit → World → Prop) : Prop :=
  Rng .i64 (((n0 : Nat) : Int) - 1) ∧
  NameI (min (7 : Int) (((n0 : Nat) : Int) - 1)) fun z1 =>
  LoopV [.one (.int .u64), .one (.int .i64)] ((0 : Int), z1, ()) w fun (z2 : Int × Int × Unit) w3 (K4 : Int × Int × Unit → World → Prop) =>
  cond (decide (z2.2.1 ≥ 0))
  ((0 ≤ z2.2.1 ∧ z2.2.1 < ((n0 : Nat) : Int)) ∧ ∃ q5 : Addr, a0 = some q5 ∧
  LoadS w3 (q5.add (z2.2.1.toNat * 1)) (.int .u8) fun (x6 : Int) =>
  Rng .i64 (z2.2.1 - 1) ∧
  K4 (IntKind.u64.wrap ((IntKind.u64.wrap (z2.1 * 256)) + (IntKind.u64.wrap x6)), z2.2.1 - 1, ()) w3)
  (K (z2.1, ()) w3)
theorem ref01_NumLittle.vc (a0 : Option Addr) (n0 c0 : Nat) (w : World) (K : Int × Unit → World → Prop) (h : ref01_NumLittle.P a0 n0 c0 w K) : CallV Try.prog 57 #[.slice a0 n0 c0] w [.one (.int .u64)] K := by
  have e : vcFun Try.prog okf false Try.f57 ref01_NumLittle.A #[.slice a0 n0 c0] w [.one (.int .u64)] K = ref01_NumLittle.P a0 n0 c0 w K := by kernel_rfl
  exact vcFun.calls okf_ok follows Try.func57 (e.symm ▸ h)

/-! ### nepenthe/nepentheref01.Num: function 52 -/
def ref01_Num.A : Ann := .no
def ref01_Num.P (a0 : Option Addr) (n0 c0 : Nat) (w : World) (K : Int × Unit → World → Prop) : Prop :=
  CallV Try.prog 54 #[.slice a0 n0 c0] w [.one .sl] fun (r1 : SlV × Unit) w2 =>
  CallV Try.prog 57 #[.slice r1.1.a r1.1.n r1.1.c] w2 [.one (.int .u64)] fun (r3 : Int × Unit) w4 =>
  K (r3.1, ()) w4
theorem ref01_Num.vc (a0 : Option Addr) (n0 c0 : Nat) (w : World) (K : Int × Unit → World → Prop) (h : ref01_Num.P a0 n0 c0 w K) : CallV Try.prog 52 #[.slice a0 n0 c0] w [.one (.int .u64)] K := by
  have e : vcFun Try.prog okf false Try.f52 ref01_Num.A #[.slice a0 n0 c0] w [.one (.int .u64)] K = ref01_Num.P a0 n0 c0 w K := by kernel_rfl
  exact vcFun.calls okf_ok follows Try.func52 (e.symm ▸ h)

/-! ### nepenthe/nepentheref01.Xor: function 58 -/
-- loop 0 carries 5: .one .sl, 6: .one (.int .i64)
def ref01_Xor.A : Ann := .two .no (.two .no (.two (.two .no (.one (.loop [5, 6, 8, 9, 10, 11, 12, 13, 14, 15, 16, 17, 18, 19, 20, 21, 22, 23, 24, 25] [(5, .one .sl), (6, .one (.int .i64))] (.two .no (.two (.one (.draw (.take 0 (.take 1 (.take 2 (.take 3 (.take 4 (.take 5 (.take 6 (.take 7 (.take 8 (.take 9 (.eff 10 (.eff 11 (.take 12 (.done)))))))))))))))) .no))))) .no))
def ref01_Xor.P (a0 : Option Addr) (n0 c0 : Nat) (a1 : Option Addr) (n1 c1 : Nat) (w : World) (K : SlV × Unit → World → Prop) : Prop :=
  NewV #[] 5 w fun b1 w2 =>
  LoopV [.one .sl, .one (.int .i64)] ((⟨(some ⟨b1, 0, none⟩), 0, 0⟩ : SlV), (0 : Int), ()) w2 fun (z3 : SlV × Int × Unit) w4 (K5 : SlV × Int × Unit → World → Prop) =>
  cond (decide (z3.2.1 < ((n0 : Nat) : Int)))
  (DrawV fun D6 =>
  (0 ≤ z3.2.1 ∧ z3.2.1 < ((n0 : Nat) : Int)) ∧ ∃ q7 : Addr, a0 = some q7 ∧
  (D6 (q7.add (z3.2.1.toNat * 1)).block ∧ LoadS w4.drew (q7.add (z3.2.1.toNat * 1)) (.int .u8) fun (x8 : Int) =>
  (0 ≤ z3.2.1 ∧ z3.2.1 < ((n1 : Nat) : Int)) ∧ ∃ q9 : Addr, a1 = some q9 ∧
  (D6 (q9.add (z3.2.1.toNat * 1)).block ∧ LoadS w4.drew (q9.add (z3.2.1.toNat * 1)) (.int .u8) fun (x10 : Int) =>
  NewV #[.int .u8 (Go.bits .xor .u8 x8 x10)] 5 w4.drew fun b11 w12 =>
  KeepOn D6 w4.drew w12 ∧
  AppS w12 (some ⟨b11, 0, none⟩) 1 1 fun ns17 =>
  AppV w12 5 1 1 z3.1.a z3.1.n z3.1.c ns17 1 fun a13 n14 c15 w16 =>
  KeepOn D6 w4.drew w16 ∧
  Rng .i64 (z3.2.1 + 1) ∧
  K5 ((⟨a13, n14, c15⟩ : SlV), z3.2.1 + 1, ()) w16)))
  (K (z3.1, ()) w4)
theorem ref01_Xor.vc (a0 : Option Addr) (n0 c0 : Nat) (a1 : Option Addr) (n1 c1 : Nat) (w : World) (K : SlV × Unit → World → Prop) (h : ref01_Xor.P a0 n0 c0 a1 n1 c1 w K) : CallV Try.prog 58 #[.slice a0 n0 c0, .slice a1 n1 c1] w [.one .sl] K := by
  have e : vcFun Try.prog okf false Try.f58 ref01_Xor.A #[.slice a0 n0 c0, .slice a1 n1 c1] w [.one .sl] K = ref01_Xor.P a0 n0 c0 a1 n1 c1 w K := by kernel_rfl
  exact vcFun.calls okf_ok follows Try.func58 (e.symm ▸ h)

/-! ### nepenthe/nepentheref01.Invert: function 53 -/
def ref01_Invert.A : Ann := .no
def ref01_Invert.P (a0 : Option Addr) (n0 c0 : Nat) (w : World) (K : SlV × Unit → World → Prop) : Prop :=
  CallV Try.prog 29 #[.int .u8 255, .int .i64 ((n0 : Nat) : Int)] w [.one .sl] fun (r1 : SlV × Unit) w2 =>
  CallV Try.prog 58 #[.slice a0 n0 c0, .slice r1.1.a r1.1.n r1.1.c] w2 [.one .sl] fun (r3 : SlV × Unit) w4 =>
  K (r3.1, ()) w4
theorem ref01_Invert.vc (a0 : Option Addr) (n0 c0 : Nat) (w : World) (K : SlV × Unit → World → Prop) (h : ref01_Invert.P a0 n0 c0 w K) : CallV Try.prog 53 #[.slice a0 n0 c0] w [.one .sl] K := by
  have e : vcFun Try.prog okf false Try.f53 ref01_Invert.A #[.slice a0 n0 c0] w [.one .sl] K = ref01_Invert.P a0 n0 c0 w K := by kernel_rfl
  exact vcFun.calls okf_ok follows Try.func53 (e.symm ▸ h)

/-! ### nepenthe/octet.Fill: function 51 -/
-- loop 0 carries 13: .one (.int .i64)
def octet_Fill.A : Ann := .two .no (.two .no (.two (.two .no (.one (.loop [6, 13, 14, 15, 16, 17, 18, 19, 20] [(13, .one (.int .i64))] .no))) .no))
def octet_Fill.P (p0 : Int) (p1 : Int) (w : World) (K : SlV × Unit → World → Prop) : Prop :=
  NameI (min (65536 : Int) p1) fun z1 =>
  NameI (max (0 : Int) z1) fun z2 =>
  ((0 : Int) ≤ (z2 : Int) ∧ (z2 : Int) ≤ (z2 : Int) ∧ (z2 : Int) ≤ 9223372036854775807 ∧ ((1 : Nat) : Int) * (z2 : Int) ≤ 140737488355328) ∧
  NewV (List.replicate z2.toNat [.int .u8 0]).flatten.toArray 5 w fun b3 w4 =>
  LoopV [.one (.int .i64)] ((0 : Int), ()) w4 fun (z5 : Int × Unit) w6 (K7 : Int × Unit → World → Prop) =>
  cond (decide (z5.1 < ((z2.toNat : Nat) : Int)))
  ((0 ≤ z5.1 ∧ z5.1 < ((z2.toNat : Nat) : Int)) ∧ ∃ q8 : Addr, (some ⟨b3, 0, none⟩) = some q8 ∧
  StoreV w6 (q8.add (z5.1.toNat * 1)) [.int .u8 p0] fun w9 =>
  Rng .i64 (z5.1 + 1) ∧
  K7 (z5.1 + 1, ()) w9)
  (K ((⟨(some ⟨b3, 0, none⟩), z2.toNat, z2.toNat⟩ : SlV), ()) w6)
theorem octet_Fill.vc (p0 : Int) (p1 : Int) (w : World) (K : SlV × Unit → World → Prop) (h : octet_Fill.P p0 p1 w K) : CallV Try.prog 51 #[.int .u8 p0, .int .i64 p1] w [.one .sl] K := by
  have e : vcFun Try.prog okf false Try.f51 octet_Fill.A #[.int .u8 p0, .int .i64 p1] w [.one .sl] K = octet_Fill.P p0 p1 w K := by kernel_rfl
  exact vcFun.calls okf_ok follows Try.func51 (e.symm ▸ h)

/-! ### nepenthe/octet.Big: function 42 -/
-- loop 0 carries 13: .one (.int .i64)
def octet_Big.A : Ann := .two .no (.two .no (.two .no (.two (.two .no (.one (.loop [6, 13, 14, 15, 16, 17, 18, 19, 20, 21, 22, 23, 24, 25, 26, 27] [(13, .one (.int .i64))] .no))) .no)))
def octet_Big.P (p0 : Int) (p1 : Int) (w : World) (K : SlV × Unit → World → Prop) : Prop :=
  NameI (min (8 : Int) p1) fun z1 =>
  NameI (max (0 : Int) z1) fun z2 =>
  ((0 : Int) ≤ (z2 : Int) ∧ (z2 : Int) ≤ (z2 : Int) ∧ (z2 : Int) ≤ 9223372036854775807 ∧ ((1 : Nat) : Int) * (z2 : Int) ≤ 140737488355328) ∧
  NewV (List.replicate z2.toNat [.int .u8 0]).flatten.toArray 5 w fun b3 w4 =>
  LoopV [.one (.int .i64)] ((0 : Int), ()) w4 fun (z5 : Int × Unit) w6 (K7 : Int × Unit → World → Prop) =>
  cond (decide (z5.1 < z2))
  (Rng .i64 (z2 - 1) ∧
  Rng .i64 ((z2 - 1) - z5.1) ∧
  Rng .i64 ((8 : Int) * z5.1) ∧
  (0 : Int) ≤ ((8 : Int) * z5.1) ∧
  (0 ≤ ((z2 - 1) - z5.1) ∧ ((z2 - 1) - z5.1) < ((z2.toNat : Nat) : Int)) ∧ ∃ q8 : Addr, (some ⟨b3, 0, none⟩) = some q8 ∧
  StoreV w6 (q8.add (((z2 - 1) - z5.1).toNat * 1)) [.int .u8 (IntKind.u8.wrap (Int.fdiv p0 (2 ^ (Nat.min (((8 : Int) * z5.1)).toNat 64))))] fun w9 =>
  Rng .i64 (z5.1 + 1) ∧
  K7 (z5.1 + 1, ()) w9)
  (K ((⟨(some ⟨b3, 0, none⟩), z2.toNat, z2.toNat⟩ : SlV), ()) w6)
theorem octet_Big.vc (p0 : Int) (p1 : Int) (w : World) (K : SlV × Unit → World → Prop) (h : octet_Big.P p0 p1 w K) : CallV Try.prog 42 #[.int .u64 p0, .int .i64 p1] w [.one .sl] K := by
  have e : vcFun Try.prog okf false Try.f42 octet_Big.A #[.int .u64 p0, .int .i64 p1] w [.one .sl] K = octet_Big.P p0 p1 w K := by kernel_rfl
  exact vcFun.calls okf_ok follows Try.func42 (e.symm ▸ h)

/-! ### nepenthe/octet.Num: function 49 -/
-- loop 0 carries 3: .one (.int .u64), 13: .one (.int .i64)
def octet_Num.A : Ann := .two .no (.two .no (.two (.two .no (.one (.loop [3, 5, 13, 14, 15, 16, 17, 18, 19, 20, 21, 22] [(3, .one (.int .u64)), (13, .one (.int .i64))] .no))) .no))
def octet_Num.P (a0 : Option Addr) (n0 c0 : Nat) (w : World) (K : Int × Unit → World → Prop) : Prop :=
  Rng .i64 (((n0 : Nat) : Int) - 8) ∧
  NameI (max (0 : Int) (((n0 : Nat) : Int) - 8)) fun z1 =>
  ((0 : Int) ≤ z1 ∧ z1 ≤ ((n0 : Nat) : Int)) ∧
  SubK a0 z1.toNat c0 1 fun a2 =>
  LoopV [.one (.int .u64), .one (.int .i64)] ((0 : Int), (0 : Int), ()) w fun (z3 : Int × Int × Unit) w4 (K5 : Int × Int × Unit → World → Prop) =>
  cond (decide (z3.2.1 < ((n0 - z1.toNat : Nat) : Int)))
  ((0 ≤ z3.2.1 ∧ z3.2.1 < ((n0 - z1.toNat : Nat) : Int)) ∧ ∃ q6 : Addr, a2 = some q6 ∧
  LoadS w4 (q6.add (z3.2.1.toNat * 1)) (.int .u8) fun (x7 : Int) =>
  (0 : Int) ≤ 8 ∧
  Rng .i64 (z3.2.1 + 1) ∧
  K5 (Go.bits .or .u64 (IntKind.u64.wrap (z3.1 * 256)) (IntKind.u64.wrap x7), z3.2.1 + 1, ()) w4)
  (K (z3.1, ()) w4)
theorem octet_Num.vc (a0 : Option Addr) (n0 c0 : Nat) (w : World) (K : Int × Unit → World → Prop) (h : octet_Num.P a0 n0 c0 w K) : CallV Try.prog 49 #[.slice a0 n0 c0] w [.one (.int .u64)] K := by
  have e : vcFun Try.prog okf false Try.f49 octet_Num.A #[.slice a0 n0 c0] w [.one (.int .u64)] K = octet_Num.P a0 n0 c0 w K := by kernel_rfl
  exact vcFun.calls okf_ok follows Try.func49 (e.symm ▸ h)

/-! ### nepenthe/octet.Invert: function 48 -/
-- loop 0 carries 11: .one (.int .i64)
def octet_Invert.A : Ann := .two .no (.two .no (.two (.two .no (.one (.loop [4, 5, 11, 12, 13, 14, 15, 16, 17, 18, 19, 20, 21] [(11, .one (.int .i64))] .no))) .no))
def octet_Invert.P (a0 : Option Addr) (n0 c0 : Nat) (w : World) (K : SlV × Unit → World → Prop) : Prop :=
  ((0 : Int) ≤ (((n0 : Nat) : Int) : Int) ∧ (((n0 : Nat) : Int) : Int) ≤ (((n0 : Nat) : Int) : Int) ∧ (((n0 : Nat) : Int) : Int) ≤ 9223372036854775807 ∧ ((1 : Nat) : Int) * (((n0 : Nat) : Int) : Int) ≤ 140737488355328) ∧
  NewV (List.replicate (((n0 : Nat) : Int).toNat) [.int .u8 0]).flatten.toArray 5 w fun b1 w2 =>
  LoopV [.one (.int .i64)] ((0 : Int), ()) w2 fun (z3 : Int × Unit) w4 (K5 : Int × Unit → World → Prop) =>
  cond (decide (z3.1 < ((n0 : Nat) : Int)))
  ((0 ≤ z3.1 ∧ z3.1 < ((n0 : Nat) : Int)) ∧ ∃ q6 : Addr, a0 = some q6 ∧
  LoadS w4 (q6.add (z3.1.toNat * 1)) (.int .u8) fun (x7 : Int) =>
  (0 ≤ z3.1 ∧ z3.1 < ((((n0 : Nat) : Int).toNat : Nat) : Int)) ∧ ∃ q8 : Addr, (some ⟨b1, 0, none⟩) = some q8 ∧
  StoreV w4 (q8.add (z3.1.toNat * 1)) [.int .u8 (Go.bits .xor .u8 255 x7)] fun w9 =>
  Rng .i64 (z3.1 + 1) ∧
  K5 (z3.1 + 1, ()) w9)
  (K ((⟨(some ⟨b1, 0, none⟩), ((n0 : Nat) : Int).toNat, ((n0 : Nat) : Int).toNat⟩ : SlV), ()) w4)
theorem octet_Invert.vc (a0 : Option Addr) (n0 c0 : Nat) (w : World) (K : SlV × Unit → World → Prop) (h : octet_Invert.P a0 n0 c0 w K) : CallV Try.prog 48 #[.slice a0 n0 c0] w [.one .sl] K := by
  have e : vcFun Try.prog okf false Try.f48 octet_Invert.A #[.slice a0 n0 c0] w [.one .sl] K = octet_Invert.P a0 n0 c0 w K := by kernel_rfl
  exact vcFun.calls okf_ok follows Try.func48 (e.symm ▸ h)

/-! ### nepenthe/octet.Same: function 50 -/
-- loop 0 carries 5: .one (.int .u8), 14: .one (.int .i64)
def octet_Same.A : Ann := .two .no (.two .no (.two .no (.two (.two .no (.one (.loop [5, 6, 14, 15, 16, 17, 18, 19, 20, 21, 22, 23, 24, 25, 26, 27, 28] [(5, .one (.int .u8)), (14, .one (.int .i64))] (.two .no (.two .no (.two (.one (.two .no (.draw (.take 0 (.take 1 (.take 2 (.take 3 (.take 4 (.take 5 (.take 6 (.take 7 (.take 8 (.take 9 (.take 10 (.take 11 (.done)))))))))))))))) .no)))))) .no)))
def octet_Same.P (a0 : Option Addr) (n0 c0 : Nat) (a1 : Option Addr) (n1 c1 : Nat) (w : World) (K : Bool × Unit → World → Prop) : Prop :=
  cond (((n0 : Nat) : Int) != ((n1 : Nat) : Int))
  (K (false, ()) w)
  (LoopV [.one (.int .u8), .one (.int .i64)] ((0 : Int), (0 : Int), ()) w fun (z1 : Int × Int × Unit) w2 (K3 : Int × Int × Unit → World → Prop) =>
  cond (decide (z1.2.1 < ((n0 : Nat) : Int)))
  (DrawV fun D4 =>
  (0 ≤ z1.2.1 ∧ z1.2.1 < ((n0 : Nat) : Int)) ∧ ∃ q5 : Addr, a0 = some q5 ∧
  (D4 (q5.add (z1.2.1.toNat * 1)).block ∧ LoadS w2.drew (q5.add (z1.2.1.toNat * 1)) (.int .u8) fun (x6 : Int) =>
  (0 ≤ z1.2.1 ∧ z1.2.1 < ((n1 : Nat) : Int)) ∧ ∃ q7 : Addr, a1 = some q7 ∧
  (D4 (q7.add (z1.2.1.toNat * 1)).block ∧ LoadS w2.drew (q7.add (z1.2.1.toNat * 1)) (.int .u8) fun (x8 : Int) =>
  Rng .i64 (z1.2.1 + 1) ∧
  K3 (Go.bits .or .u8 z1.1 (Go.bits .xor .u8 x6 x8), z1.2.1 + 1, ()) w2.drew)))
  (K ((z1.1 == 0), ()) w2))
theorem octet_Same.vc (a0 : Option Addr) (n0 c0 : Nat) (a1 : Option Addr) (n1 c1 : Nat) (w : World) (K : Bool × Unit → World → Prop) (h : octet_Same.P a0 n0 c0 a1 n1 c1 w K) : CallV Try.prog 50 #[.slice a0 n0 c0, .slice a1 n1 c1] w [.one .bool] K := by
  have e : vcFun Try.prog okf false Try.f50 octet_Same.A #[.slice a0 n0 c0, .slice a1 n1 c1] w [.one .bool] K = octet_Same.P a0 n0 c0 a1 n1 c1 w K := by kernel_rfl
  exact vcFun.calls okf_ok follows Try.func50 (e.symm ▸ h)

end Go.Proofs.Ytombjhkdakmhpaa.Vc
