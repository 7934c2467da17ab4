/- The plans of functions as plain statements, printed by wip/tools/vcgen.py; the kernel holds each to the code. -/
import Derived.Test.YtombjhkdakmhpaaEnv
namespace Go.Proofs.Ytombjhkdakmhpaa.Vc
open Go Go.Eng
set_option linter.unusedVariables false

/-! ### nepenthe/head.Bytes: function 14 -/
-- loop 0 carries 14: .one (.int .i64)
def head_Bytes.A : Ann := .two .no (.two (.two .no (.one (.loop [2, 3, 5, 14, 15, 16, 17, 18, 19, 20, 21, 22, 23] [(14, .one (.int .i64))] .no))) .no)
def head_Bytes.P (p0_0 : Int) (p0_1 : Int) (p0_2 : Int) (p0_3 : Int) (p0_4 : Int) (p0_5 : Int) (w : World) (K : SlV × Int × Unit → World → Prop) : Prop :=
  NewV #[.int .i64 p0_0, .int .i64 p0_1, .int .i64 p0_2, .int .u32 p0_3, .int .u64 p0_4, .int .u64 p0_5] 25 w fun b1 w2 =>
  LoadS w2 ⟨b1, 0, none⟩ (.int .i64) fun (x3 : Int) =>
  LoadS w2 ⟨b1, 1, none⟩ (.int .i64) fun (x4 : Int) =>
  LoadS w2 ⟨b1, 2, none⟩ (.int .i64) fun (x5 : Int) =>
  LoopV [.one (.int .i64)] ((0 : Int), ()) w2 fun (z6 : Int × Unit) w7 (K8 : Int × Unit → World → Prop) =>
  cond (decide (z6.1 < 3))
  ((0 ≤ z6.1 ∧ z6.1 < (3 : Int)) ∧ ∃ y9 : Int, ([.int .i64 x3, .int .i64 x4, .int .i64 x5] : List Value)[z6.1.toNat * 1]? = some (.int .i64 y9) ∧
  cond (decide (y9 < 0))
  (K ((⟨none, 0, 0⟩ : SlV), (2 : Int), ()) w7)
  (cond (decide (y9 > 255))
  (K ((⟨none, 0, 0⟩ : SlV), (2 : Int), ()) w7)
  (Rng .i64 (z6.1 + 1) ∧
  K8 (z6.1 + 1, ()) w7)))
  (LoadS w7 ⟨b1, 0, none⟩ (.int .i64) fun (x10 : Int) =>
  cond (decide (x10 < 1))
  (K ((⟨none, 0, 0⟩ : SlV), (2 : Int), ()) w7)
  (LoadS w7 ⟨b1, 0, none⟩ (.int .i64) fun (x11 : Int) =>
  cond (decide (x11 > 4))
  (K ((⟨none, 0, 0⟩ : SlV), (2 : Int), ()) w7)
  (LoadS w7 ⟨b1, 0, none⟩ (.int .i64) fun (x12 : Int) =>
  LoadS w7 ⟨b1, 1, none⟩ (.int .i64) fun (x13 : Int) =>
  LoadS w7 ⟨b1, 2, none⟩ (.int .i64) fun (x14 : Int) =>
  NewV #[.int .u8 (IntKind.u8.wrap x12), .int .u8 (IntKind.u8.wrap x13), .int .u8 (IntKind.u8.wrap x14), .int .u8 0] 5 w7 fun b15 w16 =>
  LoadS w16 ⟨b1, 3, none⟩ (.int .u32) fun (x17 : Int) =>
  CallV Try.prog 42 #[.int .u64 (IntKind.u64.wrap x17), .int .i64 4] w16 [.one .sl] fun (r18 : SlV × Unit) w19 =>
  AppS w19 r18.1.a r18.1.n 1 fun ns24 =>
  AppV w19 5 1 1 (some ⟨b15, 0, none⟩) 4 4 ns24 r18.1.n fun a20 n21 c22 w23 =>
  LoadS w23 ⟨b1, 4, none⟩ (.int .u64) fun (x25 : Int) =>
  CallV Try.prog 42 #[.int .u64 x25, .int .i64 8] w23 [.one .sl] fun (r26 : SlV × Unit) w27 =>
  AppS w27 r26.1.a r26.1.n 1 fun ns32 =>
  AppV w27 5 1 1 a20 n21 c22 ns32 r26.1.n fun a28 n29 c30 w31 =>
  LoadS w31 ⟨b1, 5, none⟩ (.int .u64) fun (x33 : Int) =>
  CallV Try.prog 42 #[.int .u64 x33, .int .i64 8] w31 [.one .sl] fun (r34 : SlV × Unit) w35 =>
  AppS w35 r34.1.a r34.1.n 1 fun ns40 =>
  AppV w35 5 1 1 a28 n29 c30 ns40 r34.1.n fun a36 n37 c38 w39 =>
  K ((⟨a36, n37, c38⟩ : SlV), (0 : Int), ()) w39)))
theorem head_Bytes.vc (p0_0 : Int) (p0_1 : Int) (p0_2 : Int) (p0_3 : Int) (p0_4 : Int) (p0_5 : Int) (w : World) (K : SlV × Int × Unit → World → Prop) (h : head_Bytes.P p0_0 p0_1 p0_2 p0_3 p0_4 p0_5 w K) : CallV Try.prog 14 #[.agg #[.int .i64 p0_0, .int .i64 p0_1, .int .i64 p0_2, .int .u32 p0_3, .int .u64 p0_4, .int .u64 p0_5]] w [.one .sl, .one (.int .i64)] K := by
  have e : vcFun Try.prog okf false Try.f14 head_Bytes.A #[.agg #[.int .i64 p0_0, .int .i64 p0_1, .int .i64 p0_2, .int .u32 p0_3, .int .u64 p0_4, .int .u64 p0_5]] w [.one .sl, .one (.int .i64)] K = head_Bytes.P p0_0 p0_1 p0_2 p0_3 p0_4 p0_5 w K := by kernel_rfl
  exact vcFun.calls okf_ok follows Try.func14 (e.symm ▸ h)

/-! ### nepenthe/nepentheref14.Right: function 15 -/
def ref14_Right.A : Ann := .no
def ref14_Right.P (p0_0 : Int) (p0_1 : Int) (p0_2 : Int) (p0_3 : Int) (p0_4 : Int) (p0_5 : Int) (w : World) (K : Bool × Unit → World → Prop) : Prop :=
  NewV #[.int .i64 p0_0, .int .i64 p0_1, .int .i64 p0_2, .int .u32 p0_3, .int .u64 p0_4, .int .u64 p0_5] 25 w fun b1 w2 =>
  LoadS w2 ⟨b1, 0, none⟩ (.int .i64) fun (x3 : Int) =>
  cond (decide (x3 ≥ 1))
  (LoadS w2 ⟨b1, 0, none⟩ (.int .i64) fun (x4 : Int) =>
  cond (decide (x4 ≤ 4))
  (LoadS w2 ⟨b1, 1, none⟩ (.int .i64) fun (x5 : Int) =>
  cond (decide (x5 ≥ 0))
  (LoadS w2 ⟨b1, 1, none⟩ (.int .i64) fun (x6 : Int) =>
  cond (decide (x6 ≤ 255))
  (LoadS w2 ⟨b1, 2, none⟩ (.int .i64) fun (x7 : Int) =>
  cond (decide (x7 ≥ 0))
  (LoadS w2 ⟨b1, 2, none⟩ (.int .i64) fun (x8 : Int) =>
  K (decide (x8 ≤ 255), ()) w2)
  (K (false, ()) w2))
  (K (false, ()) w2))
  (K (false, ()) w2))
  (K (false, ()) w2))
  (K (false, ()) w2)
theorem ref14_Right.vc (p0_0 : Int) (p0_1 : Int) (p0_2 : Int) (p0_3 : Int) (p0_4 : Int) (p0_5 : Int) (w : World) (K : Bool × Unit → World → Prop) (h : ref14_Right.P p0_0 p0_1 p0_2 p0_3 p0_4 p0_5 w K) : CallV Try.prog 15 #[.agg #[.int .i64 p0_0, .int .i64 p0_1, .int .i64 p0_2, .int .u32 p0_3, .int .u64 p0_4, .int .u64 p0_5]] w [.one .bool] K := by
  have e : vcFun Try.prog okf false Try.f15 ref14_Right.A #[.agg #[.int .i64 p0_0, .int .i64 p0_1, .int .i64 p0_2, .int .u32 p0_3, .int .u64 p0_4, .int .u64 p0_5]] w [.one .bool] K = ref14_Right.P p0_0 p0_1 p0_2 p0_3 p0_4 p0_5 w K := by kernel_rfl
  exact vcFun.calls okf_ok follows Try.func15 (e.symm ▸ h)

/-! ### nepenthe/nepenthelaw14.awake: function 16 -/
def law14_awake.A : Ann := .no
def law14_awake.P  (w : World) (K : Bool × Unit → World → Prop) : Prop :=
  CallV Try.prog 14 #[.agg #[.int .i64 1, .int .i64 2, .int .i64 0, .int .u32 0, .int .u64 0, .int .u64 5]] w [.one .sl, .one (.int .i64)] fun (r1 : SlV × Int × Unit) w2 =>
  cond (r1.2.1 == 0)
  (cond (((r1.1.n : Nat) : Int) == 24)
  ((0 ≤ (23 : Int) ∧ 23 < ((r1.1.n : Nat) : Int)) ∧ ∃ q3 : Addr, r1.1.a = some q3 ∧
  LoadS w2 (q3.add (23 * 1)) (.int .u8) fun (x4 : Int) =>
  cond (x4 == 5)
  (CallV Try.prog 41 #[.int .i64 88] w2 [.one .sl] fun (r5 : SlV × Unit) w6 =>
  K ((((r5.1.n : Nat) : Int) == 88), ()) w6)
  (K (false, ()) w2))
  (K (false, ()) w2))
  (K (false, ()) w2)
theorem law14_awake.vc  (w : World) (K : Bool × Unit → World → Prop) (h : law14_awake.P  w K) : CallV Try.prog 16 #[] w [.one .bool] K := by
  have e : vcFun Try.prog okf false Try.f16 law14_awake.A #[] w [.one .bool] K = law14_awake.P  w K := by kernel_rfl
  exact vcFun.calls okf_ok follows Try.func16 (e.symm ▸ h)

/-! ### nepenthe/nepentheref14.Bytes: function 18 -/
def ref14_Bytes.A : Ann := .two .no (.two (.draw (.take 0 (.take 1 (.take 2 (.take 3 (.take 4 (.take 5 (.take 6 (.take 7 (.take 8 (.take 10 (.take 11 (.take 12 (.both 9 (.eff 13 (.eff 14 (.take 15 (.done)))) 13 (.eff 9 (.eff 14 (.take 15 (.done)))))))))))))))))) .no)
def ref14_Bytes.P (p0_0 : Int) (p0_1 : Int) (p0_2 : Int) (p0_3 : Int) (p0_4 : Int) (p0_5 : Int) (w : World) (K : SlV × Unit → World → Prop) : Prop :=
  NewV #[.int .i64 p0_0, .int .i64 p0_1, .int .i64 p0_2, .int .u32 p0_3, .int .u64 p0_4, .int .u64 p0_5] 25 w fun b1 w2 =>
  DrawV fun D3 =>
  (D3 b1 ∧ LoadS w2.drew ⟨b1, 0, none⟩ (.int .i64) fun (x4 : Int) =>
  (D3 b1 ∧ LoadS w2.drew ⟨b1, 1, none⟩ (.int .i64) fun (x5 : Int) =>
  (D3 b1 ∧ LoadS w2.drew ⟨b1, 2, none⟩ (.int .i64) fun (x6 : Int) =>
  (D3 b1 ∧ LoadS w2.drew ⟨b1, 3, none⟩ (.int .u32) fun (x7 : Int) =>
  ((NewV #[.int .u8 (IntKind.u8.wrap x4), .int .u8 (IntKind.u8.wrap x5), .int .u8 (IntKind.u8.wrap x6), .int .u8 0] 5 w2.drew fun b8 w9 =>
  KeepOn D3 w2.drew w9 ∧
  CallV Try.prog 43 #[.int .u64 (IntKind.u64.wrap x7), .int .i64 4] w9 [.one .sl] fun (r10 : SlV × Unit) w11 =>
  KeepOn D3 w2.drew w11 ∧
  AppS w11 r10.1.a r10.1.n 1 fun ns16 =>
  AppV w11 5 1 1 (some ⟨b8, 0, none⟩) 4 4 ns16 r10.1.n fun a12 n13 c14 w15 =>
  KeepOn D3 w2.drew w15 ∧
  LoadS w15 ⟨b1, 4, none⟩ (.int .u64) fun (x17 : Int) =>
  CallV Try.prog 43 #[.int .u64 x17, .int .i64 8] w15 [.one .sl] fun (r18 : SlV × Unit) w19 =>
  AppS w19 r18.1.a r18.1.n 1 fun ns24 =>
  AppV w19 5 1 1 a12 n13 c14 ns24 r18.1.n fun a20 n21 c22 w23 =>
  LoadS w23 ⟨b1, 5, none⟩ (.int .u64) fun (x25 : Int) =>
  CallV Try.prog 43 #[.int .u64 x25, .int .i64 8] w23 [.one .sl] fun (r26 : SlV × Unit) w27 =>
  AppS w27 r26.1.a r26.1.n 1 fun ns32 =>
  AppV w27 5 1 1 a20 n21 c22 ns32 r26.1.n fun a28 n29 c30 w31 =>
  K ((⟨a28, n29, c30⟩ : SlV), ()) w31) ∧
  (CallV Try.prog 43 #[.int .u64 (IntKind.u64.wrap x7), .int .i64 4] w2.drew [.one .sl] fun (r33 : SlV × Unit) w34 =>
  KeepOn D3 w2.drew w34 ∧
  NewV #[.int .u8 (IntKind.u8.wrap x4), .int .u8 (IntKind.u8.wrap x5), .int .u8 (IntKind.u8.wrap x6), .int .u8 0] 5 w34 fun b35 w36 =>
  KeepOn D3 w2.drew w36 ∧
  AppS w36 r33.1.a r33.1.n 1 fun ns41 =>
  AppV w36 5 1 1 (some ⟨b35, 0, none⟩) 4 4 ns41 r33.1.n fun a37 n38 c39 w40 =>
  KeepOn D3 w2.drew w40 ∧
  LoadS w40 ⟨b1, 4, none⟩ (.int .u64) fun (x42 : Int) =>
  CallV Try.prog 43 #[.int .u64 x42, .int .i64 8] w40 [.one .sl] fun (r43 : SlV × Unit) w44 =>
  AppS w44 r43.1.a r43.1.n 1 fun ns49 =>
  AppV w44 5 1 1 a37 n38 c39 ns49 r43.1.n fun a45 n46 c47 w48 =>
  LoadS w48 ⟨b1, 5, none⟩ (.int .u64) fun (x50 : Int) =>
  CallV Try.prog 43 #[.int .u64 x50, .int .i64 8] w48 [.one .sl] fun (r51 : SlV × Unit) w52 =>
  AppS w52 r51.1.a r51.1.n 1 fun ns57 =>
  AppV w52 5 1 1 a45 n46 c47 ns57 r51.1.n fun a53 n54 c55 w56 =>
  K ((⟨a53, n54, c55⟩ : SlV), ()) w56))))))
theorem ref14_Bytes.vc (p0_0 : Int) (p0_1 : Int) (p0_2 : Int) (p0_3 : Int) (p0_4 : Int) (p0_5 : Int) (w : World) (K : SlV × Unit → World → Prop) (h : ref14_Bytes.P p0_0 p0_1 p0_2 p0_3 p0_4 p0_5 w K) : CallV Try.prog 18 #[.agg #[.int .i64 p0_0, .int .i64 p0_1, .int .i64 p0_2, .int .u32 p0_3, .int .u64 p0_4, .int .u64 p0_5]] w [.one .sl] K := by
  have e : vcFun Try.prog okf false Try.f18 ref14_Bytes.A #[.agg #[.int .i64 p0_0, .int .i64 p0_1, .int .i64 p0_2, .int .u32 p0_3, .int .u64 p0_4, .int .u64 p0_5]] w [.one .sl] K = ref14_Bytes.P p0_0 p0_1 p0_2 p0_3 p0_4 p0_5 w K := by kernel_rfl
  exact vcFun.calls okf_ok follows Try.func18 (e.symm ▸ h)

/-! ### nepenthe/head.Less: function 22 -/
def head_Less.A : Ann := .no
def head_Less.P (p0_0 : Int) (p0_1 : Int) (p0_2 : Int) (p0_3 : Int) (p0_4 : Int) (p0_5 : Int) (p1_0 : Int) (p1_1 : Int) (p1_2 : Int) (p1_3 : Int) (p1_4 : Int) (p1_5 : Int) (w : World) (K : Bool × Unit → World → Prop) : Prop :=
  NewV #[.int .i64 p0_0, .int .i64 p0_1, .int .i64 p0_2, .int .u32 p0_3, .int .u64 p0_4, .int .u64 p0_5] 25 w fun b1 w2 =>
  NewV #[.int .i64 p1_0, .int .i64 p1_1, .int .i64 p1_2, .int .u32 p1_3, .int .u64 p1_4, .int .u64 p1_5] 25 w2 fun b3 w4 =>
  LoadS w4 ⟨b1, 4, none⟩ (.int .u64) fun (x5 : Int) =>
  LoadS w4 ⟨b3, 4, none⟩ (.int .u64) fun (x6 : Int) =>
  cond (x5 != x6)
  (LoadS w4 ⟨b1, 4, none⟩ (.int .u64) fun (x7 : Int) =>
  LoadS w4 ⟨b3, 4, none⟩ (.int .u64) fun (x8 : Int) =>
  K (decide (x7 < x8), ()) w4)
  (LoadS w4 ⟨b1, 5, none⟩ (.int .u64) fun (x9 : Int) =>
  LoadS w4 ⟨b3, 5, none⟩ (.int .u64) fun (x10 : Int) =>
  K (decide (x9 < x10), ()) w4)
theorem head_Less.vc (p0_0 : Int) (p0_1 : Int) (p0_2 : Int) (p0_3 : Int) (p0_4 : Int) (p0_5 : Int) (p1_0 : Int) (p1_1 : Int) (p1_2 : Int) (p1_3 : Int) (p1_4 : Int) (p1_5 : Int) (w : World) (K : Bool × Unit → World → Prop) (h : head_Less.P p0_0 p0_1 p0_2 p0_3 p0_4 p0_5 p1_0 p1_1 p1_2 p1_3 p1_4 p1_5 w K) : CallV Try.prog 22 #[.agg #[.int .i64 p0_0, .int .i64 p0_1, .int .i64 p0_2, .int .u32 p0_3, .int .u64 p0_4, .int .u64 p0_5], .agg #[.int .i64 p1_0, .int .i64 p1_1, .int .i64 p1_2, .int .u32 p1_3, .int .u64 p1_4, .int .u64 p1_5]] w [.one .bool] K := by
  have e : vcFun Try.prog okf false Try.f22 head_Less.A #[.agg #[.int .i64 p0_0, .int .i64 p0_1, .int .i64 p0_2, .int .u32 p0_3, .int .u64 p0_4, .int .u64 p0_5], .agg #[.int .i64 p1_0, .int .i64 p1_1, .int .i64 p1_2, .int .u32 p1_3, .int .u64 p1_4, .int .u64 p1_5]] w [.one .bool] K = head_Less.P p0_0 p0_1 p0_2 p0_3 p0_4 p0_5 p1_0 p1_1 p1_2 p1_3 p1_4 p1_5 w K := by kernel_rfl
  exact vcFun.calls okf_ok follows Try.func22 (e.symm ▸ h)

/-! ### nepenthe/head.Mark: function 41 -/
def head_Mark.A : Ann := .no
def head_Mark.P (p0 : Int) (w : World) (K : SlV × Unit → World → Prop) : Prop :=
  cond (decide (p0 < 88))
  (K ((⟨none, 0, 0⟩ : SlV), ()) w)
  (cond (decide (p0 > 4184))
  (K ((⟨none, 0, 0⟩ : SlV), ()) w)
  (Rng .i64 (p0 - 8) ∧
  CallV Try.prog 51 #[.int .u8 255, .int .i64 (p0 - 8)] w [.one .sl] fun (r1 : SlV × Unit) w2 =>
  CallV Try.prog 51 #[.int .u8 0, .int .i64 8] w2 [.one .sl] fun (r3 : SlV × Unit) w4 =>
  AppS w4 r3.1.a r3.1.n 1 fun ns9 =>
  AppV w4 5 1 1 r1.1.a r1.1.n r1.1.c ns9 r3.1.n fun a5 n6 c7 w8 =>
  K ((⟨a5, n6, c7⟩ : SlV), ()) w8))
theorem head_Mark.vc (p0 : Int) (w : World) (K : SlV × Unit → World → Prop) (h : head_Mark.P p0 w K) : CallV Try.prog 41 #[.int .i64 p0] w [.one .sl] K := by
  have e : vcFun Try.prog okf false Try.f41 head_Mark.A #[.int .i64 p0] w [.one .sl] K = head_Mark.P p0 w K := by kernel_rfl
  exact vcFun.calls okf_ok follows Try.func41 (e.symm ▸ h)

/-! ### nepenthe/head.Read: function 35 -/
def head_Read.A : Ann := .two .no (.two .no (.two (.draw (.take 0 (.take 1 (.take 2 (.take 3 (.take 4 (.take 5 (.done)))))))) (.two (.draw (.take 0 (.take 1 (.take 2 (.take 3 (.take 4 (.take 5 (.take 6 (.take 7 (.take 8 (.take 9 (.take 10 (.take 11 (.take 12 (.take 13 (.take 16 (.take 17 (.take 19 (.take 20 (.both 14 (.take 15 (.both 18 (.both 21 (.take 22 (.eff 23 (.eff 24 (.done)))) 23 (.eff 21 (.take 22 (.eff 24 (.done))))) 23 (.eff 18 (.eff 21 (.take 22 (.eff 24 (.done))))))) 23 (.eff 14 (.take 15 (.eff 18 (.eff 21 (.take 22 (.eff 24 (.done))))))))))))))))))))))))))) (.two (.two (.draw (.take 0 (.take 2 (.take 3 (.eff 1 (.eff 4 (.take 5 (.take 6 (.take 7 (.take 8 (.take 9 (.take 10 (.take 11 (.take 12 (.take 13 (.take 14 (.take 15 (.take 16 (.take 17 (.take 18 (.take 19 (.take 20 (.take 21 (.done)))))))))))))))))))))))) .no) (.two (.draw (.take 0 (.take 2 (.eff 1 (.eff 3 (.eff 4 (.take 5 (.take 6 (.done))))))))) .no)))))
def head_Read.P (a0 : Option Addr) (n0 c0 : Nat) (w : World) (K : (Int × Int × Int × Int × Int × Int × Unit) × SlV × Int × Unit → World → Prop) : Prop :=
  NewV #[.int .i64 0, .int .i64 0, .int .i64 0, .int .u32 0, .int .u64 0, .int .u64 0] 25 w fun b1 w2 =>
  cond (((n0 : Nat) : Int) != 88)
  (StoreV w2 ⟨b1, 0, none⟩ [.int .i64 0, .int .i64 0, .int .i64 0, .int .u32 0, .int .u64 0, .int .u64 0] fun w3 =>
  LoadA w3 ⟨b1, 0, none⟩ [.int .i64, .int .i64, .int .i64, .int .u32, .int .u64, .int .u64] fun (x4 : Int × Int × Int × Int × Int × Int × Unit) =>
  K ((x4.1, x4.2.1, x4.2.2.1, x4.2.2.2.1, x4.2.2.2.2.1, x4.2.2.2.2.2.1, ()), (⟨none, 0, 0⟩ : SlV), (2 : Int), ()) w3)
  (DrawV fun D5 =>
  ((0 : Int) ≤ (24 : Int) ∧ (24 : Int) ≤ ((c0 : Nat) : Int)) ∧
  SubK a0 0 c0 1 fun a6 =>
  ((0 : Int) ≤ (48 : Int) ∧ (48 : Int) ≤ (80 : Int) ∧ (80 : Int) ≤ ((c0 : Nat) : Int)) ∧
  SubK a0 48 c0 1 fun a7 =>
  DrawV fun D8 =>
  (0 ≤ (0 : Int) ∧ 0 < ((24 - 0 : Nat) : Int)) ∧ ∃ q9 : Addr, a6 = some q9 ∧
  (D8 (q9.add (0 * 1)).block ∧ LoadS w2.drew.drew (q9.add (0 * 1)) (.int .u8) fun (x10 : Int) =>
  (0 ≤ (1 : Int) ∧ 1 < ((24 - 0 : Nat) : Int)) ∧ ∃ q11 : Addr, a6 = some q11 ∧
  (D8 (q11.add (1 * 1)).block ∧ LoadS w2.drew.drew (q11.add (1 * 1)) (.int .u8) fun (x12 : Int) =>
  (0 ≤ (2 : Int) ∧ 2 < ((24 - 0 : Nat) : Int)) ∧ ∃ q13 : Addr, a6 = some q13 ∧
  (D8 (q13.add (2 * 1)).block ∧ LoadS w2.drew.drew (q13.add (2 * 1)) (.int .u8) fun (x14 : Int) =>
  ((0 : Int) ≤ (4 : Int) ∧ (4 : Int) ≤ (8 : Int) ∧ (8 : Int) ≤ ((c0 - 0 : Nat) : Int)) ∧
  SubK a6 4 (c0 - 0) 1 fun a15 =>
  ((0 : Int) ≤ (8 : Int) ∧ (8 : Int) ≤ (16 : Int) ∧ (16 : Int) ≤ ((c0 - 0 : Nat) : Int)) ∧
  SubK a6 8 (c0 - 0) 1 fun a16 =>
  ((0 : Int) ≤ (16 : Int) ∧ (16 : Int) ≤ (24 : Int) ∧ (24 : Int) ≤ ((c0 - 0 : Nat) : Int)) ∧
  SubK a6 16 (c0 - 0) 1 fun a17 =>
  ((CallV Try.prog 49 #[.slice a15 (8 - 4) ((c0 - 0) - 4)] w2.drew.drew [.one (.int .u64)] fun (r18 : Int × Unit) w19 =>
  KeepOn D8 w2.drew.drew w19 ∧
  ((CallV Try.prog 49 #[.slice a16 (16 - 8) ((c0 - 0) - 8)] w19 [.one (.int .u64)] fun (r20 : Int × Unit) w21 =>
  KeepOn D8 w2.drew.drew w21 ∧
  ((CallV Try.prog 49 #[.slice a17 (24 - 16) ((c0 - 0) - 16)] w21 [.one (.int .u64)] fun (r22 : Int × Unit) w23 =>
  KeepOn D8 w2.drew.drew w23 ∧
  NewV #[.int .i64 0, .int .i64 0, .int .i64 0, .int .u32 0, .int .u64 0, .int .u64 0] 25 w23 fun b24 w25 =>
  KeepOn D8 w2.drew.drew w25 ∧
  StoreV w25 ⟨b24, 0, none⟩ [.int .i64 (IntKind.i64.wrap x10), .int .i64 (IntKind.i64.wrap x12), .int .i64 (IntKind.i64.wrap x14), .int .u32 (IntKind.u32.wrap r18.1), .int .u64 r20.1, .int .u64 r22.1] fun w26 =>
  KeepOn D8 w2.drew.drew w26 ∧
  DrawV fun D27 =>
  ((0 : Int) ≤ (24 : Int) ∧ (24 : Int) ≤ (48 : Int) ∧ (48 : Int) ≤ ((c0 : Nat) : Int)) ∧
  SubK a0 24 c0 1 fun a28 =>
  CallV Try.prog 48 #[.slice a6 (24 - 0) (c0 - 0)] w26.drew [.one .sl] fun (r29 : SlV × Unit) w30 =>
  KeepOn D27 w26.drew w30 ∧
  CallV Try.prog 50 #[.slice r29.1.a r29.1.n r29.1.c, .slice a28 (48 - 24) (c0 - 24)] w30 [.one .bool] fun (r31 : Bool × Unit) w32 =>
  KeepOn D27 w26.drew w32 ∧
  cond (!r31.1)
  (StoreV w32 ⟨b1, 0, none⟩ [.int .i64 0, .int .i64 0, .int .i64 0, .int .u32 0, .int .u64 0, .int .u64 0] fun w33 =>
  LoadA w33 ⟨b1, 0, none⟩ [.int .i64, .int .i64, .int .i64, .int .u32, .int .u64, .int .u64] fun (x34 : Int × Int × Int × Int × Int × Int × Unit) =>
  K ((x34.1, x34.2.1, x34.2.2.1, x34.2.2.2.1, x34.2.2.2.2.1, x34.2.2.2.2.2.1, ()), (⟨none, 0, 0⟩ : SlV), (1 : Int), ()) w33)
  ((0 ≤ (3 : Int) ∧ 3 < ((24 - 0 : Nat) : Int)) ∧ ∃ q35 : Addr, a6 = some q35 ∧
  (D27 (q35.add (3 * 1)).block ∧ LoadS w26.drew (q35.add (3 * 1)) (.int .u8) fun (x36 : Int) =>
  cond (x36 != 0)
  (StoreV w32 ⟨b1, 0, none⟩ [.int .i64 0, .int .i64 0, .int .i64 0, .int .u32 0, .int .u64 0, .int .u64 0] fun w37 =>
  LoadA w37 ⟨b1, 0, none⟩ [.int .i64, .int .i64, .int .i64, .int .u32, .int .u64, .int .u64] fun (x38 : Int × Int × Int × Int × Int × Int × Unit) =>
  K ((x38.1, x38.2.1, x38.2.2.1, x38.2.2.2.1, x38.2.2.2.2.1, x38.2.2.2.2.2.1, ()), (⟨none, 0, 0⟩ : SlV), (1 : Int), ()) w37)
  ((D27 b24 ∧ LoadS w26.drew ⟨b24, 0, none⟩ (.int .i64) fun (x39 : Int) =>
  cond (decide (x39 < 1))
  (StoreV w32 ⟨b1, 0, none⟩ [.int .i64 0, .int .i64 0, .int .i64 0, .int .u32 0, .int .u64 0, .int .u64 0] fun w40 =>
  LoadA w40 ⟨b1, 0, none⟩ [.int .i64, .int .i64, .int .i64, .int .u32, .int .u64, .int .u64] fun (x41 : Int × Int × Int × Int × Int × Int × Unit) =>
  K ((x41.1, x41.2.1, x41.2.2.1, x41.2.2.2.1, x41.2.2.2.2.1, x41.2.2.2.2.2.1, ()), (⟨none, 0, 0⟩ : SlV), (1 : Int), ()) w40)
  ((D27 b24 ∧ LoadS w26.drew ⟨b24, 0, none⟩ (.int .i64) fun (x42 : Int) =>
  cond (decide (x42 > 4))
  (StoreV w32 ⟨b1, 0, none⟩ [.int .i64 0, .int .i64 0, .int .i64 0, .int .u32 0, .int .u64 0, .int .u64 0] fun w43 =>
  LoadA w43 ⟨b1, 0, none⟩ [.int .i64, .int .i64, .int .i64, .int .u32, .int .u64, .int .u64] fun (x44 : Int × Int × Int × Int × Int × Int × Unit) =>
  K ((x44.1, x44.2.1, x44.2.2.1, x44.2.2.2.1, x44.2.2.2.2.1, x44.2.2.2.2.2.1, ()), (⟨none, 0, 0⟩ : SlV), (1 : Int), ()) w43)
  (DrawV fun D45 =>
  (D45 b24 ∧ LoadA w32.drew ⟨b24, 0, none⟩ [.int .i64, .int .i64, .int .i64, .int .u32, .int .u64, .int .u64] fun (x46 : Int × Int × Int × Int × Int × Int × Unit) =>
  NewV #[] 5 w32.drew fun b47 w48 =>
  KeepOn D45 w32.drew w48 ∧
  AppS w48 a7 (80 - 48) 1 fun ns53 =>
  AppV w48 5 1 1 (some ⟨b47, 0, none⟩) 0 0 ns53 (80 - 48) fun a49 n50 c51 w52 =>
  KeepOn D45 w32.drew w52 ∧
  StoreV w52 ⟨b1, 0, none⟩ [.int .i64 x46.1, .int .i64 x46.2.1, .int .i64 x46.2.2.1, .int .u32 x46.2.2.2.1, .int .u64 x46.2.2.2.2.1, .int .u64 x46.2.2.2.2.2.1] fun w54 =>
  KeepOn D45 w32.drew w54 ∧
  LoadA w54 ⟨b1, 0, none⟩ [.int .i64, .int .i64, .int .i64, .int .u32, .int .u64, .int .u64] fun (x55 : Int × Int × Int × Int × Int × Int × Unit) =>
  K ((x55.1, x55.2.1, x55.2.2.1, x55.2.2.2.1, x55.2.2.2.2.1, x55.2.2.2.2.2.1, ()), (⟨a49, n50, c51⟩ : SlV), (0 : Int), ()) w54))))))))) ∧
  (NewV #[.int .i64 0, .int .i64 0, .int .i64 0, .int .u32 0, .int .u64 0, .int .u64 0] 25 w21 fun b56 w57 =>
  KeepOn D8 w2.drew.drew w57 ∧
  CallV Try.prog 49 #[.slice a17 (24 - 16) ((c0 - 0) - 16)] w57 [.one (.int .u64)] fun (r58 : Int × Unit) w59 =>
  KeepOn D8 w2.drew.drew w59 ∧
  StoreV w59 ⟨b56, 0, none⟩ [.int .i64 (IntKind.i64.wrap x10), .int .i64 (IntKind.i64.wrap x12), .int .i64 (IntKind.i64.wrap x14), .int .u32 (IntKind.u32.wrap r18.1), .int .u64 r20.1, .int .u64 r58.1] fun w60 =>
  KeepOn D8 w2.drew.drew w60 ∧
  DrawV fun D61 =>
  ((0 : Int) ≤ (24 : Int) ∧ (24 : Int) ≤ (48 : Int) ∧ (48 : Int) ≤ ((c0 : Nat) : Int)) ∧
  SubK a0 24 c0 1 fun a62 =>
  CallV Try.prog 48 #[.slice a6 (24 - 0) (c0 - 0)] w60.drew [.one .sl] fun (r63 : SlV × Unit) w64 =>
  KeepOn D61 w60.drew w64 ∧
  CallV Try.prog 50 #[.slice r63.1.a r63.1.n r63.1.c, .slice a62 (48 - 24) (c0 - 24)] w64 [.one .bool] fun (r65 : Bool × Unit) w66 =>
  KeepOn D61 w60.drew w66 ∧
  cond (!r65.1)
  (StoreV w66 ⟨b1, 0, none⟩ [.int .i64 0, .int .i64 0, .int .i64 0, .int .u32 0, .int .u64 0, .int .u64 0] fun w67 =>
  LoadA w67 ⟨b1, 0, none⟩ [.int .i64, .int .i64, .int .i64, .int .u32, .int .u64, .int .u64] fun (x68 : Int × Int × Int × Int × Int × Int × Unit) =>
  K ((x68.1, x68.2.1, x68.2.2.1, x68.2.2.2.1, x68.2.2.2.2.1, x68.2.2.2.2.2.1, ()), (⟨none, 0, 0⟩ : SlV), (1 : Int), ()) w67)
  ((0 ≤ (3 : Int) ∧ 3 < ((24 - 0 : Nat) : Int)) ∧ ∃ q69 : Addr, a6 = some q69 ∧
  (D61 (q69.add (3 * 1)).block ∧ LoadS w60.drew (q69.add (3 * 1)) (.int .u8) fun (x70 : Int) =>
  cond (x70 != 0)
  (StoreV w66 ⟨b1, 0, none⟩ [.int .i64 0, .int .i64 0, .int .i64 0, .int .u32 0, .int .u64 0, .int .u64 0] fun w71 =>
  LoadA w71 ⟨b1, 0, none⟩ [.int .i64, .int .i64, .int .i64, .int .u32, .int .u64, .int .u64] fun (x72 : Int × Int × Int × Int × Int × Int × Unit) =>
  K ((x72.1, x72.2.1, x72.2.2.1, x72.2.2.2.1, x72.2.2.2.2.1, x72.2.2.2.2.2.1, ()), (⟨none, 0, 0⟩ : SlV), (1 : Int), ()) w71)
  ((D61 b56 ∧ LoadS w60.drew ⟨b56, 0, none⟩ (.int .i64) fun (x73 : Int) =>
  cond (decide (x73 < 1))
  (StoreV w66 ⟨b1, 0, none⟩ [.int .i64 0, .int .i64 0, .int .i64 0, .int .u32 0, .int .u64 0, .int .u64 0] fun w74 =>
  LoadA w74 ⟨b1, 0, none⟩ [.int .i64, .int .i64, .int .i64, .int .u32, .int .u64, .int .u64] fun (x75 : Int × Int × Int × Int × Int × Int × Unit) =>
  K ((x75.1, x75.2.1, x75.2.2.1, x75.2.2.2.1, x75.2.2.2.2.1, x75.2.2.2.2.2.1, ()), (⟨none, 0, 0⟩ : SlV), (1 : Int), ()) w74)
  ((D61 b56 ∧ LoadS w60.drew ⟨b56, 0, none⟩ (.int .i64) fun (x76 : Int) =>
  cond (decide (x76 > 4))
  (StoreV w66 ⟨b1, 0, none⟩ [.int .i64 0, .int .i64 0, .int .i64 0, .int .u32 0, .int .u64 0, .int .u64 0] fun w77 =>
  LoadA w77 ⟨b1, 0, none⟩ [.int .i64, .int .i64, .int .i64, .int .u32, .int .u64, .int .u64] fun (x78 : Int × Int × Int × Int × Int × Int × Unit) =>
  K ((x78.1, x78.2.1, x78.2.2.1, x78.2.2.2.1, x78.2.2.2.2.1, x78.2.2.2.2.2.1, ()), (⟨none, 0, 0⟩ : SlV), (1 : Int), ()) w77)
  (DrawV fun D79 =>
  (D79 b56 ∧ LoadA w66.drew ⟨b56, 0, none⟩ [.int .i64, .int .i64, .int .i64, .int .u32, .int .u64, .int .u64] fun (x80 : Int × Int × Int × Int × Int × Int × Unit) =>
  NewV #[] 5 w66.drew fun b81 w82 =>
  KeepOn D79 w66.drew w82 ∧
  AppS w82 a7 (80 - 48) 1 fun ns87 =>
  AppV w82 5 1 1 (some ⟨b81, 0, none⟩) 0 0 ns87 (80 - 48) fun a83 n84 c85 w86 =>
  KeepOn D79 w66.drew w86 ∧
  StoreV w86 ⟨b1, 0, none⟩ [.int .i64 x80.1, .int .i64 x80.2.1, .int .i64 x80.2.2.1, .int .u32 x80.2.2.2.1, .int .u64 x80.2.2.2.2.1, .int .u64 x80.2.2.2.2.2.1] fun w88 =>
  KeepOn D79 w66.drew w88 ∧
  LoadA w88 ⟨b1, 0, none⟩ [.int .i64, .int .i64, .int .i64, .int .u32, .int .u64, .int .u64] fun (x89 : Int × Int × Int × Int × Int × Int × Unit) =>
  K ((x89.1, x89.2.1, x89.2.2.1, x89.2.2.2.1, x89.2.2.2.2.1, x89.2.2.2.2.2.1, ()), (⟨a83, n84, c85⟩ : SlV), (0 : Int), ()) w88))))))))))) ∧
  (NewV #[.int .i64 0, .int .i64 0, .int .i64 0, .int .u32 0, .int .u64 0, .int .u64 0] 25 w19 fun b90 w91 =>
  KeepOn D8 w2.drew.drew w91 ∧
  CallV Try.prog 49 #[.slice a16 (16 - 8) ((c0 - 0) - 8)] w91 [.one (.int .u64)] fun (r92 : Int × Unit) w93 =>
  KeepOn D8 w2.drew.drew w93 ∧
  CallV Try.prog 49 #[.slice a17 (24 - 16) ((c0 - 0) - 16)] w93 [.one (.int .u64)] fun (r94 : Int × Unit) w95 =>
  KeepOn D8 w2.drew.drew w95 ∧
  StoreV w95 ⟨b90, 0, none⟩ [.int .i64 (IntKind.i64.wrap x10), .int .i64 (IntKind.i64.wrap x12), .int .i64 (IntKind.i64.wrap x14), .int .u32 (IntKind.u32.wrap r18.1), .int .u64 r92.1, .int .u64 r94.1] fun w96 =>
  KeepOn D8 w2.drew.drew w96 ∧
  DrawV fun D97 =>
  ((0 : Int) ≤ (24 : Int) ∧ (24 : Int) ≤ (48 : Int) ∧ (48 : Int) ≤ ((c0 : Nat) : Int)) ∧
  SubK a0 24 c0 1 fun a98 =>
  CallV Try.prog 48 #[.slice a6 (24 - 0) (c0 - 0)] w96.drew [.one .sl] fun (r99 : SlV × Unit) w100 =>
  KeepOn D97 w96.drew w100 ∧
  CallV Try.prog 50 #[.slice r99.1.a r99.1.n r99.1.c, .slice a98 (48 - 24) (c0 - 24)] w100 [.one .bool] fun (r101 : Bool × Unit) w102 =>
  KeepOn D97 w96.drew w102 ∧
  cond (!r101.1)
  (StoreV w102 ⟨b1, 0, none⟩ [.int .i64 0, .int .i64 0, .int .i64 0, .int .u32 0, .int .u64 0, .int .u64 0] fun w103 =>
  LoadA w103 ⟨b1, 0, none⟩ [.int .i64, .int .i64, .int .i64, .int .u32, .int .u64, .int .u64] fun (x104 : Int × Int × Int × Int × Int × Int × Unit) =>
  K ((x104.1, x104.2.1, x104.2.2.1, x104.2.2.2.1, x104.2.2.2.2.1, x104.2.2.2.2.2.1, ()), (⟨none, 0, 0⟩ : SlV), (1 : Int), ()) w103)
  ((0 ≤ (3 : Int) ∧ 3 < ((24 - 0 : Nat) : Int)) ∧ ∃ q105 : Addr, a6 = some q105 ∧
  (D97 (q105.add (3 * 1)).block ∧ LoadS w96.drew (q105.add (3 * 1)) (.int .u8) fun (x106 : Int) =>
  cond (x106 != 0)
  (StoreV w102 ⟨b1, 0, none⟩ [.int .i64 0, .int .i64 0, .int .i64 0, .int .u32 0, .int .u64 0, .int .u64 0] fun w107 =>
  LoadA w107 ⟨b1, 0, none⟩ [.int .i64, .int .i64, .int .i64, .int .u32, .int .u64, .int .u64] fun (x108 : Int × Int × Int × Int × Int × Int × Unit) =>
  K ((x108.1, x108.2.1, x108.2.2.1, x108.2.2.2.1, x108.2.2.2.2.1, x108.2.2.2.2.2.1, ()), (⟨none, 0, 0⟩ : SlV), (1 : Int), ()) w107)
  ((D97 b90 ∧ LoadS w96.drew ⟨b90, 0, none⟩ (.int .i64) fun (x109 : Int) =>
  cond (decide (x109 < 1))
  (StoreV w102 ⟨b1, 0, none⟩ [.int .i64 0, .int .i64 0, .int .i64 0, .int .u32 0, .int .u64 0, .int .u64 0] fun w110 =>
  LoadA w110 ⟨b1, 0, none⟩ [.int .i64, .int .i64, .int .i64, .int .u32, .int .u64, .int .u64] fun (x111 : Int × Int × Int × Int × Int × Int × Unit) =>
  K ((x111.1, x111.2.1, x111.2.2.1, x111.2.2.2.1, x111.2.2.2.2.1, x111.2.2.2.2.2.1, ()), (⟨none, 0, 0⟩ : SlV), (1 : Int), ()) w110)
  ((D97 b90 ∧ LoadS w96.drew ⟨b90, 0, none⟩ (.int .i64) fun (x112 : Int) =>
  cond (decide (x112 > 4))
  (StoreV w102 ⟨b1, 0, none⟩ [.int .i64 0, .int .i64 0, .int .i64 0, .int .u32 0, .int .u64 0, .int .u64 0] fun w113 =>
  LoadA w113 ⟨b1, 0, none⟩ [.int .i64, .int .i64, .int .i64, .int .u32, .int .u64, .int .u64] fun (x114 : Int × Int × Int × Int × Int × Int × Unit) =>
  K ((x114.1, x114.2.1, x114.2.2.1, x114.2.2.2.1, x114.2.2.2.2.1, x114.2.2.2.2.2.1, ()), (⟨none, 0, 0⟩ : SlV), (1 : Int), ()) w113)
  (DrawV fun D115 =>
  (D115 b90 ∧ LoadA w102.drew ⟨b90, 0, none⟩ [.int .i64, .int .i64, .int .i64, .int .u32, .int .u64, .int .u64] fun (x116 : Int × Int × Int × Int × Int × Int × Unit) =>
  NewV #[] 5 w102.drew fun b117 w118 =>
  KeepOn D115 w102.drew w118 ∧
  AppS w118 a7 (80 - 48) 1 fun ns123 =>
  AppV w118 5 1 1 (some ⟨b117, 0, none⟩) 0 0 ns123 (80 - 48) fun a119 n120 c121 w122 =>
  KeepOn D115 w102.drew w122 ∧
  StoreV w122 ⟨b1, 0, none⟩ [.int .i64 x116.1, .int .i64 x116.2.1, .int .i64 x116.2.2.1, .int .u32 x116.2.2.2.1, .int .u64 x116.2.2.2.2.1, .int .u64 x116.2.2.2.2.2.1] fun w124 =>
  KeepOn D115 w102.drew w124 ∧
  LoadA w124 ⟨b1, 0, none⟩ [.int .i64, .int .i64, .int .i64, .int .u32, .int .u64, .int .u64] fun (x125 : Int × Int × Int × Int × Int × Int × Unit) =>
  K ((x125.1, x125.2.1, x125.2.2.1, x125.2.2.2.1, x125.2.2.2.2.1, x125.2.2.2.2.2.1, ()), (⟨a119, n120, c121⟩ : SlV), (0 : Int), ()) w124))))))))))) ∧
  (NewV #[.int .i64 0, .int .i64 0, .int .i64 0, .int .u32 0, .int .u64 0, .int .u64 0] 25 w2.drew.drew fun b126 w127 =>
  KeepOn D8 w2.drew.drew w127 ∧
  CallV Try.prog 49 #[.slice a15 (8 - 4) ((c0 - 0) - 4)] w127 [.one (.int .u64)] fun (r128 : Int × Unit) w129 =>
  KeepOn D8 w2.drew.drew w129 ∧
  CallV Try.prog 49 #[.slice a16 (16 - 8) ((c0 - 0) - 8)] w129 [.one (.int .u64)] fun (r130 : Int × Unit) w131 =>
  KeepOn D8 w2.drew.drew w131 ∧
  CallV Try.prog 49 #[.slice a17 (24 - 16) ((c0 - 0) - 16)] w131 [.one (.int .u64)] fun (r132 : Int × Unit) w133 =>
  KeepOn D8 w2.drew.drew w133 ∧
  StoreV w133 ⟨b126, 0, none⟩ [.int .i64 (IntKind.i64.wrap x10), .int .i64 (IntKind.i64.wrap x12), .int .i64 (IntKind.i64.wrap x14), .int .u32 (IntKind.u32.wrap r128.1), .int .u64 r130.1, .int .u64 r132.1] fun w134 =>
  KeepOn D8 w2.drew.drew w134 ∧
  DrawV fun D135 =>
  ((0 : Int) ≤ (24 : Int) ∧ (24 : Int) ≤ (48 : Int) ∧ (48 : Int) ≤ ((c0 : Nat) : Int)) ∧
  SubK a0 24 c0 1 fun a136 =>
  CallV Try.prog 48 #[.slice a6 (24 - 0) (c0 - 0)] w134.drew [.one .sl] fun (r137 : SlV × Unit) w138 =>
  KeepOn D135 w134.drew w138 ∧
  CallV Try.prog 50 #[.slice r137.1.a r137.1.n r137.1.c, .slice a136 (48 - 24) (c0 - 24)] w138 [.one .bool] fun (r139 : Bool × Unit) w140 =>
  KeepOn D135 w134.drew w140 ∧
  cond (!r139.1)
  (StoreV w140 ⟨b1, 0, none⟩ [.int .i64 0, .int .i64 0, .int .i64 0, .int .u32 0, .int .u64 0, .int .u64 0] fun w141 =>
  LoadA w141 ⟨b1, 0, none⟩ [.int .i64, .int .i64, .int .i64, .int .u32, .int .u64, .int .u64] fun (x142 : Int × Int × Int × Int × Int × Int × Unit) =>
  K ((x142.1, x142.2.1, x142.2.2.1, x142.2.2.2.1, x142.2.2.2.2.1, x142.2.2.2.2.2.1, ()), (⟨none, 0, 0⟩ : SlV), (1 : Int), ()) w141)
  ((0 ≤ (3 : Int) ∧ 3 < ((24 - 0 : Nat) : Int)) ∧ ∃ q143 : Addr, a6 = some q143 ∧
  (D135 (q143.add (3 * 1)).block ∧ LoadS w134.drew (q143.add (3 * 1)) (.int .u8) fun (x144 : Int) =>
  cond (x144 != 0)
  (StoreV w140 ⟨b1, 0, none⟩ [.int .i64 0, .int .i64 0, .int .i64 0, .int .u32 0, .int .u64 0, .int .u64 0] fun w145 =>
  LoadA w145 ⟨b1, 0, none⟩ [.int .i64, .int .i64, .int .i64, .int .u32, .int .u64, .int .u64] fun (x146 : Int × Int × Int × Int × Int × Int × Unit) =>
  K ((x146.1, x146.2.1, x146.2.2.1, x146.2.2.2.1, x146.2.2.2.2.1, x146.2.2.2.2.2.1, ()), (⟨none, 0, 0⟩ : SlV), (1 : Int), ()) w145)
  ((D135 b126 ∧ LoadS w134.drew ⟨b126, 0, none⟩ (.int .i64) fun (x147 : Int) =>
  cond (decide (x147 < 1))
  (StoreV w140 ⟨b1, 0, none⟩ [.int .i64 0, .int .i64 0, .int .i64 0, .int .u32 0, .int .u64 0, .int .u64 0] fun w148 =>
  LoadA w148 ⟨b1, 0, none⟩ [.int .i64, .int .i64, .int .i64, .int .u32, .int .u64, .int .u64] fun (x149 : Int × Int × Int × Int × Int × Int × Unit) =>
  K ((x149.1, x149.2.1, x149.2.2.1, x149.2.2.2.1, x149.2.2.2.2.1, x149.2.2.2.2.2.1, ()), (⟨none, 0, 0⟩ : SlV), (1 : Int), ()) w148)
  ((D135 b126 ∧ LoadS w134.drew ⟨b126, 0, none⟩ (.int .i64) fun (x150 : Int) =>
  cond (decide (x150 > 4))
  (StoreV w140 ⟨b1, 0, none⟩ [.int .i64 0, .int .i64 0, .int .i64 0, .int .u32 0, .int .u64 0, .int .u64 0] fun w151 =>
  LoadA w151 ⟨b1, 0, none⟩ [.int .i64, .int .i64, .int .i64, .int .u32, .int .u64, .int .u64] fun (x152 : Int × Int × Int × Int × Int × Int × Unit) =>
  K ((x152.1, x152.2.1, x152.2.2.1, x152.2.2.2.1, x152.2.2.2.2.1, x152.2.2.2.2.2.1, ()), (⟨none, 0, 0⟩ : SlV), (1 : Int), ()) w151)
  (DrawV fun D153 =>
  (D153 b126 ∧ LoadA w140.drew ⟨b126, 0, none⟩ [.int .i64, .int .i64, .int .i64, .int .u32, .int .u64, .int .u64] fun (x154 : Int × Int × Int × Int × Int × Int × Unit) =>
  NewV #[] 5 w140.drew fun b155 w156 =>
  KeepOn D153 w140.drew w156 ∧
  AppS w156 a7 (80 - 48) 1 fun ns161 =>
  AppV w156 5 1 1 (some ⟨b155, 0, none⟩) 0 0 ns161 (80 - 48) fun a157 n158 c159 w160 =>
  KeepOn D153 w140.drew w160 ∧
  StoreV w160 ⟨b1, 0, none⟩ [.int .i64 x154.1, .int .i64 x154.2.1, .int .i64 x154.2.2.1, .int .u32 x154.2.2.2.1, .int .u64 x154.2.2.2.2.1, .int .u64 x154.2.2.2.2.2.1] fun w162 =>
  KeepOn D153 w140.drew w162 ∧
  LoadA w162 ⟨b1, 0, none⟩ [.int .i64, .int .i64, .int .i64, .int .u32, .int .u64, .int .u64] fun (x163 : Int × Int × Int × Int × Int × Int × Unit) =>
  K ((x163.1, x163.2.1, x163.2.2.1, x163.2.2.2.1, x163.2.2.2.2.1, x163.2.2.2.2.2.1, ()), (⟨a157, n158, c159⟩ : SlV), (0 : Int), ()) w162))))))))))))))
theorem head_Read.vc (a0 : Option Addr) (n0 c0 : Nat) (w : World) (K : (Int × Int × Int × Int × Int × Int × Unit) × SlV × Int × Unit → World → Prop) (h : head_Read.P a0 n0 c0 w K) : CallV Try.prog 35 #[.slice a0 n0 c0] w [.agg [.int .i64, .int .i64, .int .i64, .int .u32, .int .u64, .int .u64], .one .sl, .one (.int .i64)] K := by
  have e : vcFun Try.prog okf false Try.f35 head_Read.A #[.slice a0 n0 c0] w [.agg [.int .i64, .int .i64, .int .i64, .int .u32, .int .u64, .int .u64], .one .sl, .one (.int .i64)] K = head_Read.P a0 n0 c0 w K := by kernel_rfl
  exact vcFun.calls okf_ok follows Try.func35 (e.symm ▸ h)

/-! ### nepenthe/head.Committed: function 36 -/
def head_Committed.A : Ann := .two .no (.two (.draw (.take 0 (.take 1 (.take 2 (.take 3 (.take 4 (.take 5 (.eff 6 (.eff 7 (.take 8 (.take 9 (.done)))))))))))) .no)
def head_Committed.P (a0 : Option Addr) (n0 c0 : Nat) (w : World) (K : Bool × Unit → World → Prop) : Prop :=
  DrawV fun D1 =>
  cond (((n0 : Nat) : Int) == 88)
  (((0 : Int) ≤ (80 : Int) ∧ (80 : Int) ≤ ((n0 : Nat) : Int)) ∧
  SubK a0 80 c0 1 fun a2 =>
  CallV Try.prog 51 #[.int .u8 0, .int .i64 8] w.drew [.one .sl] fun (r3 : SlV × Unit) w4 =>
  KeepOn D1 w.drew w4 ∧
  CallV Try.prog 50 #[.slice a2 (n0 - 80) (c0 - 80), .slice r3.1.a r3.1.n r3.1.c] w4 [.one .bool] fun (r5 : Bool × Unit) w6 =>
  KeepOn D1 w.drew w6 ∧
  K (r5.1, ()) w6)
  (K (false, ()) w.drew)
theorem head_Committed.vc (a0 : Option Addr) (n0 c0 : Nat) (w : World) (K : Bool × Unit → World → Prop) (h : head_Committed.P a0 n0 c0 w K) : CallV Try.prog 36 #[.slice a0 n0 c0] w [.one .bool] K := by
  have e : vcFun Try.prog okf false Try.f36 head_Committed.A #[.slice a0 n0 c0] w [.one .bool] K = head_Committed.P a0 n0 c0 w K := by kernel_rfl
  exact vcFun.calls okf_ok follows Try.func36 (e.symm ▸ h)

/-! ### nepenthe/nepentheref14.Committed: function 37 -/
def ref14_Committed.A : Ann := .two .no (.two (.draw (.take 0 (.take 1 (.eff 2 (.eff 3 (.take 4 (.done))))))) .no)
def ref14_Committed.P (a0 : Option Addr) (n0 c0 : Nat) (w : World) (K : Bool × Unit → World → Prop) : Prop :=
  DrawV fun D1 =>
  ((0 : Int) ≤ (80 : Int) ∧ (80 : Int) ≤ ((n0 : Nat) : Int)) ∧
  SubK a0 80 c0 1 fun a2 =>
  CallV Try.prog 29 #[.int .u8 0, .int .i64 8] w.drew [.one .sl] fun (r3 : SlV × Unit) w4 =>
  KeepOn D1 w.drew w4 ∧
  CallV Try.prog 17 #[.slice a2 (n0 - 80) (c0 - 80), .slice r3.1.a r3.1.n r3.1.c] w4 [.one .bool] fun (r5 : Bool × Unit) w6 =>
  KeepOn D1 w.drew w6 ∧
  K (r5.1, ()) w6
theorem ref14_Committed.vc (a0 : Option Addr) (n0 c0 : Nat) (w : World) (K : Bool × Unit → World → Prop) (h : ref14_Committed.P a0 n0 c0 w K) : CallV Try.prog 37 #[.slice a0 n0 c0] w [.one .bool] K := by
  have e : vcFun Try.prog okf false Try.f37 ref14_Committed.A #[.slice a0 n0 c0] w [.one .bool] K = ref14_Committed.P a0 n0 c0 w K := by kernel_rfl
  exact vcFun.calls okf_ok follows Try.func37 (e.symm ▸ h)

/-! ### nepenthe/nepentheref14.Read: function 38 -/
def ref14_Read.A : Ann := .two .no (.two (.draw (.take 0 (.take 1 (.take 2 (.take 3 (.take 4 (.take 5 (.take 6 (.take 7 (.take 8 (.take 9 (.take 10 (.take 11 (.take 12 (.take 13 (.take 16 (.take 17 (.take 19 (.take 20 (.both 14 (.take 15 (.both 18 (.both 21 (.take 22 (.eff 23 (.eff 24 (.done)))) 23 (.eff 21 (.take 22 (.eff 24 (.done))))) 23 (.eff 18 (.eff 21 (.take 22 (.eff 24 (.done))))))) 23 (.eff 14 (.take 15 (.eff 18 (.eff 21 (.take 22 (.eff 24 (.done))))))))))))))))))))))))))) (.two .no (.two (.two (.draw (.take 0 (.take 2 (.take 6 (.take 7 (.eff 1 (.eff 3 (.eff 4 (.eff 5 (.eff 8 (.take 9 (.done)))))))))))) .no) .no)))
def ref14_Read.P (a0 : Option Addr) (n0 c0 : Nat) (w : World) (K : (Int × Int × Int × Int × Int × Int × Unit) × Bool × Unit → World → Prop) : Prop :=
  NewV #[.int .i64 0, .int .i64 0, .int .i64 0, .int .u32 0, .int .u64 0, .int .u64 0] 25 w fun b1 w2 =>
  DrawV fun D3 =>
  (0 ≤ (0 : Int) ∧ 0 < ((n0 : Nat) : Int)) ∧ ∃ q4 : Addr, a0 = some q4 ∧
  (D3 (q4.add (0 * 1)).block ∧ LoadS w2.drew (q4.add (0 * 1)) (.int .u8) fun (x5 : Int) =>
  (0 ≤ (1 : Int) ∧ 1 < ((n0 : Nat) : Int)) ∧ ∃ q6 : Addr, a0 = some q6 ∧
  (D3 (q6.add (1 * 1)).block ∧ LoadS w2.drew (q6.add (1 * 1)) (.int .u8) fun (x7 : Int) =>
  (0 ≤ (2 : Int) ∧ 2 < ((n0 : Nat) : Int)) ∧ ∃ q8 : Addr, a0 = some q8 ∧
  (D3 (q8.add (2 * 1)).block ∧ LoadS w2.drew (q8.add (2 * 1)) (.int .u8) fun (x9 : Int) =>
  ((0 : Int) ≤ (4 : Int) ∧ (4 : Int) ≤ (8 : Int) ∧ (8 : Int) ≤ ((c0 : Nat) : Int)) ∧
  SubK a0 4 c0 1 fun a10 =>
  ((0 : Int) ≤ (8 : Int) ∧ (8 : Int) ≤ (16 : Int) ∧ (16 : Int) ≤ ((c0 : Nat) : Int)) ∧
  SubK a0 8 c0 1 fun a11 =>
  ((0 : Int) ≤ (16 : Int) ∧ (16 : Int) ≤ (24 : Int) ∧ (24 : Int) ≤ ((c0 : Nat) : Int)) ∧
  SubK a0 16 c0 1 fun a12 =>
  ((CallV Try.prog 52 #[.slice a10 (8 - 4) (c0 - 4)] w2.drew [.one (.int .u64)] fun (r13 : Int × Unit) w14 =>
  KeepOn D3 w2.drew w14 ∧
  ((CallV Try.prog 52 #[.slice a11 (16 - 8) (c0 - 8)] w14 [.one (.int .u64)] fun (r15 : Int × Unit) w16 =>
  KeepOn D3 w2.drew w16 ∧
  ((CallV Try.prog 52 #[.slice a12 (24 - 16) (c0 - 16)] w16 [.one (.int .u64)] fun (r17 : Int × Unit) w18 =>
  KeepOn D3 w2.drew w18 ∧
  NewV #[.int .i64 0, .int .i64 0, .int .i64 0, .int .u32 0, .int .u64 0, .int .u64 0] 25 w18 fun b19 w20 =>
  KeepOn D3 w2.drew w20 ∧
  StoreV w20 ⟨b19, 0, none⟩ [.int .i64 (IntKind.i64.wrap x5), .int .i64 (IntKind.i64.wrap x7), .int .i64 (IntKind.i64.wrap x9), .int .u32 (IntKind.u32.wrap r13.1), .int .u64 r15.1, .int .u64 r17.1] fun w21 =>
  KeepOn D3 w2.drew w21 ∧
  LoadA w21 ⟨b19, 0, none⟩ [.int .i64, .int .i64, .int .i64, .int .u32, .int .u64, .int .u64] fun (x22 : Int × Int × Int × Int × Int × Int × Unit) =>
  CallV Try.prog 15 #[.agg #[.int .i64 x22.1, .int .i64 x22.2.1, .int .i64 x22.2.2.1, .int .u32 x22.2.2.2.1, .int .u64 x22.2.2.2.2.1, .int .u64 x22.2.2.2.2.2.1]] w21 [.one .bool] fun (r23 : Bool × Unit) w24 =>
  cond (!r23.1)
  (StoreV w24 ⟨b1, 0, none⟩ [.int .i64 0, .int .i64 0, .int .i64 0, .int .u32 0, .int .u64 0, .int .u64 0] fun w25 =>
  LoadA w25 ⟨b1, 0, none⟩ [.int .i64, .int .i64, .int .i64, .int .u32, .int .u64, .int .u64] fun (x26 : Int × Int × Int × Int × Int × Int × Unit) =>
  K ((x26.1, x26.2.1, x26.2.2.1, x26.2.2.2.1, x26.2.2.2.2.1, x26.2.2.2.2.2.1, ()), false, ()) w25)
  (DrawV fun D27 =>
  (D27 b19 ∧ LoadA w24.drew ⟨b19, 0, none⟩ [.int .i64, .int .i64, .int .i64, .int .u32, .int .u64, .int .u64] fun (x28 : Int × Int × Int × Int × Int × Int × Unit) =>
  (D27 b19 ∧ LoadA w24.drew ⟨b19, 0, none⟩ [.int .i64, .int .i64, .int .i64, .int .u32, .int .u64, .int .u64] fun (x29 : Int × Int × Int × Int × Int × Int × Unit) =>
  ((0 : Int) ≤ (48 : Int) ∧ (48 : Int) ≤ ((c0 : Nat) : Int)) ∧
  SubK a0 0 c0 1 fun a30 =>
  CallV Try.prog 18 #[.agg #[.int .i64 x28.1, .int .i64 x28.2.1, .int .i64 x28.2.2.1, .int .u32 x28.2.2.2.1, .int .u64 x28.2.2.2.2.1, .int .u64 x28.2.2.2.2.2.1]] w24.drew [.one .sl] fun (r31 : SlV × Unit) w32 =>
  KeepOn D27 w24.drew w32 ∧
  CallV Try.prog 18 #[.agg #[.int .i64 x29.1, .int .i64 x29.2.1, .int .i64 x29.2.2.1, .int .u32 x29.2.2.2.1, .int .u64 x29.2.2.2.2.1, .int .u64 x29.2.2.2.2.2.1]] w32 [.one .sl] fun (r33 : SlV × Unit) w34 =>
  KeepOn D27 w24.drew w34 ∧
  CallV Try.prog 53 #[.slice r33.1.a r33.1.n r33.1.c] w34 [.one .sl] fun (r35 : SlV × Unit) w36 =>
  KeepOn D27 w24.drew w36 ∧
  AppS w36 r35.1.a r35.1.n 1 fun ns41 =>
  AppV w36 5 1 1 r31.1.a r31.1.n r31.1.c ns41 r35.1.n fun a37 n38 c39 w40 =>
  KeepOn D27 w24.drew w40 ∧
  CallV Try.prog 17 #[.slice a37 n38 c39, .slice a30 (48 - 0) (c0 - 0)] w40 [.one .bool] fun (r42 : Bool × Unit) w43 =>
  KeepOn D27 w24.drew w43 ∧
  cond (!r42.1)
  (StoreV w43 ⟨b1, 0, none⟩ [.int .i64 0, .int .i64 0, .int .i64 0, .int .u32 0, .int .u64 0, .int .u64 0] fun w44 =>
  LoadA w44 ⟨b1, 0, none⟩ [.int .i64, .int .i64, .int .i64, .int .u32, .int .u64, .int .u64] fun (x45 : Int × Int × Int × Int × Int × Int × Unit) =>
  K ((x45.1, x45.2.1, x45.2.2.1, x45.2.2.2.1, x45.2.2.2.2.1, x45.2.2.2.2.2.1, ()), false, ()) w44)
  (LoadA w43 ⟨b19, 0, none⟩ [.int .i64, .int .i64, .int .i64, .int .u32, .int .u64, .int .u64] fun (x46 : Int × Int × Int × Int × Int × Int × Unit) =>
  StoreV w43 ⟨b1, 0, none⟩ [.int .i64 x46.1, .int .i64 x46.2.1, .int .i64 x46.2.2.1, .int .u32 x46.2.2.2.1, .int .u64 x46.2.2.2.2.1, .int .u64 x46.2.2.2.2.2.1] fun w47 =>
  LoadA w47 ⟨b1, 0, none⟩ [.int .i64, .int .i64, .int .i64, .int .u32, .int .u64, .int .u64] fun (x48 : Int × Int × Int × Int × Int × Int × Unit) =>
  K ((x48.1, x48.2.1, x48.2.2.1, x48.2.2.2.1, x48.2.2.2.2.1, x48.2.2.2.2.2.1, ()), true, ()) w47))))) ∧
  (NewV #[.int .i64 0, .int .i64 0, .int .i64 0, .int .u32 0, .int .u64 0, .int .u64 0] 25 w16 fun b49 w50 =>
  KeepOn D3 w2.drew w50 ∧
  CallV Try.prog 52 #[.slice a12 (24 - 16) (c0 - 16)] w50 [.one (.int .u64)] fun (r51 : Int × Unit) w52 =>
  KeepOn D3 w2.drew w52 ∧
  StoreV w52 ⟨b49, 0, none⟩ [.int .i64 (IntKind.i64.wrap x5), .int .i64 (IntKind.i64.wrap x7), .int .i64 (IntKind.i64.wrap x9), .int .u32 (IntKind.u32.wrap r13.1), .int .u64 r15.1, .int .u64 r51.1] fun w53 =>
  KeepOn D3 w2.drew w53 ∧
  LoadA w53 ⟨b49, 0, none⟩ [.int .i64, .int .i64, .int .i64, .int .u32, .int .u64, .int .u64] fun (x54 : Int × Int × Int × Int × Int × Int × Unit) =>
  CallV Try.prog 15 #[.agg #[.int .i64 x54.1, .int .i64 x54.2.1, .int .i64 x54.2.2.1, .int .u32 x54.2.2.2.1, .int .u64 x54.2.2.2.2.1, .int .u64 x54.2.2.2.2.2.1]] w53 [.one .bool] fun (r55 : Bool × Unit) w56 =>
  cond (!r55.1)
  (StoreV w56 ⟨b1, 0, none⟩ [.int .i64 0, .int .i64 0, .int .i64 0, .int .u32 0, .int .u64 0, .int .u64 0] fun w57 =>
  LoadA w57 ⟨b1, 0, none⟩ [.int .i64, .int .i64, .int .i64, .int .u32, .int .u64, .int .u64] fun (x58 : Int × Int × Int × Int × Int × Int × Unit) =>
  K ((x58.1, x58.2.1, x58.2.2.1, x58.2.2.2.1, x58.2.2.2.2.1, x58.2.2.2.2.2.1, ()), false, ()) w57)
  (DrawV fun D59 =>
  (D59 b49 ∧ LoadA w56.drew ⟨b49, 0, none⟩ [.int .i64, .int .i64, .int .i64, .int .u32, .int .u64, .int .u64] fun (x60 : Int × Int × Int × Int × Int × Int × Unit) =>
  (D59 b49 ∧ LoadA w56.drew ⟨b49, 0, none⟩ [.int .i64, .int .i64, .int .i64, .int .u32, .int .u64, .int .u64] fun (x61 : Int × Int × Int × Int × Int × Int × Unit) =>
  ((0 : Int) ≤ (48 : Int) ∧ (48 : Int) ≤ ((c0 : Nat) : Int)) ∧
  SubK a0 0 c0 1 fun a62 =>
  CallV Try.prog 18 #[.agg #[.int .i64 x60.1, .int .i64 x60.2.1, .int .i64 x60.2.2.1, .int .u32 x60.2.2.2.1, .int .u64 x60.2.2.2.2.1, .int .u64 x60.2.2.2.2.2.1]] w56.drew [.one .sl] fun (r63 : SlV × Unit) w64 =>
  KeepOn D59 w56.drew w64 ∧
  CallV Try.prog 18 #[.agg #[.int .i64 x61.1, .int .i64 x61.2.1, .int .i64 x61.2.2.1, .int .u32 x61.2.2.2.1, .int .u64 x61.2.2.2.2.1, .int .u64 x61.2.2.2.2.2.1]] w64 [.one .sl] fun (r65 : SlV × Unit) w66 =>
  KeepOn D59 w56.drew w66 ∧
  CallV Try.prog 53 #[.slice r65.1.a r65.1.n r65.1.c] w66 [.one .sl] fun (r67 : SlV × Unit) w68 =>
  KeepOn D59 w56.drew w68 ∧
  AppS w68 r67.1.a r67.1.n 1 fun ns73 =>
  AppV w68 5 1 1 r63.1.a r63.1.n r63.1.c ns73 r67.1.n fun a69 n70 c71 w72 =>
  KeepOn D59 w56.drew w72 ∧
  CallV Try.prog 17 #[.slice a69 n70 c71, .slice a62 (48 - 0) (c0 - 0)] w72 [.one .bool] fun (r74 : Bool × Unit) w75 =>
  KeepOn D59 w56.drew w75 ∧
  cond (!r74.1)
  (StoreV w75 ⟨b1, 0, none⟩ [.int .i64 0, .int .i64 0, .int .i64 0, .int .u32 0, .int .u64 0, .int .u64 0] fun w76 =>
  LoadA w76 ⟨b1, 0, none⟩ [.int .i64, .int .i64, .int .i64, .int .u32, .int .u64, .int .u64] fun (x77 : Int × Int × Int × Int × Int × Int × Unit) =>
  K ((x77.1, x77.2.1, x77.2.2.1, x77.2.2.2.1, x77.2.2.2.2.1, x77.2.2.2.2.2.1, ()), false, ()) w76)
  (LoadA w75 ⟨b49, 0, none⟩ [.int .i64, .int .i64, .int .i64, .int .u32, .int .u64, .int .u64] fun (x78 : Int × Int × Int × Int × Int × Int × Unit) =>
  StoreV w75 ⟨b1, 0, none⟩ [.int .i64 x78.1, .int .i64 x78.2.1, .int .i64 x78.2.2.1, .int .u32 x78.2.2.2.1, .int .u64 x78.2.2.2.2.1, .int .u64 x78.2.2.2.2.2.1] fun w79 =>
  LoadA w79 ⟨b1, 0, none⟩ [.int .i64, .int .i64, .int .i64, .int .u32, .int .u64, .int .u64] fun (x80 : Int × Int × Int × Int × Int × Int × Unit) =>
  K ((x80.1, x80.2.1, x80.2.2.1, x80.2.2.2.1, x80.2.2.2.2.1, x80.2.2.2.2.2.1, ()), true, ()) w79))))))) ∧
  (NewV #[.int .i64 0, .int .i64 0, .int .i64 0, .int .u32 0, .int .u64 0, .int .u64 0] 25 w14 fun b81 w82 =>
  KeepOn D3 w2.drew w82 ∧
  CallV Try.prog 52 #[.slice a11 (16 - 8) (c0 - 8)] w82 [.one (.int .u64)] fun (r83 : Int × Unit) w84 =>
  KeepOn D3 w2.drew w84 ∧
  CallV Try.prog 52 #[.slice a12 (24 - 16) (c0 - 16)] w84 [.one (.int .u64)] fun (r85 : Int × Unit) w86 =>
  KeepOn D3 w2.drew w86 ∧
  StoreV w86 ⟨b81, 0, none⟩ [.int .i64 (IntKind.i64.wrap x5), .int .i64 (IntKind.i64.wrap x7), .int .i64 (IntKind.i64.wrap x9), .int .u32 (IntKind.u32.wrap r13.1), .int .u64 r83.1, .int .u64 r85.1] fun w87 =>
  KeepOn D3 w2.drew w87 ∧
  LoadA w87 ⟨b81, 0, none⟩ [.int .i64, .int .i64, .int .i64, .int .u32, .int .u64, .int .u64] fun (x88 : Int × Int × Int × Int × Int × Int × Unit) =>
  CallV Try.prog 15 #[.agg #[.int .i64 x88.1, .int .i64 x88.2.1, .int .i64 x88.2.2.1, .int .u32 x88.2.2.2.1, .int .u64 x88.2.2.2.2.1, .int .u64 x88.2.2.2.2.2.1]] w87 [.one .bool] fun (r89 : Bool × Unit) w90 =>
  cond (!r89.1)
  (StoreV w90 ⟨b1, 0, none⟩ [.int .i64 0, .int .i64 0, .int .i64 0, .int .u32 0, .int .u64 0, .int .u64 0] fun w91 =>
  LoadA w91 ⟨b1, 0, none⟩ [.int .i64, .int .i64, .int .i64, .int .u32, .int .u64, .int .u64] fun (x92 : Int × Int × Int × Int × Int × Int × Unit) =>
  K ((x92.1, x92.2.1, x92.2.2.1, x92.2.2.2.1, x92.2.2.2.2.1, x92.2.2.2.2.2.1, ()), false, ()) w91)
  (DrawV fun D93 =>
  (D93 b81 ∧ LoadA w90.drew ⟨b81, 0, none⟩ [.int .i64, .int .i64, .int .i64, .int .u32, .int .u64, .int .u64] fun (x94 : Int × Int × Int × Int × Int × Int × Unit) =>
  (D93 b81 ∧ LoadA w90.drew ⟨b81, 0, none⟩ [.int .i64, .int .i64, .int .i64, .int .u32, .int .u64, .int .u64] fun (x95 : Int × Int × Int × Int × Int × Int × Unit) =>
  ((0 : Int) ≤ (48 : Int) ∧ (48 : Int) ≤ ((c0 : Nat) : Int)) ∧
  SubK a0 0 c0 1 fun a96 =>
  CallV Try.prog 18 #[.agg #[.int .i64 x94.1, .int .i64 x94.2.1, .int .i64 x94.2.2.1, .int .u32 x94.2.2.2.1, .int .u64 x94.2.2.2.2.1, .int .u64 x94.2.2.2.2.2.1]] w90.drew [.one .sl] fun (r97 : SlV × Unit) w98 =>
  KeepOn D93 w90.drew w98 ∧
  CallV Try.prog 18 #[.agg #[.int .i64 x95.1, .int .i64 x95.2.1, .int .i64 x95.2.2.1, .int .u32 x95.2.2.2.1, .int .u64 x95.2.2.2.2.1, .int .u64 x95.2.2.2.2.2.1]] w98 [.one .sl] fun (r99 : SlV × Unit) w100 =>
  KeepOn D93 w90.drew w100 ∧
  CallV Try.prog 53 #[.slice r99.1.a r99.1.n r99.1.c] w100 [.one .sl] fun (r101 : SlV × Unit) w102 =>
  KeepOn D93 w90.drew w102 ∧
  AppS w102 r101.1.a r101.1.n 1 fun ns107 =>
  AppV w102 5 1 1 r97.1.a r97.1.n r97.1.c ns107 r101.1.n fun a103 n104 c105 w106 =>
  KeepOn D93 w90.drew w106 ∧
  CallV Try.prog 17 #[.slice a103 n104 c105, .slice a96 (48 - 0) (c0 - 0)] w106 [.one .bool] fun (r108 : Bool × Unit) w109 =>
  KeepOn D93 w90.drew w109 ∧
  cond (!r108.1)
  (StoreV w109 ⟨b1, 0, none⟩ [.int .i64 0, .int .i64 0, .int .i64 0, .int .u32 0, .int .u64 0, .int .u64 0] fun w110 =>
  LoadA w110 ⟨b1, 0, none⟩ [.int .i64, .int .i64, .int .i64, .int .u32, .int .u64, .int .u64] fun (x111 : Int × Int × Int × Int × Int × Int × Unit) =>
  K ((x111.1, x111.2.1, x111.2.2.1, x111.2.2.2.1, x111.2.2.2.2.1, x111.2.2.2.2.2.1, ()), false, ()) w110)
  (LoadA w109 ⟨b81, 0, none⟩ [.int .i64, .int .i64, .int .i64, .int .u32, .int .u64, .int .u64] fun (x112 : Int × Int × Int × Int × Int × Int × Unit) =>
  StoreV w109 ⟨b1, 0, none⟩ [.int .i64 x112.1, .int .i64 x112.2.1, .int .i64 x112.2.2.1, .int .u32 x112.2.2.2.1, .int .u64 x112.2.2.2.2.1, .int .u64 x112.2.2.2.2.2.1] fun w113 =>
  LoadA w113 ⟨b1, 0, none⟩ [.int .i64, .int .i64, .int .i64, .int .u32, .int .u64, .int .u64] fun (x114 : Int × Int × Int × Int × Int × Int × Unit) =>
  K ((x114.1, x114.2.1, x114.2.2.1, x114.2.2.2.1, x114.2.2.2.2.1, x114.2.2.2.2.2.1, ()), true, ()) w113))))))) ∧
  (NewV #[.int .i64 0, .int .i64 0, .int .i64 0, .int .u32 0, .int .u64 0, .int .u64 0] 25 w2.drew fun b115 w116 =>
  KeepOn D3 w2.drew w116 ∧
  CallV Try.prog 52 #[.slice a10 (8 - 4) (c0 - 4)] w116 [.one (.int .u64)] fun (r117 : Int × Unit) w118 =>
  KeepOn D3 w2.drew w118 ∧
  CallV Try.prog 52 #[.slice a11 (16 - 8) (c0 - 8)] w118 [.one (.int .u64)] fun (r119 : Int × Unit) w120 =>
  KeepOn D3 w2.drew w120 ∧
  CallV Try.prog 52 #[.slice a12 (24 - 16) (c0 - 16)] w120 [.one (.int .u64)] fun (r121 : Int × Unit) w122 =>
  KeepOn D3 w2.drew w122 ∧
  StoreV w122 ⟨b115, 0, none⟩ [.int .i64 (IntKind.i64.wrap x5), .int .i64 (IntKind.i64.wrap x7), .int .i64 (IntKind.i64.wrap x9), .int .u32 (IntKind.u32.wrap r117.1), .int .u64 r119.1, .int .u64 r121.1] fun w123 =>
  KeepOn D3 w2.drew w123 ∧
  LoadA w123 ⟨b115, 0, none⟩ [.int .i64, .int .i64, .int .i64, .int .u32, .int .u64, .int .u64] fun (x124 : Int × Int × Int × Int × Int × Int × Unit) =>
  CallV Try.prog 15 #[.agg #[.int .i64 x124.1, .int .i64 x124.2.1, .int .i64 x124.2.2.1, .int .u32 x124.2.2.2.1, .int .u64 x124.2.2.2.2.1, .int .u64 x124.2.2.2.2.2.1]] w123 [.one .bool] fun (r125 : Bool × Unit) w126 =>
  cond (!r125.1)
  (StoreV w126 ⟨b1, 0, none⟩ [.int .i64 0, .int .i64 0, .int .i64 0, .int .u32 0, .int .u64 0, .int .u64 0] fun w127 =>
  LoadA w127 ⟨b1, 0, none⟩ [.int .i64, .int .i64, .int .i64, .int .u32, .int .u64, .int .u64] fun (x128 : Int × Int × Int × Int × Int × Int × Unit) =>
  K ((x128.1, x128.2.1, x128.2.2.1, x128.2.2.2.1, x128.2.2.2.2.1, x128.2.2.2.2.2.1, ()), false, ()) w127)
  (DrawV fun D129 =>
  (D129 b115 ∧ LoadA w126.drew ⟨b115, 0, none⟩ [.int .i64, .int .i64, .int .i64, .int .u32, .int .u64, .int .u64] fun (x130 : Int × Int × Int × Int × Int × Int × Unit) =>
  (D129 b115 ∧ LoadA w126.drew ⟨b115, 0, none⟩ [.int .i64, .int .i64, .int .i64, .int .u32, .int .u64, .int .u64] fun (x131 : Int × Int × Int × Int × Int × Int × Unit) =>
  ((0 : Int) ≤ (48 : Int) ∧ (48 : Int) ≤ ((c0 : Nat) : Int)) ∧
  SubK a0 0 c0 1 fun a132 =>
  CallV Try.prog 18 #[.agg #[.int .i64 x130.1, .int .i64 x130.2.1, .int .i64 x130.2.2.1, .int .u32 x130.2.2.2.1, .int .u64 x130.2.2.2.2.1, .int .u64 x130.2.2.2.2.2.1]] w126.drew [.one .sl] fun (r133 : SlV × Unit) w134 =>
  KeepOn D129 w126.drew w134 ∧
  CallV Try.prog 18 #[.agg #[.int .i64 x131.1, .int .i64 x131.2.1, .int .i64 x131.2.2.1, .int .u32 x131.2.2.2.1, .int .u64 x131.2.2.2.2.1, .int .u64 x131.2.2.2.2.2.1]] w134 [.one .sl] fun (r135 : SlV × Unit) w136 =>
  KeepOn D129 w126.drew w136 ∧
  CallV Try.prog 53 #[.slice r135.1.a r135.1.n r135.1.c] w136 [.one .sl] fun (r137 : SlV × Unit) w138 =>
  KeepOn D129 w126.drew w138 ∧
  AppS w138 r137.1.a r137.1.n 1 fun ns143 =>
  AppV w138 5 1 1 r133.1.a r133.1.n r133.1.c ns143 r137.1.n fun a139 n140 c141 w142 =>
  KeepOn D129 w126.drew w142 ∧
  CallV Try.prog 17 #[.slice a139 n140 c141, .slice a132 (48 - 0) (c0 - 0)] w142 [.one .bool] fun (r144 : Bool × Unit) w145 =>
  KeepOn D129 w126.drew w145 ∧
  cond (!r144.1)
  (StoreV w145 ⟨b1, 0, none⟩ [.int .i64 0, .int .i64 0, .int .i64 0, .int .u32 0, .int .u64 0, .int .u64 0] fun w146 =>
  LoadA w146 ⟨b1, 0, none⟩ [.int .i64, .int .i64, .int .i64, .int .u32, .int .u64, .int .u64] fun (x147 : Int × Int × Int × Int × Int × Int × Unit) =>
  K ((x147.1, x147.2.1, x147.2.2.1, x147.2.2.2.1, x147.2.2.2.2.1, x147.2.2.2.2.2.1, ()), false, ()) w146)
  (LoadA w145 ⟨b115, 0, none⟩ [.int .i64, .int .i64, .int .i64, .int .u32, .int .u64, .int .u64] fun (x148 : Int × Int × Int × Int × Int × Int × Unit) =>
  StoreV w145 ⟨b1, 0, none⟩ [.int .i64 x148.1, .int .i64 x148.2.1, .int .i64 x148.2.2.1, .int .u32 x148.2.2.2.1, .int .u64 x148.2.2.2.2.1, .int .u64 x148.2.2.2.2.2.1] fun w149 =>
  LoadA w149 ⟨b1, 0, none⟩ [.int .i64, .int .i64, .int .i64, .int .u32, .int .u64, .int .u64] fun (x150 : Int × Int × Int × Int × Int × Int × Unit) =>
  K ((x150.1, x150.2.1, x150.2.2.1, x150.2.2.2.1, x150.2.2.2.2.1, x150.2.2.2.2.2.1, ()), true, ()) w149)))))))))
theorem ref14_Read.vc (a0 : Option Addr) (n0 c0 : Nat) (w : World) (K : (Int × Int × Int × Int × Int × Int × Unit) × Bool × Unit → World → Prop) (h : ref14_Read.P a0 n0 c0 w K) : CallV Try.prog 38 #[.slice a0 n0 c0] w [.agg [.int .i64, .int .i64, .int .i64, .int .u32, .int .u64, .int .u64], .one .bool] K := by
  have e : vcFun Try.prog okf false Try.f38 ref14_Read.A #[.slice a0 n0 c0] w [.agg [.int .i64, .int .i64, .int .i64, .int .u32, .int .u64, .int .u64], .one .bool] K = ref14_Read.P a0 n0 c0 w K := by kernel_rfl
  exact vcFun.calls okf_ok follows Try.func38 (e.symm ▸ h)

/-! ### nepenthe/head.End: function 39 -/
def head_End.A : Ann := .no
def head_End.P (p0_0 : Int) (p0_1 : Int) (p0_2 : Int) (p0_3 : Int) (p0_4 : Int) (p0_5 : Int) (a1 : Option Addr) (n1 c1 : Nat) (w : World) (K : SlV × Int × Unit → World → Prop) : Prop :=
  NewV #[.int .i64 p0_0, .int .i64 p0_1, .int .i64 p0_2, .int .u32 p0_3, .int .u64 p0_4, .int .u64 p0_5] 25 w fun b1 w2 =>
  LoadA w2 ⟨b1, 0, none⟩ [.int .i64, .int .i64, .int .i64, .int .u32, .int .u64, .int .u64] fun (x3 : Int × Int × Int × Int × Int × Int × Unit) =>
  CallV Try.prog 14 #[.agg #[.int .i64 x3.1, .int .i64 x3.2.1, .int .i64 x3.2.2.1, .int .u32 x3.2.2.2.1, .int .u64 x3.2.2.2.2.1, .int .u64 x3.2.2.2.2.2.1]] w2 [.one .sl, .one (.int .i64)] fun (r4 : SlV × Int × Unit) w5 =>
  cond (r4.2.1 != 0)
  (K ((⟨none, 0, 0⟩ : SlV), r4.2.1, ()) w5)
  (cond (((n1 : Nat) : Int) == 0)
  (CallV Try.prog 51 #[.int .u8 255, .int .i64 32] w5 [.one .sl] fun (r6 : SlV × Unit) w7 =>
  cond (((r6.1.n : Nat) : Int) != 32)
  (K ((⟨none, 0, 0⟩ : SlV), (2 : Int), ()) w7)
  (CallV Try.prog 48 #[.slice r4.1.a r4.1.n r4.1.c] w7 [.one .sl] fun (r8 : SlV × Unit) w9 =>
  AppS w9 r8.1.a r8.1.n 1 fun ns14 =>
  AppV w9 5 1 1 r4.1.a r4.1.n r4.1.c ns14 r8.1.n fun a10 n11 c12 w13 =>
  AppS w13 r6.1.a r6.1.n 1 fun ns19 =>
  AppV w13 5 1 1 a10 n11 c12 ns19 r6.1.n fun a15 n16 c17 w18 =>
  CallV Try.prog 51 #[.int .u8 255, .int .i64 8] w18 [.one .sl] fun (r20 : SlV × Unit) w21 =>
  AppS w21 r20.1.a r20.1.n 1 fun ns26 =>
  AppV w21 5 1 1 a15 n16 c17 ns26 r20.1.n fun a22 n23 c24 w25 =>
  K ((⟨a22, n23, c24⟩ : SlV), (0 : Int), ()) w25))
  (cond (((n1 : Nat) : Int) != 32)
  (K ((⟨none, 0, 0⟩ : SlV), (2 : Int), ()) w5)
  (CallV Try.prog 48 #[.slice r4.1.a r4.1.n r4.1.c] w5 [.one .sl] fun (r27 : SlV × Unit) w28 =>
  AppS w28 r27.1.a r27.1.n 1 fun ns33 =>
  AppV w28 5 1 1 r4.1.a r4.1.n r4.1.c ns33 r27.1.n fun a29 n30 c31 w32 =>
  AppS w32 a1 n1 1 fun ns38 =>
  AppV w32 5 1 1 a29 n30 c31 ns38 n1 fun a34 n35 c36 w37 =>
  CallV Try.prog 51 #[.int .u8 255, .int .i64 8] w37 [.one .sl] fun (r39 : SlV × Unit) w40 =>
  AppS w40 r39.1.a r39.1.n 1 fun ns45 =>
  AppV w40 5 1 1 a34 n35 c36 ns45 r39.1.n fun a41 n42 c43 w44 =>
  K ((⟨a41, n42, c43⟩ : SlV), (0 : Int), ()) w44)))
theorem head_End.vc (p0_0 : Int) (p0_1 : Int) (p0_2 : Int) (p0_3 : Int) (p0_4 : Int) (p0_5 : Int) (a1 : Option Addr) (n1 c1 : Nat) (w : World) (K : SlV × Int × Unit → World → Prop) (h : head_End.P p0_0 p0_1 p0_2 p0_3 p0_4 p0_5 a1 n1 c1 w K) : CallV Try.prog 39 #[.agg #[.int .i64 p0_0, .int .i64 p0_1, .int .i64 p0_2, .int .u32 p0_3, .int .u64 p0_4, .int .u64 p0_5], .slice a1 n1 c1] w [.one .sl, .one (.int .i64)] K := by
  have e : vcFun Try.prog okf false Try.f39 head_End.A #[.agg #[.int .i64 p0_0, .int .i64 p0_1, .int .i64 p0_2, .int .u32 p0_3, .int .u64 p0_4, .int .u64 p0_5], .slice a1 n1 c1] w [.one .sl, .one (.int .i64)] K = head_End.P p0_0 p0_1 p0_2 p0_3 p0_4 p0_5 a1 n1 c1 w K := by kernel_rfl
  exact vcFun.calls okf_ok follows Try.func39 (e.symm ▸ h)

/-! ### nepenthe/nepentheref14.End: function 40 -/
def ref14_End.A : Ann := .two .no (.two (.draw (.take 0 (.take 2 (.eff 1 (.eff 3 (.eff 4 (.eff 5 (.take 6 (.done))))))))) .no)
def ref14_End.P (p0_0 : Int) (p0_1 : Int) (p0_2 : Int) (p0_3 : Int) (p0_4 : Int) (p0_5 : Int) (a1 : Option Addr) (n1 c1 : Nat) (w : World) (K : SlV × Unit → World → Prop) : Prop :=
  NewV #[.int .i64 p0_0, .int .i64 p0_1, .int .i64 p0_2, .int .u32 p0_3, .int .u64 p0_4, .int .u64 p0_5] 25 w fun b1 w2 =>
  DrawV fun D3 =>
  (D3 b1 ∧ LoadA w2.drew ⟨b1, 0, none⟩ [.int .i64, .int .i64, .int .i64, .int .u32, .int .u64, .int .u64] fun (x4 : Int × Int × Int × Int × Int × Int × Unit) =>
  (D3 b1 ∧ LoadA w2.drew ⟨b1, 0, none⟩ [.int .i64, .int .i64, .int .i64, .int .u32, .int .u64, .int .u64] fun (x5 : Int × Int × Int × Int × Int × Int × Unit) =>
  CallV Try.prog 18 #[.agg #[.int .i64 x4.1, .int .i64 x4.2.1, .int .i64 x4.2.2.1, .int .u32 x4.2.2.2.1, .int .u64 x4.2.2.2.2.1, .int .u64 x4.2.2.2.2.2.1]] w2.drew [.one .sl] fun (r6 : SlV × Unit) w7 =>
  KeepOn D3 w2.drew w7 ∧
  CallV Try.prog 18 #[.agg #[.int .i64 x5.1, .int .i64 x5.2.1, .int .i64 x5.2.2.1, .int .u32 x5.2.2.2.1, .int .u64 x5.2.2.2.2.1, .int .u64 x5.2.2.2.2.2.1]] w7 [.one .sl] fun (r8 : SlV × Unit) w9 =>
  KeepOn D3 w2.drew w9 ∧
  CallV Try.prog 53 #[.slice r8.1.a r8.1.n r8.1.c] w9 [.one .sl] fun (r10 : SlV × Unit) w11 =>
  KeepOn D3 w2.drew w11 ∧
  AppS w11 r10.1.a r10.1.n 1 fun ns16 =>
  AppV w11 5 1 1 r6.1.a r6.1.n r6.1.c ns16 r10.1.n fun a12 n13 c14 w15 =>
  KeepOn D3 w2.drew w15 ∧
  cond (((n1 : Nat) : Int) == 0)
  (CallV Try.prog 29 #[.int .u8 255, .int .i64 32] w15 [.one .sl] fun (r17 : SlV × Unit) w18 =>
  AppS w18 r17.1.a r17.1.n 1 fun ns23 =>
  AppV w18 5 1 1 a12 n13 c14 ns23 r17.1.n fun a19 n20 c21 w22 =>
  CallV Try.prog 29 #[.int .u8 255, .int .i64 8] w22 [.one .sl] fun (r24 : SlV × Unit) w25 =>
  AppS w25 r24.1.a r24.1.n 1 fun ns30 =>
  AppV w25 5 1 1 a19 n20 c21 ns30 r24.1.n fun a26 n27 c28 w29 =>
  K ((⟨a26, n27, c28⟩ : SlV), ()) w29)
  (AppS w15 a1 n1 1 fun ns35 =>
  AppV w15 5 1 1 a12 n13 c14 ns35 n1 fun a31 n32 c33 w34 =>
  CallV Try.prog 29 #[.int .u8 255, .int .i64 8] w34 [.one .sl] fun (r36 : SlV × Unit) w37 =>
  AppS w37 r36.1.a r36.1.n 1 fun ns42 =>
  AppV w37 5 1 1 a31 n32 c33 ns42 r36.1.n fun a38 n39 c40 w41 =>
  K ((⟨a38, n39, c40⟩ : SlV), ()) w41)))
theorem ref14_End.vc (p0_0 : Int) (p0_1 : Int) (p0_2 : Int) (p0_3 : Int) (p0_4 : Int) (p0_5 : Int) (a1 : Option Addr) (n1 c1 : Nat) (w : World) (K : SlV × Unit → World → Prop) (h : ref14_End.P p0_0 p0_1 p0_2 p0_3 p0_4 p0_5 a1 n1 c1 w K) : CallV Try.prog 40 #[.agg #[.int .i64 p0_0, .int .i64 p0_1, .int .i64 p0_2, .int .u32 p0_3, .int .u64 p0_4, .int .u64 p0_5], .slice a1 n1 c1] w [.one .sl] K := by
  have e : vcFun Try.prog okf false Try.f40 ref14_End.A #[.agg #[.int .i64 p0_0, .int .i64 p0_1, .int .i64 p0_2, .int .u32 p0_3, .int .u64 p0_4, .int .u64 p0_5], .slice a1 n1 c1] w [.one .sl] K = ref14_End.P p0_0 p0_1 p0_2 p0_3 p0_4 p0_5 a1 n1 c1 w K := by kernel_rfl
  exact vcFun.calls okf_ok follows Try.func40 (e.symm ▸ h)

end Go.Proofs.Ytombjhkdakmhpaa.Vc
