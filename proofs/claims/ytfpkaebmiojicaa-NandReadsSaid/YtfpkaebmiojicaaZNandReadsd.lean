/- Texts in one: The plans of functions as plain statements, printed by wip/tools/vcgen.py; the kernel holds each to the code. The contracts of layer 15 (page): pages that are made. Parts of plans, cut out by wip/tools/vccut.py. The contract of the document's Read (layer 14). The plans of functions as plain statements, printed by wip/tools/vcgen.py; the kernel holds each to the code. The laws GeometryChecks, GeometryIndexes and GeometryQuotas of layer 11: each call gives true, and what it read stays. The contracts of layer 15 (page): what commits a page, and what a page tells. The contracts of layer 15 (page): what bytes tell. The contracts of layer 15 (page): the document's, and small ones. The plans of functions as plain statements, printed by wip/tools/vcgen.py; the kernel holds each to the code. The laws PageMakes and PageBlank of layer 15: each call gives true, and what it read stays. -/
import Derived.Test.YtfpkaebmiojicaaZNandReadsc

/-! The plans of functions as plain statements, printed by wip/tools/vcgen.py; the kernel holds each to the code. -/
namespace Go.Proofs.Ytfpkaebmiojicaa.Vc
open Go Go.Eng
set_option linter.unusedVariables false

/-! ### nepenthe/page.Make: function 15 -/
def page_Make.A : Ann := .no
def page_Make.P (p0_0 : Int) (p0_1 : Int) (p0_2 : Int) (p0_3 : Int) (p0_4 : Int) (p0_5 : Int) (p1_0 : Int) (p1_1 : Int) (p1_2 : Int) (p1_3 : Int) (p1_4 : Int) (p1_5 : Int) (a2 : Option Addr) (n2 c2 : Nat) (a3 : Option Addr) (n3 c3 : Nat) (w : World) (K : SlV × Int × Unit → World → Prop) : Prop :=
  NewV #[.int .i64 p0_0, .int .i64 p0_1, .int .i64 p0_2, .int .i64 p0_3, .int .i64 p0_4, .int .i64 p0_5] 23 w fun b1 w2 =>
  NewV #[.int .i64 p1_0, .int .i64 p1_1, .int .i64 p1_2, .int .u32 p1_3, .int .u64 p1_4, .int .u64 p1_5] 27 w2 fun b3 w4 =>
  LoadA w4 ⟨b1, 0, none⟩ [.int .i64, .int .i64, .int .i64, .int .i64, .int .i64, .int .i64] fun (x5 : Int × Int × Int × Int × Int × Int × Unit) =>
  CallV Try.prog 57 #[.agg #[.int .i64 x5.1, .int .i64 x5.2.1, .int .i64 x5.2.2.1, .int .i64 x5.2.2.2.1, .int .i64 x5.2.2.2.2.1, .int .i64 x5.2.2.2.2.2.1]] w4 [.one (.int .i64)] fun (r6 : Int × Unit) w7 =>
  cond (r6.1 != 0)
  (K ((⟨none, 0, 0⟩ : SlV), (2 : Int), ()) w7)
  (cond (((n2 : Nat) : Int) == 0)
  (LoadS w7 ⟨b1, 2, none⟩ (.int .i64) fun (x8 : Int) =>
  CallV Try.prog 58 #[.int .u8 255, .int .i64 x8] w7 [.one .sl] fun (r9 : SlV × Unit) w10 =>
  LoadS w10 ⟨b1, 2, none⟩ (.int .i64) fun (x11 : Int) =>
  cond (((r9.1.n : Nat) : Int) != x11)
  (K ((⟨none, 0, 0⟩ : SlV), (2 : Int), ()) w10)
  (LoadA w10 ⟨b3, 0, none⟩ [.int .i64, .int .i64, .int .i64, .int .u32, .int .u64, .int .u64] fun (x12 : Int × Int × Int × Int × Int × Int × Unit) =>
  CallV Try.prog 59 #[.agg #[.int .i64 x12.1, .int .i64 x12.2.1, .int .i64 x12.2.2.1, .int .u32 x12.2.2.2.1, .int .u64 x12.2.2.2.2.1, .int .u64 x12.2.2.2.2.2.1], .slice a3 n3 c3] w10 [.one .sl, .one (.int .i64)] fun (r13 : SlV × Int × Unit) w14 =>
  cond (r13.2.1 != 0)
  (K ((⟨none, 0, 0⟩ : SlV), r13.2.1, ()) w14)
  (NewV #[] 5 w14 fun b15 w16 =>
  AppS w16 r9.1.a r9.1.n 1 fun ns21 =>
  AppV w16 5 1 1 (some ⟨b15, 0, none⟩) 0 0 ns21 r9.1.n fun a17 n18 c19 w20 =>
  AppS w20 r13.1.a r13.1.n 1 fun ns26 =>
  AppV w20 5 1 1 a17 n18 c19 ns26 r13.1.n fun a22 n23 c24 w25 =>
  K ((⟨a22, n23, c24⟩ : SlV), (0 : Int), ()) w25)))
  (LoadS w7 ⟨b1, 2, none⟩ (.int .i64) fun (x27 : Int) =>
  cond (((n2 : Nat) : Int) != x27)
  (K ((⟨none, 0, 0⟩ : SlV), (2 : Int), ()) w7)
  (LoadA w7 ⟨b3, 0, none⟩ [.int .i64, .int .i64, .int .i64, .int .u32, .int .u64, .int .u64] fun (x28 : Int × Int × Int × Int × Int × Int × Unit) =>
  CallV Try.prog 59 #[.agg #[.int .i64 x28.1, .int .i64 x28.2.1, .int .i64 x28.2.2.1, .int .u32 x28.2.2.2.1, .int .u64 x28.2.2.2.2.1, .int .u64 x28.2.2.2.2.2.1], .slice a3 n3 c3] w7 [.one .sl, .one (.int .i64)] fun (r29 : SlV × Int × Unit) w30 =>
  cond (r29.2.1 != 0)
  (K ((⟨none, 0, 0⟩ : SlV), r29.2.1, ()) w30)
  (NewV #[] 5 w30 fun b31 w32 =>
  AppS w32 a2 n2 1 fun ns37 =>
  AppV w32 5 1 1 (some ⟨b31, 0, none⟩) 0 0 ns37 n2 fun a33 n34 c35 w36 =>
  AppS w36 r29.1.a r29.1.n 1 fun ns42 =>
  AppV w36 5 1 1 a33 n34 c35 ns42 r29.1.n fun a38 n39 c40 w41 =>
  K ((⟨a38, n39, c40⟩ : SlV), (0 : Int), ()) w41))))
theorem page_Make.vc (p0_0 : Int) (p0_1 : Int) (p0_2 : Int) (p0_3 : Int) (p0_4 : Int) (p0_5 : Int) (p1_0 : Int) (p1_1 : Int) (p1_2 : Int) (p1_3 : Int) (p1_4 : Int) (p1_5 : Int) (a2 : Option Addr) (n2 c2 : Nat) (a3 : Option Addr) (n3 c3 : Nat) (w : World) (K : SlV × Int × Unit → World → Prop) (h : page_Make.P p0_0 p0_1 p0_2 p0_3 p0_4 p0_5 p1_0 p1_1 p1_2 p1_3 p1_4 p1_5 a2 n2 c2 a3 n3 c3 w K) : CallV Try.prog 15 #[.agg #[.int .i64 p0_0, .int .i64 p0_1, .int .i64 p0_2, .int .i64 p0_3, .int .i64 p0_4, .int .i64 p0_5], .agg #[.int .i64 p1_0, .int .i64 p1_1, .int .i64 p1_2, .int .u32 p1_3, .int .u64 p1_4, .int .u64 p1_5], .slice a2 n2 c2, .slice a3 n3 c3] w [.one .sl, .one (.int .i64)] K := by
  have e : vcFun Try.prog okf false Try.f15 page_Make.A #[.agg #[.int .i64 p0_0, .int .i64 p0_1, .int .i64 p0_2, .int .i64 p0_3, .int .i64 p0_4, .int .i64 p0_5], .agg #[.int .i64 p1_0, .int .i64 p1_1, .int .i64 p1_2, .int .u32 p1_3, .int .u64 p1_4, .int .u64 p1_5], .slice a2 n2 c2, .slice a3 n3 c3] w [.one .sl, .one (.int .i64)] K = page_Make.P p0_0 p0_1 p0_2 p0_3 p0_4 p0_5 p1_0 p1_1 p1_2 p1_3 p1_4 p1_5 a2 n2 c2 a3 n3 c3 w K := by kernel_rfl
  exact vcFun.calls okf_ok follows Try.func15 (e.symm ▸ h)

/-! ### nepenthe/page.Commit: function 16 -/
def page_Commit.A : Ann := .no
def page_Commit.P (p0_0 : Int) (p0_1 : Int) (p0_2 : Int) (p0_3 : Int) (p0_4 : Int) (p0_5 : Int) (w : World) (K : SlV × Int × Unit → World → Prop) : Prop :=
  NewV #[.int .i64 p0_0, .int .i64 p0_1, .int .i64 p0_2, .int .i64 p0_3, .int .i64 p0_4, .int .i64 p0_5] 23 w fun b1 w2 =>
  LoadA w2 ⟨b1, 0, none⟩ [.int .i64, .int .i64, .int .i64, .int .i64, .int .i64, .int .i64] fun (x3 : Int × Int × Int × Int × Int × Int × Unit) =>
  CallV Try.prog 57 #[.agg #[.int .i64 x3.1, .int .i64 x3.2.1, .int .i64 x3.2.2.1, .int .i64 x3.2.2.2.1, .int .i64 x3.2.2.2.2.1, .int .i64 x3.2.2.2.2.2.1]] w2 [.one (.int .i64)] fun (r4 : Int × Unit) w5 =>
  cond (r4.1 != 0)
  (K ((⟨none, 0, 0⟩ : SlV), (2 : Int), ()) w5)
  (LoadA w5 ⟨b1, 0, none⟩ [.int .i64, .int .i64, .int .i64, .int .i64, .int .i64, .int .i64] fun (x6 : Int × Int × Int × Int × Int × Int × Unit) =>
  CallV Try.prog 61 #[.agg #[.int .i64 x6.1, .int .i64 x6.2.1, .int .i64 x6.2.2.1, .int .i64 x6.2.2.2.1, .int .i64 x6.2.2.2.2.1, .int .i64 x6.2.2.2.2.2.1]] w5 [.one (.int .i64)] fun (r7 : Int × Unit) w8 =>
  CallV Try.prog 60 #[.int .i64 r7.1] w8 [.one .sl] fun (r9 : SlV × Unit) w10 =>
  K (r9.1, (0 : Int), ()) w10)
theorem page_Commit.vc (p0_0 : Int) (p0_1 : Int) (p0_2 : Int) (p0_3 : Int) (p0_4 : Int) (p0_5 : Int) (w : World) (K : SlV × Int × Unit → World → Prop) (h : page_Commit.P p0_0 p0_1 p0_2 p0_3 p0_4 p0_5 w K) : CallV Try.prog 16 #[.agg #[.int .i64 p0_0, .int .i64 p0_1, .int .i64 p0_2, .int .i64 p0_3, .int .i64 p0_4, .int .i64 p0_5]] w [.one .sl, .one (.int .i64)] K := by
  have e : vcFun Try.prog okf false Try.f16 page_Commit.A #[.agg #[.int .i64 p0_0, .int .i64 p0_1, .int .i64 p0_2, .int .i64 p0_3, .int .i64 p0_4, .int .i64 p0_5]] w [.one .sl, .one (.int .i64)] K = page_Commit.P p0_0 p0_1 p0_2 p0_3 p0_4 p0_5 w K := by kernel_rfl
  exact vcFun.calls okf_ok follows Try.func16 (e.symm ▸ h)

/-! ### nepenthe/page.cut: function 66 -/
def page_cut.A : Ann := .two .no (.two (.draw (.take 0 (.take 1 (.take 2 (.take 3 (.take 4 (.take 5 (.take 6 (.take 7 (.take 8 (.eff 9 (.done)))))))))))) .no)
def page_cut.P (p0_0 : Int) (p0_1 : Int) (p0_2 : Int) (p0_3 : Int) (p0_4 : Int) (p0_5 : Int) (a1 : Option Addr) (n1 c1 : Nat) (w : World) (K : (SlV × SlV × Unit) × Unit → World → Prop) : Prop :=
  NewV #[.int .i64 p0_0, .int .i64 p0_1, .int .i64 p0_2, .int .i64 p0_3, .int .i64 p0_4, .int .i64 p0_5] 23 w fun b1 w2 =>
  NewV #[.slice none 0 0, .slice none 0 0] 29 w2 fun b3 w4 =>
  DrawV fun D5 =>
  (D5 b1 ∧ LoadS w4.drew ⟨b1, 2, none⟩ (.int .i64) fun (x6 : Int) =>
  ((0 : Int) ≤ x6 ∧ x6 ≤ ((c1 : Nat) : Int)) ∧
  SubK a1 0 c1 1 fun a7 =>
  (D5 b1 ∧ LoadS w4.drew ⟨b1, 2, none⟩ (.int .i64) fun (x8 : Int) =>
  ((0 : Int) ≤ x8 ∧ x8 ≤ ((n1 : Nat) : Int)) ∧
  SubK a1 x8.toNat c1 1 fun a9 =>
  StoreV w4.drew ⟨b3, 0, none⟩ [.slice a7 (x6.toNat - 0) (c1 - 0), .slice a9 (n1 - x8.toNat) (c1 - x8.toNat)] fun w10 =>
  KeepOn D5 w4.drew w10 ∧
  LoadA w10 ⟨b3, 0, none⟩ [.sl, .sl] fun (x11 : SlV × SlV × Unit) =>
  K ((x11.1, x11.2.1, ()), ()) w10))
theorem page_cut.vc (p0_0 : Int) (p0_1 : Int) (p0_2 : Int) (p0_3 : Int) (p0_4 : Int) (p0_5 : Int) (a1 : Option Addr) (n1 c1 : Nat) (w : World) (K : (SlV × SlV × Unit) × Unit → World → Prop) (h : page_cut.P p0_0 p0_1 p0_2 p0_3 p0_4 p0_5 a1 n1 c1 w K) : CallV Try.prog 66 #[.agg #[.int .i64 p0_0, .int .i64 p0_1, .int .i64 p0_2, .int .i64 p0_3, .int .i64 p0_4, .int .i64 p0_5], .slice a1 n1 c1] w [.agg [.sl, .sl]] K := by
  have e : vcFun Try.prog okf false Try.f66 page_cut.A #[.agg #[.int .i64 p0_0, .int .i64 p0_1, .int .i64 p0_2, .int .i64 p0_3, .int .i64 p0_4, .int .i64 p0_5], .slice a1 n1 c1] w [.agg [.sl, .sl]] K = page_cut.P p0_0 p0_1 p0_2 p0_3 p0_4 p0_5 a1 n1 c1 w K := by kernel_rfl
  exact vcFun.calls okf_ok follows Try.func66 (e.symm ▸ h)

/-! ### nepenthe/page.Read: function 23 -/
def page_Read.A : Ann := .two .no (.two .no (.two .no (.two .no (.two .no (.two (.draw (.take 0 (.take 2 (.take 3 (.take 5 (.take 6 (.take 7 (.eff 1 (.eff 4 (.eff 8 (.take 9 (.eff 10 (.take 11 (.done)))))))))))))) .no)))))
def page_Read.P (p0_0 : Int) (p0_1 : Int) (p0_2 : Int) (p0_3 : Int) (p0_4 : Int) (p0_5 : Int) (a1 : Option Addr) (n1 c1 : Nat) (w : World) (K : (Int × Int × Int × Int × Int × Int × SlV × SlV × Bool × Unit) × Int × Unit → World → Prop) : Prop :=
  NewV #[.int .i64 p0_0, .int .i64 p0_1, .int .i64 p0_2, .int .i64 p0_3, .int .i64 p0_4, .int .i64 p0_5] 23 w fun b1 w2 =>
  NewV #[.int .i64 0, .int .i64 0, .int .i64 0, .int .u32 0, .int .u64 0, .int .u64 0, .slice none 0 0, .slice none 0 0, .bool false] 42 w2 fun b3 w4 =>
  LoadA w4 ⟨b1, 0, none⟩ [.int .i64, .int .i64, .int .i64, .int .i64, .int .i64, .int .i64] fun (x5 : Int × Int × Int × Int × Int × Int × Unit) =>
  CallV Try.prog 57 #[.agg #[.int .i64 x5.1, .int .i64 x5.2.1, .int .i64 x5.2.2.1, .int .i64 x5.2.2.2.1, .int .i64 x5.2.2.2.2.1, .int .i64 x5.2.2.2.2.2.1]] w4 [.one (.int .i64)] fun (r6 : Int × Unit) w7 =>
  cond (r6.1 != 0)
  (StoreV w7 ⟨b3, 0, none⟩ [.int .i64 0, .int .i64 0, .int .i64 0, .int .u32 0, .int .u64 0, .int .u64 0, .slice none 0 0, .slice none 0 0, .bool false] fun w8 =>
  LoadA w8 ⟨b3, 0, none⟩ [.int .i64, .int .i64, .int .i64, .int .u32, .int .u64, .int .u64, .sl, .sl, .bool] fun (x9 : Int × Int × Int × Int × Int × Int × SlV × SlV × Bool × Unit) =>
  K ((x9.1, x9.2.1, x9.2.2.1, x9.2.2.2.1, x9.2.2.2.2.1, x9.2.2.2.2.2.1, x9.2.2.2.2.2.2.1, x9.2.2.2.2.2.2.2.1, x9.2.2.2.2.2.2.2.2.1, ()), (2 : Int), ()) w8)
  (LoadA w7 ⟨b1, 0, none⟩ [.int .i64, .int .i64, .int .i64, .int .i64, .int .i64, .int .i64] fun (x10 : Int × Int × Int × Int × Int × Int × Unit) =>
  CallV Try.prog 61 #[.agg #[.int .i64 x10.1, .int .i64 x10.2.1, .int .i64 x10.2.2.1, .int .i64 x10.2.2.2.1, .int .i64 x10.2.2.2.2.1, .int .i64 x10.2.2.2.2.2.1]] w7 [.one (.int .i64)] fun (r11 : Int × Unit) w12 =>
  cond (((n1 : Nat) : Int) != r11.1)
  (StoreV w12 ⟨b3, 0, none⟩ [.int .i64 0, .int .i64 0, .int .i64 0, .int .u32 0, .int .u64 0, .int .u64 0, .slice none 0 0, .slice none 0 0, .bool false] fun w13 =>
  LoadA w13 ⟨b3, 0, none⟩ [.int .i64, .int .i64, .int .i64, .int .u32, .int .u64, .int .u64, .sl, .sl, .bool] fun (x14 : Int × Int × Int × Int × Int × Int × SlV × SlV × Bool × Unit) =>
  K ((x14.1, x14.2.1, x14.2.2.1, x14.2.2.2.1, x14.2.2.2.2.1, x14.2.2.2.2.2.1, x14.2.2.2.2.2.2.1, x14.2.2.2.2.2.2.2.1, x14.2.2.2.2.2.2.2.2.1, ()), (2 : Int), ()) w13)
  (LoadA w12 ⟨b1, 0, none⟩ [.int .i64, .int .i64, .int .i64, .int .i64, .int .i64, .int .i64] fun (x15 : Int × Int × Int × Int × Int × Int × Unit) =>
  CallV Try.prog 66 #[.agg #[.int .i64 x15.1, .int .i64 x15.2.1, .int .i64 x15.2.2.1, .int .i64 x15.2.2.2.1, .int .i64 x15.2.2.2.2.1, .int .i64 x15.2.2.2.2.2.1], .slice a1 n1 c1] w12 [.agg [.sl, .sl]] fun (r16 : (SlV × SlV × Unit) × Unit) w17 =>
  NewV #[.slice none 0 0, .slice none 0 0] 29 w17 fun b18 w19 =>
  StoreV w19 ⟨b18, 0, none⟩ [.slice r16.1.1.a r16.1.1.n r16.1.1.c, .slice r16.1.2.1.a r16.1.2.1.n r16.1.2.1.c] fun w20 =>
  (0 ≤ (1 : Int) ∧ 1 < (2 : Int)) ∧
  LoadS w20 ⟨b18, 1, none⟩ .sl fun (x21 : SlV) =>
  CallV Try.prog 67 #[.slice x21.a x21.n x21.c] w20 [.agg [.int .i64, .int .i64, .int .i64, .int .u32, .int .u64, .int .u64], .one .sl, .one (.int .i64)] fun (r22 : (Int × Int × Int × Int × Int × Int × Unit) × SlV × Int × Unit) w23 =>
  NewV #[.int .i64 0, .int .i64 0, .int .i64 0, .int .u32 0, .int .u64 0, .int .u64 0] 27 w23 fun b24 w25 =>
  StoreV w25 ⟨b24, 0, none⟩ [.int .i64 r22.1.1, .int .i64 r22.1.2.1, .int .i64 r22.1.2.2.1, .int .u32 r22.1.2.2.2.1, .int .u64 r22.1.2.2.2.2.1, .int .u64 r22.1.2.2.2.2.2.1] fun w26 =>
  cond (r22.2.2.1 != 0)
  (StoreV w26 ⟨b3, 0, none⟩ [.int .i64 0, .int .i64 0, .int .i64 0, .int .u32 0, .int .u64 0, .int .u64 0, .slice none 0 0, .slice none 0 0, .bool false] fun w27 =>
  LoadA w27 ⟨b3, 0, none⟩ [.int .i64, .int .i64, .int .i64, .int .u32, .int .u64, .int .u64, .sl, .sl, .bool] fun (x28 : Int × Int × Int × Int × Int × Int × SlV × SlV × Bool × Unit) =>
  K ((x28.1, x28.2.1, x28.2.2.1, x28.2.2.2.1, x28.2.2.2.2.1, x28.2.2.2.2.2.1, x28.2.2.2.2.2.2.1, x28.2.2.2.2.2.2.2.1, x28.2.2.2.2.2.2.2.2.1, ()), r22.2.2.1, ()) w27)
  (DrawV fun D29 =>
  (D29 b24 ∧ LoadA w26.drew ⟨b24, 0, none⟩ [.int .i64, .int .i64, .int .i64, .int .u32, .int .u64, .int .u64] fun (x30 : Int × Int × Int × Int × Int × Int × Unit) =>
  (0 ≤ (0 : Int) ∧ 0 < (2 : Int)) ∧
  (D29 b18 ∧ LoadS w26.drew ⟨b18, 0, none⟩ .sl fun (x31 : SlV) =>
  (0 ≤ (1 : Int) ∧ 1 < (2 : Int)) ∧
  (D29 b18 ∧ LoadS w26.drew ⟨b18, 1, none⟩ .sl fun (x32 : SlV) =>
  NewV #[] 5 w26.drew fun b33 w34 =>
  KeepOn D29 w26.drew w34 ∧
  AppS w34 x31.a x31.n 1 fun ns39 =>
  AppV w34 5 1 1 (some ⟨b33, 0, none⟩) 0 0 ns39 x31.n fun a35 n36 c37 w38 =>
  KeepOn D29 w26.drew w38 ∧
  CallV Try.prog 68 #[.slice x32.a x32.n x32.c] w38 [.one .bool] fun (r40 : Bool × Unit) w41 =>
  KeepOn D29 w26.drew w41 ∧
  StoreV w41 ⟨b3, 0, none⟩ [.int .i64 x30.1, .int .i64 x30.2.1, .int .i64 x30.2.2.1, .int .u32 x30.2.2.2.1, .int .u64 x30.2.2.2.2.1, .int .u64 x30.2.2.2.2.2.1, .slice a35 n36 c37, .slice r22.2.1.a r22.2.1.n r22.2.1.c, .bool r40.1] fun w42 =>
  KeepOn D29 w26.drew w42 ∧
  LoadA w42 ⟨b3, 0, none⟩ [.int .i64, .int .i64, .int .i64, .int .u32, .int .u64, .int .u64, .sl, .sl, .bool] fun (x43 : Int × Int × Int × Int × Int × Int × SlV × SlV × Bool × Unit) =>
  K ((x43.1, x43.2.1, x43.2.2.1, x43.2.2.2.1, x43.2.2.2.2.1, x43.2.2.2.2.2.1, x43.2.2.2.2.2.2.1, x43.2.2.2.2.2.2.2.1, x43.2.2.2.2.2.2.2.2.1, ()), (0 : Int), ()) w42))))))
theorem page_Read.vc (p0_0 : Int) (p0_1 : Int) (p0_2 : Int) (p0_3 : Int) (p0_4 : Int) (p0_5 : Int) (a1 : Option Addr) (n1 c1 : Nat) (w : World) (K : (Int × Int × Int × Int × Int × Int × SlV × SlV × Bool × Unit) × Int × Unit → World → Prop) (h : page_Read.P p0_0 p0_1 p0_2 p0_3 p0_4 p0_5 a1 n1 c1 w K) : CallV Try.prog 23 #[.agg #[.int .i64 p0_0, .int .i64 p0_1, .int .i64 p0_2, .int .i64 p0_3, .int .i64 p0_4, .int .i64 p0_5], .slice a1 n1 c1] w [.agg [.int .i64, .int .i64, .int .i64, .int .u32, .int .u64, .int .u64, .sl, .sl, .bool], .one (.int .i64)] K := by
  have e : vcFun Try.prog okf false Try.f23 page_Read.A #[.agg #[.int .i64 p0_0, .int .i64 p0_1, .int .i64 p0_2, .int .i64 p0_3, .int .i64 p0_4, .int .i64 p0_5], .slice a1 n1 c1] w [.agg [.int .i64, .int .i64, .int .i64, .int .u32, .int .u64, .int .u64, .sl, .sl, .bool], .one (.int .i64)] K = page_Read.P p0_0 p0_1 p0_2 p0_3 p0_4 p0_5 a1 n1 c1 w K := by kernel_rfl
  exact vcFun.calls okf_ok follows Try.func23 (e.symm ▸ h)

/-! ### nepenthe/page.Done: function 24 -/
def page_Done.A : Ann := .no
def page_Done.P (p0_0 : Int) (p0_1 : Int) (p0_2 : Int) (p0_3 : Int) (p0_4 : Int) (p0_5 : Int) (a1 : Option Addr) (n1 c1 : Nat) (p2 : Int) (w : World) (K : (Int × Int × Int × Int × Int × Int × SlV × SlV × Bool × Unit) × Bool × Unit → World → Prop) : Prop :=
  NewV #[.int .i64 p0_0, .int .i64 p0_1, .int .i64 p0_2, .int .i64 p0_3, .int .i64 p0_4, .int .i64 p0_5] 23 w fun b1 w2 =>
  NewV #[.int .i64 0, .int .i64 0, .int .i64 0, .int .u32 0, .int .u64 0, .int .u64 0, .slice none 0 0, .slice none 0 0, .bool false] 42 w2 fun b3 w4 =>
  LoadA w4 ⟨b1, 0, none⟩ [.int .i64, .int .i64, .int .i64, .int .i64, .int .i64, .int .i64] fun (x5 : Int × Int × Int × Int × Int × Int × Unit) =>
  CallV Try.prog 23 #[.agg #[.int .i64 x5.1, .int .i64 x5.2.1, .int .i64 x5.2.2.1, .int .i64 x5.2.2.2.1, .int .i64 x5.2.2.2.2.1, .int .i64 x5.2.2.2.2.2.1], .slice a1 n1 c1] w4 [.agg [.int .i64, .int .i64, .int .i64, .int .u32, .int .u64, .int .u64, .sl, .sl, .bool], .one (.int .i64)] fun (r6 : (Int × Int × Int × Int × Int × Int × SlV × SlV × Bool × Unit) × Int × Unit) w7 =>
  NewV #[.int .i64 0, .int .i64 0, .int .i64 0, .int .u32 0, .int .u64 0, .int .u64 0, .slice none 0 0, .slice none 0 0, .bool false] 42 w7 fun b8 w9 =>
  StoreV w9 ⟨b8, 0, none⟩ [.int .i64 r6.1.1, .int .i64 r6.1.2.1, .int .i64 r6.1.2.2.1, .int .u32 r6.1.2.2.2.1, .int .u64 r6.1.2.2.2.2.1, .int .u64 r6.1.2.2.2.2.2.1, .slice r6.1.2.2.2.2.2.2.1.a r6.1.2.2.2.2.2.2.1.n r6.1.2.2.2.2.2.2.1.c, .slice r6.1.2.2.2.2.2.2.2.1.a r6.1.2.2.2.2.2.2.2.1.n r6.1.2.2.2.2.2.2.2.1.c, .bool r6.1.2.2.2.2.2.2.2.2.1] fun w10 =>
  cond (r6.2.1 != 0)
  (StoreV w10 ⟨b3, 0, none⟩ [.int .i64 0, .int .i64 0, .int .i64 0, .int .u32 0, .int .u64 0, .int .u64 0, .slice none 0 0, .slice none 0 0, .bool false] fun w11 =>
  LoadA w11 ⟨b3, 0, none⟩ [.int .i64, .int .i64, .int .i64, .int .u32, .int .u64, .int .u64, .sl, .sl, .bool] fun (x12 : Int × Int × Int × Int × Int × Int × SlV × SlV × Bool × Unit) =>
  K ((x12.1, x12.2.1, x12.2.2.1, x12.2.2.2.1, x12.2.2.2.2.1, x12.2.2.2.2.2.1, x12.2.2.2.2.2.2.1, x12.2.2.2.2.2.2.2.1, x12.2.2.2.2.2.2.2.2.1, ()), false, ()) w11)
  (LoadS w10 ⟨b8, 8, none⟩ .bool fun (x13 : Bool) =>
  cond (!x13)
  (StoreV w10 ⟨b3, 0, none⟩ [.int .i64 0, .int .i64 0, .int .i64 0, .int .u32 0, .int .u64 0, .int .u64 0, .slice none 0 0, .slice none 0 0, .bool false] fun w14 =>
  LoadA w14 ⟨b3, 0, none⟩ [.int .i64, .int .i64, .int .i64, .int .u32, .int .u64, .int .u64, .sl, .sl, .bool] fun (x15 : Int × Int × Int × Int × Int × Int × SlV × SlV × Bool × Unit) =>
  K ((x15.1, x15.2.1, x15.2.2.1, x15.2.2.2.1, x15.2.2.2.2.1, x15.2.2.2.2.2.1, x15.2.2.2.2.2.2.1, x15.2.2.2.2.2.2.2.1, x15.2.2.2.2.2.2.2.2.1, ()), false, ()) w14)
  (LoadS w10 ⟨b8, 0, none⟩ (.int .i64) fun (x16 : Int) =>
  cond (x16 != p2)
  (StoreV w10 ⟨b3, 0, none⟩ [.int .i64 0, .int .i64 0, .int .i64 0, .int .u32 0, .int .u64 0, .int .u64 0, .slice none 0 0, .slice none 0 0, .bool false] fun w17 =>
  LoadA w17 ⟨b3, 0, none⟩ [.int .i64, .int .i64, .int .i64, .int .u32, .int .u64, .int .u64, .sl, .sl, .bool] fun (x18 : Int × Int × Int × Int × Int × Int × SlV × SlV × Bool × Unit) =>
  K ((x18.1, x18.2.1, x18.2.2.1, x18.2.2.2.1, x18.2.2.2.2.1, x18.2.2.2.2.2.1, x18.2.2.2.2.2.2.1, x18.2.2.2.2.2.2.2.1, x18.2.2.2.2.2.2.2.2.1, ()), false, ()) w17)
  (LoadA w10 ⟨b8, 0, none⟩ [.int .i64, .int .i64, .int .i64, .int .u32, .int .u64, .int .u64, .sl, .sl, .bool] fun (x19 : Int × Int × Int × Int × Int × Int × SlV × SlV × Bool × Unit) =>
  StoreV w10 ⟨b3, 0, none⟩ [.int .i64 x19.1, .int .i64 x19.2.1, .int .i64 x19.2.2.1, .int .u32 x19.2.2.2.1, .int .u64 x19.2.2.2.2.1, .int .u64 x19.2.2.2.2.2.1, .slice x19.2.2.2.2.2.2.1.a x19.2.2.2.2.2.2.1.n x19.2.2.2.2.2.2.1.c, .slice x19.2.2.2.2.2.2.2.1.a x19.2.2.2.2.2.2.2.1.n x19.2.2.2.2.2.2.2.1.c, .bool x19.2.2.2.2.2.2.2.2.1] fun w20 =>
  LoadA w20 ⟨b3, 0, none⟩ [.int .i64, .int .i64, .int .i64, .int .u32, .int .u64, .int .u64, .sl, .sl, .bool] fun (x21 : Int × Int × Int × Int × Int × Int × SlV × SlV × Bool × Unit) =>
  K ((x21.1, x21.2.1, x21.2.2.1, x21.2.2.2.1, x21.2.2.2.2.1, x21.2.2.2.2.2.1, x21.2.2.2.2.2.2.1, x21.2.2.2.2.2.2.2.1, x21.2.2.2.2.2.2.2.2.1, ()), true, ()) w20)))
theorem page_Done.vc (p0_0 : Int) (p0_1 : Int) (p0_2 : Int) (p0_3 : Int) (p0_4 : Int) (p0_5 : Int) (a1 : Option Addr) (n1 c1 : Nat) (p2 : Int) (w : World) (K : (Int × Int × Int × Int × Int × Int × SlV × SlV × Bool × Unit) × Bool × Unit → World → Prop) (h : page_Done.P p0_0 p0_1 p0_2 p0_3 p0_4 p0_5 a1 n1 c1 p2 w K) : CallV Try.prog 24 #[.agg #[.int .i64 p0_0, .int .i64 p0_1, .int .i64 p0_2, .int .i64 p0_3, .int .i64 p0_4, .int .i64 p0_5], .slice a1 n1 c1, .int .i64 p2] w [.agg [.int .i64, .int .i64, .int .i64, .int .u32, .int .u64, .int .u64, .sl, .sl, .bool], .one .bool] K := by
  have e : vcFun Try.prog okf false Try.f24 page_Done.A #[.agg #[.int .i64 p0_0, .int .i64 p0_1, .int .i64 p0_2, .int .i64 p0_3, .int .i64 p0_4, .int .i64 p0_5], .slice a1 n1 c1, .int .i64 p2] w [.agg [.int .i64, .int .i64, .int .i64, .int .u32, .int .u64, .int .u64, .sl, .sl, .bool], .one .bool] K = page_Done.P p0_0 p0_1 p0_2 p0_3 p0_4 p0_5 a1 n1 c1 p2 w K := by kernel_rfl
  exact vcFun.calls okf_ok follows Try.func24 (e.symm ▸ h)

/-! ### nepenthe/page.Blank: function 25 -/
-- loop 0 carries 3: .one (.int .u8), 8: .one (.int .i64)
def page_Blank.A : Ann := .two .no (.two .no (.two (.two .no (.one (.loop [3, 5, 8, 9, 10, 11, 12, 13, 14, 15] [(3, .one (.int .u8)), (8, .one (.int .i64))] .no))) .no))
def page_Blank.P (a0 : Option Addr) (n0 c0 : Nat) (w : World) (K : Bool × Unit → World → Prop) : Prop :=
  LoopV [.one (.int .u8), .one (.int .i64)] ((255 : Int), (0 : Int), ()) w fun (z1 : Int × Int × Unit) w2 (K3 : Int × Int × Unit → World → Prop) =>
  cond (decide (z1.2.1 < ((n0 : Nat) : Int)))
  ((0 ≤ z1.2.1 ∧ z1.2.1 < ((n0 : Nat) : Int)) ∧ ∃ q4 : Addr, a0 = some q4 ∧
  LoadS w2 (q4.add (z1.2.1.toNat * 1)) (.int .u8) fun (x5 : Int) =>
  Rng .i64 (z1.2.1 + 1) ∧
  K3 (Go.bits .and .u8 z1.1 x5, z1.2.1 + 1, ()) w2)
  (K ((z1.1 == 255), ()) w2)
theorem page_Blank.vc (a0 : Option Addr) (n0 c0 : Nat) (w : World) (K : Bool × Unit → World → Prop) (h : page_Blank.P a0 n0 c0 w K) : CallV Try.prog 25 #[.slice a0 n0 c0] w [.one .bool] K := by
  have e : vcFun Try.prog okf false Try.f25 page_Blank.A #[.slice a0 n0 c0] w [.one .bool] K = page_Blank.P a0 n0 c0 w K := by kernel_rfl
  exact vcFun.calls okf_ok follows Try.func25 (e.symm ▸ h)

/-! ### nepenthe/nepentheref15.Right: function 21 -/
def ref15_Right.A : Ann := .no
def ref15_Right.P (p0_0 : Int) (p0_1 : Int) (p0_2 : Int) (p0_3 : Int) (p0_4 : Int) (p0_5 : Int) (p1_0 : Int) (p1_1 : Int) (p1_2 : Int) (p1_3 : Int) (p1_4 : Int) (p1_5 : Int) (a2 : Option Addr) (n2 c2 : Nat) (a3 : Option Addr) (n3 c3 : Nat) (w : World) (K : Bool × Unit → World → Prop) : Prop :=
  NewV #[.int .i64 p0_0, .int .i64 p0_1, .int .i64 p0_2, .int .i64 p0_3, .int .i64 p0_4, .int .i64 p0_5] 23 w fun b1 w2 =>
  NewV #[.int .i64 p1_0, .int .i64 p1_1, .int .i64 p1_2, .int .u32 p1_3, .int .u64 p1_4, .int .u64 p1_5] 27 w2 fun b3 w4 =>
  LoadA w4 ⟨b1, 0, none⟩ [.int .i64, .int .i64, .int .i64, .int .i64, .int .i64, .int .i64] fun (x5 : Int × Int × Int × Int × Int × Int × Unit) =>
  CallV Try.prog 17 #[.agg #[.int .i64 x5.1, .int .i64 x5.2.1, .int .i64 x5.2.2.1, .int .i64 x5.2.2.2.1, .int .i64 x5.2.2.2.2.1, .int .i64 x5.2.2.2.2.2.1]] w4 [.one .bool] fun (r6 : Bool × Unit) w7 =>
  cond r6.1
  (LoadA w7 ⟨b3, 0, none⟩ [.int .i64, .int .i64, .int .i64, .int .u32, .int .u64, .int .u64] fun (x8 : Int × Int × Int × Int × Int × Int × Unit) =>
  CallV Try.prog 64 #[.agg #[.int .i64 x8.1, .int .i64 x8.2.1, .int .i64 x8.2.2.1, .int .u32 x8.2.2.2.1, .int .u64 x8.2.2.2.2.1, .int .u64 x8.2.2.2.2.2.1]] w7 [.one .bool] fun (r9 : Bool × Unit) w10 =>
  cond r9.1
  (cond (((n2 : Nat) : Int) == 0)
  (cond (((n3 : Nat) : Int) == 0)
  (K (true, ()) w10)
  (K ((((n3 : Nat) : Int) == 32), ()) w10))
  (LoadS w10 ⟨b1, 2, none⟩ (.int .i64) fun (x11 : Int) =>
  cond (((n2 : Nat) : Int) == x11)
  (cond (((n3 : Nat) : Int) == 0)
  (K (true, ()) w10)
  (K ((((n3 : Nat) : Int) == 32), ()) w10))
  (K (false, ()) w10)))
  (K (false, ()) w10))
  (K (false, ()) w7)
theorem ref15_Right.vc (p0_0 : Int) (p0_1 : Int) (p0_2 : Int) (p0_3 : Int) (p0_4 : Int) (p0_5 : Int) (p1_0 : Int) (p1_1 : Int) (p1_2 : Int) (p1_3 : Int) (p1_4 : Int) (p1_5 : Int) (a2 : Option Addr) (n2 c2 : Nat) (a3 : Option Addr) (n3 c3 : Nat) (w : World) (K : Bool × Unit → World → Prop) (h : ref15_Right.P p0_0 p0_1 p0_2 p0_3 p0_4 p0_5 p1_0 p1_1 p1_2 p1_3 p1_4 p1_5 a2 n2 c2 a3 n3 c3 w K) : CallV Try.prog 21 #[.agg #[.int .i64 p0_0, .int .i64 p0_1, .int .i64 p0_2, .int .i64 p0_3, .int .i64 p0_4, .int .i64 p0_5], .agg #[.int .i64 p1_0, .int .i64 p1_1, .int .i64 p1_2, .int .u32 p1_3, .int .u64 p1_4, .int .u64 p1_5], .slice a2 n2 c2, .slice a3 n3 c3] w [.one .bool] K := by
  have e : vcFun Try.prog okf false Try.f21 ref15_Right.A #[.agg #[.int .i64 p0_0, .int .i64 p0_1, .int .i64 p0_2, .int .i64 p0_3, .int .i64 p0_4, .int .i64 p0_5], .agg #[.int .i64 p1_0, .int .i64 p1_1, .int .i64 p1_2, .int .u32 p1_3, .int .u64 p1_4, .int .u64 p1_5], .slice a2 n2 c2, .slice a3 n3 c3] w [.one .bool] K = ref15_Right.P p0_0 p0_1 p0_2 p0_3 p0_4 p0_5 p1_0 p1_1 p1_2 p1_3 p1_4 p1_5 a2 n2 c2 a3 n3 c3 w K := by kernel_rfl
  exact vcFun.calls okf_ok follows Try.func21 (e.symm ▸ h)

/-! ### nepenthe/nepentheref15.Make: function 22 -/
def ref15_Make.A : Ann := .two .no (.two .no (.two (.draw (.take 1 (.take 3 (.take 4 (.eff 0 (.eff 2 (.eff 5 (.eff 6 (.take 7 (.done)))))))))) .no))
def ref15_Make.P (p0_0 : Int) (p0_1 : Int) (p0_2 : Int) (p0_3 : Int) (p0_4 : Int) (p0_5 : Int) (p1_0 : Int) (p1_1 : Int) (p1_2 : Int) (p1_3 : Int) (p1_4 : Int) (p1_5 : Int) (a2 : Option Addr) (n2 c2 : Nat) (a3 : Option Addr) (n3 c3 : Nat) (w : World) (K : SlV × Unit → World → Prop) : Prop :=
  NewV #[.int .i64 p0_0, .int .i64 p0_1, .int .i64 p0_2, .int .i64 p0_3, .int .i64 p0_4, .int .i64 p0_5] 23 w fun b1 w2 =>
  NewV #[.int .i64 p1_0, .int .i64 p1_1, .int .i64 p1_2, .int .u32 p1_3, .int .u64 p1_4, .int .u64 p1_5] 27 w2 fun b3 w4 =>
  cond (((n2 : Nat) : Int) == 0)
  (LoadS w4 ⟨b1, 2, none⟩ (.int .i64) fun (x5 : Int) =>
  CallV Try.prog 26 #[.int .u8 255, .int .i64 x5] w4 [.one .sl] fun (r6 : SlV × Unit) w7 =>
  DrawV fun D8 =>
  (D8 b3 ∧ LoadA w7.drew ⟨b3, 0, none⟩ [.int .i64, .int .i64, .int .i64, .int .u32, .int .u64, .int .u64] fun (x9 : Int × Int × Int × Int × Int × Int × Unit) =>
  NewV #[] 5 w7.drew fun b10 w11 =>
  KeepOn D8 w7.drew w11 ∧
  AppS w11 r6.1.a r6.1.n 1 fun ns16 =>
  AppV w11 5 1 1 (some ⟨b10, 0, none⟩) 0 0 ns16 r6.1.n fun a12 n13 c14 w15 =>
  KeepOn D8 w7.drew w15 ∧
  CallV Try.prog 65 #[.agg #[.int .i64 x9.1, .int .i64 x9.2.1, .int .i64 x9.2.2.1, .int .u32 x9.2.2.2.1, .int .u64 x9.2.2.2.2.1, .int .u64 x9.2.2.2.2.2.1], .slice a3 n3 c3] w15 [.one .sl] fun (r17 : SlV × Unit) w18 =>
  KeepOn D8 w7.drew w18 ∧
  AppS w18 r17.1.a r17.1.n 1 fun ns23 =>
  AppV w18 5 1 1 a12 n13 c14 ns23 r17.1.n fun a19 n20 c21 w22 =>
  KeepOn D8 w7.drew w22 ∧
  K ((⟨a19, n20, c21⟩ : SlV), ()) w22))
  (DrawV fun D24 =>
  (D24 b3 ∧ LoadA w4.drew ⟨b3, 0, none⟩ [.int .i64, .int .i64, .int .i64, .int .u32, .int .u64, .int .u64] fun (x25 : Int × Int × Int × Int × Int × Int × Unit) =>
  NewV #[] 5 w4.drew fun b26 w27 =>
  KeepOn D24 w4.drew w27 ∧
  AppS w27 a2 n2 1 fun ns32 =>
  AppV w27 5 1 1 (some ⟨b26, 0, none⟩) 0 0 ns32 n2 fun a28 n29 c30 w31 =>
  KeepOn D24 w4.drew w31 ∧
  CallV Try.prog 65 #[.agg #[.int .i64 x25.1, .int .i64 x25.2.1, .int .i64 x25.2.2.1, .int .u32 x25.2.2.2.1, .int .u64 x25.2.2.2.2.1, .int .u64 x25.2.2.2.2.2.1], .slice a3 n3 c3] w31 [.one .sl] fun (r33 : SlV × Unit) w34 =>
  KeepOn D24 w4.drew w34 ∧
  AppS w34 r33.1.a r33.1.n 1 fun ns39 =>
  AppV w34 5 1 1 a28 n29 c30 ns39 r33.1.n fun a35 n36 c37 w38 =>
  KeepOn D24 w4.drew w38 ∧
  K ((⟨a35, n36, c37⟩ : SlV), ()) w38))
theorem ref15_Make.vc (p0_0 : Int) (p0_1 : Int) (p0_2 : Int) (p0_3 : Int) (p0_4 : Int) (p0_5 : Int) (p1_0 : Int) (p1_1 : Int) (p1_2 : Int) (p1_3 : Int) (p1_4 : Int) (p1_5 : Int) (a2 : Option Addr) (n2 c2 : Nat) (a3 : Option Addr) (n3 c3 : Nat) (w : World) (K : SlV × Unit → World → Prop) (h : ref15_Make.P p0_0 p0_1 p0_2 p0_3 p0_4 p0_5 p1_0 p1_1 p1_2 p1_3 p1_4 p1_5 a2 n2 c2 a3 n3 c3 w K) : CallV Try.prog 22 #[.agg #[.int .i64 p0_0, .int .i64 p0_1, .int .i64 p0_2, .int .i64 p0_3, .int .i64 p0_4, .int .i64 p0_5], .agg #[.int .i64 p1_0, .int .i64 p1_1, .int .i64 p1_2, .int .u32 p1_3, .int .u64 p1_4, .int .u64 p1_5], .slice a2 n2 c2, .slice a3 n3 c3] w [.one .sl] K := by
  have e : vcFun Try.prog okf false Try.f22 ref15_Make.A #[.agg #[.int .i64 p0_0, .int .i64 p0_1, .int .i64 p0_2, .int .i64 p0_3, .int .i64 p0_4, .int .i64 p0_5], .agg #[.int .i64 p1_0, .int .i64 p1_1, .int .i64 p1_2, .int .u32 p1_3, .int .u64 p1_4, .int .u64 p1_5], .slice a2 n2 c2, .slice a3 n3 c3] w [.one .sl] K = ref15_Make.P p0_0 p0_1 p0_2 p0_3 p0_4 p0_5 p1_0 p1_1 p1_2 p1_3 p1_4 p1_5 a2 n2 c2 a3 n3 c3 w K := by kernel_rfl
  exact vcFun.calls okf_ok follows Try.func22 (e.symm ▸ h)

/-! ### nepenthe/nepentheref15.Commit: function 20 -/
def ref15_Commit.A : Ann := .no
def ref15_Commit.P (p0_0 : Int) (p0_1 : Int) (p0_2 : Int) (p0_3 : Int) (p0_4 : Int) (p0_5 : Int) (w : World) (K : SlV × Unit → World → Prop) : Prop :=
  NewV #[.int .i64 p0_0, .int .i64 p0_1, .int .i64 p0_2, .int .i64 p0_3, .int .i64 p0_4, .int .i64 p0_5] 23 w fun b1 w2 =>
  LoadS w2 ⟨b1, 2, none⟩ (.int .i64) fun (x3 : Int) =>
  Rng .i64 (x3 + 80) ∧
  CallV Try.prog 26 #[.int .u8 255, .int .i64 (x3 + 80)] w2 [.one .sl] fun (r4 : SlV × Unit) w5 =>
  CallV Try.prog 26 #[.int .u8 0, .int .i64 8] w5 [.one .sl] fun (r6 : SlV × Unit) w7 =>
  AppS w7 r6.1.a r6.1.n 1 fun ns12 =>
  AppV w7 5 1 1 r4.1.a r4.1.n r4.1.c ns12 r6.1.n fun a8 n9 c10 w11 =>
  K ((⟨a8, n9, c10⟩ : SlV), ()) w11
theorem ref15_Commit.vc (p0_0 : Int) (p0_1 : Int) (p0_2 : Int) (p0_3 : Int) (p0_4 : Int) (p0_5 : Int) (w : World) (K : SlV × Unit → World → Prop) (h : ref15_Commit.P p0_0 p0_1 p0_2 p0_3 p0_4 p0_5 w K) : CallV Try.prog 20 #[.agg #[.int .i64 p0_0, .int .i64 p0_1, .int .i64 p0_2, .int .i64 p0_3, .int .i64 p0_4, .int .i64 p0_5]] w [.one .sl] K := by
  have e : vcFun Try.prog okf false Try.f20 ref15_Commit.A #[.agg #[.int .i64 p0_0, .int .i64 p0_1, .int .i64 p0_2, .int .i64 p0_3, .int .i64 p0_4, .int .i64 p0_5]] w [.one .sl] K = ref15_Commit.P p0_0 p0_1 p0_2 p0_3 p0_4 p0_5 w K := by kernel_rfl
  exact vcFun.calls okf_ok follows Try.func20 (e.symm ▸ h)

/-! ### nepenthe/nepentheref15.Read: function 28 -/
def ref15_Read.A : Ann := .two .no (.two .no (.two .no (.two .no (.two (.draw (.take 0 (.take 1 (.take 2 (.take 3 (.take 4 (.take 5 (.take 6 (.take 7 (.eff 8 (.take 9 (.eff 10 (.done))))))))))))) .no))))
def ref15_Read.P (p0_0 : Int) (p0_1 : Int) (p0_2 : Int) (p0_3 : Int) (p0_4 : Int) (p0_5 : Int) (a1 : Option Addr) (n1 c1 : Nat) (w : World) (K : (Int × Int × Int × Int × Int × Int × SlV × SlV × Bool × Bool × Unit) × Unit → World → Prop) : Prop :=
  NewV #[.int .i64 p0_0, .int .i64 p0_1, .int .i64 p0_2, .int .i64 p0_3, .int .i64 p0_4, .int .i64 p0_5] 23 w fun b1 w2 =>
  NewV #[.int .i64 0, .int .i64 0, .int .i64 0, .int .u32 0, .int .u64 0, .int .u64 0, .slice none 0 0, .slice none 0 0, .bool false, .bool false] 51 w2 fun b3 w4 =>
  LoadS w4 ⟨b1, 2, none⟩ (.int .i64) fun (x5 : Int) =>
  ((0 : Int) ≤ x5 ∧ x5 ≤ ((n1 : Nat) : Int)) ∧
  SubK a1 x5.toNat c1 1 fun a6 =>
  CallV Try.prog 69 #[.slice a6 (n1 - x5.toNat) (c1 - x5.toNat)] w4 [.agg [.int .i64, .int .i64, .int .i64, .int .u32, .int .u64, .int .u64], .one .bool] fun (r7 : (Int × Int × Int × Int × Int × Int × Unit) × Bool × Unit) w8 =>
  NewV #[.int .i64 0, .int .i64 0, .int .i64 0, .int .u32 0, .int .u64 0, .int .u64 0] 27 w8 fun b9 w10 =>
  StoreV w10 ⟨b9, 0, none⟩ [.int .i64 r7.1.1, .int .i64 r7.1.2.1, .int .i64 r7.1.2.2.1, .int .u32 r7.1.2.2.2.1, .int .u64 r7.1.2.2.2.2.1, .int .u64 r7.1.2.2.2.2.2.1] fun w11 =>
  cond (!r7.2.1)
  (StoreV w11 ⟨b3, 0, none⟩ [.int .i64 0, .int .i64 0, .int .i64 0, .int .u32 0, .int .u64 0, .int .u64 0, .slice none 0 0, .slice none 0 0, .bool false, .bool false] fun w12 =>
  LoadA w12 ⟨b3, 0, none⟩ [.int .i64, .int .i64, .int .i64, .int .u32, .int .u64, .int .u64, .sl, .sl, .bool, .bool] fun (x13 : Int × Int × Int × Int × Int × Int × SlV × SlV × Bool × Bool × Unit) =>
  K ((x13.1, x13.2.1, x13.2.2.1, x13.2.2.2.1, x13.2.2.2.2.1, x13.2.2.2.2.2.1, x13.2.2.2.2.2.2.1, x13.2.2.2.2.2.2.2.1, x13.2.2.2.2.2.2.2.2.1, x13.2.2.2.2.2.2.2.2.2.1, ()), ()) w12)
  (DrawV fun D14 =>
  (D14 b9 ∧ LoadA w11.drew ⟨b9, 0, none⟩ [.int .i64, .int .i64, .int .i64, .int .u32, .int .u64, .int .u64] fun (x15 : Int × Int × Int × Int × Int × Int × Unit) =>
  (D14 b1 ∧ LoadS w11.drew ⟨b1, 2, none⟩ (.int .i64) fun (x16 : Int) =>
  ((0 : Int) ≤ x16 ∧ x16 ≤ ((c1 : Nat) : Int)) ∧
  SubK a1 0 c1 1 fun a17 =>
  ((0 : Int) ≤ (48 : Int) ∧ (48 : Int) ≤ (80 : Int) ∧ (80 : Int) ≤ ((c1 - x5.toNat : Nat) : Int)) ∧
  SubK a6 48 (c1 - x5.toNat) 1 fun a18 =>
  CallV Try.prog 70 #[.slice a6 (n1 - x5.toNat) (c1 - x5.toNat)] w11.drew [.one .bool] fun (r19 : Bool × Unit) w20 =>
  KeepOn D14 w11.drew w20 ∧
  StoreV w20 ⟨b3, 0, none⟩ [.int .i64 x15.1, .int .i64 x15.2.1, .int .i64 x15.2.2.1, .int .u32 x15.2.2.2.1, .int .u64 x15.2.2.2.2.1, .int .u64 x15.2.2.2.2.2.1, .slice a17 (x16.toNat - 0) (c1 - 0), .slice a18 (80 - 48) ((c1 - x5.toNat) - 48), .bool r19.1, .bool true] fun w21 =>
  KeepOn D14 w11.drew w21 ∧
  LoadA w21 ⟨b3, 0, none⟩ [.int .i64, .int .i64, .int .i64, .int .u32, .int .u64, .int .u64, .sl, .sl, .bool, .bool] fun (x22 : Int × Int × Int × Int × Int × Int × SlV × SlV × Bool × Bool × Unit) =>
  K ((x22.1, x22.2.1, x22.2.2.1, x22.2.2.2.1, x22.2.2.2.2.1, x22.2.2.2.2.2.1, x22.2.2.2.2.2.2.1, x22.2.2.2.2.2.2.2.1, x22.2.2.2.2.2.2.2.2.1, x22.2.2.2.2.2.2.2.2.2.1, ()), ()) w21)))
theorem ref15_Read.vc (p0_0 : Int) (p0_1 : Int) (p0_2 : Int) (p0_3 : Int) (p0_4 : Int) (p0_5 : Int) (a1 : Option Addr) (n1 c1 : Nat) (w : World) (K : (Int × Int × Int × Int × Int × Int × SlV × SlV × Bool × Bool × Unit) × Unit → World → Prop) (h : ref15_Read.P p0_0 p0_1 p0_2 p0_3 p0_4 p0_5 a1 n1 c1 w K) : CallV Try.prog 28 #[.agg #[.int .i64 p0_0, .int .i64 p0_1, .int .i64 p0_2, .int .i64 p0_3, .int .i64 p0_4, .int .i64 p0_5], .slice a1 n1 c1] w [.agg [.int .i64, .int .i64, .int .i64, .int .u32, .int .u64, .int .u64, .sl, .sl, .bool, .bool]] K := by
  have e : vcFun Try.prog okf false Try.f28 ref15_Read.A #[.agg #[.int .i64 p0_0, .int .i64 p0_1, .int .i64 p0_2, .int .i64 p0_3, .int .i64 p0_4, .int .i64 p0_5], .slice a1 n1 c1] w [.agg [.int .i64, .int .i64, .int .i64, .int .u32, .int .u64, .int .u64, .sl, .sl, .bool, .bool]] K = ref15_Read.P p0_0 p0_1 p0_2 p0_3 p0_4 p0_5 a1 n1 c1 w K := by kernel_rfl
  exact vcFun.calls okf_ok follows Try.func28 (e.symm ▸ h)

/-! ### nepenthe/nepentheref15.Done: function 29 -/
def ref15_Done.A : Ann := .no
def ref15_Done.P (p0_0 : Int) (p0_1 : Int) (p0_2 : Int) (p0_3 : Int) (p0_4 : Int) (p0_5 : Int) (a1 : Option Addr) (n1 c1 : Nat) (p2 : Int) (w : World) (K : (Int × Int × Int × Int × Int × Int × SlV × SlV × Bool × Bool × Unit) × Unit → World → Prop) : Prop :=
  NewV #[.int .i64 p0_0, .int .i64 p0_1, .int .i64 p0_2, .int .i64 p0_3, .int .i64 p0_4, .int .i64 p0_5] 23 w fun b1 w2 =>
  NewV #[.int .i64 0, .int .i64 0, .int .i64 0, .int .u32 0, .int .u64 0, .int .u64 0, .slice none 0 0, .slice none 0 0, .bool false, .bool false] 51 w2 fun b3 w4 =>
  LoadA w4 ⟨b1, 0, none⟩ [.int .i64, .int .i64, .int .i64, .int .i64, .int .i64, .int .i64] fun (x5 : Int × Int × Int × Int × Int × Int × Unit) =>
  CallV Try.prog 28 #[.agg #[.int .i64 x5.1, .int .i64 x5.2.1, .int .i64 x5.2.2.1, .int .i64 x5.2.2.2.1, .int .i64 x5.2.2.2.2.1, .int .i64 x5.2.2.2.2.2.1], .slice a1 n1 c1] w4 [.agg [.int .i64, .int .i64, .int .i64, .int .u32, .int .u64, .int .u64, .sl, .sl, .bool, .bool]] fun (r6 : (Int × Int × Int × Int × Int × Int × SlV × SlV × Bool × Bool × Unit) × Unit) w7 =>
  NewV #[.int .i64 0, .int .i64 0, .int .i64 0, .int .u32 0, .int .u64 0, .int .u64 0, .slice none 0 0, .slice none 0 0, .bool false, .bool false] 51 w7 fun b8 w9 =>
  StoreV w9 ⟨b8, 0, none⟩ [.int .i64 r6.1.1, .int .i64 r6.1.2.1, .int .i64 r6.1.2.2.1, .int .u32 r6.1.2.2.2.1, .int .u64 r6.1.2.2.2.2.1, .int .u64 r6.1.2.2.2.2.2.1, .slice r6.1.2.2.2.2.2.2.1.a r6.1.2.2.2.2.2.2.1.n r6.1.2.2.2.2.2.2.1.c, .slice r6.1.2.2.2.2.2.2.2.1.a r6.1.2.2.2.2.2.2.2.1.n r6.1.2.2.2.2.2.2.2.1.c, .bool r6.1.2.2.2.2.2.2.2.2.1, .bool r6.1.2.2.2.2.2.2.2.2.2.1] fun w10 =>
  LoadS w10 ⟨b8, 9, none⟩ .bool fun (x11 : Bool) =>
  cond (!x11)
  (StoreV w10 ⟨b3, 0, none⟩ [.int .i64 0, .int .i64 0, .int .i64 0, .int .u32 0, .int .u64 0, .int .u64 0, .slice none 0 0, .slice none 0 0, .bool false, .bool false] fun w12 =>
  LoadA w12 ⟨b3, 0, none⟩ [.int .i64, .int .i64, .int .i64, .int .u32, .int .u64, .int .u64, .sl, .sl, .bool, .bool] fun (x13 : Int × Int × Int × Int × Int × Int × SlV × SlV × Bool × Bool × Unit) =>
  K ((x13.1, x13.2.1, x13.2.2.1, x13.2.2.2.1, x13.2.2.2.2.1, x13.2.2.2.2.2.1, x13.2.2.2.2.2.2.1, x13.2.2.2.2.2.2.2.1, x13.2.2.2.2.2.2.2.2.1, x13.2.2.2.2.2.2.2.2.2.1, ()), ()) w12)
  (LoadS w10 ⟨b8, 8, none⟩ .bool fun (x14 : Bool) =>
  cond (!x14)
  (StoreV w10 ⟨b3, 0, none⟩ [.int .i64 0, .int .i64 0, .int .i64 0, .int .u32 0, .int .u64 0, .int .u64 0, .slice none 0 0, .slice none 0 0, .bool false, .bool false] fun w15 =>
  LoadA w15 ⟨b3, 0, none⟩ [.int .i64, .int .i64, .int .i64, .int .u32, .int .u64, .int .u64, .sl, .sl, .bool, .bool] fun (x16 : Int × Int × Int × Int × Int × Int × SlV × SlV × Bool × Bool × Unit) =>
  K ((x16.1, x16.2.1, x16.2.2.1, x16.2.2.2.1, x16.2.2.2.2.1, x16.2.2.2.2.2.1, x16.2.2.2.2.2.2.1, x16.2.2.2.2.2.2.2.1, x16.2.2.2.2.2.2.2.2.1, x16.2.2.2.2.2.2.2.2.2.1, ()), ()) w15)
  (LoadS w10 ⟨b8, 0, none⟩ (.int .i64) fun (x17 : Int) =>
  cond (x17 != p2)
  (StoreV w10 ⟨b3, 0, none⟩ [.int .i64 0, .int .i64 0, .int .i64 0, .int .u32 0, .int .u64 0, .int .u64 0, .slice none 0 0, .slice none 0 0, .bool false, .bool false] fun w18 =>
  LoadA w18 ⟨b3, 0, none⟩ [.int .i64, .int .i64, .int .i64, .int .u32, .int .u64, .int .u64, .sl, .sl, .bool, .bool] fun (x19 : Int × Int × Int × Int × Int × Int × SlV × SlV × Bool × Bool × Unit) =>
  K ((x19.1, x19.2.1, x19.2.2.1, x19.2.2.2.1, x19.2.2.2.2.1, x19.2.2.2.2.2.1, x19.2.2.2.2.2.2.1, x19.2.2.2.2.2.2.2.1, x19.2.2.2.2.2.2.2.2.1, x19.2.2.2.2.2.2.2.2.2.1, ()), ()) w18)
  (LoadA w10 ⟨b8, 0, none⟩ [.int .i64, .int .i64, .int .i64, .int .u32, .int .u64, .int .u64, .sl, .sl, .bool, .bool] fun (x20 : Int × Int × Int × Int × Int × Int × SlV × SlV × Bool × Bool × Unit) =>
  StoreV w10 ⟨b3, 0, none⟩ [.int .i64 x20.1, .int .i64 x20.2.1, .int .i64 x20.2.2.1, .int .u32 x20.2.2.2.1, .int .u64 x20.2.2.2.2.1, .int .u64 x20.2.2.2.2.2.1, .slice x20.2.2.2.2.2.2.1.a x20.2.2.2.2.2.2.1.n x20.2.2.2.2.2.2.1.c, .slice x20.2.2.2.2.2.2.2.1.a x20.2.2.2.2.2.2.2.1.n x20.2.2.2.2.2.2.2.1.c, .bool x20.2.2.2.2.2.2.2.2.1, .bool x20.2.2.2.2.2.2.2.2.2.1] fun w21 =>
  LoadA w21 ⟨b3, 0, none⟩ [.int .i64, .int .i64, .int .i64, .int .u32, .int .u64, .int .u64, .sl, .sl, .bool, .bool] fun (x22 : Int × Int × Int × Int × Int × Int × SlV × SlV × Bool × Bool × Unit) =>
  K ((x22.1, x22.2.1, x22.2.2.1, x22.2.2.2.1, x22.2.2.2.2.1, x22.2.2.2.2.2.1, x22.2.2.2.2.2.2.1, x22.2.2.2.2.2.2.2.1, x22.2.2.2.2.2.2.2.2.1, x22.2.2.2.2.2.2.2.2.2.1, ()), ()) w21)))
theorem ref15_Done.vc (p0_0 : Int) (p0_1 : Int) (p0_2 : Int) (p0_3 : Int) (p0_4 : Int) (p0_5 : Int) (a1 : Option Addr) (n1 c1 : Nat) (p2 : Int) (w : World) (K : (Int × Int × Int × Int × Int × Int × SlV × SlV × Bool × Bool × Unit) × Unit → World → Prop) (h : ref15_Done.P p0_0 p0_1 p0_2 p0_3 p0_4 p0_5 a1 n1 c1 p2 w K) : CallV Try.prog 29 #[.agg #[.int .i64 p0_0, .int .i64 p0_1, .int .i64 p0_2, .int .i64 p0_3, .int .i64 p0_4, .int .i64 p0_5], .slice a1 n1 c1, .int .i64 p2] w [.agg [.int .i64, .int .i64, .int .i64, .int .u32, .int .u64, .int .u64, .sl, .sl, .bool, .bool]] K := by
  have e : vcFun Try.prog okf false Try.f29 ref15_Done.A #[.agg #[.int .i64 p0_0, .int .i64 p0_1, .int .i64 p0_2, .int .i64 p0_3, .int .i64 p0_4, .int .i64 p0_5], .slice a1 n1 c1, .int .i64 p2] w [.agg [.int .i64, .int .i64, .int .i64, .int .u32, .int .u64, .int .u64, .sl, .sl, .bool, .bool]] K = ref15_Done.P p0_0 p0_1 p0_2 p0_3 p0_4 p0_5 a1 n1 c1 p2 w K := by kernel_rfl
  exact vcFun.calls okf_ok follows Try.func29 (e.symm ▸ h)

/-! ### nepenthe/nepenthelaw15.same: function 27 -/
def law15_same.A : Ann := .no
def law15_same.P (p0_0 : Int) (p0_1 : Int) (p0_2 : Int) (p0_3 : Int) (p0_4 : Int) (p0_5 : Int) (a0_6 : Option Addr) (n0_6 c0_6 : Nat) (a0_7 : Option Addr) (n0_7 c0_7 : Nat) (p0_8 : Bool) (p1_0 : Int) (p1_1 : Int) (p1_2 : Int) (p1_3 : Int) (p1_4 : Int) (p1_5 : Int) (a1_6 : Option Addr) (n1_6 c1_6 : Nat) (a1_7 : Option Addr) (n1_7 c1_7 : Nat) (p1_8 : Bool) (p1_9 : Bool) (w : World) (K : Bool × Unit → World → Prop) : Prop :=
  NewV #[.int .i64 p0_0, .int .i64 p0_1, .int .i64 p0_2, .int .u32 p0_3, .int .u64 p0_4, .int .u64 p0_5, .slice a0_6 n0_6 c0_6, .slice a0_7 n0_7 c0_7, .bool p0_8] 42 w fun b1 w2 =>
  NewV #[.int .i64 p1_0, .int .i64 p1_1, .int .i64 p1_2, .int .u32 p1_3, .int .u64 p1_4, .int .u64 p1_5, .slice a1_6 n1_6 c1_6, .slice a1_7 n1_7 c1_7, .bool p1_8, .bool p1_9] 51 w2 fun b3 w4 =>
  LoadA w4 ⟨b1, 0, none⟩ [.int .i64, .int .i64, .int .i64, .int .u32, .int .u64, .int .u64] fun (x5 : Int × Int × Int × Int × Int × Int × Unit) =>
  LoadA w4 ⟨b3, 0, none⟩ [.int .i64, .int .i64, .int .i64, .int .u32, .int .u64, .int .u64] fun (x6 : Int × Int × Int × Int × Int × Int × Unit) =>
  AggEq Try.prog 27 #[.int .i64 x5.1, .int .i64 x5.2.1, .int .i64 x5.2.2.1, .int .u32 x5.2.2.2.1, .int .u64 x5.2.2.2.2.1, .int .u64 x5.2.2.2.2.2.1] #[.int .i64 x6.1, .int .i64 x6.2.1, .int .i64 x6.2.2.1, .int .u32 x6.2.2.2.1, .int .u64 x6.2.2.2.2.1, .int .u64 x6.2.2.2.2.2.1] fun e7 =>
  cond e7
  (LoadS w4 ⟨b1, 8, none⟩ .bool fun (x8 : Bool) =>
  LoadS w4 ⟨b3, 8, none⟩ .bool fun (x9 : Bool) =>
  cond (x8 == x9)
  (LoadS w4 ⟨b1, 6, none⟩ .sl fun (x10 : SlV) =>
  LoadS w4 ⟨b3, 6, none⟩ .sl fun (x11 : SlV) =>
  CallV Try.prog 19 #[.slice x10.a x10.n x10.c, .slice x11.a x11.n x11.c] w4 [.one .bool] fun (r12 : Bool × Unit) w13 =>
  cond r12.1
  (LoadS w13 ⟨b1, 7, none⟩ .sl fun (x14 : SlV) =>
  LoadS w13 ⟨b3, 7, none⟩ .sl fun (x15 : SlV) =>
  CallV Try.prog 19 #[.slice x14.a x14.n x14.c, .slice x15.a x15.n x15.c] w13 [.one .bool] fun (r16 : Bool × Unit) w17 =>
  K (r16.1, ()) w17)
  (K (false, ()) w13))
  (K (false, ()) w4))
  (K (false, ()) w4)
theorem law15_same.vc (p0_0 : Int) (p0_1 : Int) (p0_2 : Int) (p0_3 : Int) (p0_4 : Int) (p0_5 : Int) (a0_6 : Option Addr) (n0_6 c0_6 : Nat) (a0_7 : Option Addr) (n0_7 c0_7 : Nat) (p0_8 : Bool) (p1_0 : Int) (p1_1 : Int) (p1_2 : Int) (p1_3 : Int) (p1_4 : Int) (p1_5 : Int) (a1_6 : Option Addr) (n1_6 c1_6 : Nat) (a1_7 : Option Addr) (n1_7 c1_7 : Nat) (p1_8 : Bool) (p1_9 : Bool) (w : World) (K : Bool × Unit → World → Prop) (h : law15_same.P p0_0 p0_1 p0_2 p0_3 p0_4 p0_5 a0_6 n0_6 c0_6 a0_7 n0_7 c0_7 p0_8 p1_0 p1_1 p1_2 p1_3 p1_4 p1_5 a1_6 n1_6 c1_6 a1_7 n1_7 c1_7 p1_8 p1_9 w K) : CallV Try.prog 27 #[.agg #[.int .i64 p0_0, .int .i64 p0_1, .int .i64 p0_2, .int .u32 p0_3, .int .u64 p0_4, .int .u64 p0_5, .slice a0_6 n0_6 c0_6, .slice a0_7 n0_7 c0_7, .bool p0_8], .agg #[.int .i64 p1_0, .int .i64 p1_1, .int .i64 p1_2, .int .u32 p1_3, .int .u64 p1_4, .int .u64 p1_5, .slice a1_6 n1_6 c1_6, .slice a1_7 n1_7 c1_7, .bool p1_8, .bool p1_9]] w [.one .bool] K := by
  have e : vcFun Try.prog okf false Try.f27 law15_same.A #[.agg #[.int .i64 p0_0, .int .i64 p0_1, .int .i64 p0_2, .int .u32 p0_3, .int .u64 p0_4, .int .u64 p0_5, .slice a0_6 n0_6 c0_6, .slice a0_7 n0_7 c0_7, .bool p0_8], .agg #[.int .i64 p1_0, .int .i64 p1_1, .int .i64 p1_2, .int .u32 p1_3, .int .u64 p1_4, .int .u64 p1_5, .slice a1_6 n1_6 c1_6, .slice a1_7 n1_7 c1_7, .bool p1_8, .bool p1_9]] w [.one .bool] K = law15_same.P p0_0 p0_1 p0_2 p0_3 p0_4 p0_5 a0_6 n0_6 c0_6 a0_7 n0_7 c0_7 p0_8 p1_0 p1_1 p1_2 p1_3 p1_4 p1_5 a1_6 n1_6 c1_6 a1_7 n1_7 c1_7 p1_8 p1_9 w K := by kernel_rfl
  exact vcFun.calls okf_ok follows Try.func27 (e.symm ▸ h)

/-! ### nepenthe/nepenthelaw15.awake: function 18 -/
def law15_awake.A : Ann := .no
def law15_awake.P  (w : World) (K : Bool × Unit → World → Prop) : Prop :=
  NewV #[.int .i64 0, .int .i64 0, .int .i64 0, .int .i64 0, .int .i64 0, .int .i64 0] 23 w fun b1 w2 =>
  StoreV w2 ⟨b1, 0, none⟩ [.int .i64 7, .int .i64 10, .int .i64 64, .int .i64 0, .int .i64 1, .int .i64 1] fun w3 =>
  LoadA w3 ⟨b1, 0, none⟩ [.int .i64, .int .i64, .int .i64, .int .i64, .int .i64, .int .i64] fun (x4 : Int × Int × Int × Int × Int × Int × Unit) =>
  CallV Try.prog 15 #[.agg #[.int .i64 x4.1, .int .i64 x4.2.1, .int .i64 x4.2.2.1, .int .i64 x4.2.2.2.1, .int .i64 x4.2.2.2.2.1, .int .i64 x4.2.2.2.2.2.1], .agg #[.int .i64 1, .int .i64 0, .int .i64 0, .int .u32 0, .int .u64 0, .int .u64 0], .slice none 0 0, .slice none 0 0] w3 [.one .sl, .one (.int .i64)] fun (r5 : SlV × Int × Unit) w6 =>
  cond (r5.2.1 == 0)
  (cond (((r5.1.n : Nat) : Int) == 152)
  (CallV Try.prog 25 #[.slice r5.1.a r5.1.n r5.1.c] w6 [.one .bool] fun (r7 : Bool × Unit) w8 =>
  cond (!r7.1)
  (CallV Try.prog 25 #[.slice none 0 0] w8 [.one .bool] fun (r9 : Bool × Unit) w10 =>
  K (r9.1, ()) w10)
  (K (false, ()) w8))
  (K (false, ()) w6))
  (K (false, ()) w6)
theorem law15_awake.vc  (w : World) (K : Bool × Unit → World → Prop) (h : law15_awake.P  w K) : CallV Try.prog 18 #[] w [.one .bool] K := by
  have e : vcFun Try.prog okf false Try.f18 law15_awake.A #[] w [.one .bool] K = law15_awake.P  w K := by kernel_rfl
  exact vcFun.calls okf_ok follows Try.func18 (e.symm ▸ h)

end Go.Proofs.Ytfpkaebmiojicaa.Vc

/-! The contracts of layer 15 (page): pages that are made. -/
namespace Go.Proofs.Ytfpkaebmiojicaa.Vc
open Go Go.Eng Go.RowKit
set_option linter.unusedVariables false
set_option linter.unusedSimpArgs false

def payL (g : Geo) (pl : List Int) : List Int := if pl.length = 0 then List.replicate g.s.toNat 255 else pl
def mkL (g : Geo) (h : Hd) (pl tg : List Int) : List Int := payL g pl ++ endL h tg
def comL (g : Geo) : List Int := List.replicate (g.s + 80).toNat 255 ++ List.replicate 8 0
def PRight (g : Geo) (h : Hd) (n m : Nat) : Prop := Right g ∧ ERight h m ∧ (n = 0 ∨ (n : Int) = g.s)
instance (g : Geo) (h : Hd) (n m : Nat) : Decidable (PRight g h n m) := by unfold PRight; infer_instance
theorem Right.sec {g : Geo} (h : Right g) : 32 ≤ g.s ∧ g.s ≤ 4096 := by unfold Right Kept at h; omega

theorem fill_sec {g : Geo} (hs : 32 ≤ g.s ∧ g.s ≤ 4096) : (max 0 (min (65536 : Int) g.s)).toNat = g.s.toNat := by generalize hL : (65536 : Int) = L; omega
theorem _root_.Go.Eng.Sep.res {E : Nat → Prop} {w0 w w' : World} {Rs : List Asr} {s : SlV} {xs : List Int} (S : Sep E w0 w Rs) (h : Res w w' s xs) : Sep E w0 w' (OwnA 5 1 s.a s.n s.c (xs.map (Value.int .u8)) :: Rs) := S.pushO h.ext h.own
/-- The first part as a result. -/
theorem _root_.Go.Eng.Sep.out {w0 w : World} {Rs : List Asr} {a : Option Addr} {n c : Nat} {xs : List Int} (S : Sep NoB w0 w (OwnA 5 1 a n c (xs.map (Value.int .u8)) :: Rs)) : Res w0 w ⟨a, n, c⟩ xs := by
  obtain ⟨F, ⟨h, hF⟩, hb⟩ := S.get (i := 0) rfl
  refine ⟨S.ext, ⟨h.len, h.cap, h.lim, h.one, h.at_.imp id fun ⟨b, cs, h1, h2, h3, h4⟩ => ⟨b, cs, h1, ?_, h3, h4⟩⟩⟩
  exact ((hb _ (hF _ h1)).1.elim (fun x => x.elim) id)

theorem Make_c {w : World} {g : Geo} {h : Hd} {a a2 : Option Addr} {n c m c2 : Nat} {xs ts : List Int} (hg : h.rng) (hx : Ints w .u8 a n c xs) (ht : Ints w .u8 a2 m c2 ts) :
    CallV Try.prog 15 #[g.val, h.val, .slice a n c, .slice a2 m c2] w [.one .sl, .one (.int .i64)] fun r w' => Ext w w' ∧ (PRight g h n m → Res w w' r.1 (mkL g h xs ts) ∧ r.2.1 = (0 : Int)) ∧ (¬ PRight g h n m → r.1 = (⟨none, 0, 0⟩ : SlV) ∧ r.2.1 = (2 : Int)) := by
  apply page_Make.vc
  unfold page_Make.P
  have S := Sep.start NoB w
  have no : ∀ {w' : World}, ¬ PRight g h n m → Ext w w' → (Ext w w' ∧ (PRight g h n m → Res w w' (⟨none, 0, 0⟩ : SlV) (mkL g h xs ts) ∧ (2 : Int) = (0 : Int)) ∧ (¬ PRight g h n m → (⟨none, 0, 0⟩ : SlV) = (⟨none, 0, 0⟩ : SlV) ∧ (2 : Int) = (2 : Int))) := fun hr he => ⟨he, fun h => absurd h hr, fun _ => ⟨rfl, rfl⟩⟩
  have lx := hx.len
  have lt := ht.len
  (repeat ((first | refine S.newB fun _ _ S f _ => ?_ | refine S.la0 rfl ?_ | refine S.la1 rfl ?_ | refine S.la2 rfl ?_ | refine S.la3 rfl ?_ | refine S.la4 rfl ?_ | refine S.la5 rfl ?_ | refine S.ld0 rfl rfl ?_ | refine S.ld1 rfl rfl ?_ | refine S.ld2 rfl rfl ?_ | refine S.ld3 rfl rfl ?_ | refine S.ld4 rfl rfl ?_ | refine S.ld5 rfl rfl ?_ | refine S.st0 (by rfl) fun _ S f => ?_ | refine S.st1 (by rfl) fun _ S f => ?_ | refine S.st2 (by rfl) fun _ S f => ?_ | refine S.st3 (by rfl) fun _ S f => ?_ | refine S.st4 (by rfl) fun _ S f => ?_ | refine S.st5 (by rfl) fun _ S f => ?_ | refine S.su0 (by rfl) fun _ S f => ?_ | refine S.su1 (by rfl) fun _ S f => ?_ | refine S.su2 (by rfl) fun _ S f => ?_ | refine S.su3 (by rfl) fun _ S f => ?_ | refine S.su4 (by rfl) fun _ S f => ?_ | refine S.su5 (by rfl) fun _ S f => ?_ | refine ⟨by decide, ?_⟩); try dsimp only [List.set_cons_zero, List.set_cons_succ, cond_true, cond_false, Bool.not_true, Bool.not_false]))
  refine (Check_c (g := g)).mono ?_
  rintro ⟨(r : Int), ⟨⟩⟩ w2 ⟨h2, e2⟩
  dsimp only at h2 ⊢
  have S := S.stepE e2
  subst h2
  by_cases hR : Right g
  · refine cond_f (by unfold chkE; rw [if_pos hR]; rfl) ?_
    have hs := hR.sec
    refine cond_eq (fun h0 => ?_) (fun h0 => ?_)
    · (repeat ((first | refine S.newB fun _ _ S f _ => ?_ | refine S.la0 rfl ?_ | refine S.la1 rfl ?_ | refine S.la2 rfl ?_ | refine S.la3 rfl ?_ | refine S.la4 rfl ?_ | refine S.la5 rfl ?_ | refine S.ld0 rfl rfl ?_ | refine S.ld1 rfl rfl ?_ | refine S.ld2 rfl rfl ?_ | refine S.ld3 rfl rfl ?_ | refine S.ld4 rfl rfl ?_ | refine S.ld5 rfl rfl ?_ | refine S.st0 (by rfl) fun _ S f => ?_ | refine S.st1 (by rfl) fun _ S f => ?_ | refine S.st2 (by rfl) fun _ S f => ?_ | refine S.st3 (by rfl) fun _ S f => ?_ | refine S.st4 (by rfl) fun _ S f => ?_ | refine S.st5 (by rfl) fun _ S f => ?_ | refine S.su0 (by rfl) fun _ S f => ?_ | refine S.su1 (by rfl) fun _ S f => ?_ | refine S.su2 (by rfl) fun _ S f => ?_ | refine S.su3 (by rfl) fun _ S f => ?_ | refine S.su4 (by rfl) fun _ S f => ?_ | refine S.su5 (by rfl) fun _ S f => ?_ | refine ⟨by decide, ?_⟩); try dsimp only [List.set_cons_zero, List.set_cons_succ, cond_true, cond_false, Bool.not_true, Bool.not_false]))
      refine Fill_c.mono ?_
      rintro ⟨⟨sa, sn, sc⟩, ⟨⟩⟩ w3 h3
      dsimp only at h3 ⊢
      have l3 := h3.ints.len
      rw [List.length_replicate, fill_sec hs] at l3
      have S := S.res h3
      rw [fill_sec hs] at S
      dsimp only at l3 S
      subst l3
      (repeat ((first | refine S.newB fun _ _ S f _ => ?_ | refine S.la0 rfl ?_ | refine S.la1 rfl ?_ | refine S.la2 rfl ?_ | refine S.la3 rfl ?_ | refine S.la4 rfl ?_ | refine S.la5 rfl ?_ | refine S.ld0 rfl rfl ?_ | refine S.ld1 rfl rfl ?_ | refine S.ld2 rfl rfl ?_ | refine S.ld3 rfl rfl ?_ | refine S.ld4 rfl rfl ?_ | refine S.ld5 rfl rfl ?_ | refine S.st0 (by rfl) fun _ S f => ?_ | refine S.st1 (by rfl) fun _ S f => ?_ | refine S.st2 (by rfl) fun _ S f => ?_ | refine S.st3 (by rfl) fun _ S f => ?_ | refine S.st4 (by rfl) fun _ S f => ?_ | refine S.st5 (by rfl) fun _ S f => ?_ | refine S.su0 (by rfl) fun _ S f => ?_ | refine S.su1 (by rfl) fun _ S f => ?_ | refine S.su2 (by rfl) fun _ S f => ?_ | refine S.su3 (by rfl) fun _ S f => ?_ | refine S.su4 (by rfl) fun _ S f => ?_ | refine S.su5 (by rfl) fun _ S f => ?_ | refine ⟨by decide, ?_⟩); try dsimp only [List.set_cons_zero, List.set_cons_succ, cond_true, cond_false, Bool.not_true, Bool.not_false]))
      refine cond_ne (fun h => absurd (by omega) h) fun _ => ?_
      (repeat ((first | refine S.newB fun _ _ S f _ => ?_ | refine S.la0 rfl ?_ | refine S.la1 rfl ?_ | refine S.la2 rfl ?_ | refine S.la3 rfl ?_ | refine S.la4 rfl ?_ | refine S.la5 rfl ?_ | refine S.ld0 rfl rfl ?_ | refine S.ld1 rfl rfl ?_ | refine S.ld2 rfl rfl ?_ | refine S.ld3 rfl rfl ?_ | refine S.ld4 rfl rfl ?_ | refine S.ld5 rfl rfl ?_ | refine S.st0 (by rfl) fun _ S f => ?_ | refine S.st1 (by rfl) fun _ S f => ?_ | refine S.st2 (by rfl) fun _ S f => ?_ | refine S.st3 (by rfl) fun _ S f => ?_ | refine S.st4 (by rfl) fun _ S f => ?_ | refine S.st5 (by rfl) fun _ S f => ?_ | refine S.su0 (by rfl) fun _ S f => ?_ | refine S.su1 (by rfl) fun _ S f => ?_ | refine S.su2 (by rfl) fun _ S f => ?_ | refine S.su3 (by rfl) fun _ S f => ?_ | refine S.su4 (by rfl) fun _ S f => ?_ | refine S.su5 (by rfl) fun _ S f => ?_ | refine ⟨by decide, ?_⟩); try dsimp only [List.set_cons_zero, List.set_cons_succ, cond_true, cond_false, Bool.not_true, Bool.not_false]))
      refine (End_c hg (ht.ext S.ext)).mono ?_
      rintro ⟨⟨ea, en, ec⟩, (e4 : Int), ⟨⟩⟩ w4 ⟨x4, h4, h4'⟩
      dsimp only at h4 h4' ⊢
      by_cases hE : ERight h m
      · obtain ⟨k1, k2⟩ := h4 hE
        refine cond_f (by rw [k2]; rfl) ?_
        have l4 := k1.ints.len
        have l4' : (endL h ts).length = 88 := endL_length h (by have := hE.2; omega)
        have S := S.res ⟨x4, k1.own⟩
        dsimp only at S l4
        (repeat ((first | refine S.newB fun _ _ S f _ => ?_ | refine S.la0 rfl ?_ | refine S.la1 rfl ?_ | refine S.la2 rfl ?_ | refine S.la3 rfl ?_ | refine S.la4 rfl ?_ | refine S.la5 rfl ?_ | refine S.ld0 rfl rfl ?_ | refine S.ld1 rfl rfl ?_ | refine S.ld2 rfl rfl ?_ | refine S.ld3 rfl rfl ?_ | refine S.ld4 rfl rfl ?_ | refine S.ld5 rfl rfl ?_ | refine S.st0 (by rfl) fun _ S f => ?_ | refine S.st1 (by rfl) fun _ S f => ?_ | refine S.st2 (by rfl) fun _ S f => ?_ | refine S.st3 (by rfl) fun _ S f => ?_ | refine S.st4 (by rfl) fun _ S f => ?_ | refine S.st5 (by rfl) fun _ S f => ?_ | refine S.su0 (by rfl) fun _ S f => ?_ | refine S.su1 (by rfl) fun _ S f => ?_ | refine S.su2 (by rfl) fun _ S f => ?_ | refine S.su3 (by rfl) fun _ S f => ?_ | refine S.su4 (by rfl) fun _ S f => ?_ | refine S.su5 (by rfl) fun _ S f => ?_ | refine ⟨by decide, ?_⟩); try dsimp only [List.set_cons_zero, List.set_cons_succ, cond_true, cond_false, Bool.not_true, Bool.not_false]))
        have S := S.asOwn (sz := 1) (n := 0) rfl (by omega) oneAll.nil
        refine S.ab0 (xs := []) S.in2 (by omega) fun a5 c5 w5 S f5 => ?_
        refine S.ab0 S.in1 (by omega) fun a6 c6 w6 S f6 => ?_
        have R := S.out
        have hp : [] ++ List.replicate g.s.toNat 255 ++ endL h ts = mkL g h xs ts := by unfold mkL payL; rw [if_pos (by omega)]; rfl
        rw [hp] at R
        refine ⟨S.ext, fun _ => ⟨R, rfl⟩, fun hn => absurd ⟨hR, hE, .inl (by omega)⟩ hn⟩
      · obtain ⟨k1, k2⟩ := h4' hE
        rw [k2]
        exact cond_t rfl (no (fun hp => hE hp.2.1) (S.ext.trans x4))
    · (repeat ((first | refine S.newB fun _ _ S f _ => ?_ | refine S.la0 rfl ?_ | refine S.la1 rfl ?_ | refine S.la2 rfl ?_ | refine S.la3 rfl ?_ | refine S.la4 rfl ?_ | refine S.la5 rfl ?_ | refine S.ld0 rfl rfl ?_ | refine S.ld1 rfl rfl ?_ | refine S.ld2 rfl rfl ?_ | refine S.ld3 rfl rfl ?_ | refine S.ld4 rfl rfl ?_ | refine S.ld5 rfl rfl ?_ | refine S.st0 (by rfl) fun _ S f => ?_ | refine S.st1 (by rfl) fun _ S f => ?_ | refine S.st2 (by rfl) fun _ S f => ?_ | refine S.st3 (by rfl) fun _ S f => ?_ | refine S.st4 (by rfl) fun _ S f => ?_ | refine S.st5 (by rfl) fun _ S f => ?_ | refine S.su0 (by rfl) fun _ S f => ?_ | refine S.su1 (by rfl) fun _ S f => ?_ | refine S.su2 (by rfl) fun _ S f => ?_ | refine S.su3 (by rfl) fun _ S f => ?_ | refine S.su4 (by rfl) fun _ S f => ?_ | refine S.su5 (by rfl) fun _ S f => ?_ | refine ⟨by decide, ?_⟩); try dsimp only [List.set_cons_zero, List.set_cons_succ, cond_true, cond_false, Bool.not_true, Bool.not_false]))
      refine cond_ne (fun hne => no (fun hp => by have := hp.2.2; omega) S.ext) fun heq => ?_
      (repeat ((first | refine S.newB fun _ _ S f _ => ?_ | refine S.la0 rfl ?_ | refine S.la1 rfl ?_ | refine S.la2 rfl ?_ | refine S.la3 rfl ?_ | refine S.la4 rfl ?_ | refine S.la5 rfl ?_ | refine S.ld0 rfl rfl ?_ | refine S.ld1 rfl rfl ?_ | refine S.ld2 rfl rfl ?_ | refine S.ld3 rfl rfl ?_ | refine S.ld4 rfl rfl ?_ | refine S.ld5 rfl rfl ?_ | refine S.st0 (by rfl) fun _ S f => ?_ | refine S.st1 (by rfl) fun _ S f => ?_ | refine S.st2 (by rfl) fun _ S f => ?_ | refine S.st3 (by rfl) fun _ S f => ?_ | refine S.st4 (by rfl) fun _ S f => ?_ | refine S.st5 (by rfl) fun _ S f => ?_ | refine S.su0 (by rfl) fun _ S f => ?_ | refine S.su1 (by rfl) fun _ S f => ?_ | refine S.su2 (by rfl) fun _ S f => ?_ | refine S.su3 (by rfl) fun _ S f => ?_ | refine S.su4 (by rfl) fun _ S f => ?_ | refine S.su5 (by rfl) fun _ S f => ?_ | refine ⟨by decide, ?_⟩); try dsimp only [List.set_cons_zero, List.set_cons_succ, cond_true, cond_false, Bool.not_true, Bool.not_false]))
      refine (End_c hg (ht.ext S.ext)).mono ?_
      rintro ⟨⟨ea, en, ec⟩, (e4 : Int), ⟨⟩⟩ w4 ⟨x4, h4, h4'⟩
      dsimp only at h4 h4' ⊢
      by_cases hE : ERight h m
      · obtain ⟨k1, k2⟩ := h4 hE
        refine cond_f (by rw [k2]; rfl) ?_
        have l4 := k1.ints.len
        have l4' : (endL h ts).length = 88 := endL_length h (by have := hE.2; omega)
        have S := S.res ⟨x4, k1.own⟩
        dsimp only at S l4
        (repeat ((first | refine S.newB fun _ _ S f _ => ?_ | refine S.la0 rfl ?_ | refine S.la1 rfl ?_ | refine S.la2 rfl ?_ | refine S.la3 rfl ?_ | refine S.la4 rfl ?_ | refine S.la5 rfl ?_ | refine S.ld0 rfl rfl ?_ | refine S.ld1 rfl rfl ?_ | refine S.ld2 rfl rfl ?_ | refine S.ld3 rfl rfl ?_ | refine S.ld4 rfl rfl ?_ | refine S.ld5 rfl rfl ?_ | refine S.st0 (by rfl) fun _ S f => ?_ | refine S.st1 (by rfl) fun _ S f => ?_ | refine S.st2 (by rfl) fun _ S f => ?_ | refine S.st3 (by rfl) fun _ S f => ?_ | refine S.st4 (by rfl) fun _ S f => ?_ | refine S.st5 (by rfl) fun _ S f => ?_ | refine S.su0 (by rfl) fun _ S f => ?_ | refine S.su1 (by rfl) fun _ S f => ?_ | refine S.su2 (by rfl) fun _ S f => ?_ | refine S.su3 (by rfl) fun _ S f => ?_ | refine S.su4 (by rfl) fun _ S f => ?_ | refine S.su5 (by rfl) fun _ S f => ?_ | refine ⟨by decide, ?_⟩); try dsimp only [List.set_cons_zero, List.set_cons_succ, cond_true, cond_false, Bool.not_true, Bool.not_false]))
        have S := S.asOwn (sz := 1) (n := 0) rfl (by omega) oneAll.nil
        refine S.ab0 (xs := []) (hx.ext S.ext) (by omega) fun a5 c5 w5 S f5 => ?_
        refine S.ab0 S.in1 (by omega) fun a6 c6 w6 S f6 => ?_
        have R := S.out
        have hp : [] ++ xs ++ endL h ts = mkL g h xs ts := by unfold mkL payL; rw [if_neg (by omega)]; rfl
        rw [hp] at R
        refine ⟨S.ext, fun _ => ⟨R, rfl⟩, fun hn => absurd ⟨hR, hE, .inr (by omega)⟩ hn⟩
      · obtain ⟨k1, k2⟩ := h4' hE
        rw [k2]
        exact cond_t rfl (no (fun hp => hE hp.2.1) (S.ext.trans x4))
  · refine cond_t (by unfold chkE; rw [if_neg hR]; rfl) ?_
    exact no (fun hp => hR hp.1) S.ext

end Go.Proofs.Ytfpkaebmiojicaa.Vc

/-! Parts of plans, cut out by wip/tools/vccut.py. -/
namespace Go.Proofs.Ytfpkaebmiojicaa.Vc
open Go Go.Eng
set_option linter.unusedVariables false

def ref14_Read.T (w21 : World) (b19 : Nat) (b1 : Nat) (K : (Int × Int × Int × Int × Int × Int × Unit) × Bool × Unit → World → Prop) (c0 : Nat) (a0 : Option Addr) : Prop :=
LoadA w21 ⟨b19, 0, none⟩ [.int .i64, .int .i64, .int .i64, .int .u32, .int .u64, .int .u64] fun (x22 : Int × Int × Int × Int × Int × Int × Unit) =>
  CallV Try.prog 64 #[.agg #[.int .i64 x22.1, .int .i64 x22.2.1, .int .i64 x22.2.2.1, .int .u32 x22.2.2.2.1, .int .u64 x22.2.2.2.2.1, .int .u64 x22.2.2.2.2.2.1]] w21 [.one .bool] fun (r23 : Bool × Unit) w24 =>
  cond (!r23.1)
  (StoreV w24 ⟨b1, 0, none⟩ [.int .i64 0, .int .i64 0, .int .i64 0, .int .u32 0, .int .u64 0, .int .u64 0] fun w25 =>
  LoadA w25 ⟨b1, 0, none⟩ [.int .i64, .int .i64, .int .i64, .int .u32, .int .u64, .int .u64] fun (x26 : Int × Int × Int × Int × Int × Int × Unit) =>
  K ((x26.1, x26.2.1, x26.2.2.1, x26.2.2.2.1, x26.2.2.2.2.1, x26.2.2.2.2.2.1, ()), false, ()) w25)
  (DrawV fun D27 =>
  (D27 b19 ∧ LoadA w24.drew ⟨b19, 0, none⟩ [.int .i64, .int .i64, .int .i64, .int .u32, .int .u64, .int .u64] fun (x28 : Int × Int × Int × Int × Int × Int × Unit) =>
  (D27 b19 ∧ LoadA w24.drew ⟨b19, 0, none⟩ [.int .i64, .int .i64, .int .i64, .int .u32, .int .u64, .int .u64] fun (x29 : Int × Int × Int × Int × Int × Int × Unit) =>
  ((0 : Int) ≤ (48 : Int) ∧ (48 : Int) ≤ ((c0 : Nat) : Int)) ∧
  SubK a0 0 c0 1 fun a30 =>
  CallV Try.prog 95 #[.agg #[.int .i64 x28.1, .int .i64 x28.2.1, .int .i64 x28.2.2.1, .int .u32 x28.2.2.2.1, .int .u64 x28.2.2.2.2.1, .int .u64 x28.2.2.2.2.2.1]] w24.drew [.one .sl] fun (r31 : SlV × Unit) w32 =>
  KeepOn D27 w24.drew w32 ∧
  CallV Try.prog 95 #[.agg #[.int .i64 x29.1, .int .i64 x29.2.1, .int .i64 x29.2.2.1, .int .u32 x29.2.2.2.1, .int .u64 x29.2.2.2.2.1, .int .u64 x29.2.2.2.2.2.1]] w32 [.one .sl] fun (r33 : SlV × Unit) w34 =>
  KeepOn D27 w24.drew w34 ∧
  CallV Try.prog 96 #[.slice r33.1.a r33.1.n r33.1.c] w34 [.one .sl] fun (r35 : SlV × Unit) w36 =>
  KeepOn D27 w24.drew w36 ∧
  AppS w36 r35.1.a r35.1.n 1 fun ns41 =>
  AppV w36 5 1 1 r31.1.a r31.1.n r31.1.c ns41 r35.1.n fun a37 n38 c39 w40 =>
  KeepOn D27 w24.drew w40 ∧
  CallV Try.prog 19 #[.slice a37 n38 c39, .slice a30 (48 - 0) (c0 - 0)] w40 [.one .bool] fun (r42 : Bool × Unit) w43 =>
  KeepOn D27 w24.drew w43 ∧
  cond (!r42.1)
  (StoreV w43 ⟨b1, 0, none⟩ [.int .i64 0, .int .i64 0, .int .i64 0, .int .u32 0, .int .u64 0, .int .u64 0] fun w44 =>
  LoadA w44 ⟨b1, 0, none⟩ [.int .i64, .int .i64, .int .i64, .int .u32, .int .u64, .int .u64] fun (x45 : Int × Int × Int × Int × Int × Int × Unit) =>
  K ((x45.1, x45.2.1, x45.2.2.1, x45.2.2.2.1, x45.2.2.2.2.1, x45.2.2.2.2.2.1, ()), false, ()) w44)
  (LoadA w43 ⟨b19, 0, none⟩ [.int .i64, .int .i64, .int .i64, .int .u32, .int .u64, .int .u64] fun (x46 : Int × Int × Int × Int × Int × Int × Unit) =>
  StoreV w43 ⟨b1, 0, none⟩ [.int .i64 x46.1, .int .i64 x46.2.1, .int .i64 x46.2.2.1, .int .u32 x46.2.2.2.1, .int .u64 x46.2.2.2.2.1, .int .u64 x46.2.2.2.2.2.1] fun w47 =>
  LoadA w47 ⟨b1, 0, none⟩ [.int .i64, .int .i64, .int .i64, .int .u32, .int .u64, .int .u64] fun (x48 : Int × Int × Int × Int × Int × Int × Unit) =>
  K ((x48.1, x48.2.1, x48.2.2.1, x48.2.2.2.1, x48.2.2.2.2.1, x48.2.2.2.2.2.1, ()), true, ()) w47))))

end Go.Proofs.Ytfpkaebmiojicaa.Vc

/-! The contract of the document's Read (layer 14). -/
namespace Go.Proofs.Ytfpkaebmiojicaa.Vc
open Go Go.Eng Go.RowKit
set_option linter.unusedVariables false
set_option linter.unusedSimpArgs false

def rRPost (w : World) (xs : List Int) (r : (Int × Int × Int × Int × Int × Int × Unit) × Bool × Unit) (w' : World) : Prop :=
  Ext w w' ∧ (okR xs → r.1 = (hdOf xs).tup ∧ r.2.1 = true) ∧ (¬ okR xs → r.1 = zeroH.tup ∧ r.2.1 = false)

theorem rReadTail {w w21 : World} {xs : List Int} {a0 : Option Addr} {c0 b1 b19 : Nat} (x21 : Ext w w21) (hb1 : Box w21 w.heap.size b1 27 zeroH.vs) (hb19 : Box w21 w.heap.size b19 27 (hdOf xs).vs) (hne : b1 ≠ b19)
    (hx : Ints w .u8 a0 88 c0 xs) (bx : Byt xs) : ref14_Read.T w21 b19 b1 (rRPost w xs) c0 a0 := by
  have hl := hx.len
  have hcap := hx.cap
  have hg := hdOf_rng bx (by omega)
  unfold ref14_Read.T
  refine ldH (h := hdOf xs) hb19 ?_
  refine (HRight_c (h := hdOf xs)).mono ?_
  rintro ⟨(r1 : Bool), ⟨⟩⟩ w1 ⟨h1, x1⟩
  dsimp only at h1 ⊢
  subst h1
  have fail : ∀ {w' : World}, Ext w21 w' → ¬ okR xs → StoreV w' ⟨b1, 0, none⟩ [.int .i64 0, .int .i64 0, .int .i64 0, .int .u32 0, .int .u64 0, .int .u64 0] fun w33 =>
      LoadA w33 ⟨b1, 0, none⟩ [.int .i64, .int .i64, .int .i64, .int .u32, .int .u64, .int .u64] fun (x34 : Int × Int × Int × Int × Int × Int × Unit) =>
      rRPost w xs ((x34.1, x34.2.1, x34.2.2.1, x34.2.2.2.1, x34.2.2.2.2.1, x34.2.2.2.2.2.1, ()), false, ()) w33 := fun e hno => by
    refine (hb1.ext e).store 0 (by simp) fun w3 hb3 bel3 _ _ => ?_
    refine ldH (h := zeroH) hb3 ?_
    exact ⟨Below.trans (x21.trans e) bel3, fun h => absurd h hno, fun _ => ⟨rfl, rfl⟩⟩
  have iff := okR_iff bx hl
  by_cases hR : ¬ HRight (hdOf xs)
  · exact cond_t (by rw [decide_eq_false hR]; rfl) (fail x1 (fun h => hR (iff.1 h).1))
  have hR := Decidable.not_not.1 hR
  refine cond_f (by rw [decide_eq_true hR]; rfl) ?_
  refine DrawV.old w1 fun D hD hkeep => ?_
  have b19' := hb19.ext x1
  have hD1 := hD _ b19'.lt
  have xd := Ext.drew w1
  have X1 := x21.trans x1
  refine ⟨hD1, ldH (h := hdOf xs) (b19'.ext xd) ⟨hD1, ldH (h := hdOf xs) (b19'.ext xd) ⟨by omega, ?_⟩⟩⟩
  intro a30 ha30
  have i30 := sub_part (hx.ext X1) (i := 0) (j := 48) (m := c0) (by omega) (by omega) (by omega) ha30
  refine (rBytes_c (h := hdOf xs) hg hR).mono ?_
  rintro ⟨⟨sa, sn, sc⟩, ⟨⟩⟩ w2 h2
  dsimp only at h2 ⊢
  have x2 := xd.trans h2.ext
  refine ⟨hkeep _ x2, ?_⟩
  refine (rBytes_c (h := hdOf xs) hg hR).mono ?_
  rintro ⟨(s3 : SlV), ⟨⟩⟩ w3 h3
  dsimp only at h3 ⊢
  have x3 := x2.trans h3.ext
  refine ⟨hkeep _ x3, ?_⟩
  have l2 := h2.ints.len
  rw [hdL_length] at l2
  dsimp only at l2
  subst l2
  have l3 := h3.ints.len
  rw [hdL_length] at l3
  refine (rInvert_c h3.ints (by omega)).mono ?_
  rintro ⟨⟨va, vn, vc⟩, ⟨⟩⟩ w4 h4
  dsimp only at h4 ⊢
  have l4 := h4.ints.len
  rw [show (invL (hdL (hdOf xs))).length = 24 by simp [invL, hdL_length]] at l4
  dsimp only at l4
  subst l4
  have x4 := x3.trans h4.ext
  refine ⟨hkeep _ x4, ?_⟩
  have o4 := (h2.own.ext (h3.ext.trans h4.ext)).mono xd.size
  refine appL o4 h4.ints x4.size (by omega) fun a5 c5 w5 o5 b5 => ?_
  have x5 : Ext w1 w5 := Below.trans x4 b5
  refine ⟨hkeep _ x5, ?_⟩
  refine (SameBytes_c o5.ints (i30.ext x5)).mono ?_
  rintro ⟨(r6 : Bool), ⟨⟩⟩ w6 ⟨h6, x6⟩
  dsimp only at h6 ⊢
  have X6 := x5.trans x6
  refine ⟨hkeep _ X6, ?_⟩
  refine cond_of (fun hc => fail (x1.trans X6) (fun hok => by
    rw [h6, decide_eq_true (iff.1 hok).2] at hc
    cases hc)) (fun hc => ?_)
  have hok : okR xs := iff.2 ⟨hR, by
    rw [h6] at hc
    simpa using hc⟩
  refine ldH (h := hdOf xs) (b19'.ext X6) ?_
  refine (hb1.ext (x1.trans X6)).store 0 (by simp) fun w7 hb7 bel7 _ _ => ?_
  refine ldH (h := hdOf xs) hb7 ?_
  exact ⟨Below.trans (X1.trans X6) bel7, fun _ => ⟨rfl, rfl⟩, fun h => absurd hok h⟩

theorem rRead_c {w : World} {a0 : Option Addr} {n0 c0 : Nat} {xs : List Int} (hx : Ints w .u8 a0 n0 c0 xs) (bx : Byt xs) (h88 : n0 = 88) :
    CallV Try.prog 69 #[.slice a0 n0 c0] w [.agg [.int .i64, .int .i64, .int .i64, .int .u32, .int .u64, .int .u64], .one .bool] fun r w' => rRPost w xs r w' := by
  subst h88
  refine ref14_Read.vc _ _ _ _ _ ?_
  unfold ref14_Read.P
  have lx := hx.len
  have hcap := hx.cap
  refine newH (h := zeroH) fun b1 w2 e2 hb1 => ?_
  refine DrawV.old w2 fun D hD hkeep => ?_
  have b0 := bx.getD 0
  have b1' := bx.getD 1
  have b2 := bx.getD 2
  have x2 := Ext.drew w2
  have y2 := e2.trans x2
  refine (hx.ext e2).idxD x2 (i := 0) (by omega) (by omega) hD ?_
  refine (hx.ext e2).idxD x2 (i := 1) (by omega) (by omega) hD ?_
  refine (hx.ext e2).idxD x2 (i := 2) (by omega) (by omega) hD ?_
  rw [show (0 : Int).toNat = 0 from rfl, show (1 : Int).toNat = 1 from rfl, show (2 : Int).toNat = 2 from rfl]
  rw [i64_id (by omega : -9223372036854775808 ≤ xs.getD 0 0) (by omega), i64_id (by omega : -9223372036854775808 ≤ xs.getD 1 0) (by omega), i64_id (by omega : -9223372036854775808 ≤ xs.getD 2 0) (by omega)]
  refine ⟨by omega, ?_⟩
  intro a10 ha10
  refine ⟨by omega, ?_⟩
  intro a11 ha11
  refine ⟨by omega, ?_⟩
  intro a12 ha12
  have h10 := sub_part hx (i := 4) (j := 8) (m := c0) (by omega) (by omega) (by omega) ha10
  have h11 := sub_part hx (i := 8) (j := 16) (m := c0) (by omega) (by omega) (by omega) ha11
  have h12 := sub_part hx (i := 16) (j := 24) (m := c0) (by omega) (by omega) (by omega) ha12
  generalize hW : w2.drew = W at *
  have nbl := numB_bd (part_byt bx 4 8) (part_length (by omega) (by omega)) (by omega)
  have hu : IntKind.u32.wrap (numB (part xs 4 8)) = numB (part xs 4 8) := by rw [u32_wrap]; exact Int.emod_eq_of_lt nbl.1 (by have := nbl.2; simpa using this)
  have keepW : ∀ {w' : World}, Ext W w' → KeepOn D W w' := fun e => hkeep _ (x2.trans e)
  have hb1W := hb1.ext x2
  have done : ∀ {w25 : World} {b24 : Nat}, Ext W w25 → Box w25 W.heap.size b24 27 zeroH.vs → StoreV w25 ⟨b24, 0, none⟩ (hdOf xs).vs fun w26 => KeepOn D W w26 ∧ ref14_Read.T w26 b24 b1 (rRPost w xs) c0 a0 := fun {w25 b24} e25 hb24 => by
    refine hb24.store 0 (by simp) fun w26 hb26 bel26 _ _ => ?_
    have X26 : Ext W w26 := Below.trans e25 bel26
    refine ⟨keepW X26, ?_⟩
    refine rReadTail (y2.trans X26) (hb1W.ext X26) ⟨Nat.le_trans y2.size hb26.base, hb26.heap⟩ (fun h => ?_) hx bx
    have := hb1W.lt
    have := hb24.base
    omega
  have N10 : ∀ {w' : World}, Ext W w' → CallV Try.prog 99 #[.slice a10 (8 - 4) (c0 - 4)] w' [.one (.int .u64)] fun r w2 => r.1 = numB (part xs 4 8) ∧ Ext w' w2 := fun e => rNum_c (h10.ext (y2.trans e)) (part_byt bx 4 8) (by omega)
  have N11 : ∀ {w' : World}, Ext W w' → CallV Try.prog 99 #[.slice a11 (16 - 8) (c0 - 8)] w' [.one (.int .u64)] fun r w2 => r.1 = numB (part xs 8 16) ∧ Ext w' w2 := fun e => rNum_c (h11.ext (y2.trans e)) (part_byt bx 8 16) (by omega)
  have N12 : ∀ {w' : World}, Ext W w' → CallV Try.prog 99 #[.slice a12 (24 - 16) (c0 - 16)] w' [.one (.int .u64)] fun r w2 => r.1 = numB (part xs 16 24) ∧ Ext w' w2 := fun e => rNum_c (h12.ext (y2.trans e)) (part_byt bx 16 24) (by omega)
  have newZ : ∀ {w' : World} {K : Nat → World → Prop}, Ext W w' → (∀ b w1, Ext w' w1 → Ext W w1 → Box w1 W.heap.size b 27 zeroH.vs → K b w1) → NewV #[.int .i64 0, .int .i64 0, .int .i64 0, .int .u32 0, .int .u64 0, .int .u64 0] 27 w' K := fun e hk => newH (h := zeroH) fun b w1 e1 hb => hk b w1 e1 (e.trans e1) ⟨Nat.le_trans e.size hb.base, hb.heap⟩
  refine ⟨?_, ?_⟩
  · refine (N10 (Ext.refl _)).mono ?_
    rintro ⟨(r1 : Int), ⟨⟩⟩ w3 ⟨q1, e3⟩
    dsimp only at q1 ⊢
    subst q1
    rw [hu]
    refine ⟨keepW e3, ?_, ?_⟩
    · refine (N11 e3).mono ?_
      rintro ⟨(r2 : Int), ⟨⟩⟩ w4 ⟨q2, e4⟩
      dsimp only at q2 ⊢
      subst q2
      have X4 := e3.trans e4
      refine ⟨keepW X4, ?_, ?_⟩
      · refine (N12 X4).mono ?_
        rintro ⟨(r3 : Int), ⟨⟩⟩ w5 ⟨q3, e5⟩
        dsimp only at q3 ⊢
        subst q3
        exact ⟨keepW (X4.trans e5), newZ (X4.trans e5) fun b24 w25 _ e25 hb24 => ⟨keepW e25, done e25 hb24⟩⟩
      · refine newZ X4 fun b24 w25 _ e25 hb24 => ⟨keepW e25, ?_⟩
        refine (N12 e25).mono ?_
        rintro ⟨(r3 : Int), ⟨⟩⟩ w5 ⟨q3, e5⟩
        dsimp only at q3 ⊢
        subst q3
        exact ⟨keepW (e25.trans e5), done (e25.trans e5) (hb24.ext e5)⟩
    · refine newZ e3 fun b24 w25 _ e25 hb24 => ⟨keepW e25, ?_⟩
      refine (N11 e25).mono ?_
      rintro ⟨(r2 : Int), ⟨⟩⟩ w4 ⟨q2, e4⟩
      dsimp only at q2 ⊢
      subst q2
      have X4 := e25.trans e4
      refine ⟨keepW X4, ?_⟩
      refine (N12 X4).mono ?_
      rintro ⟨(r3 : Int), ⟨⟩⟩ w5 ⟨q3, e5⟩
      dsimp only at q3 ⊢
      subst q3
      exact ⟨keepW (X4.trans e5), done (X4.trans e5) (hb24.ext (e4.trans e5))⟩
  · refine newZ (Ext.refl _) fun b24 w25 _ e25 hb24 => ⟨keepW e25, ?_⟩
    refine (N10 e25).mono ?_
    rintro ⟨(r1 : Int), ⟨⟩⟩ w3 ⟨q1, e3⟩
    dsimp only at q1 ⊢
    subst q1
    rw [hu]
    have X3 := e25.trans e3
    refine ⟨keepW X3, ?_⟩
    refine (N11 X3).mono ?_
    rintro ⟨(r2 : Int), ⟨⟩⟩ w4 ⟨q2, e4⟩
    dsimp only at q2 ⊢
    subst q2
    have X4 := X3.trans e4
    refine ⟨keepW X4, ?_⟩
    refine (N12 X4).mono ?_
    rintro ⟨(r3 : Int), ⟨⟩⟩ w5 ⟨q3, e5⟩
    dsimp only at q3 ⊢
    subst q3
    exact ⟨keepW (X4.trans e5), done (X4.trans e5) (hb24.ext (e3.trans (e4.trans e5)))⟩

end Go.Proofs.Ytfpkaebmiojicaa.Vc

/-! The plans of functions as plain statements, printed by wip/tools/vcgen.py; the kernel holds each to the code. -/
namespace Go.Proofs.Ytfpkaebmiojicaa.Vc
open Go Go.Eng
set_option linter.unusedVariables false



end Go.Proofs.Ytfpkaebmiojicaa.Vc

/-! The laws GeometryChecks, GeometryIndexes and GeometryQuotas of layer 11: each call gives true, and what it read stays. -/
namespace Go.Proofs.Ytfpkaebmiojicaa.Vc
open Go Go.Eng Go.RowKit
set_option linter.unusedVariables false
set_option linter.unusedSimpArgs false

theorem Right_c {w : World} {g : Geo} : CallV Try.prog 17 #[g.val] w [.one .bool] fun r w' => r.1 = decide (Right g) ∧ Ext w w' := by
  refine ref11_Right.vc _ _ _ _ _ _ _ _ ?_
  unfold ref11_Right.P
  refine newG fun b1 w1 e1 hb => ?_
  have no : ∀ {w' : World}, ¬ Right g → Ext w w' → (false = decide (Right g) ∧ Ext w w') := fun hr he => ⟨(decide_eq_false hr).symm, he⟩
  refine hb.ld (i := 0) (h := .int .i64) (x := g.b) rfl ?_
  refine in11_c.mono ?_
  rintro ⟨(r1 : Bool), ⟨⟩⟩ w' ⟨h1, rfl⟩
  dsimp only at h1 ⊢
  subst h1
  refine cond_of (fun hc => no (fun hr => by unfold Right Kept at hr; simp at hc; omega) e1) (fun c1 => ?_)
  simp at c1
  refine hb.ld (i := 1) (h := .int .i64) (x := g.p) rfl ?_
  refine in11_c.mono ?_
  rintro ⟨(r1 : Bool), ⟨⟩⟩ w' ⟨h1, rfl⟩
  dsimp only at h1 ⊢
  subst h1
  refine cond_of (fun hc => no (fun hr => by unfold Right Kept at hr; simp at hc; omega) e1) (fun c2 => ?_)
  simp at c2
  refine hb.ld (i := 2) (h := .int .i64) (x := g.s) rfl ?_
  refine in11_c.mono ?_
  rintro ⟨(r1 : Bool), ⟨⟩⟩ w' ⟨h1, rfl⟩
  dsimp only at h1 ⊢
  subst h1
  refine cond_of (fun hc => no (fun hr => by unfold Right Kept at hr; simp at hc; omega) e1) (fun c3 => ?_)
  simp at c3
  refine hb.ld (i := 3) (h := .int .i64) (x := g.sp) rfl ?_
  refine in11_c.mono ?_
  rintro ⟨(r1 : Bool), ⟨⟩⟩ w' ⟨h1, rfl⟩
  dsimp only at h1 ⊢
  subst h1
  refine cond_of (fun hc => no (fun hr => by unfold Right Kept at hr; simp at hc; omega) e1) (fun c4 => ?_)
  simp at c4
  refine hb.ld (i := 4) (h := .int .i64) (x := g.wr) rfl ?_
  refine in11_c.mono ?_
  rintro ⟨(r1 : Bool), ⟨⟩⟩ w' ⟨h1, rfl⟩
  dsimp only at h1 ⊢
  subst h1
  refine cond_of (fun hc => no (fun hr => by unfold Right Kept at hr; simp at hc; omega) e1) (fun c5 => ?_)
  simp at c5
  refine hb.ld (i := 5) (h := .int .i64) (x := g.ro) rfl ?_
  refine in11_c.mono ?_
  rintro ⟨(r1 : Bool), ⟨⟩⟩ w' ⟨h1, rfl⟩
  dsimp only at h1 ⊢
  subst h1
  refine cond_of (fun hc => no (fun hr => by unfold Right Kept at hr; simp at hc; omega) e1) (fun c6 => ?_)
  simp at c6
  refine DrawV.old w' fun D hD hkeep => ?_
  have hD1 := hD _ hb.lt
  have hd := hb.ext (Ext.drew _)
  have e1' := e1.trans (Ext.drew w')
  refine ⟨hD1, hd.ld (i := 2) (h := .int .i64) (x := g.s) rfl ?_⟩
  have hm : Int.tmod g.s 16 = g.s % 16 := Int.tmod_eq_emod_of_nonneg (by omega)
  rw [hm]
  refine ⟨by omega, cond_eq (fun h16 => ?_) (fun h16 => no (fun hr => by unfold Right Kept at hr; omega) e1')⟩
  refine ⟨hD1, ldG hd ?_⟩
  refine ⟨hD1, hd.ld (i := 1) (h := .int .i64) (x := g.p) rfl ?_⟩
  refine (rChunks_c (g := g) (by omega)).mono ?_
  rintro ⟨(r2 : Int), ⟨⟩⟩ w2 ⟨h2, e2⟩
  have E2 := (Ext.drew w').trans e2
  refine ⟨hkeep _ E2, ?_⟩
  dsimp only at h2 ⊢
  subst h2
  have F2 := e1.trans E2
  refine cond_d (fun hle => ?_) (fun hle => no (fun hr => by unfold Right at hr; omega) F2)
  refine ⟨hD1, hd.ld (i := 0) (h := .int .i64) (x := g.b) rfl ?_⟩
  refine ⟨Rng.i64 (by omega) (by omega), ?_⟩
  refine ⟨hD1, hd.ld (i := 3) (h := .int .i64) (x := g.sp) rfl ?_⟩
  refine ⟨Rng.i64 (by omega) (by omega), ?_, F2⟩
  apply decide_eq_decide.2
  unfold Right Kept
  omega

abbrev TGeo : Ty := .cons (.int .i64) (.cons (.int .i64) (.cons (.int .i64) (.cons (.int .i64) (.cons (.int .i64) (.cons (.int .i64) .nil)))))
abbrev TPair : Ty := .cons (.int .i64) (.cons (.int .i64) .nil)
def geoT (x : TGeo.T) : Geo := ⟨x.1, x.2.1, x.2.2.1, x.2.2.2.1, x.2.2.2.2.1, x.2.2.2.2.2.1⟩
theorem geoT_val (x : TGeo.T) : (.agg (TGeo.vs x).toArray : Value) = (geoT x).val := rfl
theorem pairT_val (x : TPair.T) : (.agg (TPair.vs x).toArray : Value) = .agg #[.int .i64 x.1, .int .i64 x.2.1] := rfl
end Go.Proofs.Ytfpkaebmiojicaa.Vc

/-! The contracts of layer 15 (page): what commits a page, and what a page tells. -/
namespace Go.Proofs.Ytfpkaebmiojicaa.Vc
open Go Go.Eng Go.RowKit
set_option linter.unusedVariables false
set_option linter.unusedSimpArgs false

theorem PCommit_c {w : World} {g : Geo} : CallV Try.prog 16 #[g.val] w [.one .sl, .one (.int .i64)] fun r w' => Ext w w' ∧ (Right g → Res w w' r.1 (comL g) ∧ r.2.1 = (0 : Int)) ∧ (¬ Right g → r.1 = (⟨none, 0, 0⟩ : SlV) ∧ r.2.1 = (2 : Int)) := by
  apply page_Commit.vc
  unfold page_Commit.P
  have S := Sep.start NoB w
  (repeat ((first | refine S.newB fun _ _ S f _ => ?_ | refine S.la0 rfl ?_ | refine S.la1 rfl ?_ | refine S.la2 rfl ?_ | refine S.la3 rfl ?_ | refine S.la4 rfl ?_ | refine S.la5 rfl ?_ | refine S.ld0 rfl rfl ?_ | refine S.ld1 rfl rfl ?_ | refine S.ld2 rfl rfl ?_ | refine S.ld3 rfl rfl ?_ | refine S.ld4 rfl rfl ?_ | refine S.ld5 rfl rfl ?_ | refine S.st0 (by rfl) fun _ S f => ?_ | refine S.st1 (by rfl) fun _ S f => ?_ | refine S.st2 (by rfl) fun _ S f => ?_ | refine S.st3 (by rfl) fun _ S f => ?_ | refine S.st4 (by rfl) fun _ S f => ?_ | refine S.st5 (by rfl) fun _ S f => ?_ | refine S.su0 (by rfl) fun _ S f => ?_ | refine S.su1 (by rfl) fun _ S f => ?_ | refine S.su2 (by rfl) fun _ S f => ?_ | refine S.su3 (by rfl) fun _ S f => ?_ | refine S.su4 (by rfl) fun _ S f => ?_ | refine S.su5 (by rfl) fun _ S f => ?_ | refine ⟨by decide, ?_⟩); try dsimp only [List.set_cons_zero, List.set_cons_succ, cond_true, cond_false, Bool.not_true, Bool.not_false]))
  refine (Check_c (g := g)).mono ?_
  rintro ⟨(r : Int), ⟨⟩⟩ w2 ⟨h2, e2⟩
  dsimp only at h2 ⊢
  have S := S.stepE e2
  subst h2
  by_cases hR : Right g
  · refine cond_f (by unfold chkE; rw [if_pos hR]; rfl) ?_
    have hs := hR.sec
    (repeat ((first | refine S.newB fun _ _ S f _ => ?_ | refine S.la0 rfl ?_ | refine S.la1 rfl ?_ | refine S.la2 rfl ?_ | refine S.la3 rfl ?_ | refine S.la4 rfl ?_ | refine S.la5 rfl ?_ | refine S.ld0 rfl rfl ?_ | refine S.ld1 rfl rfl ?_ | refine S.ld2 rfl rfl ?_ | refine S.ld3 rfl rfl ?_ | refine S.ld4 rfl rfl ?_ | refine S.ld5 rfl rfl ?_ | refine S.st0 (by rfl) fun _ S f => ?_ | refine S.st1 (by rfl) fun _ S f => ?_ | refine S.st2 (by rfl) fun _ S f => ?_ | refine S.st3 (by rfl) fun _ S f => ?_ | refine S.st4 (by rfl) fun _ S f => ?_ | refine S.st5 (by rfl) fun _ S f => ?_ | refine S.su0 (by rfl) fun _ S f => ?_ | refine S.su1 (by rfl) fun _ S f => ?_ | refine S.su2 (by rfl) fun _ S f => ?_ | refine S.su3 (by rfl) fun _ S f => ?_ | refine S.su4 (by rfl) fun _ S f => ?_ | refine S.su5 (by rfl) fun _ S f => ?_ | refine ⟨by decide, ?_⟩); try dsimp only [List.set_cons_zero, List.set_cons_succ, cond_true, cond_false, Bool.not_true, Bool.not_false]))
    refine (PageSize_c (g := g)).mono ?_
    rintro ⟨(r3 : Int), ⟨⟩⟩ w3 ⟨h3, e3⟩
    dsimp only at h3 ⊢
    have S := S.stepE e3
    rw [if_pos hR] at h3
    subst h3
    refine (MarkLen_c (by omega)).mono ?_
    rintro ⟨(r4 : SlV), ⟨⟩⟩ w4 h4
    have E := S.ext.trans h4.ext
    rw [show g.s + 88 - 8 = g.s + 80 by omega] at h4
    exact ⟨E, fun _ => ⟨h4.after S.ext, rfl⟩, fun hn => absurd hR hn⟩
  · exact cond_t (by unfold chkE; rw [if_neg hR]; rfl) ⟨S.ext, fun h => absurd h hR, fun _ => ⟨rfl, rfl⟩⟩

theorem rCommit15_c {w : World} {g : Geo} (hR : Right g) : CallV Try.prog 20 #[g.val] w [.one .sl] fun r w' => Res w w' r.1 (comL g) := by
  apply ref15_Commit.vc
  unfold ref15_Commit.P
  have hs := hR.sec
  have S := Sep.start NoB w
  (repeat ((first | refine S.newB fun _ _ S f _ => ?_ | refine S.la0 rfl ?_ | refine S.la1 rfl ?_ | refine S.la2 rfl ?_ | refine S.la3 rfl ?_ | refine S.la4 rfl ?_ | refine S.la5 rfl ?_ | refine S.ld0 rfl rfl ?_ | refine S.ld1 rfl rfl ?_ | refine S.ld2 rfl rfl ?_ | refine S.ld3 rfl rfl ?_ | refine S.ld4 rfl rfl ?_ | refine S.ld5 rfl rfl ?_ | refine S.st0 (by rfl) fun _ S f => ?_ | refine S.st1 (by rfl) fun _ S f => ?_ | refine S.st2 (by rfl) fun _ S f => ?_ | refine S.st3 (by rfl) fun _ S f => ?_ | refine S.st4 (by rfl) fun _ S f => ?_ | refine S.st5 (by rfl) fun _ S f => ?_ | refine S.su0 (by rfl) fun _ S f => ?_ | refine S.su1 (by rfl) fun _ S f => ?_ | refine S.su2 (by rfl) fun _ S f => ?_ | refine S.su3 (by rfl) fun _ S f => ?_ | refine S.su4 (by rfl) fun _ S f => ?_ | refine S.su5 (by rfl) fun _ S f => ?_ | refine ⟨by decide, ?_⟩); try dsimp only [List.set_cons_zero, List.set_cons_succ, cond_true, cond_false, Bool.not_true, Bool.not_false]))
  refine ⟨Rng.i64 (by omega) (by omega), ?_⟩
  refine rFill_c.mono ?_
  rintro ⟨⟨sa, sn, sc⟩, ⟨⟩⟩ w3 h3
  dsimp only at h3 ⊢
  have l3 := h3.ints.len
  have hf : (max 0 (min (65536 : Int) (g.s + 80))).toNat = (g.s + 80).toNat := by generalize hL : (65536 : Int) = L; omega
  rw [List.length_replicate, hf] at l3
  have S := S.res h3
  rw [hf] at S
  dsimp only at l3 S
  subst l3
  refine rFill_c.mono ?_
  rintro ⟨⟨ua, un, uc⟩, ⟨⟩⟩ w4 h4
  dsimp only at h4 ⊢
  have l4 := h4.ints.len
  rw [List.length_replicate, fill8] at l4
  have S := S.res h4
  rw [fill8] at S
  dsimp only at l4 S
  subst l4
  refine S.ab1 S.in0 (by omega) fun a6 c6 w6 S f6 => ?_
  have S := S.tail
  exact S.out

theorem rRight15_c {w : World} {g : Geo} {h : Hd} {a a2 : Option Addr} {n c m c2 : Nat} :
    CallV Try.prog 21 #[g.val, h.val, .slice a n c, .slice a2 m c2] w [.one .bool] fun r w' => r.1 = decide (PRight g h n m) ∧ Ext w w' := by
  apply ref15_Right.vc
  unfold ref15_Right.P
  have S := Sep.start NoB w
  have no : ∀ {w' : World}, ¬ PRight g h n m → Ext w w' → (false = decide (PRight g h n m) ∧ Ext w w') := fun hr he => ⟨(decide_eq_false hr).symm, he⟩
  (repeat ((first | refine S.newB fun _ _ S f _ => ?_ | refine S.la0 rfl ?_ | refine S.la1 rfl ?_ | refine S.la2 rfl ?_ | refine S.la3 rfl ?_ | refine S.la4 rfl ?_ | refine S.la5 rfl ?_ | refine S.ld0 rfl rfl ?_ | refine S.ld1 rfl rfl ?_ | refine S.ld2 rfl rfl ?_ | refine S.ld3 rfl rfl ?_ | refine S.ld4 rfl rfl ?_ | refine S.ld5 rfl rfl ?_ | refine S.st0 (by rfl) fun _ S f => ?_ | refine S.st1 (by rfl) fun _ S f => ?_ | refine S.st2 (by rfl) fun _ S f => ?_ | refine S.st3 (by rfl) fun _ S f => ?_ | refine S.st4 (by rfl) fun _ S f => ?_ | refine S.st5 (by rfl) fun _ S f => ?_ | refine S.su0 (by rfl) fun _ S f => ?_ | refine S.su1 (by rfl) fun _ S f => ?_ | refine S.su2 (by rfl) fun _ S f => ?_ | refine S.su3 (by rfl) fun _ S f => ?_ | refine S.su4 (by rfl) fun _ S f => ?_ | refine S.su5 (by rfl) fun _ S f => ?_ | refine ⟨by decide, ?_⟩); try dsimp only [List.set_cons_zero, List.set_cons_succ, cond_true, cond_false, Bool.not_true, Bool.not_false]))
  refine (Right_c (g := g)).mono ?_
  rintro ⟨(r : Bool), ⟨⟩⟩ w2 ⟨h2, e2⟩
  dsimp only at h2 ⊢
  have S := S.stepE e2
  subst h2
  refine cond_d (fun hR => ?_) (fun hR => no (fun hp => hR hp.1) S.ext)
  (repeat ((first | refine S.newB fun _ _ S f _ => ?_ | refine S.la0 rfl ?_ | refine S.la1 rfl ?_ | refine S.la2 rfl ?_ | refine S.la3 rfl ?_ | refine S.la4 rfl ?_ | refine S.la5 rfl ?_ | refine S.ld0 rfl rfl ?_ | refine S.ld1 rfl rfl ?_ | refine S.ld2 rfl rfl ?_ | refine S.ld3 rfl rfl ?_ | refine S.ld4 rfl rfl ?_ | refine S.ld5 rfl rfl ?_ | refine S.st0 (by rfl) fun _ S f => ?_ | refine S.st1 (by rfl) fun _ S f => ?_ | refine S.st2 (by rfl) fun _ S f => ?_ | refine S.st3 (by rfl) fun _ S f => ?_ | refine S.st4 (by rfl) fun _ S f => ?_ | refine S.st5 (by rfl) fun _ S f => ?_ | refine S.su0 (by rfl) fun _ S f => ?_ | refine S.su1 (by rfl) fun _ S f => ?_ | refine S.su2 (by rfl) fun _ S f => ?_ | refine S.su3 (by rfl) fun _ S f => ?_ | refine S.su4 (by rfl) fun _ S f => ?_ | refine S.su5 (by rfl) fun _ S f => ?_ | refine ⟨by decide, ?_⟩); try dsimp only [List.set_cons_zero, List.set_cons_succ, cond_true, cond_false, Bool.not_true, Bool.not_false]))
  refine (HRight_c (h := h)).mono ?_
  rintro ⟨(r3 : Bool), ⟨⟩⟩ w3 ⟨h3, e3⟩
  dsimp only at h3 ⊢
  have S := S.stepE e3
  subst h3
  refine cond_d (fun hH => ?_) (fun hH => no (fun hp => hH hp.2.1.1) S.ext)
  have key : (n = 0 ∨ (n : Int) = g.s) → (PRight g h n m ↔ (m = 0 ∨ m = 32)) := fun hn => ⟨fun hp => hp.2.1.2, fun hm => ⟨hR, ⟨hH, hm⟩, hn⟩⟩
  have tl : ∀ {w' : World}, Ext w w' → (n = 0 ∨ (n : Int) = g.s) → cond (((m : Nat) : Int) == 0) (true = decide (PRight g h n m) ∧ Ext w w') ((((m : Nat) : Int) == 32) = decide (PRight g h n m) ∧ Ext w w') := fun he hn => by
    refine cond_eq (fun h0 => ⟨(decide_eq_true ((key hn).2 (by omega))).symm, he⟩) (fun h0 => ⟨?_, he⟩)
    by_cases h32 : m = 32
    · rw [decide_eq_true ((key hn).2 (.inr h32)), h32]; rfl
    · rw [decide_eq_false (fun hp => by have := (key hn).1 hp; omega)]
      simp; omega
  refine cond_eq (fun h0 => tl S.ext (.inl (by omega))) (fun h0 => ?_)
  (repeat ((first | refine S.newB fun _ _ S f _ => ?_ | refine S.la0 rfl ?_ | refine S.la1 rfl ?_ | refine S.la2 rfl ?_ | refine S.la3 rfl ?_ | refine S.la4 rfl ?_ | refine S.la5 rfl ?_ | refine S.ld0 rfl rfl ?_ | refine S.ld1 rfl rfl ?_ | refine S.ld2 rfl rfl ?_ | refine S.ld3 rfl rfl ?_ | refine S.ld4 rfl rfl ?_ | refine S.ld5 rfl rfl ?_ | refine S.st0 (by rfl) fun _ S f => ?_ | refine S.st1 (by rfl) fun _ S f => ?_ | refine S.st2 (by rfl) fun _ S f => ?_ | refine S.st3 (by rfl) fun _ S f => ?_ | refine S.st4 (by rfl) fun _ S f => ?_ | refine S.st5 (by rfl) fun _ S f => ?_ | refine S.su0 (by rfl) fun _ S f => ?_ | refine S.su1 (by rfl) fun _ S f => ?_ | refine S.su2 (by rfl) fun _ S f => ?_ | refine S.su3 (by rfl) fun _ S f => ?_ | refine S.su4 (by rfl) fun _ S f => ?_ | refine S.su5 (by rfl) fun _ S f => ?_ | refine ⟨by decide, ?_⟩); try dsimp only [List.set_cons_zero, List.set_cons_succ, cond_true, cond_false, Bool.not_true, Bool.not_false]))
  exact cond_eq (fun h1 => tl S.ext (.inr h1)) (fun h1 => no (fun hp => by have := hp.2.2; omega) S.ext)

theorem rMake_c {w : World} {g : Geo} {h : Hd} {a a2 : Option Addr} {n c m c2 : Nat} {xs ts : List Int} (hg : h.rng) (hx : Ints w .u8 a n c xs) (ht : Ints w .u8 a2 m c2 ts) (hp : PRight g h n m) :
    CallV Try.prog 22 #[g.val, h.val, .slice a n c, .slice a2 m c2] w [.one .sl] fun r w' => Res w w' r.1 (mkL g h xs ts) := by
  apply ref15_Make.vc
  unfold ref15_Make.P
  obtain ⟨hR, hE, hn⟩ := hp
  have S := Sep.start NoB w
  have hs := hR.sec
  have lx := hx.len
  have lt := ht.len
  have l4' : (endL h ts).length = 88 := endL_length h (by have := hE.2; omega)
  (repeat ((first | refine S.newB fun _ _ S f _ => ?_ | refine S.la0 rfl ?_ | refine S.la1 rfl ?_ | refine S.la2 rfl ?_ | refine S.la3 rfl ?_ | refine S.la4 rfl ?_ | refine S.la5 rfl ?_ | refine S.ld0 rfl rfl ?_ | refine S.ld1 rfl rfl ?_ | refine S.ld2 rfl rfl ?_ | refine S.ld3 rfl rfl ?_ | refine S.ld4 rfl rfl ?_ | refine S.ld5 rfl rfl ?_ | refine S.st0 (by rfl) fun _ S f => ?_ | refine S.st1 (by rfl) fun _ S f => ?_ | refine S.st2 (by rfl) fun _ S f => ?_ | refine S.st3 (by rfl) fun _ S f => ?_ | refine S.st4 (by rfl) fun _ S f => ?_ | refine S.st5 (by rfl) fun _ S f => ?_ | refine S.su0 (by rfl) fun _ S f => ?_ | refine S.su1 (by rfl) fun _ S f => ?_ | refine S.su2 (by rfl) fun _ S f => ?_ | refine S.su3 (by rfl) fun _ S f => ?_ | refine S.su4 (by rfl) fun _ S f => ?_ | refine S.su5 (by rfl) fun _ S f => ?_ | refine ⟨by decide, ?_⟩); try dsimp only [List.set_cons_zero, List.set_cons_succ, cond_true, cond_false, Bool.not_true, Bool.not_false]))
  refine cond_eq (fun h0 => ?_) (fun h0 => ?_)
  · (repeat ((first | refine S.newB fun _ _ S f _ => ?_ | refine S.la0 rfl ?_ | refine S.la1 rfl ?_ | refine S.la2 rfl ?_ | refine S.la3 rfl ?_ | refine S.la4 rfl ?_ | refine S.la5 rfl ?_ | refine S.ld0 rfl rfl ?_ | refine S.ld1 rfl rfl ?_ | refine S.ld2 rfl rfl ?_ | refine S.ld3 rfl rfl ?_ | refine S.ld4 rfl rfl ?_ | refine S.ld5 rfl rfl ?_ | refine S.st0 (by rfl) fun _ S f => ?_ | refine S.st1 (by rfl) fun _ S f => ?_ | refine S.st2 (by rfl) fun _ S f => ?_ | refine S.st3 (by rfl) fun _ S f => ?_ | refine S.st4 (by rfl) fun _ S f => ?_ | refine S.st5 (by rfl) fun _ S f => ?_ | refine S.su0 (by rfl) fun _ S f => ?_ | refine S.su1 (by rfl) fun _ S f => ?_ | refine S.su2 (by rfl) fun _ S f => ?_ | refine S.su3 (by rfl) fun _ S f => ?_ | refine S.su4 (by rfl) fun _ S f => ?_ | refine S.su5 (by rfl) fun _ S f => ?_ | refine ⟨by decide, ?_⟩); try dsimp only [List.set_cons_zero, List.set_cons_succ, cond_true, cond_false, Bool.not_true, Bool.not_false]))
    refine rFill_c.mono ?_
    rintro ⟨⟨sa, sn, sc⟩, ⟨⟩⟩ w3 h3
    dsimp only at h3 ⊢
    have l3 := h3.ints.len
    rw [List.length_replicate, fill_sec hs] at l3
    have S := S.res h3
    rw [fill_sec hs] at S
    dsimp only at l3 S
    subst l3
    refine S.reg fun D hD hkeep Sd T => ?_
    (repeat ((first | refine ⟨hD _ (by first | exact Sd.bl0 | exact Sd.bl1 | exact Sd.bl2 | exact Sd.bl3 | exact Sd.bl4 | exact Sd.bl5 | exact Sd.bl6 | exact Sd.bl7), ?_⟩ | refine (Sd.step0 T.fr).la0 rfl ?_ | refine (Sd.step0 T.fr).la1 rfl ?_ | refine (Sd.step0 T.fr).la2 rfl ?_ | refine (Sd.step0 T.fr).la3 rfl ?_ | refine (Sd.step0 T.fr).la4 rfl ?_ | refine (Sd.step0 T.fr).la5 rfl ?_ | refine (Sd.step0 T.fr).la6 rfl ?_ | refine (Sd.step0 T.fr).la7 rfl ?_ | refine (Sd.step0 T.fr).ld0 rfl rfl ?_ | refine (Sd.step0 T.fr).ld1 rfl rfl ?_ | refine (Sd.step0 T.fr).ld2 rfl rfl ?_ | refine (Sd.step0 T.fr).ld3 rfl rfl ?_ | refine (Sd.step0 T.fr).ld4 rfl rfl ?_ | refine (Sd.step0 T.fr).ld5 rfl rfl ?_ | refine (Sd.step0 T.fr).ld6 rfl rfl ?_ | refine (Sd.step0 T.fr).ld7 rfl rfl ?_ | refine ⟨by decide, ?_⟩ | refine ⟨hkeep _ T.fr, ?_⟩); try dsimp only))
    refine T.newB fun b5 w5 T f _ => ?_
    (repeat ((first | refine ⟨hD _ (by first | exact Sd.bl0 | exact Sd.bl1 | exact Sd.bl2 | exact Sd.bl3 | exact Sd.bl4 | exact Sd.bl5 | exact Sd.bl6 | exact Sd.bl7), ?_⟩ | refine (Sd.step0 T.fr).la0 rfl ?_ | refine (Sd.step0 T.fr).la1 rfl ?_ | refine (Sd.step0 T.fr).la2 rfl ?_ | refine (Sd.step0 T.fr).la3 rfl ?_ | refine (Sd.step0 T.fr).la4 rfl ?_ | refine (Sd.step0 T.fr).la5 rfl ?_ | refine (Sd.step0 T.fr).la6 rfl ?_ | refine (Sd.step0 T.fr).la7 rfl ?_ | refine (Sd.step0 T.fr).ld0 rfl rfl ?_ | refine (Sd.step0 T.fr).ld1 rfl rfl ?_ | refine (Sd.step0 T.fr).ld2 rfl rfl ?_ | refine (Sd.step0 T.fr).ld3 rfl rfl ?_ | refine (Sd.step0 T.fr).ld4 rfl rfl ?_ | refine (Sd.step0 T.fr).ld5 rfl rfl ?_ | refine (Sd.step0 T.fr).ld6 rfl rfl ?_ | refine (Sd.step0 T.fr).ld7 rfl rfl ?_ | refine ⟨by decide, ?_⟩ | refine ⟨hkeep _ T.fr, ?_⟩); try dsimp only))
    have T := T.asOwn (sz := 1) (n := 0) rfl (by omega) oneAll.nil
    refine T.ab0 (xs := []) (Sd.step0 T.fr).in0 (by omega) fun a5 c5 w5 T f5 => ?_
    (repeat ((first | refine ⟨hD _ (by first | exact Sd.bl0 | exact Sd.bl1 | exact Sd.bl2 | exact Sd.bl3 | exact Sd.bl4 | exact Sd.bl5 | exact Sd.bl6 | exact Sd.bl7), ?_⟩ | refine (Sd.step0 T.fr).la0 rfl ?_ | refine (Sd.step0 T.fr).la1 rfl ?_ | refine (Sd.step0 T.fr).la2 rfl ?_ | refine (Sd.step0 T.fr).la3 rfl ?_ | refine (Sd.step0 T.fr).la4 rfl ?_ | refine (Sd.step0 T.fr).la5 rfl ?_ | refine (Sd.step0 T.fr).la6 rfl ?_ | refine (Sd.step0 T.fr).la7 rfl ?_ | refine (Sd.step0 T.fr).ld0 rfl rfl ?_ | refine (Sd.step0 T.fr).ld1 rfl rfl ?_ | refine (Sd.step0 T.fr).ld2 rfl rfl ?_ | refine (Sd.step0 T.fr).ld3 rfl rfl ?_ | refine (Sd.step0 T.fr).ld4 rfl rfl ?_ | refine (Sd.step0 T.fr).ld5 rfl rfl ?_ | refine (Sd.step0 T.fr).ld6 rfl rfl ?_ | refine (Sd.step0 T.fr).ld7 rfl rfl ?_ | refine ⟨by decide, ?_⟩ | refine ⟨hkeep _ T.fr, ?_⟩); try dsimp only))
    refine (rEnd_c hg (ht.ext (Sd.ext.trans T.ext)) hE).mono ?_
    rintro ⟨⟨ea, en, ec⟩, ⟨⟩⟩ w6 h6
    have l4 := h6.ints.len
    dsimp only at h6 l4 ⊢
    have T := T.res h6
    dsimp only at T
    (repeat ((first | refine ⟨hD _ (by first | exact Sd.bl0 | exact Sd.bl1 | exact Sd.bl2 | exact Sd.bl3 | exact Sd.bl4 | exact Sd.bl5 | exact Sd.bl6 | exact Sd.bl7), ?_⟩ | refine (Sd.step0 T.fr).la0 rfl ?_ | refine (Sd.step0 T.fr).la1 rfl ?_ | refine (Sd.step0 T.fr).la2 rfl ?_ | refine (Sd.step0 T.fr).la3 rfl ?_ | refine (Sd.step0 T.fr).la4 rfl ?_ | refine (Sd.step0 T.fr).la5 rfl ?_ | refine (Sd.step0 T.fr).la6 rfl ?_ | refine (Sd.step0 T.fr).la7 rfl ?_ | refine (Sd.step0 T.fr).ld0 rfl rfl ?_ | refine (Sd.step0 T.fr).ld1 rfl rfl ?_ | refine (Sd.step0 T.fr).ld2 rfl rfl ?_ | refine (Sd.step0 T.fr).ld3 rfl rfl ?_ | refine (Sd.step0 T.fr).ld4 rfl rfl ?_ | refine (Sd.step0 T.fr).ld5 rfl rfl ?_ | refine (Sd.step0 T.fr).ld6 rfl rfl ?_ | refine (Sd.step0 T.fr).ld7 rfl rfl ?_ | refine ⟨by decide, ?_⟩ | refine ⟨hkeep _ T.fr, ?_⟩); try dsimp only))
    refine T.ab1 T.in0 (by omega) fun a7 c7 w7 T f7 => ?_
    (repeat ((first | refine ⟨hD _ (by first | exact Sd.bl0 | exact Sd.bl1 | exact Sd.bl2 | exact Sd.bl3 | exact Sd.bl4 | exact Sd.bl5 | exact Sd.bl6 | exact Sd.bl7), ?_⟩ | refine (Sd.step0 T.fr).la0 rfl ?_ | refine (Sd.step0 T.fr).la1 rfl ?_ | refine (Sd.step0 T.fr).la2 rfl ?_ | refine (Sd.step0 T.fr).la3 rfl ?_ | refine (Sd.step0 T.fr).la4 rfl ?_ | refine (Sd.step0 T.fr).la5 rfl ?_ | refine (Sd.step0 T.fr).la6 rfl ?_ | refine (Sd.step0 T.fr).la7 rfl ?_ | refine (Sd.step0 T.fr).ld0 rfl rfl ?_ | refine (Sd.step0 T.fr).ld1 rfl rfl ?_ | refine (Sd.step0 T.fr).ld2 rfl rfl ?_ | refine (Sd.step0 T.fr).ld3 rfl rfl ?_ | refine (Sd.step0 T.fr).ld4 rfl rfl ?_ | refine (Sd.step0 T.fr).ld5 rfl rfl ?_ | refine (Sd.step0 T.fr).ld6 rfl rfl ?_ | refine (Sd.step0 T.fr).ld7 rfl rfl ?_ | refine ⟨by decide, ?_⟩ | refine ⟨hkeep _ T.fr, ?_⟩); try dsimp only))
    have R := (T.tail).out
    have hq : [] ++ List.replicate g.s.toNat 255 ++ endL h ts = mkL g h xs ts := by unfold mkL payL; rw [if_pos (by omega)]; rfl
    rw [hq] at R
    exact R.after Sd.ext
  · refine S.reg fun D hD hkeep Sd T => ?_
    (repeat ((first | refine ⟨hD _ (by first | exact Sd.bl0 | exact Sd.bl1 | exact Sd.bl2 | exact Sd.bl3 | exact Sd.bl4 | exact Sd.bl5 | exact Sd.bl6 | exact Sd.bl7), ?_⟩ | refine (Sd.step0 T.fr).la0 rfl ?_ | refine (Sd.step0 T.fr).la1 rfl ?_ | refine (Sd.step0 T.fr).la2 rfl ?_ | refine (Sd.step0 T.fr).la3 rfl ?_ | refine (Sd.step0 T.fr).la4 rfl ?_ | refine (Sd.step0 T.fr).la5 rfl ?_ | refine (Sd.step0 T.fr).la6 rfl ?_ | refine (Sd.step0 T.fr).la7 rfl ?_ | refine (Sd.step0 T.fr).ld0 rfl rfl ?_ | refine (Sd.step0 T.fr).ld1 rfl rfl ?_ | refine (Sd.step0 T.fr).ld2 rfl rfl ?_ | refine (Sd.step0 T.fr).ld3 rfl rfl ?_ | refine (Sd.step0 T.fr).ld4 rfl rfl ?_ | refine (Sd.step0 T.fr).ld5 rfl rfl ?_ | refine (Sd.step0 T.fr).ld6 rfl rfl ?_ | refine (Sd.step0 T.fr).ld7 rfl rfl ?_ | refine ⟨by decide, ?_⟩ | refine ⟨hkeep _ T.fr, ?_⟩); try dsimp only))
    refine T.newB fun b5 w5 T f _ => ?_
    (repeat ((first | refine ⟨hD _ (by first | exact Sd.bl0 | exact Sd.bl1 | exact Sd.bl2 | exact Sd.bl3 | exact Sd.bl4 | exact Sd.bl5 | exact Sd.bl6 | exact Sd.bl7), ?_⟩ | refine (Sd.step0 T.fr).la0 rfl ?_ | refine (Sd.step0 T.fr).la1 rfl ?_ | refine (Sd.step0 T.fr).la2 rfl ?_ | refine (Sd.step0 T.fr).la3 rfl ?_ | refine (Sd.step0 T.fr).la4 rfl ?_ | refine (Sd.step0 T.fr).la5 rfl ?_ | refine (Sd.step0 T.fr).la6 rfl ?_ | refine (Sd.step0 T.fr).la7 rfl ?_ | refine (Sd.step0 T.fr).ld0 rfl rfl ?_ | refine (Sd.step0 T.fr).ld1 rfl rfl ?_ | refine (Sd.step0 T.fr).ld2 rfl rfl ?_ | refine (Sd.step0 T.fr).ld3 rfl rfl ?_ | refine (Sd.step0 T.fr).ld4 rfl rfl ?_ | refine (Sd.step0 T.fr).ld5 rfl rfl ?_ | refine (Sd.step0 T.fr).ld6 rfl rfl ?_ | refine (Sd.step0 T.fr).ld7 rfl rfl ?_ | refine ⟨by decide, ?_⟩ | refine ⟨hkeep _ T.fr, ?_⟩); try dsimp only))
    have T := T.asOwn (sz := 1) (n := 0) rfl (by omega) oneAll.nil
    refine T.ab0 (xs := []) (hx.ext (Sd.ext.trans T.ext)) (by omega) fun a5 c5 w5 T f5 => ?_
    (repeat ((first | refine ⟨hD _ (by first | exact Sd.bl0 | exact Sd.bl1 | exact Sd.bl2 | exact Sd.bl3 | exact Sd.bl4 | exact Sd.bl5 | exact Sd.bl6 | exact Sd.bl7), ?_⟩ | refine (Sd.step0 T.fr).la0 rfl ?_ | refine (Sd.step0 T.fr).la1 rfl ?_ | refine (Sd.step0 T.fr).la2 rfl ?_ | refine (Sd.step0 T.fr).la3 rfl ?_ | refine (Sd.step0 T.fr).la4 rfl ?_ | refine (Sd.step0 T.fr).la5 rfl ?_ | refine (Sd.step0 T.fr).la6 rfl ?_ | refine (Sd.step0 T.fr).la7 rfl ?_ | refine (Sd.step0 T.fr).ld0 rfl rfl ?_ | refine (Sd.step0 T.fr).ld1 rfl rfl ?_ | refine (Sd.step0 T.fr).ld2 rfl rfl ?_ | refine (Sd.step0 T.fr).ld3 rfl rfl ?_ | refine (Sd.step0 T.fr).ld4 rfl rfl ?_ | refine (Sd.step0 T.fr).ld5 rfl rfl ?_ | refine (Sd.step0 T.fr).ld6 rfl rfl ?_ | refine (Sd.step0 T.fr).ld7 rfl rfl ?_ | refine ⟨by decide, ?_⟩ | refine ⟨hkeep _ T.fr, ?_⟩); try dsimp only))
    refine (rEnd_c hg (ht.ext (Sd.ext.trans T.ext)) hE).mono ?_
    rintro ⟨⟨ea, en, ec⟩, ⟨⟩⟩ w6 h6
    have l4 := h6.ints.len
    dsimp only at h6 l4 ⊢
    have T := T.res h6
    dsimp only at T
    (repeat ((first | refine ⟨hD _ (by first | exact Sd.bl0 | exact Sd.bl1 | exact Sd.bl2 | exact Sd.bl3 | exact Sd.bl4 | exact Sd.bl5 | exact Sd.bl6 | exact Sd.bl7), ?_⟩ | refine (Sd.step0 T.fr).la0 rfl ?_ | refine (Sd.step0 T.fr).la1 rfl ?_ | refine (Sd.step0 T.fr).la2 rfl ?_ | refine (Sd.step0 T.fr).la3 rfl ?_ | refine (Sd.step0 T.fr).la4 rfl ?_ | refine (Sd.step0 T.fr).la5 rfl ?_ | refine (Sd.step0 T.fr).la6 rfl ?_ | refine (Sd.step0 T.fr).la7 rfl ?_ | refine (Sd.step0 T.fr).ld0 rfl rfl ?_ | refine (Sd.step0 T.fr).ld1 rfl rfl ?_ | refine (Sd.step0 T.fr).ld2 rfl rfl ?_ | refine (Sd.step0 T.fr).ld3 rfl rfl ?_ | refine (Sd.step0 T.fr).ld4 rfl rfl ?_ | refine (Sd.step0 T.fr).ld5 rfl rfl ?_ | refine (Sd.step0 T.fr).ld6 rfl rfl ?_ | refine (Sd.step0 T.fr).ld7 rfl rfl ?_ | refine ⟨by decide, ?_⟩ | refine ⟨hkeep _ T.fr, ?_⟩); try dsimp only))
    refine T.ab1 T.in0 (by omega) fun a7 c7 w7 T f7 => ?_
    (repeat ((first | refine ⟨hD _ (by first | exact Sd.bl0 | exact Sd.bl1 | exact Sd.bl2 | exact Sd.bl3 | exact Sd.bl4 | exact Sd.bl5 | exact Sd.bl6 | exact Sd.bl7), ?_⟩ | refine (Sd.step0 T.fr).la0 rfl ?_ | refine (Sd.step0 T.fr).la1 rfl ?_ | refine (Sd.step0 T.fr).la2 rfl ?_ | refine (Sd.step0 T.fr).la3 rfl ?_ | refine (Sd.step0 T.fr).la4 rfl ?_ | refine (Sd.step0 T.fr).la5 rfl ?_ | refine (Sd.step0 T.fr).la6 rfl ?_ | refine (Sd.step0 T.fr).la7 rfl ?_ | refine (Sd.step0 T.fr).ld0 rfl rfl ?_ | refine (Sd.step0 T.fr).ld1 rfl rfl ?_ | refine (Sd.step0 T.fr).ld2 rfl rfl ?_ | refine (Sd.step0 T.fr).ld3 rfl rfl ?_ | refine (Sd.step0 T.fr).ld4 rfl rfl ?_ | refine (Sd.step0 T.fr).ld5 rfl rfl ?_ | refine (Sd.step0 T.fr).ld6 rfl rfl ?_ | refine (Sd.step0 T.fr).ld7 rfl rfl ?_ | refine ⟨by decide, ?_⟩ | refine ⟨hkeep _ T.fr, ?_⟩); try dsimp only))
    have R := (T.tail).out
    have hq : [] ++ xs ++ endL h ts = mkL g h xs ts := by unfold mkL payL; rw [if_neg (by omega)]; rfl
    rw [hq] at R
    exact R.after Sd.ext

end Go.Proofs.Ytfpkaebmiojicaa.Vc

/-! The contracts of layer 15 (page): what bytes tell. -/
namespace Go.Proofs.Ytfpkaebmiojicaa.Vc
open Go Go.Eng Go.RowKit
set_option linter.unusedVariables false
set_option linter.unusedSimpArgs false

abbrev PgT : Type := Int × Int × Int × Int × Int × Int × SlV × SlV × Bool × Unit
abbrev zPg : PgT := ((0 : Int), (0 : Int), (0 : Int), (0 : Int), (0 : Int), (0 : Int), (⟨none, 0, 0⟩ : SlV), (⟨none, 0, 0⟩ : SlV), false, ())
abbrev pgT (h : Hd) (s t : SlV) (d : Bool) : PgT := (h.k, h.n, h.c, h.l, h.e, h.t, s, t, d, ())
def endP (g : Geo) (xs : List Int) : List Int := xs.drop g.s.toNat
def lenP (g : Geo) (xs : List Int) : Prop := Right g ∧ (xs.length : Int) = g.s + 88
instance (g : Geo) (xs : List Int) : Decidable (lenP g xs) := by unfold lenP; infer_instance
abbrev pays (g : Geo) (xs : List Int) : List Int := xs.take g.s.toNat
abbrev tags (g : Geo) (xs : List Int) : List Int := part (endP g xs) 48 80
/-- What a page tells, in new memory. -/
def PgIs (w w' : World) (g : Geo) (xs : List Int) (q : PgT) : Prop := ∃ s t : SlV, q = pgT (hdOf (endP g xs)) s t (comm (endP g xs)) ∧ s.n = g.s.toNat ∧ t.n = 32 ∧ Sep NoB w w' [OwnA 5 1 s.a s.n s.c ((pays g xs).map (Value.int .u8)), OwnA 5 1 t.a t.n t.c ((tags g xs).map (Value.int .u8))]

theorem cut_c {w0 w : World} {g : Geo} {a : Option Addr} {n c : Nat} {xs : List Int} (hx : Ints w0 .u8 a n c xs) (hl : lenP g xs) :
    CallV Try.prog 66 #[g.val, .slice a n c] w [.agg [.sl, .sl]] fun r w' => Ext w w' ∧ Ints w0 .u8 r.1.1.a r.1.1.n r.1.1.c (pays g xs) ∧ Ints w0 .u8 r.1.2.1.a r.1.2.1.n r.1.2.1.c (endP g xs) := by
  apply page_cut.vc
  unfold page_cut.P
  have hs := hl.1.sec
  have hn := hl.2
  have lx := hx.len
  have hc := hx.cap
  have S := Sep.start NoB w
  refine S.newB fun b1 w1 S f _ => ?_
  refine S.newB fun b3 w2 S f _ => ?_
  have hb := S.ne 0 1 (by omega) rfl rfl
  refine S.regX (fun k => k = b3) fun D hD hkeep S _ => ?_
  have D1 := hD b1 S.bl1 (fun e => hb e.symm)
  refine ⟨D1, S.ld1 rfl rfl ⟨⟨by omega, by omega⟩, ?_⟩⟩
  intro a7 ha7
  refine ⟨D1, S.ld1 rfl rfl ⟨⟨by omega, by omega⟩, ?_⟩⟩
  intro a9 ha9
  dsimp only
  refine S.st0 (by rfl) fun w3 S f3 => ⟨hkeep _ f3, S.la0 rfl ?_⟩
  have i7 := hx.sub (l := 0) (hh := g.s.toNat) (m := c) (by omega) (by omega) (by omega) ha7
  have i9 := hx.sub (l := g.s.toNat) (hh := n) (m := c) (by omega) (by omega) (by omega) ha9
  rw [List.drop_zero, Nat.sub_zero] at i7
  rw [List.take_of_length_le (by rw [List.length_drop]; omega)] at i9
  exact ⟨S.ext, i7, i9⟩

theorem PRead_c {w : World} {g : Geo} {a : Option Addr} {n c : Nat} {xs : List Int} (hx : Ints w .u8 a n c xs) (bx : Byt xs) :
    CallV Try.prog 23 #[g.val, .slice a n c] w [.agg [.int .i64, .int .i64, .int .i64, .int .u32, .int .u64, .int .u64, .sl, .sl, .bool], .one (.int .i64)] fun r w' =>
      Ext w w' ∧ (¬ lenP g xs → r.1 = zPg ∧ r.2.1 = (2 : Int)) ∧ (lenP g xs → ¬ okR (endP g xs) → r.1 = zPg ∧ r.2.1 = (1 : Int)) ∧ (lenP g xs → okR (endP g xs) → r.2.1 = (0 : Int) ∧ PgIs w w' g xs r.1) := by
  apply page_Read.vc
  unfold page_Read.P
  have lx := hx.len
  have S := Sep.start NoB w
  refine S.newB fun b1 w1 S f _ => ?_
  refine S.newB fun b3 w2 S f _ => ?_
  (repeat ((first | refine S.newB fun _ _ S f _ => ?_ | refine S.la0 rfl ?_ | refine S.la1 rfl ?_ | refine S.la2 rfl ?_ | refine S.la3 rfl ?_ | refine S.la4 rfl ?_ | refine S.la5 rfl ?_ | refine S.ld0 rfl rfl ?_ | refine S.ld1 rfl rfl ?_ | refine S.ld2 rfl rfl ?_ | refine S.ld3 rfl rfl ?_ | refine S.ld4 rfl rfl ?_ | refine S.ld5 rfl rfl ?_ | refine S.st0 (by rfl) fun _ S f => ?_ | refine S.st1 (by rfl) fun _ S f => ?_ | refine S.st2 (by rfl) fun _ S f => ?_ | refine S.st3 (by rfl) fun _ S f => ?_ | refine S.st4 (by rfl) fun _ S f => ?_ | refine S.st5 (by rfl) fun _ S f => ?_ | refine S.su0 (by rfl) fun _ S f => ?_ | refine S.su1 (by rfl) fun _ S f => ?_ | refine S.su2 (by rfl) fun _ S f => ?_ | refine S.su3 (by rfl) fun _ S f => ?_ | refine S.su4 (by rfl) fun _ S f => ?_ | refine S.su5 (by rfl) fun _ S f => ?_ | refine ⟨by decide, ?_⟩); try dsimp only [List.set_cons_zero, List.set_cons_succ, cond_true, cond_false, Bool.not_true, Bool.not_false]))
  refine (Check_c (g := g)).mono ?_
  rintro ⟨(r : Int), ⟨⟩⟩ w2 ⟨h2, e2⟩
  dsimp only at h2 ⊢
  have S := S.stepE e2
  subst h2
  by_cases hR : Right g
  case neg =>
    refine cond_t (by unfold chkE; rw [if_neg hR]; rfl) ?_
    (repeat ((first | refine S.newB fun _ _ S f _ => ?_ | refine S.la0 rfl ?_ | refine S.la1 rfl ?_ | refine S.la2 rfl ?_ | refine S.la3 rfl ?_ | refine S.la4 rfl ?_ | refine S.la5 rfl ?_ | refine S.ld0 rfl rfl ?_ | refine S.ld1 rfl rfl ?_ | refine S.ld2 rfl rfl ?_ | refine S.ld3 rfl rfl ?_ | refine S.ld4 rfl rfl ?_ | refine S.ld5 rfl rfl ?_ | refine S.st0 (by rfl) fun _ S f => ?_ | refine S.st1 (by rfl) fun _ S f => ?_ | refine S.st2 (by rfl) fun _ S f => ?_ | refine S.st3 (by rfl) fun _ S f => ?_ | refine S.st4 (by rfl) fun _ S f => ?_ | refine S.st5 (by rfl) fun _ S f => ?_ | refine S.su0 (by rfl) fun _ S f => ?_ | refine S.su1 (by rfl) fun _ S f => ?_ | refine S.su2 (by rfl) fun _ S f => ?_ | refine S.su3 (by rfl) fun _ S f => ?_ | refine S.su4 (by rfl) fun _ S f => ?_ | refine S.su5 (by rfl) fun _ S f => ?_ | refine ⟨by decide, ?_⟩); try dsimp only [List.set_cons_zero, List.set_cons_succ, cond_true, cond_false, Bool.not_true, Bool.not_false]))
    exact ⟨S.ext, fun _ => ⟨rfl, rfl⟩, fun h => absurd h.1 hR, fun h => absurd h.1 hR⟩
  refine cond_f (by unfold chkE; rw [if_pos hR]; rfl) ?_
  have hs := hR.sec
  (repeat ((first | refine S.newB fun _ _ S f _ => ?_ | refine S.la0 rfl ?_ | refine S.la1 rfl ?_ | refine S.la2 rfl ?_ | refine S.la3 rfl ?_ | refine S.la4 rfl ?_ | refine S.la5 rfl ?_ | refine S.ld0 rfl rfl ?_ | refine S.ld1 rfl rfl ?_ | refine S.ld2 rfl rfl ?_ | refine S.ld3 rfl rfl ?_ | refine S.ld4 rfl rfl ?_ | refine S.ld5 rfl rfl ?_ | refine S.st0 (by rfl) fun _ S f => ?_ | refine S.st1 (by rfl) fun _ S f => ?_ | refine S.st2 (by rfl) fun _ S f => ?_ | refine S.st3 (by rfl) fun _ S f => ?_ | refine S.st4 (by rfl) fun _ S f => ?_ | refine S.st5 (by rfl) fun _ S f => ?_ | refine S.su0 (by rfl) fun _ S f => ?_ | refine S.su1 (by rfl) fun _ S f => ?_ | refine S.su2 (by rfl) fun _ S f => ?_ | refine S.su3 (by rfl) fun _ S f => ?_ | refine S.su4 (by rfl) fun _ S f => ?_ | refine S.su5 (by rfl) fun _ S f => ?_ | refine ⟨by decide, ?_⟩); try dsimp only [List.set_cons_zero, List.set_cons_succ, cond_true, cond_false, Bool.not_true, Bool.not_false]))
  refine (PageSize_c (g := g)).mono ?_
  rintro ⟨(r3 : Int), ⟨⟩⟩ w3 ⟨h3, e3⟩
  dsimp only at h3 ⊢
  have S := S.stepE e3
  rw [if_pos hR] at h3
  subst h3
  refine cond_ne (fun hne => ?_) (fun heq => ?_)
  · have hn : ¬ lenP g xs := fun h => hne (by have := h.2; omega)
    (repeat ((first | refine S.newB fun _ _ S f _ => ?_ | refine S.la0 rfl ?_ | refine S.la1 rfl ?_ | refine S.la2 rfl ?_ | refine S.la3 rfl ?_ | refine S.la4 rfl ?_ | refine S.la5 rfl ?_ | refine S.ld0 rfl rfl ?_ | refine S.ld1 rfl rfl ?_ | refine S.ld2 rfl rfl ?_ | refine S.ld3 rfl rfl ?_ | refine S.ld4 rfl rfl ?_ | refine S.ld5 rfl rfl ?_ | refine S.st0 (by rfl) fun _ S f => ?_ | refine S.st1 (by rfl) fun _ S f => ?_ | refine S.st2 (by rfl) fun _ S f => ?_ | refine S.st3 (by rfl) fun _ S f => ?_ | refine S.st4 (by rfl) fun _ S f => ?_ | refine S.st5 (by rfl) fun _ S f => ?_ | refine S.su0 (by rfl) fun _ S f => ?_ | refine S.su1 (by rfl) fun _ S f => ?_ | refine S.su2 (by rfl) fun _ S f => ?_ | refine S.su3 (by rfl) fun _ S f => ?_ | refine S.su4 (by rfl) fun _ S f => ?_ | refine S.su5 (by rfl) fun _ S f => ?_ | refine ⟨by decide, ?_⟩); try dsimp only [List.set_cons_zero, List.set_cons_succ, cond_true, cond_false, Bool.not_true, Bool.not_false]))
    exact ⟨S.ext, fun _ => ⟨rfl, rfl⟩, fun h => absurd h hn, fun h => absurd h hn⟩
  have hL : lenP g xs := ⟨hR, by omega⟩
  (repeat ((first | refine S.newB fun _ _ S f _ => ?_ | refine S.la0 rfl ?_ | refine S.la1 rfl ?_ | refine S.la2 rfl ?_ | refine S.la3 rfl ?_ | refine S.la4 rfl ?_ | refine S.la5 rfl ?_ | refine S.ld0 rfl rfl ?_ | refine S.ld1 rfl rfl ?_ | refine S.ld2 rfl rfl ?_ | refine S.ld3 rfl rfl ?_ | refine S.ld4 rfl rfl ?_ | refine S.ld5 rfl rfl ?_ | refine S.st0 (by rfl) fun _ S f => ?_ | refine S.st1 (by rfl) fun _ S f => ?_ | refine S.st2 (by rfl) fun _ S f => ?_ | refine S.st3 (by rfl) fun _ S f => ?_ | refine S.st4 (by rfl) fun _ S f => ?_ | refine S.st5 (by rfl) fun _ S f => ?_ | refine S.su0 (by rfl) fun _ S f => ?_ | refine S.su1 (by rfl) fun _ S f => ?_ | refine S.su2 (by rfl) fun _ S f => ?_ | refine S.su3 (by rfl) fun _ S f => ?_ | refine S.su4 (by rfl) fun _ S f => ?_ | refine S.su5 (by rfl) fun _ S f => ?_ | refine ⟨by decide, ?_⟩); try dsimp only [List.set_cons_zero, List.set_cons_succ, cond_true, cond_false, Bool.not_true, Bool.not_false]))
  refine (cut_c hx hL).mono ?_
  rintro ⟨⟨⟨pa, pn, pc⟩, ⟨ta, tn, tc⟩, ⟨⟩⟩, ⟨⟩⟩ w4 ⟨e4, ip, it⟩
  dsimp only at ip it ⊢
  have S := S.stepE e4
  have e4w := S.ext
  refine S.newB fun b5 w5 S f _ => ?_
  (repeat ((first | refine S.newB fun _ _ S f _ => ?_ | refine S.la0 rfl ?_ | refine S.la1 rfl ?_ | refine S.la2 rfl ?_ | refine S.la3 rfl ?_ | refine S.la4 rfl ?_ | refine S.la5 rfl ?_ | refine S.ld0 rfl rfl ?_ | refine S.ld1 rfl rfl ?_ | refine S.ld2 rfl rfl ?_ | refine S.ld3 rfl rfl ?_ | refine S.ld4 rfl rfl ?_ | refine S.ld5 rfl rfl ?_ | refine S.st0 (by rfl) fun _ S f => ?_ | refine S.st1 (by rfl) fun _ S f => ?_ | refine S.st2 (by rfl) fun _ S f => ?_ | refine S.st3 (by rfl) fun _ S f => ?_ | refine S.st4 (by rfl) fun _ S f => ?_ | refine S.st5 (by rfl) fun _ S f => ?_ | refine S.su0 (by rfl) fun _ S f => ?_ | refine S.su1 (by rfl) fun _ S f => ?_ | refine S.su2 (by rfl) fun _ S f => ?_ | refine S.su3 (by rfl) fun _ S f => ?_ | refine S.su4 (by rfl) fun _ S f => ?_ | refine S.su5 (by rfl) fun _ S f => ?_ | refine ⟨by decide, ?_⟩); try dsimp only [List.set_cons_zero, List.set_cons_succ, cond_true, cond_false, Bool.not_true, Bool.not_false]))
  have bt : Byt (endP g xs) := bx.drop _
  have le : (endP g xs).length = 88 := by unfold endP; rw [List.length_drop]; omega
  refine (Read_c (it.ext S.ext) bt).mono ?_
  rintro ⟨⟨(k1 : Int), (k2 : Int), (k3 : Int), (k4 : Int), (k5 : Int), (k6 : Int), ⟨⟩⟩, ⟨sa, sn, sc⟩, (e6 : Int), ⟨⟩⟩ w6 ⟨x6, -, hok, hno⟩
  dsimp only at hok hno ⊢
  by_cases hO : okR (endP g xs)
  case neg =>
    obtain ⟨h1, -, h3⟩ := hno le hO
    have S := S.stepE x6
    subst h3
    (repeat ((first | refine S.newB fun _ _ S f _ => ?_ | refine S.la0 rfl ?_ | refine S.la1 rfl ?_ | refine S.la2 rfl ?_ | refine S.la3 rfl ?_ | refine S.la4 rfl ?_ | refine S.la5 rfl ?_ | refine S.ld0 rfl rfl ?_ | refine S.ld1 rfl rfl ?_ | refine S.ld2 rfl rfl ?_ | refine S.ld3 rfl rfl ?_ | refine S.ld4 rfl rfl ?_ | refine S.ld5 rfl rfl ?_ | refine S.st0 (by rfl) fun _ S f => ?_ | refine S.st1 (by rfl) fun _ S f => ?_ | refine S.st2 (by rfl) fun _ S f => ?_ | refine S.st3 (by rfl) fun _ S f => ?_ | refine S.st4 (by rfl) fun _ S f => ?_ | refine S.st5 (by rfl) fun _ S f => ?_ | refine S.su0 (by rfl) fun _ S f => ?_ | refine S.su1 (by rfl) fun _ S f => ?_ | refine S.su2 (by rfl) fun _ S f => ?_ | refine S.su3 (by rfl) fun _ S f => ?_ | refine S.su4 (by rfl) fun _ S f => ?_ | refine S.su5 (by rfl) fun _ S f => ?_ | refine ⟨by decide, ?_⟩); try dsimp only [List.set_cons_zero, List.set_cons_succ, cond_true, cond_false, Bool.not_true, Bool.not_false]))
    exact ⟨S.ext, fun h => absurd hL h, fun _ _ => ⟨rfl, rfl⟩, fun _ h => absurd h hO⟩
  obtain ⟨h1, h2, h3⟩ := hok le hO
  subst h3
  have h1 : (k1, k2, k3, k4, k5, k6, ()) = (hdOf (endP g xs)).tup := h1
  simp only [Prod.mk.injEq, and_true] at h1
  obtain ⟨rfl, rfl, rfl, rfl, rfl, rfl⟩ := h1
  have l2 := h2.ints.len
  rw [part_length (by omega) (by omega)] at l2
  have S := S.res h2
  dsimp only at S l2
  subst l2
  (repeat ((first | refine S.newB fun _ _ S f _ => ?_ | refine S.la0 rfl ?_ | refine S.la1 rfl ?_ | refine S.la2 rfl ?_ | refine S.la3 rfl ?_ | refine S.la4 rfl ?_ | refine S.la5 rfl ?_ | refine S.ld0 rfl rfl ?_ | refine S.ld1 rfl rfl ?_ | refine S.ld2 rfl rfl ?_ | refine S.ld3 rfl rfl ?_ | refine S.ld4 rfl rfl ?_ | refine S.ld5 rfl rfl ?_ | refine S.st0 (by rfl) fun _ S f => ?_ | refine S.st1 (by rfl) fun _ S f => ?_ | refine S.st2 (by rfl) fun _ S f => ?_ | refine S.st3 (by rfl) fun _ S f => ?_ | refine S.st4 (by rfl) fun _ S f => ?_ | refine S.st5 (by rfl) fun _ S f => ?_ | refine S.su0 (by rfl) fun _ S f => ?_ | refine S.su1 (by rfl) fun _ S f => ?_ | refine S.su2 (by rfl) fun _ S f => ?_ | refine S.su3 (by rfl) fun _ S f => ?_ | refine S.su4 (by rfl) fun _ S f => ?_ | refine S.su5 (by rfl) fun _ S f => ?_ | refine ⟨by decide, ?_⟩); try dsimp only [List.set_cons_zero, List.set_cons_succ, cond_true, cond_false, Bool.not_true, Bool.not_false]))
  have hne1 := S.ne 0 3 (by omega) rfl rfl
  have hne2 := S.ne 2 3 (by omega) rfl rfl
  refine S.regX (fun k => k = b3) fun D hD hkeep Sd T => ?_
  refine ⟨hD _ Sd.bl0 hne1, Sd.la0 rfl ⟨by decide, hD _ Sd.bl2 hne2, Sd.ld2 rfl rfl ⟨by decide, hD _ Sd.bl2 hne2, Sd.ld2 rfl rfl ?_⟩⟩⟩
  dsimp only
  refine T.newB fun b7 w7 T f _ => ⟨hkeep _ T.fr.any, ?_⟩
  have T := T.asOwn (sz := 1) (n := 0) rfl (by omega) oneAll.nil
  have lp := ip.len
  have lp' : (pays g xs).length = g.s.toNat := by rw [List.length_take]; have := hL.2; omega
  refine T.ab0 (xs := []) (ip.ext (Sd.ext.trans T.ext)) (by omega) fun a8 c8 w8 T f8 => ⟨hkeep _ T.fr.any, ?_⟩
  refine (Committed_c (it.ext (Sd.ext.trans T.ext)) bt).mono ?_
  rintro ⟨(r9 : Bool), ⟨⟩⟩ w9 ⟨h9, x9⟩
  dsimp only at h9 ⊢
  subst h9
  have T := T.stepE x9
  refine ⟨hkeep _ T.fr.any, ?_⟩
  have S := Sd.frame0 T
  dsimp only [List.cons_append, List.nil_append] at S
  refine S.st4 (by rfl) fun w10 S f10 => ⟨hkeep _ (T.fr.any.trans f10), S.la4 rfl ?_⟩
  refine ⟨S.ext, fun h => absurd hL h, fun _ h => absurd hO h, fun _ _ => ⟨rfl, ⟨a8, 0 + pn, c8⟩, ⟨sa, 80 - 48, sc⟩, rfl, by show 0 + pn = _; omega, rfl, ?_⟩⟩
  exact S.sel2 0 1 rfl rfl

theorem PDone_c {w : World} {g : Geo} {a : Option Addr} {n c : Nat} {kind : Int} {xs : List Int} (hx : Ints w .u8 a n c xs) (bx : Byt xs) :
    CallV Try.prog 24 #[g.val, .slice a n c, .int .i64 kind] w [.agg [.int .i64, .int .i64, .int .i64, .int .u32, .int .u64, .int .u64, .sl, .sl, .bool], .one .bool] fun r w' =>
      Ext w w' ∧ (¬ (lenP g xs ∧ okR (endP g xs) ∧ comm (endP g xs) = true ∧ (hdOf (endP g xs)).k = kind) → r.1 = zPg ∧ r.2.1 = false) ∧ ((lenP g xs ∧ okR (endP g xs) ∧ comm (endP g xs) = true ∧ (hdOf (endP g xs)).k = kind) → r.2.1 = true ∧ PgIs w w' g xs r.1) := by
  apply page_Done.vc
  unfold page_Done.P
  have S := Sep.start NoB w
  (repeat ((first | refine S.newB fun _ _ S f _ => ?_ | refine S.la0 rfl ?_ | refine S.la1 rfl ?_ | refine S.la2 rfl ?_ | refine S.la3 rfl ?_ | refine S.la4 rfl ?_ | refine S.la5 rfl ?_ | refine S.ld0 rfl rfl ?_ | refine S.ld1 rfl rfl ?_ | refine S.ld2 rfl rfl ?_ | refine S.ld3 rfl rfl ?_ | refine S.ld4 rfl rfl ?_ | refine S.ld5 rfl rfl ?_ | refine S.st0 (by rfl) fun _ S f => ?_ | refine S.st1 (by rfl) fun _ S f => ?_ | refine S.st2 (by rfl) fun _ S f => ?_ | refine S.st3 (by rfl) fun _ S f => ?_ | refine S.st4 (by rfl) fun _ S f => ?_ | refine S.st5 (by rfl) fun _ S f => ?_ | refine S.su0 (by rfl) fun _ S f => ?_ | refine S.su1 (by rfl) fun _ S f => ?_ | refine S.su2 (by rfl) fun _ S f => ?_ | refine S.su3 (by rfl) fun _ S f => ?_ | refine S.su4 (by rfl) fun _ S f => ?_ | refine S.su5 (by rfl) fun _ S f => ?_ | refine ⟨by decide, ?_⟩); try dsimp only [List.set_cons_zero, List.set_cons_succ, cond_true, cond_false, Bool.not_true, Bool.not_false]))
  refine (PRead_c (g := g) (hx.ext S.ext) bx).mono ?_
  rintro ⟨⟨(k1 : Int), (k2 : Int), (k3 : Int), (k4 : Int), (k5 : Int), (k6 : Int), ⟨sa, sn, sc⟩, ⟨ta, tn, tc⟩, (d : Bool), ⟨⟩⟩, (e2 : Int), ⟨⟩⟩ w2 ⟨x2, h1, h2, h3⟩
  dsimp only at h1 h2 h3 ⊢
  by_cases hL : lenP g xs
  case neg =>
    obtain ⟨q1, q2⟩ := h1 hL
    have S := S.stepE x2
    subst q2
    (repeat ((first | refine S.newB fun _ _ S f _ => ?_ | refine S.la0 rfl ?_ | refine S.la1 rfl ?_ | refine S.la2 rfl ?_ | refine S.la3 rfl ?_ | refine S.la4 rfl ?_ | refine S.la5 rfl ?_ | refine S.ld0 rfl rfl ?_ | refine S.ld1 rfl rfl ?_ | refine S.ld2 rfl rfl ?_ | refine S.ld3 rfl rfl ?_ | refine S.ld4 rfl rfl ?_ | refine S.ld5 rfl rfl ?_ | refine S.st0 (by rfl) fun _ S f => ?_ | refine S.st1 (by rfl) fun _ S f => ?_ | refine S.st2 (by rfl) fun _ S f => ?_ | refine S.st3 (by rfl) fun _ S f => ?_ | refine S.st4 (by rfl) fun _ S f => ?_ | refine S.st5 (by rfl) fun _ S f => ?_ | refine S.su0 (by rfl) fun _ S f => ?_ | refine S.su1 (by rfl) fun _ S f => ?_ | refine S.su2 (by rfl) fun _ S f => ?_ | refine S.su3 (by rfl) fun _ S f => ?_ | refine S.su4 (by rfl) fun _ S f => ?_ | refine S.su5 (by rfl) fun _ S f => ?_ | refine ⟨by decide, ?_⟩); try dsimp only [List.set_cons_zero, List.set_cons_succ, cond_true, cond_false, Bool.not_true, Bool.not_false]))
    exact ⟨S.ext, fun _ => ⟨rfl, rfl⟩, fun h => absurd h.1 hL⟩
  by_cases hO : okR (endP g xs)
  case neg =>
    obtain ⟨q1, q2⟩ := h2 hL hO
    have S := S.stepE x2
    subst q2
    (repeat ((first | refine S.newB fun _ _ S f _ => ?_ | refine S.la0 rfl ?_ | refine S.la1 rfl ?_ | refine S.la2 rfl ?_ | refine S.la3 rfl ?_ | refine S.la4 rfl ?_ | refine S.la5 rfl ?_ | refine S.ld0 rfl rfl ?_ | refine S.ld1 rfl rfl ?_ | refine S.ld2 rfl rfl ?_ | refine S.ld3 rfl rfl ?_ | refine S.ld4 rfl rfl ?_ | refine S.ld5 rfl rfl ?_ | refine S.st0 (by rfl) fun _ S f => ?_ | refine S.st1 (by rfl) fun _ S f => ?_ | refine S.st2 (by rfl) fun _ S f => ?_ | refine S.st3 (by rfl) fun _ S f => ?_ | refine S.st4 (by rfl) fun _ S f => ?_ | refine S.st5 (by rfl) fun _ S f => ?_ | refine S.su0 (by rfl) fun _ S f => ?_ | refine S.su1 (by rfl) fun _ S f => ?_ | refine S.su2 (by rfl) fun _ S f => ?_ | refine S.su3 (by rfl) fun _ S f => ?_ | refine S.su4 (by rfl) fun _ S f => ?_ | refine S.su5 (by rfl) fun _ S f => ?_ | refine ⟨by decide, ?_⟩); try dsimp only [List.set_cons_zero, List.set_cons_succ, cond_true, cond_false, Bool.not_true, Bool.not_false]))
    exact ⟨S.ext, fun _ => ⟨rfl, rfl⟩, fun h => absurd h.2.1 hO⟩
  obtain ⟨q1, s, t, q2, ln, lt, T⟩ := h3 hL hO
  have S := S.frame0 T
  dsimp only [List.cons_append, List.nil_append] at S
  obtain ⟨s1, s2, s3⟩ := s
  obtain ⟨t1, t2, t3⟩ := t
  cases q2
  dsimp only at S
  subst q1
  (repeat ((first | refine S.newB fun _ _ S f _ => ?_ | refine S.la0 rfl ?_ | refine S.la1 rfl ?_ | refine S.la2 rfl ?_ | refine S.la3 rfl ?_ | refine S.la4 rfl ?_ | refine S.la5 rfl ?_ | refine S.ld0 rfl rfl ?_ | refine S.ld1 rfl rfl ?_ | refine S.ld2 rfl rfl ?_ | refine S.ld3 rfl rfl ?_ | refine S.ld4 rfl rfl ?_ | refine S.ld5 rfl rfl ?_ | refine S.st0 (by rfl) fun _ S f => ?_ | refine S.st1 (by rfl) fun _ S f => ?_ | refine S.st2 (by rfl) fun _ S f => ?_ | refine S.st3 (by rfl) fun _ S f => ?_ | refine S.st4 (by rfl) fun _ S f => ?_ | refine S.st5 (by rfl) fun _ S f => ?_ | refine S.su0 (by rfl) fun _ S f => ?_ | refine S.su1 (by rfl) fun _ S f => ?_ | refine S.su2 (by rfl) fun _ S f => ?_ | refine S.su3 (by rfl) fun _ S f => ?_ | refine S.su4 (by rfl) fun _ S f => ?_ | refine S.su5 (by rfl) fun _ S f => ?_ | refine ⟨by decide, ?_⟩); try dsimp only [List.set_cons_zero, List.set_cons_succ, cond_true, cond_false, Bool.not_true, Bool.not_false]))
  refine cond_of (fun hc => ?_) (fun hc => ?_)
  · (repeat ((first | refine S.newB fun _ _ S f _ => ?_ | refine S.la0 rfl ?_ | refine S.la1 rfl ?_ | refine S.la2 rfl ?_ | refine S.la3 rfl ?_ | refine S.la4 rfl ?_ | refine S.la5 rfl ?_ | refine S.ld0 rfl rfl ?_ | refine S.ld1 rfl rfl ?_ | refine S.ld2 rfl rfl ?_ | refine S.ld3 rfl rfl ?_ | refine S.ld4 rfl rfl ?_ | refine S.ld5 rfl rfl ?_ | refine S.st0 (by rfl) fun _ S f => ?_ | refine S.st1 (by rfl) fun _ S f => ?_ | refine S.st2 (by rfl) fun _ S f => ?_ | refine S.st3 (by rfl) fun _ S f => ?_ | refine S.st4 (by rfl) fun _ S f => ?_ | refine S.st5 (by rfl) fun _ S f => ?_ | refine S.su0 (by rfl) fun _ S f => ?_ | refine S.su1 (by rfl) fun _ S f => ?_ | refine S.su2 (by rfl) fun _ S f => ?_ | refine S.su3 (by rfl) fun _ S f => ?_ | refine S.su4 (by rfl) fun _ S f => ?_ | refine S.su5 (by rfl) fun _ S f => ?_ | refine ⟨by decide, ?_⟩); try dsimp only [List.set_cons_zero, List.set_cons_succ, cond_true, cond_false, Bool.not_true, Bool.not_false]))
    exact ⟨S.ext, fun _ => ⟨rfl, rfl⟩, fun h => by rw [h.2.2.1] at hc; cases hc⟩
  (repeat ((first | refine S.newB fun _ _ S f _ => ?_ | refine S.la0 rfl ?_ | refine S.la1 rfl ?_ | refine S.la2 rfl ?_ | refine S.la3 rfl ?_ | refine S.la4 rfl ?_ | refine S.la5 rfl ?_ | refine S.ld0 rfl rfl ?_ | refine S.ld1 rfl rfl ?_ | refine S.ld2 rfl rfl ?_ | refine S.ld3 rfl rfl ?_ | refine S.ld4 rfl rfl ?_ | refine S.ld5 rfl rfl ?_ | refine S.st0 (by rfl) fun _ S f => ?_ | refine S.st1 (by rfl) fun _ S f => ?_ | refine S.st2 (by rfl) fun _ S f => ?_ | refine S.st3 (by rfl) fun _ S f => ?_ | refine S.st4 (by rfl) fun _ S f => ?_ | refine S.st5 (by rfl) fun _ S f => ?_ | refine S.su0 (by rfl) fun _ S f => ?_ | refine S.su1 (by rfl) fun _ S f => ?_ | refine S.su2 (by rfl) fun _ S f => ?_ | refine S.su3 (by rfl) fun _ S f => ?_ | refine S.su4 (by rfl) fun _ S f => ?_ | refine S.su5 (by rfl) fun _ S f => ?_ | refine ⟨by decide, ?_⟩); try dsimp only [List.set_cons_zero, List.set_cons_succ, cond_true, cond_false, Bool.not_true, Bool.not_false]))
  refine cond_ne (fun hk => ?_) (fun hk => ?_)
  · (repeat ((first | refine S.newB fun _ _ S f _ => ?_ | refine S.la0 rfl ?_ | refine S.la1 rfl ?_ | refine S.la2 rfl ?_ | refine S.la3 rfl ?_ | refine S.la4 rfl ?_ | refine S.la5 rfl ?_ | refine S.ld0 rfl rfl ?_ | refine S.ld1 rfl rfl ?_ | refine S.ld2 rfl rfl ?_ | refine S.ld3 rfl rfl ?_ | refine S.ld4 rfl rfl ?_ | refine S.ld5 rfl rfl ?_ | refine S.st0 (by rfl) fun _ S f => ?_ | refine S.st1 (by rfl) fun _ S f => ?_ | refine S.st2 (by rfl) fun _ S f => ?_ | refine S.st3 (by rfl) fun _ S f => ?_ | refine S.st4 (by rfl) fun _ S f => ?_ | refine S.st5 (by rfl) fun _ S f => ?_ | refine S.su0 (by rfl) fun _ S f => ?_ | refine S.su1 (by rfl) fun _ S f => ?_ | refine S.su2 (by rfl) fun _ S f => ?_ | refine S.su3 (by rfl) fun _ S f => ?_ | refine S.su4 (by rfl) fun _ S f => ?_ | refine S.su5 (by rfl) fun _ S f => ?_ | refine ⟨by decide, ?_⟩); try dsimp only [List.set_cons_zero, List.set_cons_succ, cond_true, cond_false, Bool.not_true, Bool.not_false]))
    exact ⟨S.ext, fun _ => ⟨rfl, rfl⟩, fun h => absurd h.2.2.2 hk⟩
  (repeat ((first | refine S.newB fun _ _ S f _ => ?_ | refine S.la0 rfl ?_ | refine S.la1 rfl ?_ | refine S.la2 rfl ?_ | refine S.la3 rfl ?_ | refine S.la4 rfl ?_ | refine S.la5 rfl ?_ | refine S.ld0 rfl rfl ?_ | refine S.ld1 rfl rfl ?_ | refine S.ld2 rfl rfl ?_ | refine S.ld3 rfl rfl ?_ | refine S.ld4 rfl rfl ?_ | refine S.ld5 rfl rfl ?_ | refine S.st0 (by rfl) fun _ S f => ?_ | refine S.st1 (by rfl) fun _ S f => ?_ | refine S.st2 (by rfl) fun _ S f => ?_ | refine S.st3 (by rfl) fun _ S f => ?_ | refine S.st4 (by rfl) fun _ S f => ?_ | refine S.st5 (by rfl) fun _ S f => ?_ | refine S.su0 (by rfl) fun _ S f => ?_ | refine S.su1 (by rfl) fun _ S f => ?_ | refine S.su2 (by rfl) fun _ S f => ?_ | refine S.su3 (by rfl) fun _ S f => ?_ | refine S.su4 (by rfl) fun _ S f => ?_ | refine S.su5 (by rfl) fun _ S f => ?_ | refine ⟨by decide, ?_⟩); try dsimp only [List.set_cons_zero, List.set_cons_succ, cond_true, cond_false, Bool.not_true, Bool.not_false]))
  refine ⟨S.ext, fun h => absurd ⟨hL, hO, by simpa using hc, hk⟩ h, fun h => ⟨rfl, ⟨_, _, _⟩, ⟨_, _, _⟩, rfl, ln, lt, S.sel2 1 1 rfl rfl⟩⟩

end Go.Proofs.Ytfpkaebmiojicaa.Vc

/-! The contracts of layer 15 (page): the document's, and small ones. -/
namespace Go.Proofs.Ytfpkaebmiojicaa.Vc
open Go Go.Eng Go.RowKit
set_option linter.unusedVariables false
set_option linter.unusedSimpArgs false

abbrev PgU : Type := Int × Int × Int × Int × Int × Int × SlV × SlV × Bool × Bool × Unit
abbrev zPu : PgU := ((0 : Int), (0 : Int), (0 : Int), (0 : Int), (0 : Int), (0 : Int), (⟨none, 0, 0⟩ : SlV), (⟨none, 0, 0⟩ : SlV), false, false, ())
abbrev pgU (h : Hd) (s t : SlV) (d : Bool) : PgU := (h.k, h.n, h.c, h.l, h.e, h.t, s, t, d, true, ())

theorem rPRead_c {w0 w : World} {g : Geo} {a : Option Addr} {n c : Nat} {xs : List Int} (hx : Ints w0 .u8 a n c xs) (e0 : Ext w0 w) (bx : Byt xs) (hL : lenP g xs) :
    CallV Try.prog 28 #[g.val, .slice a n c] w [.agg [.int .i64, .int .i64, .int .i64, .int .u32, .int .u64, .int .u64, .sl, .sl, .bool, .bool]] fun r w' =>
      Ext w w' ∧ (¬ okR (endP g xs) → r.1 = zPu) ∧ (okR (endP g xs) → ∃ s t : SlV, r.1 = pgU (hdOf (endP g xs)) s t (comm (endP g xs)) ∧ Ints w0 .u8 s.a s.n s.c (pays g xs) ∧ Ints w0 .u8 t.a t.n t.c (tags g xs)) := by
  apply ref15_Read.vc
  unfold ref15_Read.P
  have lx := hx.len
  have hc := hx.cap
  have hs := hL.1.sec
  have hl := hL.2
  have S := Sep.start NoB w
  refine S.newB fun b1 w1 S f _ => ?_
  refine S.newB fun b3 w2 S f _ => ?_
  (repeat ((first | refine S.newB fun _ _ S f _ => ?_ | refine S.la0 rfl ?_ | refine S.la1 rfl ?_ | refine S.la2 rfl ?_ | refine S.la3 rfl ?_ | refine S.la4 rfl ?_ | refine S.la5 rfl ?_ | refine S.ld0 rfl rfl ?_ | refine S.ld1 rfl rfl ?_ | refine S.ld2 rfl rfl ?_ | refine S.ld3 rfl rfl ?_ | refine S.ld4 rfl rfl ?_ | refine S.ld5 rfl rfl ?_ | refine S.st0 (by rfl) fun _ S f => ?_ | refine S.st1 (by rfl) fun _ S f => ?_ | refine S.st2 (by rfl) fun _ S f => ?_ | refine S.st3 (by rfl) fun _ S f => ?_ | refine S.st4 (by rfl) fun _ S f => ?_ | refine S.st5 (by rfl) fun _ S f => ?_ | refine S.su0 (by rfl) fun _ S f => ?_ | refine S.su1 (by rfl) fun _ S f => ?_ | refine S.su2 (by rfl) fun _ S f => ?_ | refine S.su3 (by rfl) fun _ S f => ?_ | refine S.su4 (by rfl) fun _ S f => ?_ | refine S.su5 (by rfl) fun _ S f => ?_ | refine ⟨by decide, ?_⟩); try dsimp only [List.set_cons_zero, List.set_cons_succ, cond_true, cond_false, Bool.not_true, Bool.not_false]))
  refine ⟨⟨by omega, by omega⟩, ?_⟩
  intro a6 ha6
  have i6 := hx.sub (l := g.s.toNat) (hh := n) (m := c) (by omega) (by omega) (by omega) ha6
  rw [List.take_of_length_le (by rw [List.length_drop]; omega)] at i6
  have i6 : Ints w0 .u8 a6 (n - g.s.toNat) (c - g.s.toNat) (endP g xs) := i6
  have bt : Byt (endP g xs) := bx.drop _
  have le : (endP g xs).length = 88 := by unfold endP; rw [List.length_drop]; omega
  refine (rRead_c (i6.ext (e0.trans S.ext)) bt (by omega)).mono ?_
  rintro ⟨⟨(k1 : Int), (k2 : Int), (k3 : Int), (k4 : Int), (k5 : Int), (k6 : Int), ⟨⟩⟩, (o : Bool), ⟨⟩⟩ w3 ⟨x3, hok, hno⟩
  dsimp only at hok hno ⊢
  have S := S.stepE x3
  by_cases hO : okR (endP g xs)
  case neg =>
    obtain ⟨-, h2⟩ := hno hO
    subst h2
    (repeat ((first | refine S.newB fun _ _ S f _ => ?_ | refine S.la0 rfl ?_ | refine S.la1 rfl ?_ | refine S.la2 rfl ?_ | refine S.la3 rfl ?_ | refine S.la4 rfl ?_ | refine S.la5 rfl ?_ | refine S.ld0 rfl rfl ?_ | refine S.ld1 rfl rfl ?_ | refine S.ld2 rfl rfl ?_ | refine S.ld3 rfl rfl ?_ | refine S.ld4 rfl rfl ?_ | refine S.ld5 rfl rfl ?_ | refine S.st0 (by rfl) fun _ S f => ?_ | refine S.st1 (by rfl) fun _ S f => ?_ | refine S.st2 (by rfl) fun _ S f => ?_ | refine S.st3 (by rfl) fun _ S f => ?_ | refine S.st4 (by rfl) fun _ S f => ?_ | refine S.st5 (by rfl) fun _ S f => ?_ | refine S.su0 (by rfl) fun _ S f => ?_ | refine S.su1 (by rfl) fun _ S f => ?_ | refine S.su2 (by rfl) fun _ S f => ?_ | refine S.su3 (by rfl) fun _ S f => ?_ | refine S.su4 (by rfl) fun _ S f => ?_ | refine S.su5 (by rfl) fun _ S f => ?_ | refine ⟨by decide, ?_⟩); try dsimp only [List.set_cons_zero, List.set_cons_succ, cond_true, cond_false, Bool.not_true, Bool.not_false]))
    exact ⟨S.ext, fun _ => rfl, fun h => absurd h hO⟩
  obtain ⟨h1, h2⟩ := hok hO
  subst h2
  have h1 : (k1, k2, k3, k4, k5, k6, ()) = (hdOf (endP g xs)).tup := h1
  simp only [Prod.mk.injEq, and_true] at h1
  obtain ⟨rfl, rfl, rfl, rfl, rfl, rfl⟩ := h1
  (repeat ((first | refine S.newB fun _ _ S f _ => ?_ | refine S.la0 rfl ?_ | refine S.la1 rfl ?_ | refine S.la2 rfl ?_ | refine S.la3 rfl ?_ | refine S.la4 rfl ?_ | refine S.la5 rfl ?_ | refine S.ld0 rfl rfl ?_ | refine S.ld1 rfl rfl ?_ | refine S.ld2 rfl rfl ?_ | refine S.ld3 rfl rfl ?_ | refine S.ld4 rfl rfl ?_ | refine S.ld5 rfl rfl ?_ | refine S.st0 (by rfl) fun _ S f => ?_ | refine S.st1 (by rfl) fun _ S f => ?_ | refine S.st2 (by rfl) fun _ S f => ?_ | refine S.st3 (by rfl) fun _ S f => ?_ | refine S.st4 (by rfl) fun _ S f => ?_ | refine S.st5 (by rfl) fun _ S f => ?_ | refine S.su0 (by rfl) fun _ S f => ?_ | refine S.su1 (by rfl) fun _ S f => ?_ | refine S.su2 (by rfl) fun _ S f => ?_ | refine S.su3 (by rfl) fun _ S f => ?_ | refine S.su4 (by rfl) fun _ S f => ?_ | refine S.su5 (by rfl) fun _ S f => ?_ | refine ⟨by decide, ?_⟩); try dsimp only [List.set_cons_zero, List.set_cons_succ, cond_true, cond_false, Bool.not_true, Bool.not_false]))
  have hne0 := S.ne 0 1 (by omega) rfl rfl
  have hne1 := S.ne 1 2 (by omega) rfl rfl
  refine S.regX (fun k => k = b3) fun D hD hkeep Sd T => ?_
  refine ⟨hD _ Sd.bl0 hne0, Sd.la0 rfl ⟨hD _ Sd.bl2 (fun e => hne1 e.symm), Sd.ld2 rfl rfl ⟨⟨by omega, by omega⟩, ?_⟩⟩⟩
  intro a17 ha17
  refine ⟨⟨by omega, by omega, by omega⟩, ?_⟩
  intro a18 ha18
  have i17 := hx.sub (l := 0) (hh := g.s.toNat) (m := c) (by omega) (by omega) (by omega) ha17
  rw [List.drop_zero, Nat.sub_zero] at i17
  have i18 := sub_part i6 (i := 48) (j := 80) (m := c - g.s.toNat) (by omega) (by omega) (by omega) ha18
  refine (rCommitted_c (i6.ext (e0.trans Sd.ext)) (by omega)).mono ?_
  rintro ⟨(r9 : Bool), ⟨⟩⟩ w9 ⟨h9, x9⟩
  dsimp only at h9 ⊢
  subst h9
  have S := Sd.stepE x9
  refine ⟨hkeep _ (Fr.of x9).any, ?_⟩
  refine S.st1 (by rfl) fun w10 S f10 => ⟨hkeep _ ((Fr.of x9).any.trans f10), S.la1 rfl ?_⟩
  exact ⟨S.ext, fun h => absurd hO h, fun _ => ⟨_, _, rfl, i17, i18⟩⟩

theorem rPDone_c {w0 w : World} {g : Geo} {a : Option Addr} {n c : Nat} {kind : Int} {xs : List Int} (hx : Ints w0 .u8 a n c xs) (e0 : Ext w0 w) (bx : Byt xs) (hL : lenP g xs) :
    CallV Try.prog 29 #[g.val, .slice a n c, .int .i64 kind] w [.agg [.int .i64, .int .i64, .int .i64, .int .u32, .int .u64, .int .u64, .sl, .sl, .bool, .bool]] fun r w' =>
      Ext w w' ∧ (¬ (okR (endP g xs) ∧ comm (endP g xs) = true ∧ (hdOf (endP g xs)).k = kind) → r.1 = zPu) ∧
      ((okR (endP g xs) ∧ comm (endP g xs) = true ∧ (hdOf (endP g xs)).k = kind) → ∃ s t : SlV, r.1 = pgU (hdOf (endP g xs)) s t (comm (endP g xs)) ∧ Ints w0 .u8 s.a s.n s.c (pays g xs) ∧ Ints w0 .u8 t.a t.n t.c (tags g xs)) := by
  apply ref15_Done.vc
  unfold ref15_Done.P
  have S := Sep.start NoB w
  (repeat ((first | refine S.newB fun _ _ S f _ => ?_ | refine S.la0 rfl ?_ | refine S.la1 rfl ?_ | refine S.la2 rfl ?_ | refine S.la3 rfl ?_ | refine S.la4 rfl ?_ | refine S.la5 rfl ?_ | refine S.ld0 rfl rfl ?_ | refine S.ld1 rfl rfl ?_ | refine S.ld2 rfl rfl ?_ | refine S.ld3 rfl rfl ?_ | refine S.ld4 rfl rfl ?_ | refine S.ld5 rfl rfl ?_ | refine S.st0 (by rfl) fun _ S f => ?_ | refine S.st1 (by rfl) fun _ S f => ?_ | refine S.st2 (by rfl) fun _ S f => ?_ | refine S.st3 (by rfl) fun _ S f => ?_ | refine S.st4 (by rfl) fun _ S f => ?_ | refine S.st5 (by rfl) fun _ S f => ?_ | refine S.su0 (by rfl) fun _ S f => ?_ | refine S.su1 (by rfl) fun _ S f => ?_ | refine S.su2 (by rfl) fun _ S f => ?_ | refine S.su3 (by rfl) fun _ S f => ?_ | refine S.su4 (by rfl) fun _ S f => ?_ | refine S.su5 (by rfl) fun _ S f => ?_ | refine ⟨by decide, ?_⟩); try dsimp only [List.set_cons_zero, List.set_cons_succ, cond_true, cond_false, Bool.not_true, Bool.not_false]))
  refine (rPRead_c (g := g) hx (e0.trans S.ext) bx hL).mono ?_
  rintro ⟨⟨(k1 : Int), (k2 : Int), (k3 : Int), (k4 : Int), (k5 : Int), (k6 : Int), ⟨sa, sn, sc⟩, ⟨ta, tn, tc⟩, (d : Bool), (o : Bool), ⟨⟩⟩, ⟨⟩⟩ w2 ⟨x2, h2, h3⟩
  dsimp only at h2 h3 ⊢
  have S := S.stepE x2
  by_cases hO : okR (endP g xs)
  case neg =>
    have q1 := h2 hO
    cases q1
    (repeat ((first | refine S.newB fun _ _ S f _ => ?_ | refine S.la0 rfl ?_ | refine S.la1 rfl ?_ | refine S.la2 rfl ?_ | refine S.la3 rfl ?_ | refine S.la4 rfl ?_ | refine S.la5 rfl ?_ | refine S.ld0 rfl rfl ?_ | refine S.ld1 rfl rfl ?_ | refine S.ld2 rfl rfl ?_ | refine S.ld3 rfl rfl ?_ | refine S.ld4 rfl rfl ?_ | refine S.ld5 rfl rfl ?_ | refine S.st0 (by rfl) fun _ S f => ?_ | refine S.st1 (by rfl) fun _ S f => ?_ | refine S.st2 (by rfl) fun _ S f => ?_ | refine S.st3 (by rfl) fun _ S f => ?_ | refine S.st4 (by rfl) fun _ S f => ?_ | refine S.st5 (by rfl) fun _ S f => ?_ | refine S.su0 (by rfl) fun _ S f => ?_ | refine S.su1 (by rfl) fun _ S f => ?_ | refine S.su2 (by rfl) fun _ S f => ?_ | refine S.su3 (by rfl) fun _ S f => ?_ | refine S.su4 (by rfl) fun _ S f => ?_ | refine S.su5 (by rfl) fun _ S f => ?_ | refine ⟨by decide, ?_⟩); try dsimp only [List.set_cons_zero, List.set_cons_succ, cond_true, cond_false, Bool.not_true, Bool.not_false]))
    exact ⟨S.ext, fun _ => rfl, fun h => absurd h.1 hO⟩
  obtain ⟨s, t, q2, is, it⟩ := h3 hO
  cases q2
  (repeat ((first | refine S.newB fun _ _ S f _ => ?_ | refine S.la0 rfl ?_ | refine S.la1 rfl ?_ | refine S.la2 rfl ?_ | refine S.la3 rfl ?_ | refine S.la4 rfl ?_ | refine S.la5 rfl ?_ | refine S.ld0 rfl rfl ?_ | refine S.ld1 rfl rfl ?_ | refine S.ld2 rfl rfl ?_ | refine S.ld3 rfl rfl ?_ | refine S.ld4 rfl rfl ?_ | refine S.ld5 rfl rfl ?_ | refine S.st0 (by rfl) fun _ S f => ?_ | refine S.st1 (by rfl) fun _ S f => ?_ | refine S.st2 (by rfl) fun _ S f => ?_ | refine S.st3 (by rfl) fun _ S f => ?_ | refine S.st4 (by rfl) fun _ S f => ?_ | refine S.st5 (by rfl) fun _ S f => ?_ | refine S.su0 (by rfl) fun _ S f => ?_ | refine S.su1 (by rfl) fun _ S f => ?_ | refine S.su2 (by rfl) fun _ S f => ?_ | refine S.su3 (by rfl) fun _ S f => ?_ | refine S.su4 (by rfl) fun _ S f => ?_ | refine S.su5 (by rfl) fun _ S f => ?_ | refine ⟨by decide, ?_⟩); try dsimp only [List.set_cons_zero, List.set_cons_succ, cond_true, cond_false, Bool.not_true, Bool.not_false]))
  refine cond_of (fun hc => ?_) (fun hc => ?_)
  · (repeat ((first | refine S.newB fun _ _ S f _ => ?_ | refine S.la0 rfl ?_ | refine S.la1 rfl ?_ | refine S.la2 rfl ?_ | refine S.la3 rfl ?_ | refine S.la4 rfl ?_ | refine S.la5 rfl ?_ | refine S.ld0 rfl rfl ?_ | refine S.ld1 rfl rfl ?_ | refine S.ld2 rfl rfl ?_ | refine S.ld3 rfl rfl ?_ | refine S.ld4 rfl rfl ?_ | refine S.ld5 rfl rfl ?_ | refine S.st0 (by rfl) fun _ S f => ?_ | refine S.st1 (by rfl) fun _ S f => ?_ | refine S.st2 (by rfl) fun _ S f => ?_ | refine S.st3 (by rfl) fun _ S f => ?_ | refine S.st4 (by rfl) fun _ S f => ?_ | refine S.st5 (by rfl) fun _ S f => ?_ | refine S.su0 (by rfl) fun _ S f => ?_ | refine S.su1 (by rfl) fun _ S f => ?_ | refine S.su2 (by rfl) fun _ S f => ?_ | refine S.su3 (by rfl) fun _ S f => ?_ | refine S.su4 (by rfl) fun _ S f => ?_ | refine S.su5 (by rfl) fun _ S f => ?_ | refine ⟨by decide, ?_⟩); try dsimp only [List.set_cons_zero, List.set_cons_succ, cond_true, cond_false, Bool.not_true, Bool.not_false]))
    exact ⟨S.ext, fun _ => rfl, fun h => by rw [h.2.1] at hc; cases hc⟩
  (repeat ((first | refine S.newB fun _ _ S f _ => ?_ | refine S.la0 rfl ?_ | refine S.la1 rfl ?_ | refine S.la2 rfl ?_ | refine S.la3 rfl ?_ | refine S.la4 rfl ?_ | refine S.la5 rfl ?_ | refine S.ld0 rfl rfl ?_ | refine S.ld1 rfl rfl ?_ | refine S.ld2 rfl rfl ?_ | refine S.ld3 rfl rfl ?_ | refine S.ld4 rfl rfl ?_ | refine S.ld5 rfl rfl ?_ | refine S.st0 (by rfl) fun _ S f => ?_ | refine S.st1 (by rfl) fun _ S f => ?_ | refine S.st2 (by rfl) fun _ S f => ?_ | refine S.st3 (by rfl) fun _ S f => ?_ | refine S.st4 (by rfl) fun _ S f => ?_ | refine S.st5 (by rfl) fun _ S f => ?_ | refine S.su0 (by rfl) fun _ S f => ?_ | refine S.su1 (by rfl) fun _ S f => ?_ | refine S.su2 (by rfl) fun _ S f => ?_ | refine S.su3 (by rfl) fun _ S f => ?_ | refine S.su4 (by rfl) fun _ S f => ?_ | refine S.su5 (by rfl) fun _ S f => ?_ | refine ⟨by decide, ?_⟩); try dsimp only [List.set_cons_zero, List.set_cons_succ, cond_true, cond_false, Bool.not_true, Bool.not_false]))
  refine cond_ne (fun hk => ?_) (fun hk => ?_)
  · (repeat ((first | refine S.newB fun _ _ S f _ => ?_ | refine S.la0 rfl ?_ | refine S.la1 rfl ?_ | refine S.la2 rfl ?_ | refine S.la3 rfl ?_ | refine S.la4 rfl ?_ | refine S.la5 rfl ?_ | refine S.ld0 rfl rfl ?_ | refine S.ld1 rfl rfl ?_ | refine S.ld2 rfl rfl ?_ | refine S.ld3 rfl rfl ?_ | refine S.ld4 rfl rfl ?_ | refine S.ld5 rfl rfl ?_ | refine S.st0 (by rfl) fun _ S f => ?_ | refine S.st1 (by rfl) fun _ S f => ?_ | refine S.st2 (by rfl) fun _ S f => ?_ | refine S.st3 (by rfl) fun _ S f => ?_ | refine S.st4 (by rfl) fun _ S f => ?_ | refine S.st5 (by rfl) fun _ S f => ?_ | refine S.su0 (by rfl) fun _ S f => ?_ | refine S.su1 (by rfl) fun _ S f => ?_ | refine S.su2 (by rfl) fun _ S f => ?_ | refine S.su3 (by rfl) fun _ S f => ?_ | refine S.su4 (by rfl) fun _ S f => ?_ | refine S.su5 (by rfl) fun _ S f => ?_ | refine ⟨by decide, ?_⟩); try dsimp only [List.set_cons_zero, List.set_cons_succ, cond_true, cond_false, Bool.not_true, Bool.not_false]))
    exact ⟨S.ext, fun _ => rfl, fun h => absurd h.2.2 hk⟩
  (repeat ((first | refine S.newB fun _ _ S f _ => ?_ | refine S.la0 rfl ?_ | refine S.la1 rfl ?_ | refine S.la2 rfl ?_ | refine S.la3 rfl ?_ | refine S.la4 rfl ?_ | refine S.la5 rfl ?_ | refine S.ld0 rfl rfl ?_ | refine S.ld1 rfl rfl ?_ | refine S.ld2 rfl rfl ?_ | refine S.ld3 rfl rfl ?_ | refine S.ld4 rfl rfl ?_ | refine S.ld5 rfl rfl ?_ | refine S.st0 (by rfl) fun _ S f => ?_ | refine S.st1 (by rfl) fun _ S f => ?_ | refine S.st2 (by rfl) fun _ S f => ?_ | refine S.st3 (by rfl) fun _ S f => ?_ | refine S.st4 (by rfl) fun _ S f => ?_ | refine S.st5 (by rfl) fun _ S f => ?_ | refine S.su0 (by rfl) fun _ S f => ?_ | refine S.su1 (by rfl) fun _ S f => ?_ | refine S.su2 (by rfl) fun _ S f => ?_ | refine S.su3 (by rfl) fun _ S f => ?_ | refine S.su4 (by rfl) fun _ S f => ?_ | refine S.su5 (by rfl) fun _ S f => ?_ | refine ⟨by decide, ?_⟩); try dsimp only [List.set_cons_zero, List.set_cons_succ, cond_true, cond_false, Bool.not_true, Bool.not_false]))
  exact ⟨S.ext, fun h => absurd ⟨hO, by simpa using hc, hk⟩ h, fun h => ⟨_, _, rfl, is, it⟩⟩

theorem and8_nat (x y : Nat) (hx : x < 256) (hy : y < 256) : Go.bits .and .u8 (x : Int) (y : Int) = ((x &&& y : Nat) : Int) := by
  rw [bits8]
  simp only [ofInt8 x hx, ofInt8 y hy, BitVec.toNat_and, BitVec.toNat_ofNat, Nat.mod_eq_of_lt hx, Nat.mod_eq_of_lt hy, Nat.reducePow, u8_wrap]
  have : x &&& y < 256 := Nat.and_lt_two_pow (n := 8) x hy
  omega
theorem and8_full {a b : Int} (ha : 0 ≤ a ∧ a < 256) (hb : 0 ≤ b ∧ b < 256) : Go.bits .and .u8 a b = 255 ↔ a = 255 ∧ b = 255 := by
  obtain ⟨⟨x, hx⟩, rfl⟩ := byte_nat ha
  obtain ⟨⟨y, hy⟩, rfl⟩ := byte_nat hb
  rw [and8_nat x y hx hy]
  have h1 : x &&& y ≤ x := Nat.and_le_left
  have h2 : x &&& y ≤ y := Nat.and_le_right
  constructor
  · intro h; dsimp only at *; omega
  · rintro ⟨h, h'⟩
    dsimp only at *
    have e1 : x = 255 := by omega
    have e2 : y = 255 := by omega
    subst e1; subst e2; rfl

theorem Blank_c {w : World} {a : Option Addr} {n c : Nat} {xs : List Int} (hx : Ints w .u8 a n c xs) (bx : Byt xs) : CallV Try.prog 25 #[.slice a n c] w [.one .bool] fun r w' => r.1 = decide (xs = List.replicate xs.length 255) ∧ w' = w := by
  apply page_Blank.vc
  unfold page_Blank.P
  have lx := hx.len
  have lim := hx.lim
  refine Loop1 (fun (y : Int × Int × Unit) w' => ∃ i : Nat, y.2.1 = (i : Int) ∧ i ≤ n ∧ (0 ≤ y.1 ∧ y.1 < 256) ∧ (y.1 = 255 ↔ xs.take i = List.replicate i 255) ∧ w' = w) (fun (y : Int × Int × Unit) _ => ((n : Int) - y.2.1).toNat) ⟨0, rfl, by omega, by decide, ⟨fun _ => rfl, fun _ => rfl⟩, rfl⟩ ?_
  rintro ⟨(y : Int), (z : Int), ⟨⟩⟩ w' ⟨i, hz, hi, hy, hall, rfl⟩
  dsimp only at hz hy hall ⊢
  subst hz
  refine cond_d (fun hlt => ?_) (fun hge => ?_)
  · refine hx.idx (by omega) hlt ?_
    rw [Int.toNat_natCast]
    have hb := bx.getD i
    refine ⟨Rng.i64 (by omega) (by omega), ⟨i + 1, by push_cast; rfl, by omega, bits8_byt _ _ _, ?_, rfl⟩, by omega⟩
    show Go.bits .and .u8 y _ = 255 ↔ _
    rw [and8_full hy hb, hall, List.take_succ_eq_append_getElem (by omega), List.replicate_succ', getD_get (by omega)]
    constructor
    · rintro ⟨h1, h2⟩; rw [h1, h2]
    · intro h
      have := List.append_inj h (by rw [List.length_take, List.length_replicate]; omega)
      exact ⟨this.1, by simpa using this.2⟩
  · have : i = n := by omega
    subst this
    rw [List.take_of_length_le (by omega), ← lx] at hall
    refine ⟨?_, rfl⟩
    show (y == 255) = _
    by_cases h : y = 255
    · rw [decide_eq_true (hall.1 h), h]; rfl
    · rw [decide_eq_false (fun hh => h (hall.2 hh))]; simpa using h

theorem same15_c {w : World} {g h : Hd} {s t s' t' : SlV} {d d' o : Bool} {xs ts xs' ts' : List Int} (i1 : Ints w .u8 s.a s.n s.c xs) (i2 : Ints w .u8 t.a t.n t.c ts) (i3 : Ints w .u8 s'.a s'.n s'.c xs') (i4 : Ints w .u8 t'.a t'.n t'.c ts') :
    CallV Try.prog 27 #[.agg #[.int .i64 g.k, .int .i64 g.n, .int .i64 g.c, .int .u32 g.l, .int .u64 g.e, .int .u64 g.t, .slice s.a s.n s.c, .slice t.a t.n t.c, .bool d],
      .agg #[.int .i64 h.k, .int .i64 h.n, .int .i64 h.c, .int .u32 h.l, .int .u64 h.e, .int .u64 h.t, .slice s'.a s'.n s'.c, .slice t'.a t'.n t'.c, .bool d', .bool o]] w [.one .bool] fun r w' => Ext w w' ∧ (g = h → d = d' → xs = xs' → ts = ts' → r.1 = true) := by
  apply law15_same.vc
  unfold law15_same.P
  have S := Sep.start NoB w
  refine S.newB fun b1 w1 S f _ => ?_
  refine S.newB fun b3 w2 S f _ => ?_
  refine S.lb1 (o := 0) rfl ?_
  refine S.lb0 (o := 0) rfl ?_
  refine eqHd (g := g) (h := h) ?_
  refine cond_of (fun hh => ?_) (fun hh => ⟨S.ext, fun q => by subst q; simp at hh⟩)
  (repeat ((first | refine S.newB fun _ _ S f _ => ?_ | refine S.la0 rfl ?_ | refine S.la1 rfl ?_ | refine S.la2 rfl ?_ | refine S.la3 rfl ?_ | refine S.la4 rfl ?_ | refine S.la5 rfl ?_ | refine S.ld0 rfl rfl ?_ | refine S.ld1 rfl rfl ?_ | refine S.ld2 rfl rfl ?_ | refine S.ld3 rfl rfl ?_ | refine S.ld4 rfl rfl ?_ | refine S.ld5 rfl rfl ?_ | refine S.st0 (by rfl) fun _ S f => ?_ | refine S.st1 (by rfl) fun _ S f => ?_ | refine S.st2 (by rfl) fun _ S f => ?_ | refine S.st3 (by rfl) fun _ S f => ?_ | refine S.st4 (by rfl) fun _ S f => ?_ | refine S.st5 (by rfl) fun _ S f => ?_ | refine S.su0 (by rfl) fun _ S f => ?_ | refine S.su1 (by rfl) fun _ S f => ?_ | refine S.su2 (by rfl) fun _ S f => ?_ | refine S.su3 (by rfl) fun _ S f => ?_ | refine S.su4 (by rfl) fun _ S f => ?_ | refine S.su5 (by rfl) fun _ S f => ?_ | refine ⟨by decide, ?_⟩); try dsimp only [List.set_cons_zero, List.set_cons_succ, cond_true, cond_false, Bool.not_true, Bool.not_false]))
  refine cond_of (fun hd => ?_) (fun hd => ⟨S.ext, fun _ q => by subst q; simp at hd⟩)
  (repeat ((first | refine S.newB fun _ _ S f _ => ?_ | refine S.la0 rfl ?_ | refine S.la1 rfl ?_ | refine S.la2 rfl ?_ | refine S.la3 rfl ?_ | refine S.la4 rfl ?_ | refine S.la5 rfl ?_ | refine S.ld0 rfl rfl ?_ | refine S.ld1 rfl rfl ?_ | refine S.ld2 rfl rfl ?_ | refine S.ld3 rfl rfl ?_ | refine S.ld4 rfl rfl ?_ | refine S.ld5 rfl rfl ?_ | refine S.st0 (by rfl) fun _ S f => ?_ | refine S.st1 (by rfl) fun _ S f => ?_ | refine S.st2 (by rfl) fun _ S f => ?_ | refine S.st3 (by rfl) fun _ S f => ?_ | refine S.st4 (by rfl) fun _ S f => ?_ | refine S.st5 (by rfl) fun _ S f => ?_ | refine S.su0 (by rfl) fun _ S f => ?_ | refine S.su1 (by rfl) fun _ S f => ?_ | refine S.su2 (by rfl) fun _ S f => ?_ | refine S.su3 (by rfl) fun _ S f => ?_ | refine S.su4 (by rfl) fun _ S f => ?_ | refine S.su5 (by rfl) fun _ S f => ?_ | refine ⟨by decide, ?_⟩); try dsimp only [List.set_cons_zero, List.set_cons_succ, cond_true, cond_false, Bool.not_true, Bool.not_false]))
  refine (SameBytes_c (i1.ext S.ext) (i3.ext S.ext)).mono ?_
  rintro ⟨(r3 : Bool), ⟨⟩⟩ w3 ⟨h3, x3⟩
  dsimp only at h3 ⊢
  subst h3
  have S := S.stepE x3
  refine cond_d (fun hx => ?_) (fun hx => ⟨S.ext, fun _ _ q => absurd q hx⟩)
  (repeat ((first | refine S.newB fun _ _ S f _ => ?_ | refine S.la0 rfl ?_ | refine S.la1 rfl ?_ | refine S.la2 rfl ?_ | refine S.la3 rfl ?_ | refine S.la4 rfl ?_ | refine S.la5 rfl ?_ | refine S.ld0 rfl rfl ?_ | refine S.ld1 rfl rfl ?_ | refine S.ld2 rfl rfl ?_ | refine S.ld3 rfl rfl ?_ | refine S.ld4 rfl rfl ?_ | refine S.ld5 rfl rfl ?_ | refine S.st0 (by rfl) fun _ S f => ?_ | refine S.st1 (by rfl) fun _ S f => ?_ | refine S.st2 (by rfl) fun _ S f => ?_ | refine S.st3 (by rfl) fun _ S f => ?_ | refine S.st4 (by rfl) fun _ S f => ?_ | refine S.st5 (by rfl) fun _ S f => ?_ | refine S.su0 (by rfl) fun _ S f => ?_ | refine S.su1 (by rfl) fun _ S f => ?_ | refine S.su2 (by rfl) fun _ S f => ?_ | refine S.su3 (by rfl) fun _ S f => ?_ | refine S.su4 (by rfl) fun _ S f => ?_ | refine S.su5 (by rfl) fun _ S f => ?_ | refine ⟨by decide, ?_⟩); try dsimp only [List.set_cons_zero, List.set_cons_succ, cond_true, cond_false, Bool.not_true, Bool.not_false]))
  refine (SameBytes_c (i2.ext S.ext) (i4.ext S.ext)).mono ?_
  rintro ⟨(r4 : Bool), ⟨⟩⟩ w4 ⟨h4, x4⟩
  dsimp only at h4 ⊢
  exact ⟨S.ext.trans x4, fun _ _ _ q => by rw [h4]; exact decide_eq_true q⟩

theorem mkL_byt {g : Geo} {h : Hd} {xs ts : List Int} (hg : h.rng) (hR : HRight h) (bx : Byt xs) (bt : Byt ts) : Byt (mkL g h xs ts) := by
  unfold mkL payL
  refine Byt.append ?_ (endL_byt hg hR bt)
  split
  · exact Byt.replicate (by omega) (by omega) _
  · exact bx
theorem intsNil {w : World} : Ints w .u8 none 0 0 [] := ⟨rfl, Nat.le_refl _, by omega, .inl ⟨rfl, rfl⟩⟩

theorem awake15_c {w : World} : CallV Try.prog 18 #[] w [.one .bool] fun r w' => r.1 = true ∧ Ext w w' := by
  apply law15_awake.vc
  unfold law15_awake.P
  have S := Sep.start NoB w
  (repeat ((first | refine S.newB fun _ _ S f _ => ?_ | refine S.la0 rfl ?_ | refine S.la1 rfl ?_ | refine S.la2 rfl ?_ | refine S.la3 rfl ?_ | refine S.la4 rfl ?_ | refine S.la5 rfl ?_ | refine S.ld0 rfl rfl ?_ | refine S.ld1 rfl rfl ?_ | refine S.ld2 rfl rfl ?_ | refine S.ld3 rfl rfl ?_ | refine S.ld4 rfl rfl ?_ | refine S.ld5 rfl rfl ?_ | refine S.st0 (by rfl) fun _ S f => ?_ | refine S.st1 (by rfl) fun _ S f => ?_ | refine S.st2 (by rfl) fun _ S f => ?_ | refine S.st3 (by rfl) fun _ S f => ?_ | refine S.st4 (by rfl) fun _ S f => ?_ | refine S.st5 (by rfl) fun _ S f => ?_ | refine S.su0 (by rfl) fun _ S f => ?_ | refine S.su1 (by rfl) fun _ S f => ?_ | refine S.su2 (by rfl) fun _ S f => ?_ | refine S.su3 (by rfl) fun _ S f => ?_ | refine S.su4 (by rfl) fun _ S f => ?_ | refine S.su5 (by rfl) fun _ S f => ?_ | refine ⟨by decide, ?_⟩); try dsimp only [List.set_cons_zero, List.set_cons_succ, cond_true, cond_false, Bool.not_true, Bool.not_false]))
  refine (Make_c (g := ⟨7, 10, 64, 0, 1, 1⟩) (h := ⟨1, 0, 0, 0, 0, 0⟩) (by unfold Hd.rng; dsimp only; omega) intsNil intsNil).mono ?_
  rintro ⟨⟨sa, sn, sc⟩, (e2 : Int), ⟨⟩⟩ w2 ⟨x2, hh, -⟩
  obtain ⟨h2, h2'⟩ := hh (by decide +kernel)
  clear hh
  dsimp only at h2 h2' ⊢
  subst h2'
  have l2 := h2.ints.len
  have S := S.stepE x2
  have lm : (mkL ⟨7, 10, 64, 0, 1, 1⟩ ⟨1, 0, 0, 0, 0, 0⟩ [] []).length = 152 := by decide +kernel
  rw [lm] at l2
  dsimp only at l2
  subst l2
  refine cond_t rfl (cond_t rfl ?_)
  have bm : Byt (mkL ⟨7, 10, 64, 0, 1, 1⟩ ⟨1, 0, 0, 0, 0, 0⟩ [] []) := mkL_byt (by unfold Hd.rng; dsimp only; omega) (by decide) Byt.nil Byt.nil
  refine (Blank_c h2.ints bm).mono ?_
  rintro ⟨(r3 : Bool), ⟨⟩⟩ w3 ⟨h3, rfl⟩
  dsimp only at h3 ⊢
  refine cond_t (by rw [h3]; decide +kernel) ?_
  refine (Blank_c intsNil Byt.nil).mono ?_
  rintro ⟨(r3 : Bool), ⟨⟩⟩ w3 ⟨h3, rfl⟩
  dsimp only at h3 ⊢
  exact ⟨by rw [h3]; rfl, S.ext⟩

end Go.Proofs.Ytfpkaebmiojicaa.Vc

/-! The plans of functions as plain statements, printed by wip/tools/vcgen.py; the kernel holds each to the code. -/
namespace Go.Proofs.Ytfpkaebmiojicaa.Vc
open Go Go.Eng
set_option linter.unusedVariables false

/-! ### nepenthe/nepenthelaw15.PageMakes: function 3 -/
def law15_PageMakes.A : Ann := .no
def law15_PageMakes.P (p0_0 : Int) (p0_1 : Int) (p0_2 : Int) (p0_3 : Int) (p0_4 : Int) (p0_5 : Int) (p1_0 : Int) (p1_1 : Int) (p1_2 : Int) (p1_3 : Int) (p1_4 : Int) (p1_5 : Int) (a2_0 : Option Addr) (n2_0 c2_0 : Nat) (a2_1 : Option Addr) (n2_1 c2_1 : Nat) (w : World) (K : Bool × Unit → World → Prop) : Prop :=
  NewV #[.int .i64 p0_0, .int .i64 p0_1, .int .i64 p0_2, .int .i64 p0_3, .int .i64 p0_4, .int .i64 p0_5] 23 w fun b1 w2 =>
  NewV #[.int .i64 p1_0, .int .i64 p1_1, .int .i64 p1_2, .int .u32 p1_3, .int .u64 p1_4, .int .u64 p1_5] 27 w2 fun b3 w4 =>
  NewV #[.slice a2_0 n2_0 c2_0, .slice a2_1 n2_1 c2_1] 29 w4 fun b5 w6 =>
  LoadA w6 ⟨b1, 0, none⟩ [.int .i64, .int .i64, .int .i64, .int .i64, .int .i64, .int .i64] fun (x7 : Int × Int × Int × Int × Int × Int × Unit) =>
  LoadA w6 ⟨b3, 0, none⟩ [.int .i64, .int .i64, .int .i64, .int .u32, .int .u64, .int .u64] fun (x8 : Int × Int × Int × Int × Int × Int × Unit) =>
  (0 ≤ (0 : Int) ∧ 0 < (2 : Int)) ∧
  LoadS w6 ⟨b5, 0, none⟩ .sl fun (x9 : SlV) =>
  (0 ≤ (1 : Int) ∧ 1 < (2 : Int)) ∧
  LoadS w6 ⟨b5, 1, none⟩ .sl fun (x10 : SlV) =>
  CallV Try.prog 15 #[.agg #[.int .i64 x7.1, .int .i64 x7.2.1, .int .i64 x7.2.2.1, .int .i64 x7.2.2.2.1, .int .i64 x7.2.2.2.2.1, .int .i64 x7.2.2.2.2.2.1], .agg #[.int .i64 x8.1, .int .i64 x8.2.1, .int .i64 x8.2.2.1, .int .u32 x8.2.2.2.1, .int .u64 x8.2.2.2.2.1, .int .u64 x8.2.2.2.2.2.1], .slice x9.a x9.n x9.c, .slice x10.a x10.n x10.c] w6 [.one .sl, .one (.int .i64)] fun (r11 : SlV × Int × Unit) w12 =>
  LoadA w12 ⟨b1, 0, none⟩ [.int .i64, .int .i64, .int .i64, .int .i64, .int .i64, .int .i64] fun (x13 : Int × Int × Int × Int × Int × Int × Unit) =>
  CallV Try.prog 16 #[.agg #[.int .i64 x13.1, .int .i64 x13.2.1, .int .i64 x13.2.2.1, .int .i64 x13.2.2.2.1, .int .i64 x13.2.2.2.2.1, .int .i64 x13.2.2.2.2.2.1]] w12 [.one .sl, .one (.int .i64)] fun (r14 : SlV × Int × Unit) w15 =>
  LoadA w15 ⟨b1, 0, none⟩ [.int .i64, .int .i64, .int .i64, .int .i64, .int .i64, .int .i64] fun (x16 : Int × Int × Int × Int × Int × Int × Unit) =>
  CallV Try.prog 17 #[.agg #[.int .i64 x16.1, .int .i64 x16.2.1, .int .i64 x16.2.2.1, .int .i64 x16.2.2.2.1, .int .i64 x16.2.2.2.2.1, .int .i64 x16.2.2.2.2.2.1]] w15 [.one .bool] fun (r17 : Bool × Unit) w18 =>
  cond (!r17.1)
  (cond (r11.2.1 == 2)
  (cond (r14.2.1 == 2)
  (Rng .i64 (((r11.1.n : Nat) : Int) + ((r14.1.n : Nat) : Int)) ∧
  cond ((((r11.1.n : Nat) : Int) + ((r14.1.n : Nat) : Int)) == 0)
  (CallV Try.prog 18 #[] w18 [.one .bool] fun (r19 : Bool × Unit) w20 =>
  K (r19.1, ()) w20)
  (K (false, ()) w18))
  (K (false, ()) w18))
  (K (false, ()) w18))
  (cond (r14.2.1 != 0)
  (K (false, ()) w18)
  (LoadA w18 ⟨b1, 0, none⟩ [.int .i64, .int .i64, .int .i64, .int .i64, .int .i64, .int .i64] fun (x21 : Int × Int × Int × Int × Int × Int × Unit) =>
  CallV Try.prog 20 #[.agg #[.int .i64 x21.1, .int .i64 x21.2.1, .int .i64 x21.2.2.1, .int .i64 x21.2.2.2.1, .int .i64 x21.2.2.2.2.1, .int .i64 x21.2.2.2.2.2.1]] w18 [.one .sl] fun (r22 : SlV × Unit) w23 =>
  CallV Try.prog 19 #[.slice r14.1.a r14.1.n r14.1.c, .slice r22.1.a r22.1.n r22.1.c] w23 [.one .bool] fun (r24 : Bool × Unit) w25 =>
  cond (!r24.1)
  (K (false, ()) w25)
  (LoadA w25 ⟨b1, 0, none⟩ [.int .i64, .int .i64, .int .i64, .int .i64, .int .i64, .int .i64] fun (x26 : Int × Int × Int × Int × Int × Int × Unit) =>
  LoadA w25 ⟨b3, 0, none⟩ [.int .i64, .int .i64, .int .i64, .int .u32, .int .u64, .int .u64] fun (x27 : Int × Int × Int × Int × Int × Int × Unit) =>
  (0 ≤ (0 : Int) ∧ 0 < (2 : Int)) ∧
  LoadS w25 ⟨b5, 0, none⟩ .sl fun (x28 : SlV) =>
  (0 ≤ (1 : Int) ∧ 1 < (2 : Int)) ∧
  LoadS w25 ⟨b5, 1, none⟩ .sl fun (x29 : SlV) =>
  CallV Try.prog 21 #[.agg #[.int .i64 x26.1, .int .i64 x26.2.1, .int .i64 x26.2.2.1, .int .i64 x26.2.2.2.1, .int .i64 x26.2.2.2.2.1, .int .i64 x26.2.2.2.2.2.1], .agg #[.int .i64 x27.1, .int .i64 x27.2.1, .int .i64 x27.2.2.1, .int .u32 x27.2.2.2.1, .int .u64 x27.2.2.2.2.1, .int .u64 x27.2.2.2.2.2.1], .slice x28.a x28.n x28.c, .slice x29.a x29.n x29.c] w25 [.one .bool] fun (r30 : Bool × Unit) w31 =>
  cond (!r30.1)
  (cond (r11.2.1 == 2)
  (cond (((r11.1.n : Nat) : Int) == 0)
  (CallV Try.prog 18 #[] w31 [.one .bool] fun (r32 : Bool × Unit) w33 =>
  K (r32.1, ()) w33)
  (K (false, ()) w31))
  (K (false, ()) w31))
  (cond (r11.2.1 == 0)
  (LoadA w31 ⟨b1, 0, none⟩ [.int .i64, .int .i64, .int .i64, .int .i64, .int .i64, .int .i64] fun (x34 : Int × Int × Int × Int × Int × Int × Unit) =>
  LoadA w31 ⟨b3, 0, none⟩ [.int .i64, .int .i64, .int .i64, .int .u32, .int .u64, .int .u64] fun (x35 : Int × Int × Int × Int × Int × Int × Unit) =>
  (0 ≤ (0 : Int) ∧ 0 < (2 : Int)) ∧
  LoadS w31 ⟨b5, 0, none⟩ .sl fun (x36 : SlV) =>
  (0 ≤ (1 : Int) ∧ 1 < (2 : Int)) ∧
  LoadS w31 ⟨b5, 1, none⟩ .sl fun (x37 : SlV) =>
  CallV Try.prog 22 #[.agg #[.int .i64 x34.1, .int .i64 x34.2.1, .int .i64 x34.2.2.1, .int .i64 x34.2.2.2.1, .int .i64 x34.2.2.2.2.1, .int .i64 x34.2.2.2.2.2.1], .agg #[.int .i64 x35.1, .int .i64 x35.2.1, .int .i64 x35.2.2.1, .int .u32 x35.2.2.2.1, .int .u64 x35.2.2.2.2.1, .int .u64 x35.2.2.2.2.2.1], .slice x36.a x36.n x36.c, .slice x37.a x37.n x37.c] w31 [.one .sl] fun (r38 : SlV × Unit) w39 =>
  CallV Try.prog 19 #[.slice r11.1.a r11.1.n r11.1.c, .slice r38.1.a r38.1.n r38.1.c] w39 [.one .bool] fun (r40 : Bool × Unit) w41 =>
  cond r40.1
  (CallV Try.prog 18 #[] w41 [.one .bool] fun (r42 : Bool × Unit) w43 =>
  K (r42.1, ()) w43)
  (K (false, ()) w41))
  (K (false, ()) w31)))))
theorem law15_PageMakes.vc (p0_0 : Int) (p0_1 : Int) (p0_2 : Int) (p0_3 : Int) (p0_4 : Int) (p0_5 : Int) (p1_0 : Int) (p1_1 : Int) (p1_2 : Int) (p1_3 : Int) (p1_4 : Int) (p1_5 : Int) (a2_0 : Option Addr) (n2_0 c2_0 : Nat) (a2_1 : Option Addr) (n2_1 c2_1 : Nat) (w : World) (K : Bool × Unit → World → Prop) (h : law15_PageMakes.P p0_0 p0_1 p0_2 p0_3 p0_4 p0_5 p1_0 p1_1 p1_2 p1_3 p1_4 p1_5 a2_0 n2_0 c2_0 a2_1 n2_1 c2_1 w K) : CallV Try.prog 3 #[.agg #[.int .i64 p0_0, .int .i64 p0_1, .int .i64 p0_2, .int .i64 p0_3, .int .i64 p0_4, .int .i64 p0_5], .agg #[.int .i64 p1_0, .int .i64 p1_1, .int .i64 p1_2, .int .u32 p1_3, .int .u64 p1_4, .int .u64 p1_5], .agg #[.slice a2_0 n2_0 c2_0, .slice a2_1 n2_1 c2_1]] w [.one .bool] K := by
  have e : vcFun Try.prog okf false Try.f3 law15_PageMakes.A #[.agg #[.int .i64 p0_0, .int .i64 p0_1, .int .i64 p0_2, .int .i64 p0_3, .int .i64 p0_4, .int .i64 p0_5], .agg #[.int .i64 p1_0, .int .i64 p1_1, .int .i64 p1_2, .int .u32 p1_3, .int .u64 p1_4, .int .u64 p1_5], .agg #[.slice a2_0 n2_0 c2_0, .slice a2_1 n2_1 c2_1]] w [.one .bool] K = law15_PageMakes.P p0_0 p0_1 p0_2 p0_3 p0_4 p0_5 p1_0 p1_1 p1_2 p1_3 p1_4 p1_5 a2_0 n2_0 c2_0 a2_1 n2_1 c2_1 w K := by kernel_rfl
  exact vcFun.calls okf_ok follows Try.func3 (e.symm ▸ h)

/-! ### nepenthe/nepenthelaw15.PageReads: function 4 -/
def law15_PageReads.A : Ann := .no
def law15_PageReads.P (p0_0 : Int) (p0_1 : Int) (p0_2 : Int) (p0_3 : Int) (p0_4 : Int) (p0_5 : Int) (a1 : Option Addr) (n1 c1 : Nat) (p2 : Int) (w : World) (K : Bool × Unit → World → Prop) : Prop :=
  NewV #[.int .i64 p0_0, .int .i64 p0_1, .int .i64 p0_2, .int .i64 p0_3, .int .i64 p0_4, .int .i64 p0_5] 23 w fun b1 w2 =>
  cond (decide (((n1 : Nat) : Int) > 5000))
  (CallV Try.prog 18 #[] w2 [.one .bool] fun (r3 : Bool × Unit) w4 =>
  K (r3.1, ()) w4)
  (LoadA w2 ⟨b1, 0, none⟩ [.int .i64, .int .i64, .int .i64, .int .i64, .int .i64, .int .i64] fun (x5 : Int × Int × Int × Int × Int × Int × Unit) =>
  CallV Try.prog 23 #[.agg #[.int .i64 x5.1, .int .i64 x5.2.1, .int .i64 x5.2.2.1, .int .i64 x5.2.2.2.1, .int .i64 x5.2.2.2.2.1, .int .i64 x5.2.2.2.2.2.1], .slice a1 n1 c1] w2 [.agg [.int .i64, .int .i64, .int .i64, .int .u32, .int .u64, .int .u64, .sl, .sl, .bool], .one (.int .i64)] fun (r6 : (Int × Int × Int × Int × Int × Int × SlV × SlV × Bool × Unit) × Int × Unit) w7 =>
  NewV #[.int .i64 0, .int .i64 0, .int .i64 0, .int .u32 0, .int .u64 0, .int .u64 0, .slice none 0 0, .slice none 0 0, .bool false] 42 w7 fun b8 w9 =>
  StoreV w9 ⟨b8, 0, none⟩ [.int .i64 r6.1.1, .int .i64 r6.1.2.1, .int .i64 r6.1.2.2.1, .int .u32 r6.1.2.2.2.1, .int .u64 r6.1.2.2.2.2.1, .int .u64 r6.1.2.2.2.2.2.1, .slice r6.1.2.2.2.2.2.2.1.a r6.1.2.2.2.2.2.2.1.n r6.1.2.2.2.2.2.2.1.c, .slice r6.1.2.2.2.2.2.2.2.1.a r6.1.2.2.2.2.2.2.2.1.n r6.1.2.2.2.2.2.2.2.1.c, .bool r6.1.2.2.2.2.2.2.2.2.1] fun w10 =>
  LoadA w10 ⟨b1, 0, none⟩ [.int .i64, .int .i64, .int .i64, .int .i64, .int .i64, .int .i64] fun (x11 : Int × Int × Int × Int × Int × Int × Unit) =>
  CallV Try.prog 24 #[.agg #[.int .i64 x11.1, .int .i64 x11.2.1, .int .i64 x11.2.2.1, .int .i64 x11.2.2.2.1, .int .i64 x11.2.2.2.2.1, .int .i64 x11.2.2.2.2.2.1], .slice a1 n1 c1, .int .i64 p2] w10 [.agg [.int .i64, .int .i64, .int .i64, .int .u32, .int .u64, .int .u64, .sl, .sl, .bool], .one .bool] fun (r12 : (Int × Int × Int × Int × Int × Int × SlV × SlV × Bool × Unit) × Bool × Unit) w13 =>
  NewV #[.int .i64 0, .int .i64 0, .int .i64 0, .int .u32 0, .int .u64 0, .int .u64 0, .slice none 0 0, .slice none 0 0, .bool false] 42 w13 fun b14 w15 =>
  StoreV w15 ⟨b14, 0, none⟩ [.int .i64 r12.1.1, .int .i64 r12.1.2.1, .int .i64 r12.1.2.2.1, .int .u32 r12.1.2.2.2.1, .int .u64 r12.1.2.2.2.2.1, .int .u64 r12.1.2.2.2.2.2.1, .slice r12.1.2.2.2.2.2.2.1.a r12.1.2.2.2.2.2.2.1.n r12.1.2.2.2.2.2.2.1.c, .slice r12.1.2.2.2.2.2.2.2.1.a r12.1.2.2.2.2.2.2.2.1.n r12.1.2.2.2.2.2.2.2.1.c, .bool r12.1.2.2.2.2.2.2.2.2.1] fun w16 =>
  CallV Try.prog 25 #[.slice a1 n1 c1] w16 [.one .bool] fun (r17 : Bool × Unit) w18 =>
  CallV Try.prog 26 #[.int .u8 255, .int .i64 ((n1 : Nat) : Int)] w18 [.one .sl] fun (r19 : SlV × Unit) w20 =>
  CallV Try.prog 19 #[.slice a1 n1 c1, .slice r19.1.a r19.1.n r19.1.c] w20 [.one .bool] fun (r21 : Bool × Unit) w22 =>
  cond (!(r17.1 == r21.1))
  (K (false, ()) w22)
  (LoadA w22 ⟨b1, 0, none⟩ [.int .i64, .int .i64, .int .i64, .int .i64, .int .i64, .int .i64] fun (x23 : Int × Int × Int × Int × Int × Int × Unit) =>
  CallV Try.prog 17 #[.agg #[.int .i64 x23.1, .int .i64 x23.2.1, .int .i64 x23.2.2.1, .int .i64 x23.2.2.2.1, .int .i64 x23.2.2.2.2.1, .int .i64 x23.2.2.2.2.2.1]] w22 [.one .bool] fun (r24 : Bool × Unit) w25 =>
  cond (!r24.1)
  (cond (r6.2.1 == 2)
  (cond (!r12.2.1)
  (LoadA w25 ⟨b8, 0, none⟩ [.int .i64, .int .i64, .int .i64, .int .u32, .int .u64, .int .u64, .sl, .sl, .bool] fun (x26 : Int × Int × Int × Int × Int × Int × SlV × SlV × Bool × Unit) =>
  CallV Try.prog 27 #[.agg #[.int .i64 x26.1, .int .i64 x26.2.1, .int .i64 x26.2.2.1, .int .u32 x26.2.2.2.1, .int .u64 x26.2.2.2.2.1, .int .u64 x26.2.2.2.2.2.1, .slice x26.2.2.2.2.2.2.1.a x26.2.2.2.2.2.2.1.n x26.2.2.2.2.2.2.1.c, .slice x26.2.2.2.2.2.2.2.1.a x26.2.2.2.2.2.2.2.1.n x26.2.2.2.2.2.2.2.1.c, .bool x26.2.2.2.2.2.2.2.2.1], .agg #[.int .i64 0, .int .i64 0, .int .i64 0, .int .u32 0, .int .u64 0, .int .u64 0, .slice none 0 0, .slice none 0 0, .bool false, .bool false]] w25 [.one .bool] fun (r27 : Bool × Unit) w28 =>
  cond r27.1
  (LoadA w28 ⟨b14, 0, none⟩ [.int .i64, .int .i64, .int .i64, .int .u32, .int .u64, .int .u64, .sl, .sl, .bool] fun (x29 : Int × Int × Int × Int × Int × Int × SlV × SlV × Bool × Unit) =>
  CallV Try.prog 27 #[.agg #[.int .i64 x29.1, .int .i64 x29.2.1, .int .i64 x29.2.2.1, .int .u32 x29.2.2.2.1, .int .u64 x29.2.2.2.2.1, .int .u64 x29.2.2.2.2.2.1, .slice x29.2.2.2.2.2.2.1.a x29.2.2.2.2.2.2.1.n x29.2.2.2.2.2.2.1.c, .slice x29.2.2.2.2.2.2.2.1.a x29.2.2.2.2.2.2.2.1.n x29.2.2.2.2.2.2.2.1.c, .bool x29.2.2.2.2.2.2.2.2.1], .agg #[.int .i64 0, .int .i64 0, .int .i64 0, .int .u32 0, .int .u64 0, .int .u64 0, .slice none 0 0, .slice none 0 0, .bool false, .bool false]] w28 [.one .bool] fun (r30 : Bool × Unit) w31 =>
  cond r30.1
  (CallV Try.prog 18 #[] w31 [.one .bool] fun (r32 : Bool × Unit) w33 =>
  K (r32.1, ()) w33)
  (K (false, ()) w31))
  (K (false, ()) w28))
  (K (false, ()) w25))
  (K (false, ()) w25))
  (LoadS w25 ⟨b1, 2, none⟩ (.int .i64) fun (x34 : Int) =>
  Rng .i64 (x34 + 88) ∧
  cond (((n1 : Nat) : Int) != (x34 + 88))
  (cond (r6.2.1 == 2)
  (cond (!r12.2.1)
  (LoadA w25 ⟨b8, 0, none⟩ [.int .i64, .int .i64, .int .i64, .int .u32, .int .u64, .int .u64, .sl, .sl, .bool] fun (x35 : Int × Int × Int × Int × Int × Int × SlV × SlV × Bool × Unit) =>
  CallV Try.prog 27 #[.agg #[.int .i64 x35.1, .int .i64 x35.2.1, .int .i64 x35.2.2.1, .int .u32 x35.2.2.2.1, .int .u64 x35.2.2.2.2.1, .int .u64 x35.2.2.2.2.2.1, .slice x35.2.2.2.2.2.2.1.a x35.2.2.2.2.2.2.1.n x35.2.2.2.2.2.2.1.c, .slice x35.2.2.2.2.2.2.2.1.a x35.2.2.2.2.2.2.2.1.n x35.2.2.2.2.2.2.2.1.c, .bool x35.2.2.2.2.2.2.2.2.1], .agg #[.int .i64 0, .int .i64 0, .int .i64 0, .int .u32 0, .int .u64 0, .int .u64 0, .slice none 0 0, .slice none 0 0, .bool false, .bool false]] w25 [.one .bool] fun (r36 : Bool × Unit) w37 =>
  cond r36.1
  (LoadA w37 ⟨b14, 0, none⟩ [.int .i64, .int .i64, .int .i64, .int .u32, .int .u64, .int .u64, .sl, .sl, .bool] fun (x38 : Int × Int × Int × Int × Int × Int × SlV × SlV × Bool × Unit) =>
  CallV Try.prog 27 #[.agg #[.int .i64 x38.1, .int .i64 x38.2.1, .int .i64 x38.2.2.1, .int .u32 x38.2.2.2.1, .int .u64 x38.2.2.2.2.1, .int .u64 x38.2.2.2.2.2.1, .slice x38.2.2.2.2.2.2.1.a x38.2.2.2.2.2.2.1.n x38.2.2.2.2.2.2.1.c, .slice x38.2.2.2.2.2.2.2.1.a x38.2.2.2.2.2.2.2.1.n x38.2.2.2.2.2.2.2.1.c, .bool x38.2.2.2.2.2.2.2.2.1], .agg #[.int .i64 0, .int .i64 0, .int .i64 0, .int .u32 0, .int .u64 0, .int .u64 0, .slice none 0 0, .slice none 0 0, .bool false, .bool false]] w37 [.one .bool] fun (r39 : Bool × Unit) w40 =>
  cond r39.1
  (CallV Try.prog 18 #[] w40 [.one .bool] fun (r41 : Bool × Unit) w42 =>
  K (r41.1, ()) w42)
  (K (false, ()) w40))
  (K (false, ()) w37))
  (K (false, ()) w25))
  (K (false, ()) w25))
  (LoadA w25 ⟨b1, 0, none⟩ [.int .i64, .int .i64, .int .i64, .int .i64, .int .i64, .int .i64] fun (x43 : Int × Int × Int × Int × Int × Int × Unit) =>
  CallV Try.prog 28 #[.agg #[.int .i64 x43.1, .int .i64 x43.2.1, .int .i64 x43.2.2.1, .int .i64 x43.2.2.2.1, .int .i64 x43.2.2.2.2.1, .int .i64 x43.2.2.2.2.2.1], .slice a1 n1 c1] w25 [.agg [.int .i64, .int .i64, .int .i64, .int .u32, .int .u64, .int .u64, .sl, .sl, .bool, .bool]] fun (r44 : (Int × Int × Int × Int × Int × Int × SlV × SlV × Bool × Bool × Unit) × Unit) w45 =>
  NewV #[.int .i64 0, .int .i64 0, .int .i64 0, .int .u32 0, .int .u64 0, .int .u64 0, .slice none 0 0, .slice none 0 0, .bool false, .bool false] 51 w45 fun b46 w47 =>
  StoreV w47 ⟨b46, 0, none⟩ [.int .i64 r44.1.1, .int .i64 r44.1.2.1, .int .i64 r44.1.2.2.1, .int .u32 r44.1.2.2.2.1, .int .u64 r44.1.2.2.2.2.1, .int .u64 r44.1.2.2.2.2.2.1, .slice r44.1.2.2.2.2.2.2.1.a r44.1.2.2.2.2.2.2.1.n r44.1.2.2.2.2.2.2.1.c, .slice r44.1.2.2.2.2.2.2.2.1.a r44.1.2.2.2.2.2.2.2.1.n r44.1.2.2.2.2.2.2.2.1.c, .bool r44.1.2.2.2.2.2.2.2.2.1, .bool r44.1.2.2.2.2.2.2.2.2.2.1] fun w48 =>
  LoadA w48 ⟨b1, 0, none⟩ [.int .i64, .int .i64, .int .i64, .int .i64, .int .i64, .int .i64] fun (x49 : Int × Int × Int × Int × Int × Int × Unit) =>
  CallV Try.prog 29 #[.agg #[.int .i64 x49.1, .int .i64 x49.2.1, .int .i64 x49.2.2.1, .int .i64 x49.2.2.2.1, .int .i64 x49.2.2.2.2.1, .int .i64 x49.2.2.2.2.2.1], .slice a1 n1 c1, .int .i64 p2] w48 [.agg [.int .i64, .int .i64, .int .i64, .int .u32, .int .u64, .int .u64, .sl, .sl, .bool, .bool]] fun (r50 : (Int × Int × Int × Int × Int × Int × SlV × SlV × Bool × Bool × Unit) × Unit) w51 =>
  NewV #[.int .i64 0, .int .i64 0, .int .i64 0, .int .u32 0, .int .u64 0, .int .u64 0, .slice none 0 0, .slice none 0 0, .bool false, .bool false] 51 w51 fun b52 w53 =>
  StoreV w53 ⟨b52, 0, none⟩ [.int .i64 r50.1.1, .int .i64 r50.1.2.1, .int .i64 r50.1.2.2.1, .int .u32 r50.1.2.2.2.1, .int .u64 r50.1.2.2.2.2.1, .int .u64 r50.1.2.2.2.2.2.1, .slice r50.1.2.2.2.2.2.2.1.a r50.1.2.2.2.2.2.2.1.n r50.1.2.2.2.2.2.2.1.c, .slice r50.1.2.2.2.2.2.2.2.1.a r50.1.2.2.2.2.2.2.2.1.n r50.1.2.2.2.2.2.2.2.1.c, .bool r50.1.2.2.2.2.2.2.2.2.1, .bool r50.1.2.2.2.2.2.2.2.2.2.1] fun w54 =>
  LoadS w54 ⟨b46, 9, none⟩ .bool fun (x55 : Bool) =>
  cond (!x55)
  (cond (r6.2.1 != 1)
  (K (false, ()) w54)
  (LoadS w54 ⟨b46, 9, none⟩ .bool fun (x56 : Bool) =>
  cond x56
  (cond (r6.2.1 != 0)
  (K (false, ()) w54)
  (LoadA w54 ⟨b8, 0, none⟩ [.int .i64, .int .i64, .int .i64, .int .u32, .int .u64, .int .u64, .sl, .sl, .bool] fun (x57 : Int × Int × Int × Int × Int × Int × SlV × SlV × Bool × Unit) =>
  LoadA w54 ⟨b46, 0, none⟩ [.int .i64, .int .i64, .int .i64, .int .u32, .int .u64, .int .u64, .sl, .sl, .bool, .bool] fun (x58 : Int × Int × Int × Int × Int × Int × SlV × SlV × Bool × Bool × Unit) =>
  CallV Try.prog 27 #[.agg #[.int .i64 x57.1, .int .i64 x57.2.1, .int .i64 x57.2.2.1, .int .u32 x57.2.2.2.1, .int .u64 x57.2.2.2.2.1, .int .u64 x57.2.2.2.2.2.1, .slice x57.2.2.2.2.2.2.1.a x57.2.2.2.2.2.2.1.n x57.2.2.2.2.2.2.1.c, .slice x57.2.2.2.2.2.2.2.1.a x57.2.2.2.2.2.2.2.1.n x57.2.2.2.2.2.2.2.1.c, .bool x57.2.2.2.2.2.2.2.2.1], .agg #[.int .i64 x58.1, .int .i64 x58.2.1, .int .i64 x58.2.2.1, .int .u32 x58.2.2.2.1, .int .u64 x58.2.2.2.2.1, .int .u64 x58.2.2.2.2.2.1, .slice x58.2.2.2.2.2.2.1.a x58.2.2.2.2.2.2.1.n x58.2.2.2.2.2.2.1.c, .slice x58.2.2.2.2.2.2.2.1.a x58.2.2.2.2.2.2.2.1.n x58.2.2.2.2.2.2.2.1.c, .bool x58.2.2.2.2.2.2.2.2.1, .bool x58.2.2.2.2.2.2.2.2.2.1]] w54 [.one .bool] fun (r59 : Bool × Unit) w60 =>
  cond r59.1
  (LoadS w60 ⟨b52, 9, none⟩ .bool fun (x61 : Bool) =>
  cond (r12.2.1 == x61)
  (LoadA w60 ⟨b14, 0, none⟩ [.int .i64, .int .i64, .int .i64, .int .u32, .int .u64, .int .u64, .sl, .sl, .bool] fun (x62 : Int × Int × Int × Int × Int × Int × SlV × SlV × Bool × Unit) =>
  LoadA w60 ⟨b52, 0, none⟩ [.int .i64, .int .i64, .int .i64, .int .u32, .int .u64, .int .u64, .sl, .sl, .bool, .bool] fun (x63 : Int × Int × Int × Int × Int × Int × SlV × SlV × Bool × Bool × Unit) =>
  CallV Try.prog 27 #[.agg #[.int .i64 x62.1, .int .i64 x62.2.1, .int .i64 x62.2.2.1, .int .u32 x62.2.2.2.1, .int .u64 x62.2.2.2.2.1, .int .u64 x62.2.2.2.2.2.1, .slice x62.2.2.2.2.2.2.1.a x62.2.2.2.2.2.2.1.n x62.2.2.2.2.2.2.1.c, .slice x62.2.2.2.2.2.2.2.1.a x62.2.2.2.2.2.2.2.1.n x62.2.2.2.2.2.2.2.1.c, .bool x62.2.2.2.2.2.2.2.2.1], .agg #[.int .i64 x63.1, .int .i64 x63.2.1, .int .i64 x63.2.2.1, .int .u32 x63.2.2.2.1, .int .u64 x63.2.2.2.2.1, .int .u64 x63.2.2.2.2.2.1, .slice x63.2.2.2.2.2.2.1.a x63.2.2.2.2.2.2.1.n x63.2.2.2.2.2.2.1.c, .slice x63.2.2.2.2.2.2.2.1.a x63.2.2.2.2.2.2.2.1.n x63.2.2.2.2.2.2.2.1.c, .bool x63.2.2.2.2.2.2.2.2.1, .bool x63.2.2.2.2.2.2.2.2.2.1]] w60 [.one .bool] fun (r64 : Bool × Unit) w65 =>
  cond r64.1
  (CallV Try.prog 18 #[] w65 [.one .bool] fun (r66 : Bool × Unit) w67 =>
  K (r66.1, ()) w67)
  (K (false, ()) w65))
  (K (false, ()) w60))
  (K (false, ()) w60)))
  (LoadA w54 ⟨b8, 0, none⟩ [.int .i64, .int .i64, .int .i64, .int .u32, .int .u64, .int .u64, .sl, .sl, .bool] fun (x68 : Int × Int × Int × Int × Int × Int × SlV × SlV × Bool × Unit) =>
  LoadA w54 ⟨b46, 0, none⟩ [.int .i64, .int .i64, .int .i64, .int .u32, .int .u64, .int .u64, .sl, .sl, .bool, .bool] fun (x69 : Int × Int × Int × Int × Int × Int × SlV × SlV × Bool × Bool × Unit) =>
  CallV Try.prog 27 #[.agg #[.int .i64 x68.1, .int .i64 x68.2.1, .int .i64 x68.2.2.1, .int .u32 x68.2.2.2.1, .int .u64 x68.2.2.2.2.1, .int .u64 x68.2.2.2.2.2.1, .slice x68.2.2.2.2.2.2.1.a x68.2.2.2.2.2.2.1.n x68.2.2.2.2.2.2.1.c, .slice x68.2.2.2.2.2.2.2.1.a x68.2.2.2.2.2.2.2.1.n x68.2.2.2.2.2.2.2.1.c, .bool x68.2.2.2.2.2.2.2.2.1], .agg #[.int .i64 x69.1, .int .i64 x69.2.1, .int .i64 x69.2.2.1, .int .u32 x69.2.2.2.1, .int .u64 x69.2.2.2.2.1, .int .u64 x69.2.2.2.2.2.1, .slice x69.2.2.2.2.2.2.1.a x69.2.2.2.2.2.2.1.n x69.2.2.2.2.2.2.1.c, .slice x69.2.2.2.2.2.2.2.1.a x69.2.2.2.2.2.2.2.1.n x69.2.2.2.2.2.2.2.1.c, .bool x69.2.2.2.2.2.2.2.2.1, .bool x69.2.2.2.2.2.2.2.2.2.1]] w54 [.one .bool] fun (r70 : Bool × Unit) w71 =>
  cond r70.1
  (LoadS w71 ⟨b52, 9, none⟩ .bool fun (x72 : Bool) =>
  cond (r12.2.1 == x72)
  (LoadA w71 ⟨b14, 0, none⟩ [.int .i64, .int .i64, .int .i64, .int .u32, .int .u64, .int .u64, .sl, .sl, .bool] fun (x73 : Int × Int × Int × Int × Int × Int × SlV × SlV × Bool × Unit) =>
  LoadA w71 ⟨b52, 0, none⟩ [.int .i64, .int .i64, .int .i64, .int .u32, .int .u64, .int .u64, .sl, .sl, .bool, .bool] fun (x74 : Int × Int × Int × Int × Int × Int × SlV × SlV × Bool × Bool × Unit) =>
  CallV Try.prog 27 #[.agg #[.int .i64 x73.1, .int .i64 x73.2.1, .int .i64 x73.2.2.1, .int .u32 x73.2.2.2.1, .int .u64 x73.2.2.2.2.1, .int .u64 x73.2.2.2.2.2.1, .slice x73.2.2.2.2.2.2.1.a x73.2.2.2.2.2.2.1.n x73.2.2.2.2.2.2.1.c, .slice x73.2.2.2.2.2.2.2.1.a x73.2.2.2.2.2.2.2.1.n x73.2.2.2.2.2.2.2.1.c, .bool x73.2.2.2.2.2.2.2.2.1], .agg #[.int .i64 x74.1, .int .i64 x74.2.1, .int .i64 x74.2.2.1, .int .u32 x74.2.2.2.1, .int .u64 x74.2.2.2.2.1, .int .u64 x74.2.2.2.2.2.1, .slice x74.2.2.2.2.2.2.1.a x74.2.2.2.2.2.2.1.n x74.2.2.2.2.2.2.1.c, .slice x74.2.2.2.2.2.2.2.1.a x74.2.2.2.2.2.2.2.1.n x74.2.2.2.2.2.2.2.1.c, .bool x74.2.2.2.2.2.2.2.2.1, .bool x74.2.2.2.2.2.2.2.2.2.1]] w71 [.one .bool] fun (r75 : Bool × Unit) w76 =>
  cond r75.1
  (CallV Try.prog 18 #[] w76 [.one .bool] fun (r77 : Bool × Unit) w78 =>
  K (r77.1, ()) w78)
  (K (false, ()) w76))
  (K (false, ()) w71))
  (K (false, ()) w71))))
  (LoadS w54 ⟨b46, 9, none⟩ .bool fun (x79 : Bool) =>
  cond x79
  (cond (r6.2.1 != 0)
  (K (false, ()) w54)
  (LoadA w54 ⟨b8, 0, none⟩ [.int .i64, .int .i64, .int .i64, .int .u32, .int .u64, .int .u64, .sl, .sl, .bool] fun (x80 : Int × Int × Int × Int × Int × Int × SlV × SlV × Bool × Unit) =>
  LoadA w54 ⟨b46, 0, none⟩ [.int .i64, .int .i64, .int .i64, .int .u32, .int .u64, .int .u64, .sl, .sl, .bool, .bool] fun (x81 : Int × Int × Int × Int × Int × Int × SlV × SlV × Bool × Bool × Unit) =>
  CallV Try.prog 27 #[.agg #[.int .i64 x80.1, .int .i64 x80.2.1, .int .i64 x80.2.2.1, .int .u32 x80.2.2.2.1, .int .u64 x80.2.2.2.2.1, .int .u64 x80.2.2.2.2.2.1, .slice x80.2.2.2.2.2.2.1.a x80.2.2.2.2.2.2.1.n x80.2.2.2.2.2.2.1.c, .slice x80.2.2.2.2.2.2.2.1.a x80.2.2.2.2.2.2.2.1.n x80.2.2.2.2.2.2.2.1.c, .bool x80.2.2.2.2.2.2.2.2.1], .agg #[.int .i64 x81.1, .int .i64 x81.2.1, .int .i64 x81.2.2.1, .int .u32 x81.2.2.2.1, .int .u64 x81.2.2.2.2.1, .int .u64 x81.2.2.2.2.2.1, .slice x81.2.2.2.2.2.2.1.a x81.2.2.2.2.2.2.1.n x81.2.2.2.2.2.2.1.c, .slice x81.2.2.2.2.2.2.2.1.a x81.2.2.2.2.2.2.2.1.n x81.2.2.2.2.2.2.2.1.c, .bool x81.2.2.2.2.2.2.2.2.1, .bool x81.2.2.2.2.2.2.2.2.2.1]] w54 [.one .bool] fun (r82 : Bool × Unit) w83 =>
  cond r82.1
  (LoadS w83 ⟨b52, 9, none⟩ .bool fun (x84 : Bool) =>
  cond (r12.2.1 == x84)
  (LoadA w83 ⟨b14, 0, none⟩ [.int .i64, .int .i64, .int .i64, .int .u32, .int .u64, .int .u64, .sl, .sl, .bool] fun (x85 : Int × Int × Int × Int × Int × Int × SlV × SlV × Bool × Unit) =>
  LoadA w83 ⟨b52, 0, none⟩ [.int .i64, .int .i64, .int .i64, .int .u32, .int .u64, .int .u64, .sl, .sl, .bool, .bool] fun (x86 : Int × Int × Int × Int × Int × Int × SlV × SlV × Bool × Bool × Unit) =>
  CallV Try.prog 27 #[.agg #[.int .i64 x85.1, .int .i64 x85.2.1, .int .i64 x85.2.2.1, .int .u32 x85.2.2.2.1, .int .u64 x85.2.2.2.2.1, .int .u64 x85.2.2.2.2.2.1, .slice x85.2.2.2.2.2.2.1.a x85.2.2.2.2.2.2.1.n x85.2.2.2.2.2.2.1.c, .slice x85.2.2.2.2.2.2.2.1.a x85.2.2.2.2.2.2.2.1.n x85.2.2.2.2.2.2.2.1.c, .bool x85.2.2.2.2.2.2.2.2.1], .agg #[.int .i64 x86.1, .int .i64 x86.2.1, .int .i64 x86.2.2.1, .int .u32 x86.2.2.2.1, .int .u64 x86.2.2.2.2.1, .int .u64 x86.2.2.2.2.2.1, .slice x86.2.2.2.2.2.2.1.a x86.2.2.2.2.2.2.1.n x86.2.2.2.2.2.2.1.c, .slice x86.2.2.2.2.2.2.2.1.a x86.2.2.2.2.2.2.2.1.n x86.2.2.2.2.2.2.2.1.c, .bool x86.2.2.2.2.2.2.2.2.1, .bool x86.2.2.2.2.2.2.2.2.2.1]] w83 [.one .bool] fun (r87 : Bool × Unit) w88 =>
  cond r87.1
  (CallV Try.prog 18 #[] w88 [.one .bool] fun (r89 : Bool × Unit) w90 =>
  K (r89.1, ()) w90)
  (K (false, ()) w88))
  (K (false, ()) w83))
  (K (false, ()) w83)))
  (LoadA w54 ⟨b8, 0, none⟩ [.int .i64, .int .i64, .int .i64, .int .u32, .int .u64, .int .u64, .sl, .sl, .bool] fun (x91 : Int × Int × Int × Int × Int × Int × SlV × SlV × Bool × Unit) =>
  LoadA w54 ⟨b46, 0, none⟩ [.int .i64, .int .i64, .int .i64, .int .u32, .int .u64, .int .u64, .sl, .sl, .bool, .bool] fun (x92 : Int × Int × Int × Int × Int × Int × SlV × SlV × Bool × Bool × Unit) =>
  CallV Try.prog 27 #[.agg #[.int .i64 x91.1, .int .i64 x91.2.1, .int .i64 x91.2.2.1, .int .u32 x91.2.2.2.1, .int .u64 x91.2.2.2.2.1, .int .u64 x91.2.2.2.2.2.1, .slice x91.2.2.2.2.2.2.1.a x91.2.2.2.2.2.2.1.n x91.2.2.2.2.2.2.1.c, .slice x91.2.2.2.2.2.2.2.1.a x91.2.2.2.2.2.2.2.1.n x91.2.2.2.2.2.2.2.1.c, .bool x91.2.2.2.2.2.2.2.2.1], .agg #[.int .i64 x92.1, .int .i64 x92.2.1, .int .i64 x92.2.2.1, .int .u32 x92.2.2.2.1, .int .u64 x92.2.2.2.2.1, .int .u64 x92.2.2.2.2.2.1, .slice x92.2.2.2.2.2.2.1.a x92.2.2.2.2.2.2.1.n x92.2.2.2.2.2.2.1.c, .slice x92.2.2.2.2.2.2.2.1.a x92.2.2.2.2.2.2.2.1.n x92.2.2.2.2.2.2.2.1.c, .bool x92.2.2.2.2.2.2.2.2.1, .bool x92.2.2.2.2.2.2.2.2.2.1]] w54 [.one .bool] fun (r93 : Bool × Unit) w94 =>
  cond r93.1
  (LoadS w94 ⟨b52, 9, none⟩ .bool fun (x95 : Bool) =>
  cond (r12.2.1 == x95)
  (LoadA w94 ⟨b14, 0, none⟩ [.int .i64, .int .i64, .int .i64, .int .u32, .int .u64, .int .u64, .sl, .sl, .bool] fun (x96 : Int × Int × Int × Int × Int × Int × SlV × SlV × Bool × Unit) =>
  LoadA w94 ⟨b52, 0, none⟩ [.int .i64, .int .i64, .int .i64, .int .u32, .int .u64, .int .u64, .sl, .sl, .bool, .bool] fun (x97 : Int × Int × Int × Int × Int × Int × SlV × SlV × Bool × Bool × Unit) =>
  CallV Try.prog 27 #[.agg #[.int .i64 x96.1, .int .i64 x96.2.1, .int .i64 x96.2.2.1, .int .u32 x96.2.2.2.1, .int .u64 x96.2.2.2.2.1, .int .u64 x96.2.2.2.2.2.1, .slice x96.2.2.2.2.2.2.1.a x96.2.2.2.2.2.2.1.n x96.2.2.2.2.2.2.1.c, .slice x96.2.2.2.2.2.2.2.1.a x96.2.2.2.2.2.2.2.1.n x96.2.2.2.2.2.2.2.1.c, .bool x96.2.2.2.2.2.2.2.2.1], .agg #[.int .i64 x97.1, .int .i64 x97.2.1, .int .i64 x97.2.2.1, .int .u32 x97.2.2.2.1, .int .u64 x97.2.2.2.2.1, .int .u64 x97.2.2.2.2.2.1, .slice x97.2.2.2.2.2.2.1.a x97.2.2.2.2.2.2.1.n x97.2.2.2.2.2.2.1.c, .slice x97.2.2.2.2.2.2.2.1.a x97.2.2.2.2.2.2.2.1.n x97.2.2.2.2.2.2.2.1.c, .bool x97.2.2.2.2.2.2.2.2.1, .bool x97.2.2.2.2.2.2.2.2.2.1]] w94 [.one .bool] fun (r98 : Bool × Unit) w99 =>
  cond r98.1
  (CallV Try.prog 18 #[] w99 [.one .bool] fun (r100 : Bool × Unit) w101 =>
  K (r100.1, ()) w101)
  (K (false, ()) w99))
  (K (false, ()) w94))
  (K (false, ()) w94)))))))
theorem law15_PageReads.vc (p0_0 : Int) (p0_1 : Int) (p0_2 : Int) (p0_3 : Int) (p0_4 : Int) (p0_5 : Int) (a1 : Option Addr) (n1 c1 : Nat) (p2 : Int) (w : World) (K : Bool × Unit → World → Prop) (h : law15_PageReads.P p0_0 p0_1 p0_2 p0_3 p0_4 p0_5 a1 n1 c1 p2 w K) : CallV Try.prog 4 #[.agg #[.int .i64 p0_0, .int .i64 p0_1, .int .i64 p0_2, .int .i64 p0_3, .int .i64 p0_4, .int .i64 p0_5], .slice a1 n1 c1, .int .i64 p2] w [.one .bool] K := by
  have e : vcFun Try.prog okf false Try.f4 law15_PageReads.A #[.agg #[.int .i64 p0_0, .int .i64 p0_1, .int .i64 p0_2, .int .i64 p0_3, .int .i64 p0_4, .int .i64 p0_5], .slice a1 n1 c1, .int .i64 p2] w [.one .bool] K = law15_PageReads.P p0_0 p0_1 p0_2 p0_3 p0_4 p0_5 a1 n1 c1 p2 w K := by kernel_rfl
  exact vcFun.calls okf_ok follows Try.func4 (e.symm ▸ h)

/-! ### nepenthe/nepenthelaw15.PageBlank: function 5 -/
def law15_PageBlank.A : Ann := .no
def law15_PageBlank.P (p0_0 : Int) (p0_1 : Int) (p0_2 : Int) (p0_3 : Int) (p0_4 : Int) (p0_5 : Int) (p1 : Int) (w : World) (K : Bool × Unit → World → Prop) : Prop :=
  NewV #[.int .i64 p0_0, .int .i64 p0_1, .int .i64 p0_2, .int .i64 p0_3, .int .i64 p0_4, .int .i64 p0_5] 23 w fun b1 w2 =>
  LoadA w2 ⟨b1, 0, none⟩ [.int .i64, .int .i64, .int .i64, .int .i64, .int .i64, .int .i64] fun (x3 : Int × Int × Int × Int × Int × Int × Unit) =>
  CallV Try.prog 17 #[.agg #[.int .i64 x3.1, .int .i64 x3.2.1, .int .i64 x3.2.2.1, .int .i64 x3.2.2.2.1, .int .i64 x3.2.2.2.2.1, .int .i64 x3.2.2.2.2.2.1]] w2 [.one .bool] fun (r4 : Bool × Unit) w5 =>
  cond (!r4.1)
  (CallV Try.prog 18 #[] w5 [.one .bool] fun (r6 : Bool × Unit) w7 =>
  K (r6.1, ()) w7)
  (LoadS w5 ⟨b1, 2, none⟩ (.int .i64) fun (x8 : Int) =>
  Rng .i64 (x8 + 88) ∧
  CallV Try.prog 26 #[.int .u8 255, .int .i64 (x8 + 88)] w5 [.one .sl] fun (r9 : SlV × Unit) w10 =>
  LoadA w10 ⟨b1, 0, none⟩ [.int .i64, .int .i64, .int .i64, .int .i64, .int .i64, .int .i64] fun (x11 : Int × Int × Int × Int × Int × Int × Unit) =>
  CallV Try.prog 23 #[.agg #[.int .i64 x11.1, .int .i64 x11.2.1, .int .i64 x11.2.2.1, .int .i64 x11.2.2.2.1, .int .i64 x11.2.2.2.2.1, .int .i64 x11.2.2.2.2.2.1], .slice r9.1.a r9.1.n r9.1.c] w10 [.agg [.int .i64, .int .i64, .int .i64, .int .u32, .int .u64, .int .u64, .sl, .sl, .bool], .one (.int .i64)] fun (r12 : (Int × Int × Int × Int × Int × Int × SlV × SlV × Bool × Unit) × Int × Unit) w13 =>
  NewV #[.int .i64 0, .int .i64 0, .int .i64 0, .int .u32 0, .int .u64 0, .int .u64 0, .slice none 0 0, .slice none 0 0, .bool false] 42 w13 fun b14 w15 =>
  StoreV w15 ⟨b14, 0, none⟩ [.int .i64 r12.1.1, .int .i64 r12.1.2.1, .int .i64 r12.1.2.2.1, .int .u32 r12.1.2.2.2.1, .int .u64 r12.1.2.2.2.2.1, .int .u64 r12.1.2.2.2.2.2.1, .slice r12.1.2.2.2.2.2.2.1.a r12.1.2.2.2.2.2.2.1.n r12.1.2.2.2.2.2.2.1.c, .slice r12.1.2.2.2.2.2.2.2.1.a r12.1.2.2.2.2.2.2.2.1.n r12.1.2.2.2.2.2.2.2.1.c, .bool r12.1.2.2.2.2.2.2.2.2.1] fun w16 =>
  LoadA w16 ⟨b1, 0, none⟩ [.int .i64, .int .i64, .int .i64, .int .i64, .int .i64, .int .i64] fun (x17 : Int × Int × Int × Int × Int × Int × Unit) =>
  CallV Try.prog 24 #[.agg #[.int .i64 x17.1, .int .i64 x17.2.1, .int .i64 x17.2.2.1, .int .i64 x17.2.2.2.1, .int .i64 x17.2.2.2.2.1, .int .i64 x17.2.2.2.2.2.1], .slice r9.1.a r9.1.n r9.1.c, .int .i64 p1] w16 [.agg [.int .i64, .int .i64, .int .i64, .int .u32, .int .u64, .int .u64, .sl, .sl, .bool], .one .bool] fun (r18 : (Int × Int × Int × Int × Int × Int × SlV × SlV × Bool × Unit) × Bool × Unit) w19 =>
  NewV #[.int .i64 0, .int .i64 0, .int .i64 0, .int .u32 0, .int .u64 0, .int .u64 0, .slice none 0 0, .slice none 0 0, .bool false] 42 w19 fun b20 w21 =>
  StoreV w21 ⟨b20, 0, none⟩ [.int .i64 r18.1.1, .int .i64 r18.1.2.1, .int .i64 r18.1.2.2.1, .int .u32 r18.1.2.2.2.1, .int .u64 r18.1.2.2.2.2.1, .int .u64 r18.1.2.2.2.2.2.1, .slice r18.1.2.2.2.2.2.2.1.a r18.1.2.2.2.2.2.2.1.n r18.1.2.2.2.2.2.2.1.c, .slice r18.1.2.2.2.2.2.2.2.1.a r18.1.2.2.2.2.2.2.2.1.n r18.1.2.2.2.2.2.2.2.1.c, .bool r18.1.2.2.2.2.2.2.2.2.1] fun w22 =>
  cond (r12.2.1 == 1)
  (cond (!r18.2.1)
  (CallV Try.prog 25 #[.slice r9.1.a r9.1.n r9.1.c] w22 [.one .bool] fun (r23 : Bool × Unit) w24 =>
  cond r23.1
  (CallV Try.prog 18 #[] w24 [.one .bool] fun (r25 : Bool × Unit) w26 =>
  K (r25.1, ()) w26)
  (K (false, ()) w24))
  (K (false, ()) w22))
  (K (false, ()) w22))
theorem law15_PageBlank.vc (p0_0 : Int) (p0_1 : Int) (p0_2 : Int) (p0_3 : Int) (p0_4 : Int) (p0_5 : Int) (p1 : Int) (w : World) (K : Bool × Unit → World → Prop) (h : law15_PageBlank.P p0_0 p0_1 p0_2 p0_3 p0_4 p0_5 p1 w K) : CallV Try.prog 5 #[.agg #[.int .i64 p0_0, .int .i64 p0_1, .int .i64 p0_2, .int .i64 p0_3, .int .i64 p0_4, .int .i64 p0_5], .int .i64 p1] w [.one .bool] K := by
  have e : vcFun Try.prog okf false Try.f5 law15_PageBlank.A #[.agg #[.int .i64 p0_0, .int .i64 p0_1, .int .i64 p0_2, .int .i64 p0_3, .int .i64 p0_4, .int .i64 p0_5], .int .i64 p1] w [.one .bool] K = law15_PageBlank.P p0_0 p0_1 p0_2 p0_3 p0_4 p0_5 p1 w K := by kernel_rfl
  exact vcFun.calls okf_ok follows Try.func5 (e.symm ▸ h)

/-! ### nepenthe/nepenthelaw15.PageBack: function 6 -/
def law15_PageBack.A : Ann := .two .no (.two .no (.two .no (.two .no (.two .no (.two .no (.two (.draw (.take 0 (.take 1 (.take 2 (.both 3 (.both 4 (.take 5 (.take 6 (.take 7 (.eff 8 (.eff 9 (.take 10 (.done))))))) 8 (.eff 4 (.take 5 (.take 6 (.take 7 (.eff 9 (.take 10 (.done)))))))) 8 (.eff 3 (.eff 4 (.take 5 (.take 6 (.take 7 (.eff 9 (.take 10 (.done))))))))))))) (.join [6, 52, 53, 54, 55, 56, 57, 58, 59, 60, 61, 62, 63, 64, 65, 66, 67, 68, 69, 70, 71, 72, 73, 74, 75, 76, 77, 78, 79, 80, 81, 82] [] .no .no)))))))
def law15_PageBack.P (p0_0 : Int) (p0_1 : Int) (p0_2 : Int) (p0_3 : Int) (p0_4 : Int) (p0_5 : Int) (p1_0 : Int) (p1_1 : Int) (p1_2 : Int) (p1_3 : Int) (p1_4 : Int) (p1_5 : Int) (a2_0 : Option Addr) (n2_0 c2_0 : Nat) (a2_1 : Option Addr) (n2_1 c2_1 : Nat) (w : World) (K : Bool × Unit → World → Prop) : Prop :=
  NewV #[.int .i64 p0_0, .int .i64 p0_1, .int .i64 p0_2, .int .i64 p0_3, .int .i64 p0_4, .int .i64 p0_5] 23 w fun b1 w2 =>
  NewV #[.int .i64 p1_0, .int .i64 p1_1, .int .i64 p1_2, .int .u32 p1_3, .int .u64 p1_4, .int .u64 p1_5] 27 w2 fun b3 w4 =>
  NewV #[.slice a2_0 n2_0 c2_0, .slice a2_1 n2_1 c2_1] 29 w4 fun b5 w6 =>
  LoadA w6 ⟨b1, 0, none⟩ [.int .i64, .int .i64, .int .i64, .int .i64, .int .i64, .int .i64] fun (x7 : Int × Int × Int × Int × Int × Int × Unit) =>
  LoadA w6 ⟨b3, 0, none⟩ [.int .i64, .int .i64, .int .i64, .int .u32, .int .u64, .int .u64] fun (x8 : Int × Int × Int × Int × Int × Int × Unit) =>
  (0 ≤ (0 : Int) ∧ 0 < (2 : Int)) ∧
  LoadS w6 ⟨b5, 0, none⟩ .sl fun (x9 : SlV) =>
  (0 ≤ (1 : Int) ∧ 1 < (2 : Int)) ∧
  LoadS w6 ⟨b5, 1, none⟩ .sl fun (x10 : SlV) =>
  CallV Try.prog 15 #[.agg #[.int .i64 x7.1, .int .i64 x7.2.1, .int .i64 x7.2.2.1, .int .i64 x7.2.2.2.1, .int .i64 x7.2.2.2.2.1, .int .i64 x7.2.2.2.2.2.1], .agg #[.int .i64 x8.1, .int .i64 x8.2.1, .int .i64 x8.2.2.1, .int .u32 x8.2.2.2.1, .int .u64 x8.2.2.2.2.1, .int .u64 x8.2.2.2.2.2.1], .slice x9.a x9.n x9.c, .slice x10.a x10.n x10.c] w6 [.one .sl, .one (.int .i64)] fun (r11 : SlV × Int × Unit) w12 =>
  cond (r11.2.1 != 0)
  (CallV Try.prog 18 #[] w12 [.one .bool] fun (r13 : Bool × Unit) w14 =>
  K (r13.1, ()) w14)
  (LoadA w12 ⟨b1, 0, none⟩ [.int .i64, .int .i64, .int .i64, .int .i64, .int .i64, .int .i64] fun (x15 : Int × Int × Int × Int × Int × Int × Unit) =>
  CallV Try.prog 16 #[.agg #[.int .i64 x15.1, .int .i64 x15.2.1, .int .i64 x15.2.2.1, .int .i64 x15.2.2.2.1, .int .i64 x15.2.2.2.2.1, .int .i64 x15.2.2.2.2.2.1]] w12 [.one .sl, .one (.int .i64)] fun (r16 : SlV × Int × Unit) w17 =>
  cond (((r16.1.n : Nat) : Int) != ((r11.1.n : Nat) : Int))
  (K (false, ()) w17)
  (LoadA w17 ⟨b1, 0, none⟩ [.int .i64, .int .i64, .int .i64, .int .i64, .int .i64, .int .i64] fun (x18 : Int × Int × Int × Int × Int × Int × Unit) =>
  CallV Try.prog 23 #[.agg #[.int .i64 x18.1, .int .i64 x18.2.1, .int .i64 x18.2.2.1, .int .i64 x18.2.2.2.1, .int .i64 x18.2.2.2.2.1, .int .i64 x18.2.2.2.2.2.1], .slice r11.1.a r11.1.n r11.1.c] w17 [.agg [.int .i64, .int .i64, .int .i64, .int .u32, .int .u64, .int .u64, .sl, .sl, .bool], .one (.int .i64)] fun (r19 : (Int × Int × Int × Int × Int × Int × SlV × SlV × Bool × Unit) × Int × Unit) w20 =>
  NewV #[.int .i64 0, .int .i64 0, .int .i64 0, .int .u32 0, .int .u64 0, .int .u64 0, .slice none 0 0, .slice none 0 0, .bool false] 42 w20 fun b21 w22 =>
  StoreV w22 ⟨b21, 0, none⟩ [.int .i64 r19.1.1, .int .i64 r19.1.2.1, .int .i64 r19.1.2.2.1, .int .u32 r19.1.2.2.2.1, .int .u64 r19.1.2.2.2.2.1, .int .u64 r19.1.2.2.2.2.2.1, .slice r19.1.2.2.2.2.2.2.1.a r19.1.2.2.2.2.2.2.1.n r19.1.2.2.2.2.2.2.1.c, .slice r19.1.2.2.2.2.2.2.2.1.a r19.1.2.2.2.2.2.2.2.1.n r19.1.2.2.2.2.2.2.2.1.c, .bool r19.1.2.2.2.2.2.2.2.2.1] fun w23 =>
  DrawV fun D24 =>
  (D24 b1 ∧ LoadA w23.drew ⟨b1, 0, none⟩ [.int .i64, .int .i64, .int .i64, .int .i64, .int .i64, .int .i64] fun (x25 : Int × Int × Int × Int × Int × Int × Unit) =>
  ((CallV Try.prog 30 #[.slice r11.1.a r11.1.n r11.1.c, .slice r16.1.a r16.1.n r16.1.c] w23.drew [.one .sl] fun (r26 : SlV × Unit) w27 =>
  KeepOn D24 w23.drew w27 ∧
  ((CallV Try.prog 23 #[.agg #[.int .i64 x25.1, .int .i64 x25.2.1, .int .i64 x25.2.2.1, .int .i64 x25.2.2.2.1, .int .i64 x25.2.2.2.2.1, .int .i64 x25.2.2.2.2.2.1], .slice r26.1.a r26.1.n r26.1.c] w27 [.agg [.int .i64, .int .i64, .int .i64, .int .u32, .int .u64, .int .u64, .sl, .sl, .bool], .one (.int .i64)] fun (r28 : (Int × Int × Int × Int × Int × Int × SlV × SlV × Bool × Unit) × Int × Unit) w29 =>
  KeepOn D24 w23.drew w29 ∧
  NewV #[.int .i64 0, .int .i64 0, .int .i64 0, .int .u32 0, .int .u64 0, .int .u64 0, .slice none 0 0, .slice none 0 0, .bool false] 42 w29 fun b30 w31 =>
  KeepOn D24 w23.drew w31 ∧
  StoreV w31 ⟨b30, 0, none⟩ [.int .i64 r28.1.1, .int .i64 r28.1.2.1, .int .i64 r28.1.2.2.1, .int .u32 r28.1.2.2.2.1, .int .u64 r28.1.2.2.2.2.1, .int .u64 r28.1.2.2.2.2.2.1, .slice r28.1.2.2.2.2.2.2.1.a r28.1.2.2.2.2.2.2.1.n r28.1.2.2.2.2.2.2.1.c, .slice r28.1.2.2.2.2.2.2.2.1.a r28.1.2.2.2.2.2.2.2.1.n r28.1.2.2.2.2.2.2.2.1.c, .bool r28.1.2.2.2.2.2.2.2.2.1] fun w32 =>
  KeepOn D24 w23.drew w32 ∧
  JoinV [] (fun (v34 : Unit) w35 =>
  LoadS w35 ⟨b21, 6, none⟩ .sl fun (x36 : SlV) =>
  LoadS w35 ⟨b30, 6, none⟩ .sl fun (x37 : SlV) =>
  CallV Try.prog 19 #[.slice x36.a x36.n x36.c, .slice x37.a x37.n x37.c] w35 [.one .bool] fun (r38 : Bool × Unit) w39 =>
  cond r38.1
  (LoadS w39 ⟨b21, 7, none⟩ .sl fun (x40 : SlV) =>
  LoadS w39 ⟨b30, 7, none⟩ .sl fun (x41 : SlV) =>
  CallV Try.prog 19 #[.slice x40.a x40.n x40.c, .slice x41.a x41.n x41.c] w39 [.one .bool] fun (r42 : Bool × Unit) w43 =>
  cond r42.1
  ((0 ≤ (0 : Int) ∧ 0 < (2 : Int)) ∧
  LoadS w43 ⟨b5, 0, none⟩ .sl fun (x44 : SlV) =>
  cond (((x44.n : Nat) : Int) == 0)
  ((0 ≤ (1 : Int) ∧ 1 < (2 : Int)) ∧
  LoadS w43 ⟨b5, 1, none⟩ .sl fun (x45 : SlV) =>
  cond (((x45.n : Nat) : Int) == 0)
  (CallV Try.prog 18 #[] w43 [.one .bool] fun (r46 : Bool × Unit) w47 =>
  K (r46.1, ()) w47)
  (LoadS w43 ⟨b21, 7, none⟩ .sl fun (x48 : SlV) =>
  (0 ≤ (1 : Int) ∧ 1 < (2 : Int)) ∧
  LoadS w43 ⟨b5, 1, none⟩ .sl fun (x49 : SlV) =>
  CallV Try.prog 19 #[.slice x48.a x48.n x48.c, .slice x49.a x49.n x49.c] w43 [.one .bool] fun (r50 : Bool × Unit) w51 =>
  cond r50.1
  (CallV Try.prog 18 #[] w51 [.one .bool] fun (r52 : Bool × Unit) w53 =>
  K (r52.1, ()) w53)
  (K (false, ()) w51)))
  (LoadS w43 ⟨b21, 6, none⟩ .sl fun (x54 : SlV) =>
  (0 ≤ (0 : Int) ∧ 0 < (2 : Int)) ∧
  LoadS w43 ⟨b5, 0, none⟩ .sl fun (x55 : SlV) =>
  CallV Try.prog 19 #[.slice x54.a x54.n x54.c, .slice x55.a x55.n x55.c] w43 [.one .bool] fun (r56 : Bool × Unit) w57 =>
  cond r56.1
  ((0 ≤ (1 : Int) ∧ 1 < (2 : Int)) ∧
  LoadS w57 ⟨b5, 1, none⟩ .sl fun (x58 : SlV) =>
  cond (((x58.n : Nat) : Int) == 0)
  (CallV Try.prog 18 #[] w57 [.one .bool] fun (r59 : Bool × Unit) w60 =>
  K (r59.1, ()) w60)
  (LoadS w57 ⟨b21, 7, none⟩ .sl fun (x61 : SlV) =>
  (0 ≤ (1 : Int) ∧ 1 < (2 : Int)) ∧
  LoadS w57 ⟨b5, 1, none⟩ .sl fun (x62 : SlV) =>
  CallV Try.prog 19 #[.slice x61.a x61.n x61.c, .slice x62.a x62.n x62.c] w57 [.one .bool] fun (r63 : Bool × Unit) w64 =>
  cond r63.1
  (CallV Try.prog 18 #[] w64 [.one .bool] fun (r65 : Bool × Unit) w66 =>
  K (r65.1, ()) w66)
  (K (false, ()) w64)))
  (K (false, ()) w57)))
  (K (false, ()) w43))
  (K (false, ()) w39)) fun (J33 : Unit → World → Prop) =>
  cond (r19.2.1 != 0)
  (K (false, ()) w32)
  (cond (r28.2.1 != 0)
  (K (false, ()) w32)
  (LoadS w32 ⟨b21, 8, none⟩ .bool fun (x67 : Bool) =>
  cond x67
  (K (false, ()) w32)
  (LoadS w32 ⟨b30, 8, none⟩ .bool fun (x68 : Bool) =>
  cond (!x68)
  (K (false, ()) w32)
  (LoadA w32 ⟨b21, 0, none⟩ [.int .i64, .int .i64, .int .i64, .int .u32, .int .u64, .int .u64] fun (x69 : Int × Int × Int × Int × Int × Int × Unit) =>
  LoadA w32 ⟨b3, 0, none⟩ [.int .i64, .int .i64, .int .i64, .int .u32, .int .u64, .int .u64] fun (x70 : Int × Int × Int × Int × Int × Int × Unit) =>
  AggEq Try.prog 27 #[.int .i64 x69.1, .int .i64 x69.2.1, .int .i64 x69.2.2.1, .int .u32 x69.2.2.2.1, .int .u64 x69.2.2.2.2.1, .int .u64 x69.2.2.2.2.2.1] #[.int .i64 x70.1, .int .i64 x70.2.1, .int .i64 x70.2.2.1, .int .u32 x70.2.2.2.1, .int .u64 x70.2.2.2.2.1, .int .u64 x70.2.2.2.2.2.1] fun e71 =>
  cond (!e71)
  (K (false, ()) w32)
  (LoadA w32 ⟨b30, 0, none⟩ [.int .i64, .int .i64, .int .i64, .int .u32, .int .u64, .int .u64] fun (x72 : Int × Int × Int × Int × Int × Int × Unit) =>
  LoadA w32 ⟨b3, 0, none⟩ [.int .i64, .int .i64, .int .i64, .int .u32, .int .u64, .int .u64] fun (x73 : Int × Int × Int × Int × Int × Int × Unit) =>
  AggEq Try.prog 27 #[.int .i64 x72.1, .int .i64 x72.2.1, .int .i64 x72.2.2.1, .int .u32 x72.2.2.2.1, .int .u64 x72.2.2.2.2.1, .int .u64 x72.2.2.2.2.2.1] #[.int .i64 x73.1, .int .i64 x73.2.1, .int .i64 x73.2.2.1, .int .u32 x73.2.2.2.1, .int .u64 x73.2.2.2.2.1, .int .u64 x73.2.2.2.2.2.1] fun e74 =>
  cond (!e74)
  (K (false, ()) w32)
  (CallV Try.prog 25 #[.slice r11.1.a r11.1.n r11.1.c] w32 [.one .bool] fun (r75 : Bool × Unit) w76 =>
  cond r75.1
  (K (false, ()) w76)
  (J33 (()) w76)))))))) ∧
  (NewV #[.int .i64 0, .int .i64 0, .int .i64 0, .int .u32 0, .int .u64 0, .int .u64 0, .slice none 0 0, .slice none 0 0, .bool false] 42 w27 fun b77 w78 =>
  KeepOn D24 w23.drew w78 ∧
  CallV Try.prog 23 #[.agg #[.int .i64 x25.1, .int .i64 x25.2.1, .int .i64 x25.2.2.1, .int .i64 x25.2.2.2.1, .int .i64 x25.2.2.2.2.1, .int .i64 x25.2.2.2.2.2.1], .slice r26.1.a r26.1.n r26.1.c] w78 [.agg [.int .i64, .int .i64, .int .i64, .int .u32, .int .u64, .int .u64, .sl, .sl, .bool], .one (.int .i64)] fun (r79 : (Int × Int × Int × Int × Int × Int × SlV × SlV × Bool × Unit) × Int × Unit) w80 =>
  KeepOn D24 w23.drew w80 ∧
  StoreV w80 ⟨b77, 0, none⟩ [.int .i64 r79.1.1, .int .i64 r79.1.2.1, .int .i64 r79.1.2.2.1, .int .u32 r79.1.2.2.2.1, .int .u64 r79.1.2.2.2.2.1, .int .u64 r79.1.2.2.2.2.2.1, .slice r79.1.2.2.2.2.2.2.1.a r79.1.2.2.2.2.2.2.1.n r79.1.2.2.2.2.2.2.1.c, .slice r79.1.2.2.2.2.2.2.2.1.a r79.1.2.2.2.2.2.2.2.1.n r79.1.2.2.2.2.2.2.2.1.c, .bool r79.1.2.2.2.2.2.2.2.2.1] fun w81 =>
  KeepOn D24 w23.drew w81 ∧
  JoinV [] (fun (v83 : Unit) w84 =>
  LoadS w84 ⟨b21, 6, none⟩ .sl fun (x85 : SlV) =>
  LoadS w84 ⟨b77, 6, none⟩ .sl fun (x86 : SlV) =>
  CallV Try.prog 19 #[.slice x85.a x85.n x85.c, .slice x86.a x86.n x86.c] w84 [.one .bool] fun (r87 : Bool × Unit) w88 =>
  cond r87.1
  (LoadS w88 ⟨b21, 7, none⟩ .sl fun (x89 : SlV) =>
  LoadS w88 ⟨b77, 7, none⟩ .sl fun (x90 : SlV) =>
  CallV Try.prog 19 #[.slice x89.a x89.n x89.c, .slice x90.a x90.n x90.c] w88 [.one .bool] fun (r91 : Bool × Unit) w92 =>
  cond r91.1
  ((0 ≤ (0 : Int) ∧ 0 < (2 : Int)) ∧
  LoadS w92 ⟨b5, 0, none⟩ .sl fun (x93 : SlV) =>
  cond (((x93.n : Nat) : Int) == 0)
  ((0 ≤ (1 : Int) ∧ 1 < (2 : Int)) ∧
  LoadS w92 ⟨b5, 1, none⟩ .sl fun (x94 : SlV) =>
  cond (((x94.n : Nat) : Int) == 0)
  (CallV Try.prog 18 #[] w92 [.one .bool] fun (r95 : Bool × Unit) w96 =>
  K (r95.1, ()) w96)
  (LoadS w92 ⟨b21, 7, none⟩ .sl fun (x97 : SlV) =>
  (0 ≤ (1 : Int) ∧ 1 < (2 : Int)) ∧
  LoadS w92 ⟨b5, 1, none⟩ .sl fun (x98 : SlV) =>
  CallV Try.prog 19 #[.slice x97.a x97.n x97.c, .slice x98.a x98.n x98.c] w92 [.one .bool] fun (r99 : Bool × Unit) w100 =>
  cond r99.1
  (CallV Try.prog 18 #[] w100 [.one .bool] fun (r101 : Bool × Unit) w102 =>
  K (r101.1, ()) w102)
  (K (false, ()) w100)))
  (LoadS w92 ⟨b21, 6, none⟩ .sl fun (x103 : SlV) =>
  (0 ≤ (0 : Int) ∧ 0 < (2 : Int)) ∧
  LoadS w92 ⟨b5, 0, none⟩ .sl fun (x104 : SlV) =>
  CallV Try.prog 19 #[.slice x103.a x103.n x103.c, .slice x104.a x104.n x104.c] w92 [.one .bool] fun (r105 : Bool × Unit) w106 =>
  cond r105.1
  ((0 ≤ (1 : Int) ∧ 1 < (2 : Int)) ∧
  LoadS w106 ⟨b5, 1, none⟩ .sl fun (x107 : SlV) =>
  cond (((x107.n : Nat) : Int) == 0)
  (CallV Try.prog 18 #[] w106 [.one .bool] fun (r108 : Bool × Unit) w109 =>
  K (r108.1, ()) w109)
  (LoadS w106 ⟨b21, 7, none⟩ .sl fun (x110 : SlV) =>
  (0 ≤ (1 : Int) ∧ 1 < (2 : Int)) ∧
  LoadS w106 ⟨b5, 1, none⟩ .sl fun (x111 : SlV) =>
  CallV Try.prog 19 #[.slice x110.a x110.n x110.c, .slice x111.a x111.n x111.c] w106 [.one .bool] fun (r112 : Bool × Unit) w113 =>
  cond r112.1
  (CallV Try.prog 18 #[] w113 [.one .bool] fun (r114 : Bool × Unit) w115 =>
  K (r114.1, ()) w115)
  (K (false, ()) w113)))
  (K (false, ()) w106)))
  (K (false, ()) w92))
  (K (false, ()) w88)) fun (J82 : Unit → World → Prop) =>
  cond (r19.2.1 != 0)
  (K (false, ()) w81)
  (cond (r79.2.1 != 0)
  (K (false, ()) w81)
  (LoadS w81 ⟨b21, 8, none⟩ .bool fun (x116 : Bool) =>
  cond x116
  (K (false, ()) w81)
  (LoadS w81 ⟨b77, 8, none⟩ .bool fun (x117 : Bool) =>
  cond (!x117)
  (K (false, ()) w81)
  (LoadA w81 ⟨b21, 0, none⟩ [.int .i64, .int .i64, .int .i64, .int .u32, .int .u64, .int .u64] fun (x118 : Int × Int × Int × Int × Int × Int × Unit) =>
  LoadA w81 ⟨b3, 0, none⟩ [.int .i64, .int .i64, .int .i64, .int .u32, .int .u64, .int .u64] fun (x119 : Int × Int × Int × Int × Int × Int × Unit) =>
  AggEq Try.prog 27 #[.int .i64 x118.1, .int .i64 x118.2.1, .int .i64 x118.2.2.1, .int .u32 x118.2.2.2.1, .int .u64 x118.2.2.2.2.1, .int .u64 x118.2.2.2.2.2.1] #[.int .i64 x119.1, .int .i64 x119.2.1, .int .i64 x119.2.2.1, .int .u32 x119.2.2.2.1, .int .u64 x119.2.2.2.2.1, .int .u64 x119.2.2.2.2.2.1] fun e120 =>
  cond (!e120)
  (K (false, ()) w81)
  (LoadA w81 ⟨b77, 0, none⟩ [.int .i64, .int .i64, .int .i64, .int .u32, .int .u64, .int .u64] fun (x121 : Int × Int × Int × Int × Int × Int × Unit) =>
  LoadA w81 ⟨b3, 0, none⟩ [.int .i64, .int .i64, .int .i64, .int .u32, .int .u64, .int .u64] fun (x122 : Int × Int × Int × Int × Int × Int × Unit) =>
  AggEq Try.prog 27 #[.int .i64 x121.1, .int .i64 x121.2.1, .int .i64 x121.2.2.1, .int .u32 x121.2.2.2.1, .int .u64 x121.2.2.2.2.1, .int .u64 x121.2.2.2.2.2.1] #[.int .i64 x122.1, .int .i64 x122.2.1, .int .i64 x122.2.2.1, .int .u32 x122.2.2.2.1, .int .u64 x122.2.2.2.2.1, .int .u64 x122.2.2.2.2.2.1] fun e123 =>
  cond (!e123)
  (K (false, ()) w81)
  (CallV Try.prog 25 #[.slice r11.1.a r11.1.n r11.1.c] w81 [.one .bool] fun (r124 : Bool × Unit) w125 =>
  cond r124.1
  (K (false, ()) w125)
  (J82 (()) w125)))))))))) ∧
  (NewV #[.int .i64 0, .int .i64 0, .int .i64 0, .int .u32 0, .int .u64 0, .int .u64 0, .slice none 0 0, .slice none 0 0, .bool false] 42 w23.drew fun b126 w127 =>
  KeepOn D24 w23.drew w127 ∧
  CallV Try.prog 30 #[.slice r11.1.a r11.1.n r11.1.c, .slice r16.1.a r16.1.n r16.1.c] w127 [.one .sl] fun (r128 : SlV × Unit) w129 =>
  KeepOn D24 w23.drew w129 ∧
  CallV Try.prog 23 #[.agg #[.int .i64 x25.1, .int .i64 x25.2.1, .int .i64 x25.2.2.1, .int .i64 x25.2.2.2.1, .int .i64 x25.2.2.2.2.1, .int .i64 x25.2.2.2.2.2.1], .slice r128.1.a r128.1.n r128.1.c] w129 [.agg [.int .i64, .int .i64, .int .i64, .int .u32, .int .u64, .int .u64, .sl, .sl, .bool], .one (.int .i64)] fun (r130 : (Int × Int × Int × Int × Int × Int × SlV × SlV × Bool × Unit) × Int × Unit) w131 =>
  KeepOn D24 w23.drew w131 ∧
  StoreV w131 ⟨b126, 0, none⟩ [.int .i64 r130.1.1, .int .i64 r130.1.2.1, .int .i64 r130.1.2.2.1, .int .u32 r130.1.2.2.2.1, .int .u64 r130.1.2.2.2.2.1, .int .u64 r130.1.2.2.2.2.2.1, .slice r130.1.2.2.2.2.2.2.1.a r130.1.2.2.2.2.2.2.1.n r130.1.2.2.2.2.2.2.1.c, .slice r130.1.2.2.2.2.2.2.2.1.a r130.1.2.2.2.2.2.2.2.1.n r130.1.2.2.2.2.2.2.2.1.c, .bool r130.1.2.2.2.2.2.2.2.2.1] fun w132 =>
  KeepOn D24 w23.drew w132 ∧
  JoinV [] (fun (v134 : Unit) w135 =>
  LoadS w135 ⟨b21, 6, none⟩ .sl fun (x136 : SlV) =>
  LoadS w135 ⟨b126, 6, none⟩ .sl fun (x137 : SlV) =>
  CallV Try.prog 19 #[.slice x136.a x136.n x136.c, .slice x137.a x137.n x137.c] w135 [.one .bool] fun (r138 : Bool × Unit) w139 =>
  cond r138.1
  (LoadS w139 ⟨b21, 7, none⟩ .sl fun (x140 : SlV) =>
  LoadS w139 ⟨b126, 7, none⟩ .sl fun (x141 : SlV) =>
  CallV Try.prog 19 #[.slice x140.a x140.n x140.c, .slice x141.a x141.n x141.c] w139 [.one .bool] fun (r142 : Bool × Unit) w143 =>
  cond r142.1
  ((0 ≤ (0 : Int) ∧ 0 < (2 : Int)) ∧
  LoadS w143 ⟨b5, 0, none⟩ .sl fun (x144 : SlV) =>
  cond (((x144.n : Nat) : Int) == 0)
  ((0 ≤ (1 : Int) ∧ 1 < (2 : Int)) ∧
  LoadS w143 ⟨b5, 1, none⟩ .sl fun (x145 : SlV) =>
  cond (((x145.n : Nat) : Int) == 0)
  (CallV Try.prog 18 #[] w143 [.one .bool] fun (r146 : Bool × Unit) w147 =>
  K (r146.1, ()) w147)
  (LoadS w143 ⟨b21, 7, none⟩ .sl fun (x148 : SlV) =>
  (0 ≤ (1 : Int) ∧ 1 < (2 : Int)) ∧
  LoadS w143 ⟨b5, 1, none⟩ .sl fun (x149 : SlV) =>
  CallV Try.prog 19 #[.slice x148.a x148.n x148.c, .slice x149.a x149.n x149.c] w143 [.one .bool] fun (r150 : Bool × Unit) w151 =>
  cond r150.1
  (CallV Try.prog 18 #[] w151 [.one .bool] fun (r152 : Bool × Unit) w153 =>
  K (r152.1, ()) w153)
  (K (false, ()) w151)))
  (LoadS w143 ⟨b21, 6, none⟩ .sl fun (x154 : SlV) =>
  (0 ≤ (0 : Int) ∧ 0 < (2 : Int)) ∧
  LoadS w143 ⟨b5, 0, none⟩ .sl fun (x155 : SlV) =>
  CallV Try.prog 19 #[.slice x154.a x154.n x154.c, .slice x155.a x155.n x155.c] w143 [.one .bool] fun (r156 : Bool × Unit) w157 =>
  cond r156.1
  ((0 ≤ (1 : Int) ∧ 1 < (2 : Int)) ∧
  LoadS w157 ⟨b5, 1, none⟩ .sl fun (x158 : SlV) =>
  cond (((x158.n : Nat) : Int) == 0)
  (CallV Try.prog 18 #[] w157 [.one .bool] fun (r159 : Bool × Unit) w160 =>
  K (r159.1, ()) w160)
  (LoadS w157 ⟨b21, 7, none⟩ .sl fun (x161 : SlV) =>
  (0 ≤ (1 : Int) ∧ 1 < (2 : Int)) ∧
  LoadS w157 ⟨b5, 1, none⟩ .sl fun (x162 : SlV) =>
  CallV Try.prog 19 #[.slice x161.a x161.n x161.c, .slice x162.a x162.n x162.c] w157 [.one .bool] fun (r163 : Bool × Unit) w164 =>
  cond r163.1
  (CallV Try.prog 18 #[] w164 [.one .bool] fun (r165 : Bool × Unit) w166 =>
  K (r165.1, ()) w166)
  (K (false, ()) w164)))
  (K (false, ()) w157)))
  (K (false, ()) w143))
  (K (false, ()) w139)) fun (J133 : Unit → World → Prop) =>
  cond (r19.2.1 != 0)
  (K (false, ()) w132)
  (cond (r130.2.1 != 0)
  (K (false, ()) w132)
  (LoadS w132 ⟨b21, 8, none⟩ .bool fun (x167 : Bool) =>
  cond x167
  (K (false, ()) w132)
  (LoadS w132 ⟨b126, 8, none⟩ .bool fun (x168 : Bool) =>
  cond (!x168)
  (K (false, ()) w132)
  (LoadA w132 ⟨b21, 0, none⟩ [.int .i64, .int .i64, .int .i64, .int .u32, .int .u64, .int .u64] fun (x169 : Int × Int × Int × Int × Int × Int × Unit) =>
  LoadA w132 ⟨b3, 0, none⟩ [.int .i64, .int .i64, .int .i64, .int .u32, .int .u64, .int .u64] fun (x170 : Int × Int × Int × Int × Int × Int × Unit) =>
  AggEq Try.prog 27 #[.int .i64 x169.1, .int .i64 x169.2.1, .int .i64 x169.2.2.1, .int .u32 x169.2.2.2.1, .int .u64 x169.2.2.2.2.1, .int .u64 x169.2.2.2.2.2.1] #[.int .i64 x170.1, .int .i64 x170.2.1, .int .i64 x170.2.2.1, .int .u32 x170.2.2.2.1, .int .u64 x170.2.2.2.2.1, .int .u64 x170.2.2.2.2.2.1] fun e171 =>
  cond (!e171)
  (K (false, ()) w132)
  (LoadA w132 ⟨b126, 0, none⟩ [.int .i64, .int .i64, .int .i64, .int .u32, .int .u64, .int .u64] fun (x172 : Int × Int × Int × Int × Int × Int × Unit) =>
  LoadA w132 ⟨b3, 0, none⟩ [.int .i64, .int .i64, .int .i64, .int .u32, .int .u64, .int .u64] fun (x173 : Int × Int × Int × Int × Int × Int × Unit) =>
  AggEq Try.prog 27 #[.int .i64 x172.1, .int .i64 x172.2.1, .int .i64 x172.2.2.1, .int .u32 x172.2.2.2.1, .int .u64 x172.2.2.2.2.1, .int .u64 x172.2.2.2.2.2.1] #[.int .i64 x173.1, .int .i64 x173.2.1, .int .i64 x173.2.2.1, .int .u32 x173.2.2.2.1, .int .u64 x173.2.2.2.2.1, .int .u64 x173.2.2.2.2.2.1] fun e174 =>
  cond (!e174)
  (K (false, ()) w132)
  (CallV Try.prog 25 #[.slice r11.1.a r11.1.n r11.1.c] w132 [.one .bool] fun (r175 : Bool × Unit) w176 =>
  cond r175.1
  (K (false, ()) w176)
  (J133 (()) w176))))))))))))
theorem law15_PageBack.vc (p0_0 : Int) (p0_1 : Int) (p0_2 : Int) (p0_3 : Int) (p0_4 : Int) (p0_5 : Int) (p1_0 : Int) (p1_1 : Int) (p1_2 : Int) (p1_3 : Int) (p1_4 : Int) (p1_5 : Int) (a2_0 : Option Addr) (n2_0 c2_0 : Nat) (a2_1 : Option Addr) (n2_1 c2_1 : Nat) (w : World) (K : Bool × Unit → World → Prop) (h : law15_PageBack.P p0_0 p0_1 p0_2 p0_3 p0_4 p0_5 p1_0 p1_1 p1_2 p1_3 p1_4 p1_5 a2_0 n2_0 c2_0 a2_1 n2_1 c2_1 w K) : CallV Try.prog 6 #[.agg #[.int .i64 p0_0, .int .i64 p0_1, .int .i64 p0_2, .int .i64 p0_3, .int .i64 p0_4, .int .i64 p0_5], .agg #[.int .i64 p1_0, .int .i64 p1_1, .int .i64 p1_2, .int .u32 p1_3, .int .u64 p1_4, .int .u64 p1_5], .agg #[.slice a2_0 n2_0 c2_0, .slice a2_1 n2_1 c2_1]] w [.one .bool] K := by
  have e : vcFun Try.prog okf false Try.f6 law15_PageBack.A #[.agg #[.int .i64 p0_0, .int .i64 p0_1, .int .i64 p0_2, .int .i64 p0_3, .int .i64 p0_4, .int .i64 p0_5], .agg #[.int .i64 p1_0, .int .i64 p1_1, .int .i64 p1_2, .int .u32 p1_3, .int .u64 p1_4, .int .u64 p1_5], .agg #[.slice a2_0 n2_0 c2_0, .slice a2_1 n2_1 c2_1]] w [.one .bool] K = law15_PageBack.P p0_0 p0_1 p0_2 p0_3 p0_4 p0_5 p1_0 p1_1 p1_2 p1_3 p1_4 p1_5 a2_0 n2_0 c2_0 a2_1 n2_1 c2_1 w K := by kernel_rfl
  exact vcFun.calls okf_ok follows Try.func6 (e.symm ▸ h)

end Go.Proofs.Ytfpkaebmiojicaa.Vc

/-! The laws PageMakes and PageBlank of layer 15: each call gives true, and what it read stays. -/
namespace Go.Proofs.Ytfpkaebmiojicaa.Vc
open Go Go.Eng Go.RowKit
set_option linter.unusedVariables false
set_option linter.unusedSimpArgs false

abbrev TTwo : Ty := .cons (.sl (.int .u8)) (.cons (.sl (.int .u8)) .nil)

theorem aw15 {w w' : World} (he : Ext w w') : CallV Try.prog 18 #[] w' [.one .bool] fun r w3 => r.1 = true ∧ Ext w w3 := awake15_c.mono fun r w3 ⟨h, e⟩ => ⟨h, he.trans e⟩

theorem PageMakes_law {w : World} {g : Geo} {h : Hd} {a a2 : Option Addr} {n c m c2 : Nat} {xs ts : List Int} (hg : h.rng) (hx : Ints w .u8 a n c xs) (ht : Ints w .u8 a2 m c2 ts) :
    CallV Try.prog 3 #[g.val, h.val, .agg #[.slice a n c, .slice a2 m c2]] w [.one .bool] fun r w' => r.1 = true ∧ Ext w w' := by
  apply law15_PageMakes.vc
  unfold law15_PageMakes.P
  have S := Sep.start NoB w
  (repeat ((first | refine S.newB fun _ _ S f _ => ?_ | refine S.la0 rfl ?_ | refine S.la1 rfl ?_ | refine S.la2 rfl ?_ | refine S.la3 rfl ?_ | refine S.la4 rfl ?_ | refine S.la5 rfl ?_ | refine S.ld0 rfl rfl ?_ | refine S.ld1 rfl rfl ?_ | refine S.ld2 rfl rfl ?_ | refine S.ld3 rfl rfl ?_ | refine S.ld4 rfl rfl ?_ | refine S.ld5 rfl rfl ?_ | refine S.st0 (by rfl) fun _ S f => ?_ | refine S.st1 (by rfl) fun _ S f => ?_ | refine S.st2 (by rfl) fun _ S f => ?_ | refine S.st3 (by rfl) fun _ S f => ?_ | refine S.st4 (by rfl) fun _ S f => ?_ | refine S.st5 (by rfl) fun _ S f => ?_ | refine S.su0 (by rfl) fun _ S f => ?_ | refine S.su1 (by rfl) fun _ S f => ?_ | refine S.su2 (by rfl) fun _ S f => ?_ | refine S.su3 (by rfl) fun _ S f => ?_ | refine S.su4 (by rfl) fun _ S f => ?_ | refine S.su5 (by rfl) fun _ S f => ?_ | refine ⟨by decide, ?_⟩); try dsimp only [List.set_cons_zero, List.set_cons_succ, cond_true, cond_false, Bool.not_true, Bool.not_false]))
  refine (Make_c (g := g) hg (hx.ext S.ext) (ht.ext S.ext)).mono ?_
  rintro ⟨⟨sa, sn, sc⟩, (e2 : Int), ⟨⟩⟩ w2 ⟨x2, h2, h2'⟩
  dsimp only at h2 h2' ⊢
  have S := S.stepE x2
  (repeat ((first | refine S.newB fun _ _ S f _ => ?_ | refine S.la0 rfl ?_ | refine S.la1 rfl ?_ | refine S.la2 rfl ?_ | refine S.la3 rfl ?_ | refine S.la4 rfl ?_ | refine S.la5 rfl ?_ | refine S.ld0 rfl rfl ?_ | refine S.ld1 rfl rfl ?_ | refine S.ld2 rfl rfl ?_ | refine S.ld3 rfl rfl ?_ | refine S.ld4 rfl rfl ?_ | refine S.ld5 rfl rfl ?_ | refine S.st0 (by rfl) fun _ S f => ?_ | refine S.st1 (by rfl) fun _ S f => ?_ | refine S.st2 (by rfl) fun _ S f => ?_ | refine S.st3 (by rfl) fun _ S f => ?_ | refine S.st4 (by rfl) fun _ S f => ?_ | refine S.st5 (by rfl) fun _ S f => ?_ | refine S.su0 (by rfl) fun _ S f => ?_ | refine S.su1 (by rfl) fun _ S f => ?_ | refine S.su2 (by rfl) fun _ S f => ?_ | refine S.su3 (by rfl) fun _ S f => ?_ | refine S.su4 (by rfl) fun _ S f => ?_ | refine S.su5 (by rfl) fun _ S f => ?_ | refine ⟨by decide, ?_⟩); try dsimp only [List.set_cons_zero, List.set_cons_succ, cond_true, cond_false, Bool.not_true, Bool.not_false]))
  refine (PCommit_c (g := g)).mono ?_
  rintro ⟨⟨ta, tn, tc⟩, (e3 : Int), ⟨⟩⟩ w3 ⟨x3, h3, h3'⟩
  dsimp only at h3 h3' ⊢
  have S := S.stepE x3
  (repeat ((first | refine S.newB fun _ _ S f _ => ?_ | refine S.la0 rfl ?_ | refine S.la1 rfl ?_ | refine S.la2 rfl ?_ | refine S.la3 rfl ?_ | refine S.la4 rfl ?_ | refine S.la5 rfl ?_ | refine S.ld0 rfl rfl ?_ | refine S.ld1 rfl rfl ?_ | refine S.ld2 rfl rfl ?_ | refine S.ld3 rfl rfl ?_ | refine S.ld4 rfl rfl ?_ | refine S.ld5 rfl rfl ?_ | refine S.st0 (by rfl) fun _ S f => ?_ | refine S.st1 (by rfl) fun _ S f => ?_ | refine S.st2 (by rfl) fun _ S f => ?_ | refine S.st3 (by rfl) fun _ S f => ?_ | refine S.st4 (by rfl) fun _ S f => ?_ | refine S.st5 (by rfl) fun _ S f => ?_ | refine S.su0 (by rfl) fun _ S f => ?_ | refine S.su1 (by rfl) fun _ S f => ?_ | refine S.su2 (by rfl) fun _ S f => ?_ | refine S.su3 (by rfl) fun _ S f => ?_ | refine S.su4 (by rfl) fun _ S f => ?_ | refine S.su5 (by rfl) fun _ S f => ?_ | refine ⟨by decide, ?_⟩); try dsimp only [List.set_cons_zero, List.set_cons_succ, cond_true, cond_false, Bool.not_true, Bool.not_false]))
  refine (Right_c (g := g)).mono ?_
  rintro ⟨(r4 : Bool), ⟨⟩⟩ w4 ⟨h4, x4⟩
  dsimp only at h4 ⊢
  subst h4
  have S := S.stepE x4
  by_cases hR : Right g
  case neg =>
    obtain ⟨k1, k2⟩ := h2' (fun hp => hR hp.1)
    obtain ⟨m1, m2⟩ := h3' hR
    cases k1; cases m1
    subst k2; subst m2
    refine cond_t (by rw [decide_eq_false hR]; rfl) (cond_t rfl (cond_t rfl ⟨Rng.i64 (by decide) (by decide), cond_t rfl (aw15 S.ext)⟩))
  obtain ⟨m1, m2⟩ := h3 hR
  subst m2
  refine cond_f (by rw [decide_eq_true hR]; rfl) (cond_f rfl ?_)
  (repeat ((first | refine S.newB fun _ _ S f _ => ?_ | refine S.la0 rfl ?_ | refine S.la1 rfl ?_ | refine S.la2 rfl ?_ | refine S.la3 rfl ?_ | refine S.la4 rfl ?_ | refine S.la5 rfl ?_ | refine S.ld0 rfl rfl ?_ | refine S.ld1 rfl rfl ?_ | refine S.ld2 rfl rfl ?_ | refine S.ld3 rfl rfl ?_ | refine S.ld4 rfl rfl ?_ | refine S.ld5 rfl rfl ?_ | refine S.st0 (by rfl) fun _ S f => ?_ | refine S.st1 (by rfl) fun _ S f => ?_ | refine S.st2 (by rfl) fun _ S f => ?_ | refine S.st3 (by rfl) fun _ S f => ?_ | refine S.st4 (by rfl) fun _ S f => ?_ | refine S.st5 (by rfl) fun _ S f => ?_ | refine S.su0 (by rfl) fun _ S f => ?_ | refine S.su1 (by rfl) fun _ S f => ?_ | refine S.su2 (by rfl) fun _ S f => ?_ | refine S.su3 (by rfl) fun _ S f => ?_ | refine S.su4 (by rfl) fun _ S f => ?_ | refine S.su5 (by rfl) fun _ S f => ?_ | refine ⟨by decide, ?_⟩); try dsimp only [List.set_cons_zero, List.set_cons_succ, cond_true, cond_false, Bool.not_true, Bool.not_false]))
  refine (rCommit15_c hR).mono ?_
  rintro ⟨(s5 : SlV), ⟨⟩⟩ w5 h5
  dsimp only at h5 ⊢
  have S := S.stepE h5.ext
  refine (SameBytes_c (m1.ints.ext (x4.trans h5.ext)) h5.ints).mono ?_
  rintro ⟨(r6 : Bool), ⟨⟩⟩ w6 ⟨h6, x6⟩
  dsimp only at h6 ⊢
  subst h6
  have S := S.stepE x6
  refine cond_f (by simp) ?_
  (repeat ((first | refine S.newB fun _ _ S f _ => ?_ | refine S.la0 rfl ?_ | refine S.la1 rfl ?_ | refine S.la2 rfl ?_ | refine S.la3 rfl ?_ | refine S.la4 rfl ?_ | refine S.la5 rfl ?_ | refine S.ld0 rfl rfl ?_ | refine S.ld1 rfl rfl ?_ | refine S.ld2 rfl rfl ?_ | refine S.ld3 rfl rfl ?_ | refine S.ld4 rfl rfl ?_ | refine S.ld5 rfl rfl ?_ | refine S.st0 (by rfl) fun _ S f => ?_ | refine S.st1 (by rfl) fun _ S f => ?_ | refine S.st2 (by rfl) fun _ S f => ?_ | refine S.st3 (by rfl) fun _ S f => ?_ | refine S.st4 (by rfl) fun _ S f => ?_ | refine S.st5 (by rfl) fun _ S f => ?_ | refine S.su0 (by rfl) fun _ S f => ?_ | refine S.su1 (by rfl) fun _ S f => ?_ | refine S.su2 (by rfl) fun _ S f => ?_ | refine S.su3 (by rfl) fun _ S f => ?_ | refine S.su4 (by rfl) fun _ S f => ?_ | refine S.su5 (by rfl) fun _ S f => ?_ | refine ⟨by decide, ?_⟩); try dsimp only [List.set_cons_zero, List.set_cons_succ, cond_true, cond_false, Bool.not_true, Bool.not_false]))
  refine (rRight15_c (g := g) (h := h)).mono ?_
  rintro ⟨(r7 : Bool), ⟨⟩⟩ w7 ⟨h7, x7⟩
  dsimp only at h7 ⊢
  subst h7
  have S := S.stepE x7
  by_cases hP : PRight g h n m
  case neg =>
    obtain ⟨k1, k2⟩ := h2' hP
    cases k1
    subst k2
    exact cond_t (by rw [decide_eq_false hP]; rfl) (cond_t rfl (cond_t rfl (aw15 S.ext)))
  obtain ⟨k1, k2⟩ := h2 hP
  subst k2
  refine cond_f (by rw [decide_eq_true hP]; rfl) (cond_t rfl ?_)
  (repeat ((first | refine S.newB fun _ _ S f _ => ?_ | refine S.la0 rfl ?_ | refine S.la1 rfl ?_ | refine S.la2 rfl ?_ | refine S.la3 rfl ?_ | refine S.la4 rfl ?_ | refine S.la5 rfl ?_ | refine S.ld0 rfl rfl ?_ | refine S.ld1 rfl rfl ?_ | refine S.ld2 rfl rfl ?_ | refine S.ld3 rfl rfl ?_ | refine S.ld4 rfl rfl ?_ | refine S.ld5 rfl rfl ?_ | refine S.st0 (by rfl) fun _ S f => ?_ | refine S.st1 (by rfl) fun _ S f => ?_ | refine S.st2 (by rfl) fun _ S f => ?_ | refine S.st3 (by rfl) fun _ S f => ?_ | refine S.st4 (by rfl) fun _ S f => ?_ | refine S.st5 (by rfl) fun _ S f => ?_ | refine S.su0 (by rfl) fun _ S f => ?_ | refine S.su1 (by rfl) fun _ S f => ?_ | refine S.su2 (by rfl) fun _ S f => ?_ | refine S.su3 (by rfl) fun _ S f => ?_ | refine S.su4 (by rfl) fun _ S f => ?_ | refine S.su5 (by rfl) fun _ S f => ?_ | refine ⟨by decide, ?_⟩); try dsimp only [List.set_cons_zero, List.set_cons_succ, cond_true, cond_false, Bool.not_true, Bool.not_false]))
  refine (rMake_c hg (hx.ext S.ext) (ht.ext S.ext) hP).mono ?_
  rintro ⟨(s8 : SlV), ⟨⟩⟩ w8 h8
  dsimp only at h8 ⊢
  refine (SameBytes_c (k1.ints.ext (x3.trans (x4.trans (h5.ext.trans (x6.trans (x7.trans h8.ext)))))) h8.ints).mono ?_
  rintro ⟨(r9 : Bool), ⟨⟩⟩ w9 ⟨h9, x9⟩
  dsimp only at h9 ⊢
  subst h9
  exact cond_t (by simp) (aw15 (S.ext.trans (h8.ext.trans x9)))

theorem PageMakes_of {w : World} {x : TGeo.T} {y : THd.T} {z : TTwo.T} (g0 : TGeo.ok w x) (g1 : THd.ok w y) (g2 : TTwo.ok w z) :
    CallV Try.prog 3 #[.agg (TGeo.vs x).toArray, .agg (THd.vs y).toArray, .agg (TTwo.vs z).toArray] w [.one .bool] fun r w' => r.1 = true ∧ Ext w w' := by
  rw [geoT_val, hdT_val]
  exact PageMakes_law (hdT_rng g1) (Ty.ints (Ty.rd_of _ g2.1)) (Ty.ints (Ty.rd_of _ g2.2.1))

theorem blank_ok {n : Nat} (h : 0 < n) : ¬ okR (List.replicate n 255) := fun hh => by
  have := hh.1.2
  rw [getD_get (by simpa using h), List.getElem_replicate] at this
  omega
theorem endP_rep {g : Geo} {n : Nat} (x : Int) : endP g (List.replicate n x) = List.replicate (n - g.s.toNat) x := by unfold endP; rw [List.drop_replicate]

theorem PageBlank_law {w : World} {g : Geo} {kind : Int} : CallV Try.prog 5 #[g.val, .int .i64 kind] w [.one .bool] fun r w' => r.1 = true ∧ Ext w w' := by
  apply law15_PageBlank.vc
  unfold law15_PageBlank.P
  have S := Sep.start NoB w
  (repeat ((first | refine S.newB fun _ _ S f _ => ?_ | refine S.la0 rfl ?_ | refine S.la1 rfl ?_ | refine S.la2 rfl ?_ | refine S.la3 rfl ?_ | refine S.la4 rfl ?_ | refine S.la5 rfl ?_ | refine S.ld0 rfl rfl ?_ | refine S.ld1 rfl rfl ?_ | refine S.ld2 rfl rfl ?_ | refine S.ld3 rfl rfl ?_ | refine S.ld4 rfl rfl ?_ | refine S.ld5 rfl rfl ?_ | refine S.st0 (by rfl) fun _ S f => ?_ | refine S.st1 (by rfl) fun _ S f => ?_ | refine S.st2 (by rfl) fun _ S f => ?_ | refine S.st3 (by rfl) fun _ S f => ?_ | refine S.st4 (by rfl) fun _ S f => ?_ | refine S.st5 (by rfl) fun _ S f => ?_ | refine S.su0 (by rfl) fun _ S f => ?_ | refine S.su1 (by rfl) fun _ S f => ?_ | refine S.su2 (by rfl) fun _ S f => ?_ | refine S.su3 (by rfl) fun _ S f => ?_ | refine S.su4 (by rfl) fun _ S f => ?_ | refine S.su5 (by rfl) fun _ S f => ?_ | refine ⟨by decide, ?_⟩); try dsimp only [List.set_cons_zero, List.set_cons_succ, cond_true, cond_false, Bool.not_true, Bool.not_false]))
  refine (Right_c (g := g)).mono ?_
  rintro ⟨(r4 : Bool), ⟨⟩⟩ w4 ⟨h4, x4⟩
  dsimp only at h4 ⊢
  subst h4
  have S := S.stepE x4
  by_cases hR : Right g
  case neg => exact cond_t (by rw [decide_eq_false hR]; rfl) (aw15 S.ext)
  refine cond_f (by rw [decide_eq_true hR]; rfl) ?_
  have hs := hR.sec
  (repeat ((first | refine S.newB fun _ _ S f _ => ?_ | refine S.la0 rfl ?_ | refine S.la1 rfl ?_ | refine S.la2 rfl ?_ | refine S.la3 rfl ?_ | refine S.la4 rfl ?_ | refine S.la5 rfl ?_ | refine S.ld0 rfl rfl ?_ | refine S.ld1 rfl rfl ?_ | refine S.ld2 rfl rfl ?_ | refine S.ld3 rfl rfl ?_ | refine S.ld4 rfl rfl ?_ | refine S.ld5 rfl rfl ?_ | refine S.st0 (by rfl) fun _ S f => ?_ | refine S.st1 (by rfl) fun _ S f => ?_ | refine S.st2 (by rfl) fun _ S f => ?_ | refine S.st3 (by rfl) fun _ S f => ?_ | refine S.st4 (by rfl) fun _ S f => ?_ | refine S.st5 (by rfl) fun _ S f => ?_ | refine S.su0 (by rfl) fun _ S f => ?_ | refine S.su1 (by rfl) fun _ S f => ?_ | refine S.su2 (by rfl) fun _ S f => ?_ | refine S.su3 (by rfl) fun _ S f => ?_ | refine S.su4 (by rfl) fun _ S f => ?_ | refine S.su5 (by rfl) fun _ S f => ?_ | refine ⟨by decide, ?_⟩); try dsimp only [List.set_cons_zero, List.set_cons_succ, cond_true, cond_false, Bool.not_true, Bool.not_false]))
  refine ⟨Rng.i64 (by omega) (by omega), ?_⟩
  refine rFill_c.mono ?_
  rintro ⟨⟨sa, sn, sc⟩, ⟨⟩⟩ w3 h3
  dsimp only at h3 ⊢
  have hf : (max 0 (min (65536 : Int) (g.s + 88))).toNat = (g.s + 88).toNat := by generalize hL : (65536 : Int) = L; omega
  rw [hf] at h3
  have S := S.stepE h3.ext
  have hb : Byt (List.replicate (g.s + 88).toNat (255 : Int)) := Byt.replicate (by omega) (by omega) _
  have hL : lenP g (List.replicate (g.s + 88).toNat (255 : Int)) := ⟨hR, by rw [List.length_replicate]; omega⟩
  have hO : ¬ okR (endP g (List.replicate (g.s + 88).toNat (255 : Int))) := by rw [endP_rep]; exact blank_ok (by omega)
  have i3 := h3.ints
  dsimp only at i3
  (repeat ((first | refine S.newB fun _ _ S f _ => ?_ | refine S.la0 rfl ?_ | refine S.la1 rfl ?_ | refine S.la2 rfl ?_ | refine S.la3 rfl ?_ | refine S.la4 rfl ?_ | refine S.la5 rfl ?_ | refine S.ld0 rfl rfl ?_ | refine S.ld1 rfl rfl ?_ | refine S.ld2 rfl rfl ?_ | refine S.ld3 rfl rfl ?_ | refine S.ld4 rfl rfl ?_ | refine S.ld5 rfl rfl ?_ | refine S.st0 (by rfl) fun _ S f => ?_ | refine S.st1 (by rfl) fun _ S f => ?_ | refine S.st2 (by rfl) fun _ S f => ?_ | refine S.st3 (by rfl) fun _ S f => ?_ | refine S.st4 (by rfl) fun _ S f => ?_ | refine S.st5 (by rfl) fun _ S f => ?_ | refine S.su0 (by rfl) fun _ S f => ?_ | refine S.su1 (by rfl) fun _ S f => ?_ | refine S.su2 (by rfl) fun _ S f => ?_ | refine S.su3 (by rfl) fun _ S f => ?_ | refine S.su4 (by rfl) fun _ S f => ?_ | refine S.su5 (by rfl) fun _ S f => ?_ | refine ⟨by decide, ?_⟩); try dsimp only [List.set_cons_zero, List.set_cons_succ, cond_true, cond_false, Bool.not_true, Bool.not_false]))
  refine (PRead_c (g := g) i3 hb).mono ?_
  rintro ⟨⟨(k1 : Int), (k2 : Int), (k3 : Int), (k4 : Int), (k5 : Int), (k6 : Int), ⟨ua, un, uc⟩, ⟨ta, tn, tc⟩, (d : Bool), ⟨⟩⟩, (e2 : Int), ⟨⟩⟩ w5 ⟨x5, -, h5, -⟩
  obtain ⟨-, h5⟩ := h5 hL hO
  dsimp only at h5 ⊢
  subst h5
  have S := S.stepE x5
  refine S.newB fun _ w6 S f6 _ => ?_
  refine S.st0 (by rfl) fun w7 S f7 => ?_
  have X7 : Ext w3 w7 := x5.trans (Fr.ext (f6.trans' f7 fun k hk => .inr (by omega)))
  (repeat ((first | refine S.newB fun _ _ S f _ => ?_ | refine S.la0 rfl ?_ | refine S.la1 rfl ?_ | refine S.la2 rfl ?_ | refine S.la3 rfl ?_ | refine S.la4 rfl ?_ | refine S.la5 rfl ?_ | refine S.ld0 rfl rfl ?_ | refine S.ld1 rfl rfl ?_ | refine S.ld2 rfl rfl ?_ | refine S.ld3 rfl rfl ?_ | refine S.ld4 rfl rfl ?_ | refine S.ld5 rfl rfl ?_ | refine S.st0 (by rfl) fun _ S f => ?_ | refine S.st1 (by rfl) fun _ S f => ?_ | refine S.st2 (by rfl) fun _ S f => ?_ | refine S.st3 (by rfl) fun _ S f => ?_ | refine S.st4 (by rfl) fun _ S f => ?_ | refine S.st5 (by rfl) fun _ S f => ?_ | refine S.su0 (by rfl) fun _ S f => ?_ | refine S.su1 (by rfl) fun _ S f => ?_ | refine S.su2 (by rfl) fun _ S f => ?_ | refine S.su3 (by rfl) fun _ S f => ?_ | refine S.su4 (by rfl) fun _ S f => ?_ | refine S.su5 (by rfl) fun _ S f => ?_ | refine ⟨by decide, ?_⟩); try dsimp only [List.set_cons_zero, List.set_cons_succ, cond_true, cond_false, Bool.not_true, Bool.not_false]))
  refine (PDone_c (g := g) (kind := kind) (i3.ext X7) hb).mono ?_
  rintro ⟨⟨(k1 : Int), (k2 : Int), (k3 : Int), (k4 : Int), (k5 : Int), (k6 : Int), ⟨ua, un, uc⟩, ⟨ta, tn, tc⟩, (d : Bool), ⟨⟩⟩, (o : Bool), ⟨⟩⟩ w8 ⟨x8, h8, -⟩
  obtain ⟨-, h8⟩ := h8 (fun h => hO h.2.1)
  dsimp only at h8 ⊢
  subst h8
  have S := S.stepE x8
  refine S.newB fun _ w9 S f9 _ => ?_
  refine S.st0 (by rfl) fun w10 S f10 => ?_
  have X10 : Ext w3 w10 := X7.trans (x8.trans (Fr.ext (f9.trans' f10 fun k hk => .inr (by omega))))
  refine cond_t rfl (cond_t rfl ?_)
  refine (Blank_c (i3.ext X10) hb).mono ?_
  rintro ⟨(r3 : Bool), ⟨⟩⟩ w3 ⟨h3, rfl⟩
  dsimp only at h3 ⊢
  exact cond_t (by rw [h3, List.length_replicate]; simp) (aw15 S.ext)

theorem PageBlank_of {w : World} {x : TGeo.T} {kind : Int} (g0 : TGeo.ok w x) (g1 : Rng .i64 kind) : CallV Try.prog 5 #[.agg (TGeo.vs x).toArray, .int .i64 kind] w [.one .bool] fun r w' => r.1 = true ∧ Ext w w' := by
  rw [geoT_val]
  exact PageBlank_law

end Go.Proofs.Ytfpkaebmiojicaa.Vc
