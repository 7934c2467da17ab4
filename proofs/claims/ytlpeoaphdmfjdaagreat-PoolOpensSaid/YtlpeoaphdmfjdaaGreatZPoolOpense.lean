/- Texts in one: The plans of functions as plain statements, printed by wip/tools/vcgen.py; the kernel holds each to the code. The contracts of layer 15 (page): pages that are made. Parts of plans, cut out by wip/tools/vccut.py. The contract of the document's Read (layer 14). The contracts of layer 15 (page): what commits a page, and what a page tells. The contracts of layer 15 (page): what bytes tell. The contracts of layer 15 (page): the document's, and small ones. Plain data of layer 24 (pool): what each of its operations makes. The plans of functions as plain statements, printed by wip/tools/vcgen.py; the kernel holds each to the code. The order of the parts. The contracts of pool (layer 24): destroy, program, seal, begin. The contracts of pool (layer 24): begin, open. The contracts of pool (layer 24): new, opened, written, copied. The contracts of layer 13: one step, done by both: the walk. -/
import Derived.Test.YtlpeoaphdmfjdaaGreatZPoolOpensd

set_option linter.unusedVariables false
set_option linter.unusedSimpArgs false
/-! The plans of functions as plain statements, printed by wip/tools/vcgen.py; the kernel holds each to the code. -/
namespace Go.Proofs.YtlpeoaphdmfjdaaGreat.Vc
open Go Go.Eng
def page_Make.A : Ann := .no
def page_Make.P (p0_0 p0_1 p0_2 p0_3 p0_4 p0_5 p1_0 p1_1 p1_2 p1_3 p1_4 p1_5 : Int) (a2 : Option Addr) (n2 c2 : Nat) (a3 : Option Addr) (n3 c3 : Nat) (w : World) (K : SlV × Int × Unit → World → Prop) : Prop :=
  NewV #[.int .i64 p0_0, .int .i64 p0_1, .int .i64 p0_2, .int .i64 p0_3, .int .i64 p0_4, .int .i64 p0_5] 23 w fun b1 w2 =>
  NewV #[.int .i64 p1_0, .int .i64 p1_1, .int .i64 p1_2, .int .u32 p1_3, .int .u64 p1_4, .int .u64 p1_5] 46 w2 fun b3 w4 =>
  LoadA w4 ⟨b1, 0, none⟩ [.int .i64, .int .i64, .int .i64, .int .i64, .int .i64, .int .i64] fun (x5 : Int × Int × Int × Int × Int × Int × Unit) =>
  CallV Tryz.prog 55 #[.agg #[.int .i64 x5.1, .int .i64 x5.2.1, .int .i64 x5.2.2.1, .int .i64 x5.2.2.2.1, .int .i64 x5.2.2.2.2.1, .int .i64 x5.2.2.2.2.2.1]] w4 [.one (.int .i64)] fun (r6 : Int × Unit) w7 =>
  cond (r6.1 != 0)
  (K ((⟨none, 0, 0⟩ : SlV), (2 : Int), ()) w7)
  (cond (((n2 : Nat) : Int) == 0)
  (LoadS w7 ⟨b1, 2, none⟩ (.int .i64) fun (x8 : Int) =>
  CallV Tryz.prog 126 #[.int .u8 255, .int .i64 x8] w7 [.one .sl] fun (r9 : SlV × Unit) w10 =>
  LoadS w10 ⟨b1, 2, none⟩ (.int .i64) fun (x11 : Int) =>
  cond (((r9.1.n : Nat) : Int) != x11)
  (K ((⟨none, 0, 0⟩ : SlV), (2 : Int), ()) w10)
  (LoadA w10 ⟨b3, 0, none⟩ [.int .i64, .int .i64, .int .i64, .int .u32, .int .u64, .int .u64] fun (x12 : Int × Int × Int × Int × Int × Int × Unit) =>
  CallV Tryz.prog 163 #[.agg #[.int .i64 x12.1, .int .i64 x12.2.1, .int .i64 x12.2.2.1, .int .u32 x12.2.2.2.1, .int .u64 x12.2.2.2.2.1, .int .u64 x12.2.2.2.2.2.1], .slice a3 n3 c3] w10 [.one .sl, .one (.int .i64)] fun (r13 : SlV × Int × Unit) w14 =>
  cond (r13.2.1 != 0)
  (K ((⟨none, 0, 0⟩ : SlV), r13.2.1, ()) w14)
  (NewV #[] 5 w14 fun b15 w16 =>
  AppS w16 r9.1.a r9.1.n 1 fun ns21 =>
  AppV w16 5 1 1 (some ⟨b15, 0, none⟩) 0 0 ns21 r9.1.n fun a17 n18 c19 w20 =>
  AppS w20 r13.1.a r13.1.n 1 fun ns26 =>
  AppV w20 5 1 1 a17 n18 c19 ns26 r13.1.n fun a22 n23 c24 w25 =>
  K ((⟨a22, n23, c24⟩ : SlV), (0 : Int), ()) w25)))
  (LoadS w7 ⟨b1, 2, none⟩ (.int .i64) fun (x27 : Int) =>
  cond (((n2 : Nat) : Int) != x27)
  (K ((⟨none, 0, 0⟩ : SlV), (2 : Int), ()) w7)
  (LoadA w7 ⟨b3, 0, none⟩ [.int .i64, .int .i64, .int .i64, .int .u32, .int .u64, .int .u64] fun (x28 : Int × Int × Int × Int × Int × Int × Unit) =>
  CallV Tryz.prog 163 #[.agg #[.int .i64 x28.1, .int .i64 x28.2.1, .int .i64 x28.2.2.1, .int .u32 x28.2.2.2.1, .int .u64 x28.2.2.2.2.1, .int .u64 x28.2.2.2.2.2.1], .slice a3 n3 c3] w7 [.one .sl, .one (.int .i64)] fun (r29 : SlV × Int × Unit) w30 =>
  cond (r29.2.1 != 0)
  (K ((⟨none, 0, 0⟩ : SlV), r29.2.1, ()) w30)
  (NewV #[] 5 w30 fun b31 w32 =>
  AppS w32 a2 n2 1 fun ns37 =>
  AppV w32 5 1 1 (some ⟨b31, 0, none⟩) 0 0 ns37 n2 fun a33 n34 c35 w36 =>
  AppS w36 r29.1.a r29.1.n 1 fun ns42 =>
  AppV w36 5 1 1 a33 n34 c35 ns42 r29.1.n fun a38 n39 c40 w41 =>
  K ((⟨a38, n39, c40⟩ : SlV), (0 : Int), ()) w41))))
theorem page_Make.vc (p0_0 p0_1 p0_2 p0_3 p0_4 p0_5 p1_0 p1_1 p1_2 p1_3 p1_4 p1_5 : Int) (a2 : Option Addr) (n2 c2 : Nat) (a3 : Option Addr) (n3 c3 : Nat) (w : World) (K : SlV × Int × Unit → World → Prop) (h : page_Make.P p0_0 p0_1 p0_2 p0_3 p0_4 p0_5 p1_0 p1_1 p1_2 p1_3 p1_4 p1_5 a2 n2 c2 a3 n3 c3 w K) : CallV Tryz.prog 127 #[.agg #[.int .i64 p0_0, .int .i64 p0_1, .int .i64 p0_2, .int .i64 p0_3, .int .i64 p0_4, .int .i64 p0_5], .agg #[.int .i64 p1_0, .int .i64 p1_1, .int .i64 p1_2, .int .u32 p1_3, .int .u64 p1_4, .int .u64 p1_5], .slice a2 n2 c2, .slice a3 n3 c3] w [.one .sl, .one (.int .i64)] K := by
  refine vcFun.of (A := page_Make.A) (wr := false) okf_ok follows h Tryz.func127 ?_
  kernel_rfl
def page_Commit.A : Ann := .no
def page_Commit.P (p0_0 p0_1 p0_2 p0_3 p0_4 p0_5 : Int) (w : World) (K : SlV × Int × Unit → World → Prop) : Prop :=
  NewV #[.int .i64 p0_0, .int .i64 p0_1, .int .i64 p0_2, .int .i64 p0_3, .int .i64 p0_4, .int .i64 p0_5] 23 w fun b1 w2 =>
  LoadA w2 ⟨b1, 0, none⟩ [.int .i64, .int .i64, .int .i64, .int .i64, .int .i64, .int .i64] fun (x3 : Int × Int × Int × Int × Int × Int × Unit) =>
  CallV Tryz.prog 55 #[.agg #[.int .i64 x3.1, .int .i64 x3.2.1, .int .i64 x3.2.2.1, .int .i64 x3.2.2.2.1, .int .i64 x3.2.2.2.2.1, .int .i64 x3.2.2.2.2.2.1]] w2 [.one (.int .i64)] fun (r4 : Int × Unit) w5 =>
  cond (r4.1 != 0)
  (K ((⟨none, 0, 0⟩ : SlV), (2 : Int), ()) w5)
  (LoadA w5 ⟨b1, 0, none⟩ [.int .i64, .int .i64, .int .i64, .int .i64, .int .i64, .int .i64] fun (x6 : Int × Int × Int × Int × Int × Int × Unit) =>
  CallV Tryz.prog 57 #[.agg #[.int .i64 x6.1, .int .i64 x6.2.1, .int .i64 x6.2.2.1, .int .i64 x6.2.2.2.1, .int .i64 x6.2.2.2.2.1, .int .i64 x6.2.2.2.2.2.1]] w5 [.one (.int .i64)] fun (r7 : Int × Unit) w8 =>
  CallV Tryz.prog 141 #[.int .i64 r7.1] w8 [.one .sl] fun (r9 : SlV × Unit) w10 =>
  K (r9.1, (0 : Int), ()) w10)
theorem page_Commit.vc (p0_0 p0_1 p0_2 p0_3 p0_4 p0_5 : Int) (w : World) (K : SlV × Int × Unit → World → Prop) (h : page_Commit.P p0_0 p0_1 p0_2 p0_3 p0_4 p0_5 w K) : CallV Tryz.prog 91 #[.agg #[.int .i64 p0_0, .int .i64 p0_1, .int .i64 p0_2, .int .i64 p0_3, .int .i64 p0_4, .int .i64 p0_5]] w [.one .sl, .one (.int .i64)] K := by
  refine vcFun.of (A := page_Commit.A) (wr := false) okf_ok follows h Tryz.func91 ?_
  kernel_rfl
def ref15_Make.A : Ann := .two .no (.two .no (.two (.draw (.take 1 (.take 3 (.take 4 (.eff 0 (.eff 2 (.eff 5 (.eff 6 (.take 7 (.done)))))))))) .no))
def ref15_Make.P (p0_0 p0_1 p0_2 p0_3 p0_4 p0_5 p1_0 p1_1 p1_2 p1_3 p1_4 p1_5 : Int) (a2 : Option Addr) (n2 c2 : Nat) (a3 : Option Addr) (n3 c3 : Nat) (w : World) (K : SlV × Unit → World → Prop) : Prop :=
  NewV #[.int .i64 p0_0, .int .i64 p0_1, .int .i64 p0_2, .int .i64 p0_3, .int .i64 p0_4, .int .i64 p0_5] 23 w fun b1 w2 =>
  NewV #[.int .i64 p1_0, .int .i64 p1_1, .int .i64 p1_2, .int .u32 p1_3, .int .u64 p1_4, .int .u64 p1_5] 46 w2 fun b3 w4 =>
  cond (((n2 : Nat) : Int) == 0)
  (LoadS w4 ⟨b1, 2, none⟩ (.int .i64) fun (x5 : Int) =>
  CallV Tryz.prog 122 #[.int .u8 255, .int .i64 x5] w4 [.one .sl] fun (r6 : SlV × Unit) w7 =>
  DrawV fun D8 =>
  (D8 b3 ∧ LoadA w7.drew ⟨b3, 0, none⟩ [.int .i64, .int .i64, .int .i64, .int .u32, .int .u64, .int .u64] fun (x9 : Int × Int × Int × Int × Int × Int × Unit) =>
  NewV #[] 5 w7.drew fun b10 w11 =>
  KeepOn D8 w7.drew w11 ∧
  AppS w11 r6.1.a r6.1.n 1 fun ns16 =>
  AppV w11 5 1 1 (some ⟨b10, 0, none⟩) 0 0 ns16 r6.1.n fun a12 n13 c14 w15 =>
  KeepOn D8 w7.drew w15 ∧
  CallV Tryz.prog 140 #[.agg #[.int .i64 x9.1, .int .i64 x9.2.1, .int .i64 x9.2.2.1, .int .u32 x9.2.2.2.1, .int .u64 x9.2.2.2.2.1, .int .u64 x9.2.2.2.2.2.1], .slice a3 n3 c3] w15 [.one .sl] fun (r17 : SlV × Unit) w18 =>
  KeepOn D8 w7.drew w18 ∧
  AppS w18 r17.1.a r17.1.n 1 fun ns23 =>
  AppV w18 5 1 1 a12 n13 c14 ns23 r17.1.n fun a19 n20 c21 w22 =>
  KeepOn D8 w7.drew w22 ∧
  K ((⟨a19, n20, c21⟩ : SlV), ()) w22))
  (DrawV fun D24 =>
  (D24 b3 ∧ LoadA w4.drew ⟨b3, 0, none⟩ [.int .i64, .int .i64, .int .i64, .int .u32, .int .u64, .int .u64] fun (x25 : Int × Int × Int × Int × Int × Int × Unit) =>
  NewV #[] 5 w4.drew fun b26 w27 =>
  KeepOn D24 w4.drew w27 ∧
  AppS w27 a2 n2 1 fun ns32 =>
  AppV w27 5 1 1 (some ⟨b26, 0, none⟩) 0 0 ns32 n2 fun a28 n29 c30 w31 =>
  KeepOn D24 w4.drew w31 ∧
  CallV Tryz.prog 140 #[.agg #[.int .i64 x25.1, .int .i64 x25.2.1, .int .i64 x25.2.2.1, .int .u32 x25.2.2.2.1, .int .u64 x25.2.2.2.2.1, .int .u64 x25.2.2.2.2.2.1], .slice a3 n3 c3] w31 [.one .sl] fun (r33 : SlV × Unit) w34 =>
  KeepOn D24 w4.drew w34 ∧
  AppS w34 r33.1.a r33.1.n 1 fun ns39 =>
  AppV w34 5 1 1 a28 n29 c30 ns39 r33.1.n fun a35 n36 c37 w38 =>
  KeepOn D24 w4.drew w38 ∧
  K ((⟨a35, n36, c37⟩ : SlV), ()) w38))
theorem ref15_Make.vc (p0_0 p0_1 p0_2 p0_3 p0_4 p0_5 p1_0 p1_1 p1_2 p1_3 p1_4 p1_5 : Int) (a2 : Option Addr) (n2 c2 : Nat) (a3 : Option Addr) (n3 c3 : Nat) (w : World) (K : SlV × Unit → World → Prop) (h : ref15_Make.P p0_0 p0_1 p0_2 p0_3 p0_4 p0_5 p1_0 p1_1 p1_2 p1_3 p1_4 p1_5 a2 n2 c2 a3 n3 c3 w K) : CallV Tryz.prog 88 #[.agg #[.int .i64 p0_0, .int .i64 p0_1, .int .i64 p0_2, .int .i64 p0_3, .int .i64 p0_4, .int .i64 p0_5], .agg #[.int .i64 p1_0, .int .i64 p1_1, .int .i64 p1_2, .int .u32 p1_3, .int .u64 p1_4, .int .u64 p1_5], .slice a2 n2 c2, .slice a3 n3 c3] w [.one .sl] K := by
  refine vcFun.of (A := ref15_Make.A) (wr := false) okf_ok follows h Tryz.func88 ?_
  kernel_rfl
def ref15_Commit.A : Ann := .no
def ref15_Commit.P (p0_0 p0_1 p0_2 p0_3 p0_4 p0_5 : Int) (w : World) (K : SlV × Unit → World → Prop) : Prop :=
  NewV #[.int .i64 p0_0, .int .i64 p0_1, .int .i64 p0_2, .int .i64 p0_3, .int .i64 p0_4, .int .i64 p0_5] 23 w fun b1 w2 =>
  LoadS w2 ⟨b1, 2, none⟩ (.int .i64) fun (x3 : Int) =>
  Rng .i64 (x3 + 80) ∧
  CallV Tryz.prog 122 #[.int .u8 255, .int .i64 (x3 + 80)] w2 [.one .sl] fun (r4 : SlV × Unit) w5 =>
  CallV Tryz.prog 122 #[.int .u8 0, .int .i64 8] w5 [.one .sl] fun (r6 : SlV × Unit) w7 =>
  AppS w7 r6.1.a r6.1.n 1 fun ns12 =>
  AppV w7 5 1 1 r4.1.a r4.1.n r4.1.c ns12 r6.1.n fun a8 n9 c10 w11 =>
  K ((⟨a8, n9, c10⟩ : SlV), ()) w11
theorem ref15_Commit.vc (p0_0 p0_1 p0_2 p0_3 p0_4 p0_5 : Int) (w : World) (K : SlV × Unit → World → Prop) (h : ref15_Commit.P p0_0 p0_1 p0_2 p0_3 p0_4 p0_5 w K) : CallV Tryz.prog 95 #[.agg #[.int .i64 p0_0, .int .i64 p0_1, .int .i64 p0_2, .int .i64 p0_3, .int .i64 p0_4, .int .i64 p0_5]] w [.one .sl] K := by
  refine vcFun.of (A := ref15_Commit.A) (wr := false) okf_ok follows h Tryz.func95 ?_
  kernel_rfl
def ref15_Read.A : Ann := .two .no (.two .no (.two .no (.two .no (.two (.draw (.take 0 (.take 1 (.take 2 (.take 3 (.take 4 (.take 5 (.take 6 (.take 7 (.eff 8 (.take 9 (.eff 10 (.done))))))))))))) .no))))
def ref15_Read.P (p0_0 p0_1 p0_2 p0_3 p0_4 p0_5 : Int) (a1 : Option Addr) (n1 c1 : Nat) (w : World) (K : (Int × Int × Int × Int × Int × Int × SlV × SlV × Bool × Bool × Unit) × Unit → World → Prop) : Prop :=
  NewV #[.int .i64 p0_0, .int .i64 p0_1, .int .i64 p0_2, .int .i64 p0_3, .int .i64 p0_4, .int .i64 p0_5] 23 w fun b1 w2 =>
  NewV #[.int .i64 0, .int .i64 0, .int .i64 0, .int .u32 0, .int .u64 0, .int .u64 0, .slice none 0 0, .slice none 0 0, .bool false, .bool false] 57 w2 fun b3 w4 =>
  LoadS w4 ⟨b1, 2, none⟩ (.int .i64) fun (x5 : Int) =>
  ((0 : Int) ≤ x5 ∧ x5 ≤ ((n1 : Nat) : Int)) ∧
  SubK a1 x5.toNat c1 1 fun a6 =>
  CallV Tryz.prog 112 #[.slice a6 (n1 - x5.toNat) (c1 - x5.toNat)] w4 [.agg [.int .i64, .int .i64, .int .i64, .int .u32, .int .u64, .int .u64], .one .bool] fun (r7 : (Int × Int × Int × Int × Int × Int × Unit) × Bool × Unit) w8 =>
  NewV #[.int .i64 0, .int .i64 0, .int .i64 0, .int .u32 0, .int .u64 0, .int .u64 0] 46 w8 fun b9 w10 =>
  StoreV w10 ⟨b9, 0, none⟩ [.int .i64 r7.1.1, .int .i64 r7.1.2.1, .int .i64 r7.1.2.2.1, .int .u32 r7.1.2.2.2.1, .int .u64 r7.1.2.2.2.2.1, .int .u64 r7.1.2.2.2.2.2.1] fun w11 =>
  cond (!r7.2.1)
  (StoreV w11 ⟨b3, 0, none⟩ [.int .i64 0, .int .i64 0, .int .i64 0, .int .u32 0, .int .u64 0, .int .u64 0, .slice none 0 0, .slice none 0 0, .bool false, .bool false] fun w12 =>
  LoadA w12 ⟨b3, 0, none⟩ [.int .i64, .int .i64, .int .i64, .int .u32, .int .u64, .int .u64, .sl, .sl, .bool, .bool] fun (x13 : Int × Int × Int × Int × Int × Int × SlV × SlV × Bool × Bool × Unit) =>
  K ((x13.1, x13.2.1, x13.2.2.1, x13.2.2.2.1, x13.2.2.2.2.1, x13.2.2.2.2.2.1, x13.2.2.2.2.2.2.1, x13.2.2.2.2.2.2.2.1, x13.2.2.2.2.2.2.2.2.1, x13.2.2.2.2.2.2.2.2.2.1, ()), ()) w12)
  (DrawV fun D14 =>
  (D14 b9 ∧ LoadA w11.drew ⟨b9, 0, none⟩ [.int .i64, .int .i64, .int .i64, .int .u32, .int .u64, .int .u64] fun (x15 : Int × Int × Int × Int × Int × Int × Unit) =>
  (D14 b1 ∧ LoadS w11.drew ⟨b1, 2, none⟩ (.int .i64) fun (x16 : Int) =>
  ((0 : Int) ≤ x16 ∧ x16 ≤ ((c1 : Nat) : Int)) ∧
  SubK a1 0 c1 1 fun a17 =>
  ((0 : Int) ≤ (48 : Int) ∧ (48 : Int) ≤ (80 : Int) ∧ (80 : Int) ≤ ((c1 - x5.toNat : Nat) : Int)) ∧
  SubK a6 48 (c1 - x5.toNat) 1 fun a18 =>
  CallV Tryz.prog 113 #[.slice a6 (n1 - x5.toNat) (c1 - x5.toNat)] w11.drew [.one .bool] fun (r19 : Bool × Unit) w20 =>
  KeepOn D14 w11.drew w20 ∧
  StoreV w20 ⟨b3, 0, none⟩ [.int .i64 x15.1, .int .i64 x15.2.1, .int .i64 x15.2.2.1, .int .u32 x15.2.2.2.1, .int .u64 x15.2.2.2.2.1, .int .u64 x15.2.2.2.2.2.1, .slice a17 (x16.toNat - 0) (c1 - 0), .slice a18 (80 - 48) ((c1 - x5.toNat) - 48), .bool r19.1, .bool true] fun w21 =>
  KeepOn D14 w11.drew w21 ∧
  LoadA w21 ⟨b3, 0, none⟩ [.int .i64, .int .i64, .int .i64, .int .u32, .int .u64, .int .u64, .sl, .sl, .bool, .bool] fun (x22 : Int × Int × Int × Int × Int × Int × SlV × SlV × Bool × Bool × Unit) =>
  K ((x22.1, x22.2.1, x22.2.2.1, x22.2.2.2.1, x22.2.2.2.2.1, x22.2.2.2.2.2.1, x22.2.2.2.2.2.2.1, x22.2.2.2.2.2.2.2.1, x22.2.2.2.2.2.2.2.2.1, x22.2.2.2.2.2.2.2.2.2.1, ()), ()) w21)))
theorem ref15_Read.vc (p0_0 p0_1 p0_2 p0_3 p0_4 p0_5 : Int) (a1 : Option Addr) (n1 c1 : Nat) (w : World) (K : (Int × Int × Int × Int × Int × Int × SlV × SlV × Bool × Bool × Unit) × Unit → World → Prop) (h : ref15_Read.P p0_0 p0_1 p0_2 p0_3 p0_4 p0_5 a1 n1 c1 w K) : CallV Tryz.prog 51 #[.agg #[.int .i64 p0_0, .int .i64 p0_1, .int .i64 p0_2, .int .i64 p0_3, .int .i64 p0_4, .int .i64 p0_5], .slice a1 n1 c1] w [.agg [.int .i64, .int .i64, .int .i64, .int .u32, .int .u64, .int .u64, .sl, .sl, .bool, .bool]] K := by
  refine vcFun.of (A := ref15_Read.A) (wr := false) okf_ok follows h Tryz.func51 ?_
  kernel_rfl
def ref15_Done.A : Ann := .no
def ref15_Done.P (p0_0 p0_1 p0_2 p0_3 p0_4 p0_5 : Int) (a1 : Option Addr) (n1 c1 : Nat) (p2 : Int) (w : World) (K : (Int × Int × Int × Int × Int × Int × SlV × SlV × Bool × Bool × Unit) × Unit → World → Prop) : Prop :=
  NewV #[.int .i64 p0_0, .int .i64 p0_1, .int .i64 p0_2, .int .i64 p0_3, .int .i64 p0_4, .int .i64 p0_5] 23 w fun b1 w2 =>
  NewV #[.int .i64 0, .int .i64 0, .int .i64 0, .int .u32 0, .int .u64 0, .int .u64 0, .slice none 0 0, .slice none 0 0, .bool false, .bool false] 57 w2 fun b3 w4 =>
  LoadA w4 ⟨b1, 0, none⟩ [.int .i64, .int .i64, .int .i64, .int .i64, .int .i64, .int .i64] fun (x5 : Int × Int × Int × Int × Int × Int × Unit) =>
  CallV Tryz.prog 51 #[.agg #[.int .i64 x5.1, .int .i64 x5.2.1, .int .i64 x5.2.2.1, .int .i64 x5.2.2.2.1, .int .i64 x5.2.2.2.2.1, .int .i64 x5.2.2.2.2.2.1], .slice a1 n1 c1] w4 [.agg [.int .i64, .int .i64, .int .i64, .int .u32, .int .u64, .int .u64, .sl, .sl, .bool, .bool]] fun (r6 : (Int × Int × Int × Int × Int × Int × SlV × SlV × Bool × Bool × Unit) × Unit) w7 =>
  NewV #[.int .i64 0, .int .i64 0, .int .i64 0, .int .u32 0, .int .u64 0, .int .u64 0, .slice none 0 0, .slice none 0 0, .bool false, .bool false] 57 w7 fun b8 w9 =>
  StoreV w9 ⟨b8, 0, none⟩ [.int .i64 r6.1.1, .int .i64 r6.1.2.1, .int .i64 r6.1.2.2.1, .int .u32 r6.1.2.2.2.1, .int .u64 r6.1.2.2.2.2.1, .int .u64 r6.1.2.2.2.2.2.1, .slice r6.1.2.2.2.2.2.2.1.a r6.1.2.2.2.2.2.2.1.n r6.1.2.2.2.2.2.2.1.c, .slice r6.1.2.2.2.2.2.2.2.1.a r6.1.2.2.2.2.2.2.2.1.n r6.1.2.2.2.2.2.2.2.1.c, .bool r6.1.2.2.2.2.2.2.2.2.1, .bool r6.1.2.2.2.2.2.2.2.2.2.1] fun w10 =>
  LoadS w10 ⟨b8, 9, none⟩ .bool fun (x11 : Bool) =>
  cond (!x11)
  (StoreV w10 ⟨b3, 0, none⟩ [.int .i64 0, .int .i64 0, .int .i64 0, .int .u32 0, .int .u64 0, .int .u64 0, .slice none 0 0, .slice none 0 0, .bool false, .bool false] fun w12 =>
  LoadA w12 ⟨b3, 0, none⟩ [.int .i64, .int .i64, .int .i64, .int .u32, .int .u64, .int .u64, .sl, .sl, .bool, .bool] fun (x13 : Int × Int × Int × Int × Int × Int × SlV × SlV × Bool × Bool × Unit) =>
  K ((x13.1, x13.2.1, x13.2.2.1, x13.2.2.2.1, x13.2.2.2.2.1, x13.2.2.2.2.2.1, x13.2.2.2.2.2.2.1, x13.2.2.2.2.2.2.2.1, x13.2.2.2.2.2.2.2.2.1, x13.2.2.2.2.2.2.2.2.2.1, ()), ()) w12)
  (LoadS w10 ⟨b8, 8, none⟩ .bool fun (x14 : Bool) =>
  cond (!x14)
  (StoreV w10 ⟨b3, 0, none⟩ [.int .i64 0, .int .i64 0, .int .i64 0, .int .u32 0, .int .u64 0, .int .u64 0, .slice none 0 0, .slice none 0 0, .bool false, .bool false] fun w15 =>
  LoadA w15 ⟨b3, 0, none⟩ [.int .i64, .int .i64, .int .i64, .int .u32, .int .u64, .int .u64, .sl, .sl, .bool, .bool] fun (x16 : Int × Int × Int × Int × Int × Int × SlV × SlV × Bool × Bool × Unit) =>
  K ((x16.1, x16.2.1, x16.2.2.1, x16.2.2.2.1, x16.2.2.2.2.1, x16.2.2.2.2.2.1, x16.2.2.2.2.2.2.1, x16.2.2.2.2.2.2.2.1, x16.2.2.2.2.2.2.2.2.1, x16.2.2.2.2.2.2.2.2.2.1, ()), ()) w15)
  (LoadS w10 ⟨b8, 0, none⟩ (.int .i64) fun (x17 : Int) =>
  cond (x17 != p2)
  (StoreV w10 ⟨b3, 0, none⟩ [.int .i64 0, .int .i64 0, .int .i64 0, .int .u32 0, .int .u64 0, .int .u64 0, .slice none 0 0, .slice none 0 0, .bool false, .bool false] fun w18 =>
  LoadA w18 ⟨b3, 0, none⟩ [.int .i64, .int .i64, .int .i64, .int .u32, .int .u64, .int .u64, .sl, .sl, .bool, .bool] fun (x19 : Int × Int × Int × Int × Int × Int × SlV × SlV × Bool × Bool × Unit) =>
  K ((x19.1, x19.2.1, x19.2.2.1, x19.2.2.2.1, x19.2.2.2.2.1, x19.2.2.2.2.2.1, x19.2.2.2.2.2.2.1, x19.2.2.2.2.2.2.2.1, x19.2.2.2.2.2.2.2.2.1, x19.2.2.2.2.2.2.2.2.2.1, ()), ()) w18)
  (LoadA w10 ⟨b8, 0, none⟩ [.int .i64, .int .i64, .int .i64, .int .u32, .int .u64, .int .u64, .sl, .sl, .bool, .bool] fun (x20 : Int × Int × Int × Int × Int × Int × SlV × SlV × Bool × Bool × Unit) =>
  StoreV w10 ⟨b3, 0, none⟩ [.int .i64 x20.1, .int .i64 x20.2.1, .int .i64 x20.2.2.1, .int .u32 x20.2.2.2.1, .int .u64 x20.2.2.2.2.1, .int .u64 x20.2.2.2.2.2.1, .slice x20.2.2.2.2.2.2.1.a x20.2.2.2.2.2.2.1.n x20.2.2.2.2.2.2.1.c, .slice x20.2.2.2.2.2.2.2.1.a x20.2.2.2.2.2.2.2.1.n x20.2.2.2.2.2.2.2.1.c, .bool x20.2.2.2.2.2.2.2.2.1, .bool x20.2.2.2.2.2.2.2.2.2.1] fun w21 =>
  LoadA w21 ⟨b3, 0, none⟩ [.int .i64, .int .i64, .int .i64, .int .u32, .int .u64, .int .u64, .sl, .sl, .bool, .bool] fun (x22 : Int × Int × Int × Int × Int × Int × SlV × SlV × Bool × Bool × Unit) =>
  K ((x22.1, x22.2.1, x22.2.2.1, x22.2.2.2.1, x22.2.2.2.2.1, x22.2.2.2.2.2.1, x22.2.2.2.2.2.2.1, x22.2.2.2.2.2.2.2.1, x22.2.2.2.2.2.2.2.2.1, x22.2.2.2.2.2.2.2.2.2.1, ()), ()) w21)))
theorem ref15_Done.vc (p0_0 p0_1 p0_2 p0_3 p0_4 p0_5 : Int) (a1 : Option Addr) (n1 c1 : Nat) (p2 : Int) (w : World) (K : (Int × Int × Int × Int × Int × Int × SlV × SlV × Bool × Bool × Unit) × Unit → World → Prop) (h : ref15_Done.P p0_0 p0_1 p0_2 p0_3 p0_4 p0_5 a1 n1 c1 p2 w K) : CallV Tryz.prog 13 #[.agg #[.int .i64 p0_0, .int .i64 p0_1, .int .i64 p0_2, .int .i64 p0_3, .int .i64 p0_4, .int .i64 p0_5], .slice a1 n1 c1, .int .i64 p2] w [.agg [.int .i64, .int .i64, .int .i64, .int .u32, .int .u64, .int .u64, .sl, .sl, .bool, .bool]] K := by
  refine vcFun.of (A := ref15_Done.A) (wr := false) okf_ok follows h Tryz.func13 ?_
  kernel_rfl
end Go.Proofs.YtlpeoaphdmfjdaaGreat.Vc
/-! The contracts of layer 15 (page): pages that are made. -/
namespace Go.Proofs.YtlpeoaphdmfjdaaGreat.Vc
open Go Go.Eng Go.RowKit
def payL (g : Geo) (pl : List Int) : List Int := if pl.length = 0 then List.replicate g.s.toNat 255 else pl
def mkL (g : Geo) (h : Hd) (pl tg : List Int) : List Int := payL g pl ++ endL h tg
def comL (g : Geo) : List Int := List.replicate (g.s + 80).toNat 255 ++ List.replicate 8 0
def PRight (g : Geo) (h : Hd) (n m : Nat) : Prop := Right g ∧ ERight h m ∧ (n = 0 ∨ (n : Int) = g.s)
instance (g : Geo) (h : Hd) (n m : Nat) : Decidable (PRight g h n m) := by unfold PRight; infer_instance
theorem Make_c {w : World} {g : Geo} {h : Hd} {a a2 : Option Addr} {n c m c2 : Nat} {xs ts : List Int} (hg : h.rng) (hx : Ints w .u8 a n c xs) (ht : Ints w .u8 a2 m c2 ts) :
    CallV Tryz.prog 127 #[g.val, h.val, .slice a n c, .slice a2 m c2] w [.one .sl, .one (.int .i64)] fun r w' => Ext w w' ∧ (PRight g h n m → Res w w' r.1 (mkL g h xs ts) ∧ r.2.1 = (0 : Int)) ∧ (¬ PRight g h n m → r.1 = (⟨none, 0, 0⟩ : SlV) ∧ r.2.1 = (2 : Int)) := by
  apply page_Make.vc
  unfold page_Make.P
  have S := Sep.start NoB w
  have no : ∀ {w' : World}, ¬ PRight g h n m → Ext w w' → (Ext w w' ∧ (PRight g h n m → Res w w' (⟨none, 0, 0⟩ : SlV) (mkL g h xs ts) ∧ (2 : Int) = (0 : Int)) ∧ (¬ PRight g h n m → (⟨none, 0, 0⟩ : SlV) = (⟨none, 0, 0⟩ : SlV) ∧ (2 : Int) = (2 : Int))) := fun hr he => ⟨he, fun h => absurd h hr, fun _ => ⟨rfl, rfl⟩⟩
  have lx := hx.len
  have lt := ht.len
  (repeat ((first | refine S.newB fun _ _ S f _ => ?_ | refine S.la0 rfl ?_ | refine S.la1 rfl ?_ | refine S.la2 rfl ?_ | refine S.la3 rfl ?_ | refine S.la4 rfl ?_ | refine S.la5 rfl ?_ | refine S.ld0 rfl rfl ?_ | refine S.ld1 rfl rfl ?_ | refine S.ld2 rfl rfl ?_ | refine S.ld3 rfl rfl ?_ | refine S.ld4 rfl rfl ?_ | refine S.ld5 rfl rfl ?_ | refine S.st0 (by rfl) fun _ S f => ?_ | refine S.st1 (by rfl) fun _ S f => ?_ | refine S.st2 (by rfl) fun _ S f => ?_ | refine S.st3 (by rfl) fun _ S f => ?_ | refine S.st4 (by rfl) fun _ S f => ?_ | refine S.st5 (by rfl) fun _ S f => ?_ | refine S.su0 (by rfl) fun _ S f => ?_ | refine S.su1 (by rfl) fun _ S f => ?_ | refine S.su2 (by rfl) fun _ S f => ?_ | refine S.su3 (by rfl) fun _ S f => ?_ | refine S.su4 (by rfl) fun _ S f => ?_ | refine S.su5 (by rfl) fun _ S f => ?_ | refine ⟨by decide, ?_⟩); try dsimp only [List.set_cons_zero, List.set_cons_succ, cond_true, cond_false, Bool.not_true, Bool.not_false]))
  refine (Check_c (g := g)).mono ?_
  rintro ⟨(r : Int), ⟨⟩⟩ w2 ⟨h2, e2⟩
  dsimp only at h2 ⊢
  have S := S.stepE e2
  subst h2
  by_cases hR : Right g
  · refine cond_f (by unfold chkE; rw [if_pos hR]; rfl) ?_
    have hs := hR.sec
    refine cond_eq (fun h0 => ?_) (fun h0 => ?_)
    · (repeat ((first | refine S.newB fun _ _ S f _ => ?_ | refine S.la0 rfl ?_ | refine S.la1 rfl ?_ | refine S.la2 rfl ?_ | refine S.la3 rfl ?_ | refine S.la4 rfl ?_ | refine S.la5 rfl ?_ | refine S.ld0 rfl rfl ?_ | refine S.ld1 rfl rfl ?_ | refine S.ld2 rfl rfl ?_ | refine S.ld3 rfl rfl ?_ | refine S.ld4 rfl rfl ?_ | refine S.ld5 rfl rfl ?_ | refine S.st0 (by rfl) fun _ S f => ?_ | refine S.st1 (by rfl) fun _ S f => ?_ | refine S.st2 (by rfl) fun _ S f => ?_ | refine S.st3 (by rfl) fun _ S f => ?_ | refine S.st4 (by rfl) fun _ S f => ?_ | refine S.st5 (by rfl) fun _ S f => ?_ | refine S.su0 (by rfl) fun _ S f => ?_ | refine S.su1 (by rfl) fun _ S f => ?_ | refine S.su2 (by rfl) fun _ S f => ?_ | refine S.su3 (by rfl) fun _ S f => ?_ | refine S.su4 (by rfl) fun _ S f => ?_ | refine S.su5 (by rfl) fun _ S f => ?_ | refine ⟨by decide, ?_⟩); try dsimp only [List.set_cons_zero, List.set_cons_succ, cond_true, cond_false, Bool.not_true, Bool.not_false]))
      refine Fill_c.mono ?_
      rintro ⟨⟨sa, sn, sc⟩, ⟨⟩⟩ w3 h3
      dsimp only at h3 ⊢
      have l3 := h3.ints.len
      rw [List.length_replicate, fill_sec hs] at l3
      have S := S.res h3
      rw [fill_sec hs] at S
      dsimp only at l3 S
      subst l3
      (repeat ((first | refine S.newB fun _ _ S f _ => ?_ | refine S.la0 rfl ?_ | refine S.la1 rfl ?_ | refine S.la2 rfl ?_ | refine S.la3 rfl ?_ | refine S.la4 rfl ?_ | refine S.la5 rfl ?_ | refine S.ld0 rfl rfl ?_ | refine S.ld1 rfl rfl ?_ | refine S.ld2 rfl rfl ?_ | refine S.ld3 rfl rfl ?_ | refine S.ld4 rfl rfl ?_ | refine S.ld5 rfl rfl ?_ | refine S.st0 (by rfl) fun _ S f => ?_ | refine S.st1 (by rfl) fun _ S f => ?_ | refine S.st2 (by rfl) fun _ S f => ?_ | refine S.st3 (by rfl) fun _ S f => ?_ | refine S.st4 (by rfl) fun _ S f => ?_ | refine S.st5 (by rfl) fun _ S f => ?_ | refine S.su0 (by rfl) fun _ S f => ?_ | refine S.su1 (by rfl) fun _ S f => ?_ | refine S.su2 (by rfl) fun _ S f => ?_ | refine S.su3 (by rfl) fun _ S f => ?_ | refine S.su4 (by rfl) fun _ S f => ?_ | refine S.su5 (by rfl) fun _ S f => ?_ | refine ⟨by decide, ?_⟩); try dsimp only [List.set_cons_zero, List.set_cons_succ, cond_true, cond_false, Bool.not_true, Bool.not_false]))
      refine cond_ne (fun h => absurd (by omega) h) fun _ => ?_
      (repeat ((first | refine S.newB fun _ _ S f _ => ?_ | refine S.la0 rfl ?_ | refine S.la1 rfl ?_ | refine S.la2 rfl ?_ | refine S.la3 rfl ?_ | refine S.la4 rfl ?_ | refine S.la5 rfl ?_ | refine S.ld0 rfl rfl ?_ | refine S.ld1 rfl rfl ?_ | refine S.ld2 rfl rfl ?_ | refine S.ld3 rfl rfl ?_ | refine S.ld4 rfl rfl ?_ | refine S.ld5 rfl rfl ?_ | refine S.st0 (by rfl) fun _ S f => ?_ | refine S.st1 (by rfl) fun _ S f => ?_ | refine S.st2 (by rfl) fun _ S f => ?_ | refine S.st3 (by rfl) fun _ S f => ?_ | refine S.st4 (by rfl) fun _ S f => ?_ | refine S.st5 (by rfl) fun _ S f => ?_ | refine S.su0 (by rfl) fun _ S f => ?_ | refine S.su1 (by rfl) fun _ S f => ?_ | refine S.su2 (by rfl) fun _ S f => ?_ | refine S.su3 (by rfl) fun _ S f => ?_ | refine S.su4 (by rfl) fun _ S f => ?_ | refine S.su5 (by rfl) fun _ S f => ?_ | refine ⟨by decide, ?_⟩); try dsimp only [List.set_cons_zero, List.set_cons_succ, cond_true, cond_false, Bool.not_true, Bool.not_false]))
      refine (End_c hg (ht.ext S.ext)).mono ?_
      rintro ⟨⟨ea, en, ec⟩, (e4 : Int), ⟨⟩⟩ w4 ⟨x4, h4, h4'⟩
      dsimp only at h4 h4' ⊢
      by_cases hE : ERight h m
      · obtain ⟨k1, k2⟩ := h4 hE
        refine cond_f (by rw [k2]; rfl) ?_
        have l4 := k1.ints.len
        have l4' : (endL h ts).length = 88 := endL_length h (by have := hE.2; omega)
        have S := S.res ⟨x4, k1.own⟩
        dsimp only at S l4
        (repeat ((first | refine S.newB fun _ _ S f _ => ?_ | refine S.la0 rfl ?_ | refine S.la1 rfl ?_ | refine S.la2 rfl ?_ | refine S.la3 rfl ?_ | refine S.la4 rfl ?_ | refine S.la5 rfl ?_ | refine S.ld0 rfl rfl ?_ | refine S.ld1 rfl rfl ?_ | refine S.ld2 rfl rfl ?_ | refine S.ld3 rfl rfl ?_ | refine S.ld4 rfl rfl ?_ | refine S.ld5 rfl rfl ?_ | refine S.st0 (by rfl) fun _ S f => ?_ | refine S.st1 (by rfl) fun _ S f => ?_ | refine S.st2 (by rfl) fun _ S f => ?_ | refine S.st3 (by rfl) fun _ S f => ?_ | refine S.st4 (by rfl) fun _ S f => ?_ | refine S.st5 (by rfl) fun _ S f => ?_ | refine S.su0 (by rfl) fun _ S f => ?_ | refine S.su1 (by rfl) fun _ S f => ?_ | refine S.su2 (by rfl) fun _ S f => ?_ | refine S.su3 (by rfl) fun _ S f => ?_ | refine S.su4 (by rfl) fun _ S f => ?_ | refine S.su5 (by rfl) fun _ S f => ?_ | refine ⟨by decide, ?_⟩); try dsimp only [List.set_cons_zero, List.set_cons_succ, cond_true, cond_false, Bool.not_true, Bool.not_false]))
        have S := S.asOwn (sz := 1) (n := 0) rfl (by omega) oneAll.nil
        refine S.ab0 (xs := []) S.in2 (by omega) fun a5 c5 w5 S f5 => ?_
        refine S.ab0 S.in1 (by omega) fun a6 c6 w6 S f6 => ?_
        have R := S.out
        have hp : [] ++ List.replicate g.s.toNat 255 ++ endL h ts = mkL g h xs ts := by unfold mkL payL; rw [if_pos (by omega)]; rfl
        rw [hp] at R
        refine ⟨S.ext, fun _ => ⟨R, rfl⟩, fun hn => absurd ⟨hR, hE, .inl (by omega)⟩ hn⟩
      · obtain ⟨k1, k2⟩ := h4' hE
        rw [k2]
        exact cond_t rfl (no (fun hp => hE hp.2.1) (S.ext.trans x4))
    · (repeat ((first | refine S.newB fun _ _ S f _ => ?_ | refine S.la0 rfl ?_ | refine S.la1 rfl ?_ | refine S.la2 rfl ?_ | refine S.la3 rfl ?_ | refine S.la4 rfl ?_ | refine S.la5 rfl ?_ | refine S.ld0 rfl rfl ?_ | refine S.ld1 rfl rfl ?_ | refine S.ld2 rfl rfl ?_ | refine S.ld3 rfl rfl ?_ | refine S.ld4 rfl rfl ?_ | refine S.ld5 rfl rfl ?_ | refine S.st0 (by rfl) fun _ S f => ?_ | refine S.st1 (by rfl) fun _ S f => ?_ | refine S.st2 (by rfl) fun _ S f => ?_ | refine S.st3 (by rfl) fun _ S f => ?_ | refine S.st4 (by rfl) fun _ S f => ?_ | refine S.st5 (by rfl) fun _ S f => ?_ | refine S.su0 (by rfl) fun _ S f => ?_ | refine S.su1 (by rfl) fun _ S f => ?_ | refine S.su2 (by rfl) fun _ S f => ?_ | refine S.su3 (by rfl) fun _ S f => ?_ | refine S.su4 (by rfl) fun _ S f => ?_ | refine S.su5 (by rfl) fun _ S f => ?_ | refine ⟨by decide, ?_⟩); try dsimp only [List.set_cons_zero, List.set_cons_succ, cond_true, cond_false, Bool.not_true, Bool.not_false]))
      refine cond_ne (fun hne => no (fun hp => by have := hp.2.2; omega) S.ext) fun heq => ?_
      (repeat ((first | refine S.newB fun _ _ S f _ => ?_ | refine S.la0 rfl ?_ | refine S.la1 rfl ?_ | refine S.la2 rfl ?_ | refine S.la3 rfl ?_ | refine S.la4 rfl ?_ | refine S.la5 rfl ?_ | refine S.ld0 rfl rfl ?_ | refine S.ld1 rfl rfl ?_ | refine S.ld2 rfl rfl ?_ | refine S.ld3 rfl rfl ?_ | refine S.ld4 rfl rfl ?_ | refine S.ld5 rfl rfl ?_ | refine S.st0 (by rfl) fun _ S f => ?_ | refine S.st1 (by rfl) fun _ S f => ?_ | refine S.st2 (by rfl) fun _ S f => ?_ | refine S.st3 (by rfl) fun _ S f => ?_ | refine S.st4 (by rfl) fun _ S f => ?_ | refine S.st5 (by rfl) fun _ S f => ?_ | refine S.su0 (by rfl) fun _ S f => ?_ | refine S.su1 (by rfl) fun _ S f => ?_ | refine S.su2 (by rfl) fun _ S f => ?_ | refine S.su3 (by rfl) fun _ S f => ?_ | refine S.su4 (by rfl) fun _ S f => ?_ | refine S.su5 (by rfl) fun _ S f => ?_ | refine ⟨by decide, ?_⟩); try dsimp only [List.set_cons_zero, List.set_cons_succ, cond_true, cond_false, Bool.not_true, Bool.not_false]))
      refine (End_c hg (ht.ext S.ext)).mono ?_
      rintro ⟨⟨ea, en, ec⟩, (e4 : Int), ⟨⟩⟩ w4 ⟨x4, h4, h4'⟩
      dsimp only at h4 h4' ⊢
      by_cases hE : ERight h m
      · obtain ⟨k1, k2⟩ := h4 hE
        refine cond_f (by rw [k2]; rfl) ?_
        have l4 := k1.ints.len
        have l4' : (endL h ts).length = 88 := endL_length h (by have := hE.2; omega)
        have S := S.res ⟨x4, k1.own⟩
        dsimp only at S l4
        (repeat ((first | refine S.newB fun _ _ S f _ => ?_ | refine S.la0 rfl ?_ | refine S.la1 rfl ?_ | refine S.la2 rfl ?_ | refine S.la3 rfl ?_ | refine S.la4 rfl ?_ | refine S.la5 rfl ?_ | refine S.ld0 rfl rfl ?_ | refine S.ld1 rfl rfl ?_ | refine S.ld2 rfl rfl ?_ | refine S.ld3 rfl rfl ?_ | refine S.ld4 rfl rfl ?_ | refine S.ld5 rfl rfl ?_ | refine S.st0 (by rfl) fun _ S f => ?_ | refine S.st1 (by rfl) fun _ S f => ?_ | refine S.st2 (by rfl) fun _ S f => ?_ | refine S.st3 (by rfl) fun _ S f => ?_ | refine S.st4 (by rfl) fun _ S f => ?_ | refine S.st5 (by rfl) fun _ S f => ?_ | refine S.su0 (by rfl) fun _ S f => ?_ | refine S.su1 (by rfl) fun _ S f => ?_ | refine S.su2 (by rfl) fun _ S f => ?_ | refine S.su3 (by rfl) fun _ S f => ?_ | refine S.su4 (by rfl) fun _ S f => ?_ | refine S.su5 (by rfl) fun _ S f => ?_ | refine ⟨by decide, ?_⟩); try dsimp only [List.set_cons_zero, List.set_cons_succ, cond_true, cond_false, Bool.not_true, Bool.not_false]))
        have S := S.asOwn (sz := 1) (n := 0) rfl (by omega) oneAll.nil
        refine S.ab0 (xs := []) (hx.ext S.ext) (by omega) fun a5 c5 w5 S f5 => ?_
        refine S.ab0 S.in1 (by omega) fun a6 c6 w6 S f6 => ?_
        have R := S.out
        have hp : [] ++ xs ++ endL h ts = mkL g h xs ts := by unfold mkL payL; rw [if_neg (by omega)]; rfl
        rw [hp] at R
        refine ⟨S.ext, fun _ => ⟨R, rfl⟩, fun hn => absurd ⟨hR, hE, .inr (by omega)⟩ hn⟩
      · obtain ⟨k1, k2⟩ := h4' hE
        rw [k2]
        exact cond_t rfl (no (fun hp => hE hp.2.1) (S.ext.trans x4))
  · refine cond_t (by unfold chkE; rw [if_neg hR]; rfl) ?_
    exact no (fun hp => hR hp.1) S.ext
end Go.Proofs.YtlpeoaphdmfjdaaGreat.Vc
/-! Parts of plans, cut out by wip/tools/vccut.py. -/
namespace Go.Proofs.YtlpeoaphdmfjdaaGreat.Vc
open Go Go.Eng
def ref14_Read.T (w21 : World) (b19 : Nat) (b1 : Nat) (K : (Int × Int × Int × Int × Int × Int × Unit) × Bool × Unit → World → Prop) (c0 : Nat) (a0 : Option Addr) : Prop :=
LoadA w21 ⟨b19, 0, none⟩ [.int .i64, .int .i64, .int .i64, .int .u32, .int .u64, .int .u64] fun (x22 : Int × Int × Int × Int × Int × Int × Unit) =>
  CallV Tryz.prog 86 #[.agg #[.int .i64 x22.1, .int .i64 x22.2.1, .int .i64 x22.2.2.1, .int .u32 x22.2.2.2.1, .int .u64 x22.2.2.2.2.1, .int .u64 x22.2.2.2.2.2.1]] w21 [.one .bool] fun (r23 : Bool × Unit) w24 =>
  cond (!r23.1)
  (StoreV w24 ⟨b1, 0, none⟩ [.int .i64 0, .int .i64 0, .int .i64 0, .int .u32 0, .int .u64 0, .int .u64 0] fun w25 =>
  LoadA w25 ⟨b1, 0, none⟩ [.int .i64, .int .i64, .int .i64, .int .u32, .int .u64, .int .u64] fun (x26 : Int × Int × Int × Int × Int × Int × Unit) =>
  K ((x26.1, x26.2.1, x26.2.2.1, x26.2.2.2.1, x26.2.2.2.2.1, x26.2.2.2.2.2.1, ()), false, ()) w25)
  (DrawV fun D27 =>
  (D27 b19 ∧ LoadA w24.drew ⟨b19, 0, none⟩ [.int .i64, .int .i64, .int .i64, .int .u32, .int .u64, .int .u64] fun (x28 : Int × Int × Int × Int × Int × Int × Unit) =>
  (D27 b19 ∧ LoadA w24.drew ⟨b19, 0, none⟩ [.int .i64, .int .i64, .int .i64, .int .u32, .int .u64, .int .u64] fun (x29 : Int × Int × Int × Int × Int × Int × Unit) =>
  ((0 : Int) ≤ (48 : Int) ∧ (48 : Int) ≤ ((c0 : Nat) : Int)) ∧
  SubK a0 0 c0 1 fun a30 =>
  CallV Tryz.prog 160 #[.agg #[.int .i64 x28.1, .int .i64 x28.2.1, .int .i64 x28.2.2.1, .int .u32 x28.2.2.2.1, .int .u64 x28.2.2.2.2.1, .int .u64 x28.2.2.2.2.2.1]] w24.drew [.one .sl] fun (r31 : SlV × Unit) w32 =>
  KeepOn D27 w24.drew w32 ∧
  CallV Tryz.prog 160 #[.agg #[.int .i64 x29.1, .int .i64 x29.2.1, .int .i64 x29.2.2.1, .int .u32 x29.2.2.2.1, .int .u64 x29.2.2.2.2.1, .int .u64 x29.2.2.2.2.2.1]] w32 [.one .sl] fun (r33 : SlV × Unit) w34 =>
  KeepOn D27 w24.drew w34 ∧
  CallV Tryz.prog 161 #[.slice r33.1.a r33.1.n r33.1.c] w34 [.one .sl] fun (r35 : SlV × Unit) w36 =>
  KeepOn D27 w24.drew w36 ∧
  AppS w36 r35.1.a r35.1.n 1 fun ns41 =>
  AppV w36 5 1 1 r31.1.a r31.1.n r31.1.c ns41 r35.1.n fun a37 n38 c39 w40 =>
  KeepOn D27 w24.drew w40 ∧
  CallV Tryz.prog 25 #[.slice a37 n38 c39, .slice a30 (48 - 0) (c0 - 0)] w40 [.one .bool] fun (r42 : Bool × Unit) w43 =>
  KeepOn D27 w24.drew w43 ∧
  cond (!r42.1)
  (StoreV w43 ⟨b1, 0, none⟩ [.int .i64 0, .int .i64 0, .int .i64 0, .int .u32 0, .int .u64 0, .int .u64 0] fun w44 =>
  LoadA w44 ⟨b1, 0, none⟩ [.int .i64, .int .i64, .int .i64, .int .u32, .int .u64, .int .u64] fun (x45 : Int × Int × Int × Int × Int × Int × Unit) =>
  K ((x45.1, x45.2.1, x45.2.2.1, x45.2.2.2.1, x45.2.2.2.2.1, x45.2.2.2.2.2.1, ()), false, ()) w44)
  (LoadA w43 ⟨b19, 0, none⟩ [.int .i64, .int .i64, .int .i64, .int .u32, .int .u64, .int .u64] fun (x46 : Int × Int × Int × Int × Int × Int × Unit) =>
  StoreV w43 ⟨b1, 0, none⟩ [.int .i64 x46.1, .int .i64 x46.2.1, .int .i64 x46.2.2.1, .int .u32 x46.2.2.2.1, .int .u64 x46.2.2.2.2.1, .int .u64 x46.2.2.2.2.2.1] fun w47 =>
  LoadA w47 ⟨b1, 0, none⟩ [.int .i64, .int .i64, .int .i64, .int .u32, .int .u64, .int .u64] fun (x48 : Int × Int × Int × Int × Int × Int × Unit) =>
  K ((x48.1, x48.2.1, x48.2.2.1, x48.2.2.2.1, x48.2.2.2.2.1, x48.2.2.2.2.2.1, ()), true, ()) w47))))
end Go.Proofs.YtlpeoaphdmfjdaaGreat.Vc
/-! The contract of the document's Read (layer 14). -/
namespace Go.Proofs.YtlpeoaphdmfjdaaGreat.Vc
open Go Go.Eng Go.RowKit
def rRPost (w : World) (xs : List Int) (r : (Int × Int × Int × Int × Int × Int × Unit) × Bool × Unit) (w' : World) : Prop :=
  Ext w w' ∧ (okR xs → r.1 = (hdOf xs).tup ∧ r.2.1 = true) ∧ (¬ okR xs → r.1 = zeroH.tup ∧ r.2.1 = false)
theorem rReadTail {w w21 : World} {xs : List Int} {a0 : Option Addr} {c0 b1 b19 : Nat} (x21 : Ext w w21) (hb1 : Box w21 w.heap.size b1 46 zeroH.vs) (hb19 : Box w21 w.heap.size b19 46 (hdOf xs).vs) (hne : b1 ≠ b19)
    (hx : Ints w .u8 a0 88 c0 xs) (bx : Byt xs) : ref14_Read.T w21 b19 b1 (rRPost w xs) c0 a0 := by
  have hl := hx.len
  have hcap := hx.cap
  have hg := hdOf_rng bx (by omega)
  unfold ref14_Read.T
  refine ldH (h := hdOf xs) hb19 ?_
  refine (HRight_c (h := hdOf xs)).mono ?_
  rintro ⟨(r1 : Bool), ⟨⟩⟩ w1 ⟨h1, x1⟩
  dsimp only at h1 ⊢
  subst h1
  have fail : ∀ {w' : World}, Ext w21 w' → ¬ okR xs → StoreV w' ⟨b1, 0, none⟩ [.int .i64 0, .int .i64 0, .int .i64 0, .int .u32 0, .int .u64 0, .int .u64 0] fun w33 =>
      LoadA w33 ⟨b1, 0, none⟩ [.int .i64, .int .i64, .int .i64, .int .u32, .int .u64, .int .u64] fun (x34 : Int × Int × Int × Int × Int × Int × Unit) =>
      rRPost w xs ((x34.1, x34.2.1, x34.2.2.1, x34.2.2.2.1, x34.2.2.2.2.1, x34.2.2.2.2.2.1, ()), false, ()) w33 := fun e hno => by
    refine (hb1.ext e).store 0 (by simp) fun w3 hb3 bel3 _ _ => ?_
    refine ldH (h := zeroH) hb3 ?_
    exact ⟨Below.trans (x21.trans e) bel3, fun h => absurd h hno, fun _ => ⟨rfl, rfl⟩⟩
  have iff := okR_iff bx hl
  by_cases hR : ¬ HRight (hdOf xs)
  · exact cond_t (by rw [decide_eq_false hR]; rfl) (fail x1 (fun h => hR (iff.1 h).1))
  have hR := Decidable.not_not.1 hR
  refine cond_f (by rw [decide_eq_true hR]; rfl) ?_
  refine DrawV.old w1 fun D hD hkeep => ?_
  have b19' := hb19.ext x1
  have hD1 := hD _ b19'.lt
  have xd := Ext.drew w1
  have X1 := x21.trans x1
  refine ⟨hD1, ldH (h := hdOf xs) (b19'.ext xd) ⟨hD1, ldH (h := hdOf xs) (b19'.ext xd) ⟨by omega, ?_⟩⟩⟩
  intro a30 ha30
  have i30 := sub_part (hx.ext X1) (i := 0) (j := 48) (m := c0) (by omega) (by omega) (by omega) ha30
  refine (rBytes_c (h := hdOf xs) hg hR).mono ?_
  rintro ⟨⟨sa, sn, sc⟩, ⟨⟩⟩ w2 h2
  dsimp only at h2 ⊢
  have x2 := xd.trans h2.ext
  refine ⟨hkeep _ x2, ?_⟩
  refine (rBytes_c (h := hdOf xs) hg hR).mono ?_
  rintro ⟨(s3 : SlV), ⟨⟩⟩ w3 h3
  dsimp only at h3 ⊢
  have x3 := x2.trans h3.ext
  refine ⟨hkeep _ x3, ?_⟩
  have l2 := h2.ints.len
  rw [hdL_length] at l2
  dsimp only at l2
  subst l2
  have l3 := h3.ints.len
  rw [hdL_length] at l3
  refine (rInvert_c h3.ints (by omega)).mono ?_
  rintro ⟨⟨va, vn, vc⟩, ⟨⟩⟩ w4 h4
  dsimp only at h4 ⊢
  have l4 := h4.ints.len
  rw [show (invL (hdL (hdOf xs))).length = 24 by simp [invL, hdL_length]] at l4
  dsimp only at l4
  subst l4
  have x4 := x3.trans h4.ext
  refine ⟨hkeep _ x4, ?_⟩
  have o4 := (h2.own.ext (h3.ext.trans h4.ext)).mono xd.size
  refine appL o4 h4.ints x4.size (by omega) fun a5 c5 w5 o5 b5 => ?_
  have x5 : Ext w1 w5 := Below.trans x4 b5
  refine ⟨hkeep _ x5, ?_⟩
  refine (SameBytes_c o5.ints (i30.ext x5)).mono ?_
  rintro ⟨(r6 : Bool), ⟨⟩⟩ w6 ⟨h6, x6⟩
  dsimp only at h6 ⊢
  have X6 := x5.trans x6
  refine ⟨hkeep _ X6, ?_⟩
  refine cond_of (fun hc => fail (x1.trans X6) (fun hok => by
    rw [h6, decide_eq_true (iff.1 hok).2] at hc
    cases hc)) (fun hc => ?_)
  have hok : okR xs := iff.2 ⟨hR, by
    rw [h6] at hc
    simpa using hc⟩
  refine ldH (h := hdOf xs) (b19'.ext X6) ?_
  refine (hb1.ext (x1.trans X6)).store 0 (by simp) fun w7 hb7 bel7 _ _ => ?_
  refine ldH (h := hdOf xs) hb7 ?_
  exact ⟨Below.trans (X1.trans X6) bel7, fun _ => ⟨rfl, rfl⟩, fun h => absurd hok h⟩
theorem rRead_c {w : World} {a0 : Option Addr} {n0 c0 : Nat} {xs : List Int} (hx : Ints w .u8 a0 n0 c0 xs) (bx : Byt xs) (h88 : n0 = 88) :
    CallV Tryz.prog 112 #[.slice a0 n0 c0] w [.agg [.int .i64, .int .i64, .int .i64, .int .u32, .int .u64, .int .u64], .one .bool] fun r w' => rRPost w xs r w' := by
  subst h88
  refine ref14_Read.vc _ _ _ _ _ ?_
  unfold ref14_Read.P
  have lx := hx.len
  have hcap := hx.cap
  refine newH (h := zeroH) fun b1 w2 e2 hb1 => ?_
  refine DrawV.old w2 fun D hD hkeep => ?_
  have b0 := bx.getD 0
  have b1' := bx.getD 1
  have b2 := bx.getD 2
  have x2 := Ext.drew w2
  have y2 := e2.trans x2
  refine (hx.ext e2).idxD x2 (i := 0) (by omega) (by omega) hD ?_
  refine (hx.ext e2).idxD x2 (i := 1) (by omega) (by omega) hD ?_
  refine (hx.ext e2).idxD x2 (i := 2) (by omega) (by omega) hD ?_
  rw [show (0 : Int).toNat = 0 from rfl, show (1 : Int).toNat = 1 from rfl, show (2 : Int).toNat = 2 from rfl]
  rw [i64_id (by omega : -9223372036854775808 ≤ xs.getD 0 0) (by omega), i64_id (by omega : -9223372036854775808 ≤ xs.getD 1 0) (by omega), i64_id (by omega : -9223372036854775808 ≤ xs.getD 2 0) (by omega)]
  refine ⟨by omega, ?_⟩
  intro a10 ha10
  refine ⟨by omega, ?_⟩
  intro a11 ha11
  refine ⟨by omega, ?_⟩
  intro a12 ha12
  have h10 := sub_part hx (i := 4) (j := 8) (m := c0) (by omega) (by omega) (by omega) ha10
  have h11 := sub_part hx (i := 8) (j := 16) (m := c0) (by omega) (by omega) (by omega) ha11
  have h12 := sub_part hx (i := 16) (j := 24) (m := c0) (by omega) (by omega) (by omega) ha12
  generalize hW : w2.drew = W at *
  have nbl := numB_bd (part_byt bx 4 8) (part_length (by omega) (by omega)) (by omega)
  have hu : IntKind.u32.wrap (numB (part xs 4 8)) = numB (part xs 4 8) := by rw [u32_wrap]; exact Int.emod_eq_of_lt nbl.1 (by have := nbl.2; simpa using this)
  have keepW : ∀ {w' : World}, Ext W w' → KeepOn D W w' := fun e => hkeep _ (x2.trans e)
  have hb1W := hb1.ext x2
  have done : ∀ {w25 : World} {b24 : Nat}, Ext W w25 → Box w25 W.heap.size b24 46 zeroH.vs → StoreV w25 ⟨b24, 0, none⟩ (hdOf xs).vs fun w26 => KeepOn D W w26 ∧ ref14_Read.T w26 b24 b1 (rRPost w xs) c0 a0 := fun {w25 b24} e25 hb24 => by
    refine hb24.store 0 (by simp) fun w26 hb26 bel26 _ _ => ?_
    have X26 : Ext W w26 := Below.trans e25 bel26
    refine ⟨keepW X26, ?_⟩
    refine rReadTail (y2.trans X26) (hb1W.ext X26) ⟨Nat.le_trans y2.size hb26.base, hb26.heap⟩ (fun h => ?_) hx bx
    have := hb1W.lt
    have := hb24.base
    omega
  have N10 : ∀ {w' : World}, Ext W w' → CallV Tryz.prog 159 #[.slice a10 (8 - 4) (c0 - 4)] w' [.one (.int .u64)] fun r w2 => r.1 = numB (part xs 4 8) ∧ Ext w' w2 := fun e => rNum_c (h10.ext (y2.trans e)) (part_byt bx 4 8) (by omega)
  have N11 : ∀ {w' : World}, Ext W w' → CallV Tryz.prog 159 #[.slice a11 (16 - 8) (c0 - 8)] w' [.one (.int .u64)] fun r w2 => r.1 = numB (part xs 8 16) ∧ Ext w' w2 := fun e => rNum_c (h11.ext (y2.trans e)) (part_byt bx 8 16) (by omega)
  have N12 : ∀ {w' : World}, Ext W w' → CallV Tryz.prog 159 #[.slice a12 (24 - 16) (c0 - 16)] w' [.one (.int .u64)] fun r w2 => r.1 = numB (part xs 16 24) ∧ Ext w' w2 := fun e => rNum_c (h12.ext (y2.trans e)) (part_byt bx 16 24) (by omega)
  have newZ : ∀ {w' : World} {K : Nat → World → Prop}, Ext W w' → (∀ b w1, Ext w' w1 → Ext W w1 → Box w1 W.heap.size b 46 zeroH.vs → K b w1) → NewV #[.int .i64 0, .int .i64 0, .int .i64 0, .int .u32 0, .int .u64 0, .int .u64 0] 46 w' K := fun e hk => newH (h := zeroH) fun b w1 e1 hb => hk b w1 e1 (e.trans e1) ⟨Nat.le_trans e.size hb.base, hb.heap⟩
  refine ⟨?_, ?_⟩
  · refine (N10 (Ext.refl _)).mono ?_
    rintro ⟨(r1 : Int), ⟨⟩⟩ w3 ⟨q1, e3⟩
    dsimp only at q1 ⊢
    subst q1
    rw [hu]
    refine ⟨keepW e3, ?_, ?_⟩
    · refine (N11 e3).mono ?_
      rintro ⟨(r2 : Int), ⟨⟩⟩ w4 ⟨q2, e4⟩
      dsimp only at q2 ⊢
      subst q2
      have X4 := e3.trans e4
      refine ⟨keepW X4, ?_, ?_⟩
      · refine (N12 X4).mono ?_
        rintro ⟨(r3 : Int), ⟨⟩⟩ w5 ⟨q3, e5⟩
        dsimp only at q3 ⊢
        subst q3
        exact ⟨keepW (X4.trans e5), newZ (X4.trans e5) fun b24 w25 _ e25 hb24 => ⟨keepW e25, done e25 hb24⟩⟩
      · refine newZ X4 fun b24 w25 _ e25 hb24 => ⟨keepW e25, ?_⟩
        refine (N12 e25).mono ?_
        rintro ⟨(r3 : Int), ⟨⟩⟩ w5 ⟨q3, e5⟩
        dsimp only at q3 ⊢
        subst q3
        exact ⟨keepW (e25.trans e5), done (e25.trans e5) (hb24.ext e5)⟩
    · refine newZ e3 fun b24 w25 _ e25 hb24 => ⟨keepW e25, ?_⟩
      refine (N11 e25).mono ?_
      rintro ⟨(r2 : Int), ⟨⟩⟩ w4 ⟨q2, e4⟩
      dsimp only at q2 ⊢
      subst q2
      have X4 := e25.trans e4
      refine ⟨keepW X4, ?_⟩
      refine (N12 X4).mono ?_
      rintro ⟨(r3 : Int), ⟨⟩⟩ w5 ⟨q3, e5⟩
      dsimp only at q3 ⊢
      subst q3
      exact ⟨keepW (X4.trans e5), done (X4.trans e5) (hb24.ext (e4.trans e5))⟩
  · refine newZ (Ext.refl _) fun b24 w25 _ e25 hb24 => ⟨keepW e25, ?_⟩
    refine (N10 e25).mono ?_
    rintro ⟨(r1 : Int), ⟨⟩⟩ w3 ⟨q1, e3⟩
    dsimp only at q1 ⊢
    subst q1
    rw [hu]
    have X3 := e25.trans e3
    refine ⟨keepW X3, ?_⟩
    refine (N11 X3).mono ?_
    rintro ⟨(r2 : Int), ⟨⟩⟩ w4 ⟨q2, e4⟩
    dsimp only at q2 ⊢
    subst q2
    have X4 := X3.trans e4
    refine ⟨keepW X4, ?_⟩
    refine (N12 X4).mono ?_
    rintro ⟨(r3 : Int), ⟨⟩⟩ w5 ⟨q3, e5⟩
    dsimp only at q3 ⊢
    subst q3
    exact ⟨keepW (X4.trans e5), done (X4.trans e5) (hb24.ext (e3.trans (e4.trans e5)))⟩
end Go.Proofs.YtlpeoaphdmfjdaaGreat.Vc
/-! The contracts of layer 15 (page): what commits a page, and what a page tells. -/
namespace Go.Proofs.YtlpeoaphdmfjdaaGreat.Vc
open Go Go.Eng Go.RowKit
theorem PCommit_c {w : World} {g : Geo} : CallV Tryz.prog 91 #[g.val] w [.one .sl, .one (.int .i64)] fun r w' => Ext w w' ∧ (Right g → Res w w' r.1 (comL g) ∧ r.2.1 = (0 : Int)) ∧ (¬ Right g → r.1 = (⟨none, 0, 0⟩ : SlV) ∧ r.2.1 = (2 : Int)) := by
  apply page_Commit.vc
  unfold page_Commit.P
  have S := Sep.start NoB w
  (repeat ((first | refine S.newB fun _ _ S f _ => ?_ | refine S.la0 rfl ?_ | refine S.la1 rfl ?_ | refine S.la2 rfl ?_ | refine S.la3 rfl ?_ | refine S.la4 rfl ?_ | refine S.la5 rfl ?_ | refine S.ld0 rfl rfl ?_ | refine S.ld1 rfl rfl ?_ | refine S.ld2 rfl rfl ?_ | refine S.ld3 rfl rfl ?_ | refine S.ld4 rfl rfl ?_ | refine S.ld5 rfl rfl ?_ | refine S.st0 (by rfl) fun _ S f => ?_ | refine S.st1 (by rfl) fun _ S f => ?_ | refine S.st2 (by rfl) fun _ S f => ?_ | refine S.st3 (by rfl) fun _ S f => ?_ | refine S.st4 (by rfl) fun _ S f => ?_ | refine S.st5 (by rfl) fun _ S f => ?_ | refine S.su0 (by rfl) fun _ S f => ?_ | refine S.su1 (by rfl) fun _ S f => ?_ | refine S.su2 (by rfl) fun _ S f => ?_ | refine S.su3 (by rfl) fun _ S f => ?_ | refine S.su4 (by rfl) fun _ S f => ?_ | refine S.su5 (by rfl) fun _ S f => ?_ | refine ⟨by decide, ?_⟩); try dsimp only [List.set_cons_zero, List.set_cons_succ, cond_true, cond_false, Bool.not_true, Bool.not_false]))
  refine (Check_c (g := g)).mono ?_
  rintro ⟨(r : Int), ⟨⟩⟩ w2 ⟨h2, e2⟩
  dsimp only at h2 ⊢
  have S := S.stepE e2
  subst h2
  by_cases hR : Right g
  · refine cond_f (by unfold chkE; rw [if_pos hR]; rfl) ?_
    have hs := hR.sec
    (repeat ((first | refine S.newB fun _ _ S f _ => ?_ | refine S.la0 rfl ?_ | refine S.la1 rfl ?_ | refine S.la2 rfl ?_ | refine S.la3 rfl ?_ | refine S.la4 rfl ?_ | refine S.la5 rfl ?_ | refine S.ld0 rfl rfl ?_ | refine S.ld1 rfl rfl ?_ | refine S.ld2 rfl rfl ?_ | refine S.ld3 rfl rfl ?_ | refine S.ld4 rfl rfl ?_ | refine S.ld5 rfl rfl ?_ | refine S.st0 (by rfl) fun _ S f => ?_ | refine S.st1 (by rfl) fun _ S f => ?_ | refine S.st2 (by rfl) fun _ S f => ?_ | refine S.st3 (by rfl) fun _ S f => ?_ | refine S.st4 (by rfl) fun _ S f => ?_ | refine S.st5 (by rfl) fun _ S f => ?_ | refine S.su0 (by rfl) fun _ S f => ?_ | refine S.su1 (by rfl) fun _ S f => ?_ | refine S.su2 (by rfl) fun _ S f => ?_ | refine S.su3 (by rfl) fun _ S f => ?_ | refine S.su4 (by rfl) fun _ S f => ?_ | refine S.su5 (by rfl) fun _ S f => ?_ | refine ⟨by decide, ?_⟩); try dsimp only [List.set_cons_zero, List.set_cons_succ, cond_true, cond_false, Bool.not_true, Bool.not_false]))
    refine (PageSize_c (g := g)).mono ?_
    rintro ⟨(r3 : Int), ⟨⟩⟩ w3 ⟨h3, e3⟩
    dsimp only at h3 ⊢
    have S := S.stepE e3
    rw [if_pos hR] at h3
    subst h3
    refine (MarkLen_c (by omega)).mono ?_
    rintro ⟨(r4 : SlV), ⟨⟩⟩ w4 h4
    have E := S.ext.trans h4.ext
    rw [show g.s + 88 - 8 = g.s + 80 by omega] at h4
    exact ⟨E, fun _ => ⟨h4.after S.ext, rfl⟩, fun hn => absurd hR hn⟩
  · exact cond_t (by unfold chkE; rw [if_neg hR]; rfl) ⟨S.ext, fun h => absurd h hR, fun _ => ⟨rfl, rfl⟩⟩
theorem rCommit15_c {w : World} {g : Geo} (hR : Right g) : CallV Tryz.prog 95 #[g.val] w [.one .sl] fun r w' => Res w w' r.1 (comL g) := by
  apply ref15_Commit.vc
  unfold ref15_Commit.P
  have hs := hR.sec
  have S := Sep.start NoB w
  (repeat ((first | refine S.newB fun _ _ S f _ => ?_ | refine S.la0 rfl ?_ | refine S.la1 rfl ?_ | refine S.la2 rfl ?_ | refine S.la3 rfl ?_ | refine S.la4 rfl ?_ | refine S.la5 rfl ?_ | refine S.ld0 rfl rfl ?_ | refine S.ld1 rfl rfl ?_ | refine S.ld2 rfl rfl ?_ | refine S.ld3 rfl rfl ?_ | refine S.ld4 rfl rfl ?_ | refine S.ld5 rfl rfl ?_ | refine S.st0 (by rfl) fun _ S f => ?_ | refine S.st1 (by rfl) fun _ S f => ?_ | refine S.st2 (by rfl) fun _ S f => ?_ | refine S.st3 (by rfl) fun _ S f => ?_ | refine S.st4 (by rfl) fun _ S f => ?_ | refine S.st5 (by rfl) fun _ S f => ?_ | refine S.su0 (by rfl) fun _ S f => ?_ | refine S.su1 (by rfl) fun _ S f => ?_ | refine S.su2 (by rfl) fun _ S f => ?_ | refine S.su3 (by rfl) fun _ S f => ?_ | refine S.su4 (by rfl) fun _ S f => ?_ | refine S.su5 (by rfl) fun _ S f => ?_ | refine ⟨by decide, ?_⟩); try dsimp only [List.set_cons_zero, List.set_cons_succ, cond_true, cond_false, Bool.not_true, Bool.not_false]))
  refine ⟨Rng.i64 (by omega) (by omega), ?_⟩
  refine rFill_c.mono ?_
  rintro ⟨⟨sa, sn, sc⟩, ⟨⟩⟩ w3 h3
  dsimp only at h3 ⊢
  have l3 := h3.ints.len
  have hf : (max 0 (min (65536 : Int) (g.s + 80))).toNat = (g.s + 80).toNat := by generalize hL : (65536 : Int) = L; omega
  rw [List.length_replicate, hf] at l3
  have S := S.res h3
  rw [hf] at S
  dsimp only at l3 S
  subst l3
  refine rFill_c.mono ?_
  rintro ⟨⟨ua, un, uc⟩, ⟨⟩⟩ w4 h4
  dsimp only at h4 ⊢
  have l4 := h4.ints.len
  rw [List.length_replicate, fill8] at l4
  have S := S.res h4
  rw [fill8] at S
  dsimp only at l4 S
  subst l4
  refine S.ab1 S.in0 (by omega) fun a6 c6 w6 S f6 => ?_
  have S := S.tail
  exact S.out
theorem rMake_c {w : World} {g : Geo} {h : Hd} {a a2 : Option Addr} {n c m c2 : Nat} {xs ts : List Int} (hg : h.rng) (hx : Ints w .u8 a n c xs) (ht : Ints w .u8 a2 m c2 ts) (hp : PRight g h n m) :
    CallV Tryz.prog 88 #[g.val, h.val, .slice a n c, .slice a2 m c2] w [.one .sl] fun r w' => Res w w' r.1 (mkL g h xs ts) := by
  apply ref15_Make.vc
  unfold ref15_Make.P
  obtain ⟨hR, hE, hn⟩ := hp
  have S := Sep.start NoB w
  have hs := hR.sec
  have lx := hx.len
  have lt := ht.len
  have l4' : (endL h ts).length = 88 := endL_length h (by have := hE.2; omega)
  (repeat ((first | refine S.newB fun _ _ S f _ => ?_ | refine S.la0 rfl ?_ | refine S.la1 rfl ?_ | refine S.la2 rfl ?_ | refine S.la3 rfl ?_ | refine S.la4 rfl ?_ | refine S.la5 rfl ?_ | refine S.ld0 rfl rfl ?_ | refine S.ld1 rfl rfl ?_ | refine S.ld2 rfl rfl ?_ | refine S.ld3 rfl rfl ?_ | refine S.ld4 rfl rfl ?_ | refine S.ld5 rfl rfl ?_ | refine S.st0 (by rfl) fun _ S f => ?_ | refine S.st1 (by rfl) fun _ S f => ?_ | refine S.st2 (by rfl) fun _ S f => ?_ | refine S.st3 (by rfl) fun _ S f => ?_ | refine S.st4 (by rfl) fun _ S f => ?_ | refine S.st5 (by rfl) fun _ S f => ?_ | refine S.su0 (by rfl) fun _ S f => ?_ | refine S.su1 (by rfl) fun _ S f => ?_ | refine S.su2 (by rfl) fun _ S f => ?_ | refine S.su3 (by rfl) fun _ S f => ?_ | refine S.su4 (by rfl) fun _ S f => ?_ | refine S.su5 (by rfl) fun _ S f => ?_ | refine ⟨by decide, ?_⟩); try dsimp only [List.set_cons_zero, List.set_cons_succ, cond_true, cond_false, Bool.not_true, Bool.not_false]))
  refine cond_eq (fun h0 => ?_) (fun h0 => ?_)
  · (repeat ((first | refine S.newB fun _ _ S f _ => ?_ | refine S.la0 rfl ?_ | refine S.la1 rfl ?_ | refine S.la2 rfl ?_ | refine S.la3 rfl ?_ | refine S.la4 rfl ?_ | refine S.la5 rfl ?_ | refine S.ld0 rfl rfl ?_ | refine S.ld1 rfl rfl ?_ | refine S.ld2 rfl rfl ?_ | refine S.ld3 rfl rfl ?_ | refine S.ld4 rfl rfl ?_ | refine S.ld5 rfl rfl ?_ | refine S.st0 (by rfl) fun _ S f => ?_ | refine S.st1 (by rfl) fun _ S f => ?_ | refine S.st2 (by rfl) fun _ S f => ?_ | refine S.st3 (by rfl) fun _ S f => ?_ | refine S.st4 (by rfl) fun _ S f => ?_ | refine S.st5 (by rfl) fun _ S f => ?_ | refine S.su0 (by rfl) fun _ S f => ?_ | refine S.su1 (by rfl) fun _ S f => ?_ | refine S.su2 (by rfl) fun _ S f => ?_ | refine S.su3 (by rfl) fun _ S f => ?_ | refine S.su4 (by rfl) fun _ S f => ?_ | refine S.su5 (by rfl) fun _ S f => ?_ | refine ⟨by decide, ?_⟩); try dsimp only [List.set_cons_zero, List.set_cons_succ, cond_true, cond_false, Bool.not_true, Bool.not_false]))
    refine rFill_c.mono ?_
    rintro ⟨⟨sa, sn, sc⟩, ⟨⟩⟩ w3 h3
    dsimp only at h3 ⊢
    have l3 := h3.ints.len
    rw [List.length_replicate, fill_sec hs] at l3
    have S := S.res h3
    rw [fill_sec hs] at S
    dsimp only at l3 S
    subst l3
    refine S.reg fun D hD hkeep Sd T => ?_
    (repeat ((first | refine ⟨hD _ (by first | exact Sd.bl0 | exact Sd.bl1 | exact Sd.bl2 | exact Sd.bl3 | exact Sd.bl4 | exact Sd.bl5 | exact Sd.bl6 | exact Sd.bl7), ?_⟩ | refine (Sd.step0 T.fr).la0 rfl ?_ | refine (Sd.step0 T.fr).la1 rfl ?_ | refine (Sd.step0 T.fr).la2 rfl ?_ | refine (Sd.step0 T.fr).la3 rfl ?_ | refine (Sd.step0 T.fr).la4 rfl ?_ | refine (Sd.step0 T.fr).la5 rfl ?_ | refine (Sd.step0 T.fr).la6 rfl ?_ | refine (Sd.step0 T.fr).la7 rfl ?_ | refine (Sd.step0 T.fr).ld0 rfl rfl ?_ | refine (Sd.step0 T.fr).ld1 rfl rfl ?_ | refine (Sd.step0 T.fr).ld2 rfl rfl ?_ | refine (Sd.step0 T.fr).ld3 rfl rfl ?_ | refine (Sd.step0 T.fr).ld4 rfl rfl ?_ | refine (Sd.step0 T.fr).ld5 rfl rfl ?_ | refine (Sd.step0 T.fr).ld6 rfl rfl ?_ | refine (Sd.step0 T.fr).ld7 rfl rfl ?_ | refine ⟨by decide, ?_⟩ | refine ⟨hkeep _ T.fr, ?_⟩); try dsimp only))
    refine T.newB fun b5 w5 T f _ => ?_
    (repeat ((first | refine ⟨hD _ (by first | exact Sd.bl0 | exact Sd.bl1 | exact Sd.bl2 | exact Sd.bl3 | exact Sd.bl4 | exact Sd.bl5 | exact Sd.bl6 | exact Sd.bl7), ?_⟩ | refine (Sd.step0 T.fr).la0 rfl ?_ | refine (Sd.step0 T.fr).la1 rfl ?_ | refine (Sd.step0 T.fr).la2 rfl ?_ | refine (Sd.step0 T.fr).la3 rfl ?_ | refine (Sd.step0 T.fr).la4 rfl ?_ | refine (Sd.step0 T.fr).la5 rfl ?_ | refine (Sd.step0 T.fr).la6 rfl ?_ | refine (Sd.step0 T.fr).la7 rfl ?_ | refine (Sd.step0 T.fr).ld0 rfl rfl ?_ | refine (Sd.step0 T.fr).ld1 rfl rfl ?_ | refine (Sd.step0 T.fr).ld2 rfl rfl ?_ | refine (Sd.step0 T.fr).ld3 rfl rfl ?_ | refine (Sd.step0 T.fr).ld4 rfl rfl ?_ | refine (Sd.step0 T.fr).ld5 rfl rfl ?_ | refine (Sd.step0 T.fr).ld6 rfl rfl ?_ | refine (Sd.step0 T.fr).ld7 rfl rfl ?_ | refine ⟨by decide, ?_⟩ | refine ⟨hkeep _ T.fr, ?_⟩); try dsimp only))
    have T := T.asOwn (sz := 1) (n := 0) rfl (by omega) oneAll.nil
    refine T.ab0 (xs := []) (Sd.step0 T.fr).in0 (by omega) fun a5 c5 w5 T f5 => ?_
    (repeat ((first | refine ⟨hD _ (by first | exact Sd.bl0 | exact Sd.bl1 | exact Sd.bl2 | exact Sd.bl3 | exact Sd.bl4 | exact Sd.bl5 | exact Sd.bl6 | exact Sd.bl7), ?_⟩ | refine (Sd.step0 T.fr).la0 rfl ?_ | refine (Sd.step0 T.fr).la1 rfl ?_ | refine (Sd.step0 T.fr).la2 rfl ?_ | refine (Sd.step0 T.fr).la3 rfl ?_ | refine (Sd.step0 T.fr).la4 rfl ?_ | refine (Sd.step0 T.fr).la5 rfl ?_ | refine (Sd.step0 T.fr).la6 rfl ?_ | refine (Sd.step0 T.fr).la7 rfl ?_ | refine (Sd.step0 T.fr).ld0 rfl rfl ?_ | refine (Sd.step0 T.fr).ld1 rfl rfl ?_ | refine (Sd.step0 T.fr).ld2 rfl rfl ?_ | refine (Sd.step0 T.fr).ld3 rfl rfl ?_ | refine (Sd.step0 T.fr).ld4 rfl rfl ?_ | refine (Sd.step0 T.fr).ld5 rfl rfl ?_ | refine (Sd.step0 T.fr).ld6 rfl rfl ?_ | refine (Sd.step0 T.fr).ld7 rfl rfl ?_ | refine ⟨by decide, ?_⟩ | refine ⟨hkeep _ T.fr, ?_⟩); try dsimp only))
    refine (rEnd_c hg (ht.ext (Sd.ext.trans T.ext)) hE).mono ?_
    rintro ⟨⟨ea, en, ec⟩, ⟨⟩⟩ w6 h6
    have l4 := h6.ints.len
    dsimp only at h6 l4 ⊢
    have T := T.res h6
    dsimp only at T
    (repeat ((first | refine ⟨hD _ (by first | exact Sd.bl0 | exact Sd.bl1 | exact Sd.bl2 | exact Sd.bl3 | exact Sd.bl4 | exact Sd.bl5 | exact Sd.bl6 | exact Sd.bl7), ?_⟩ | refine (Sd.step0 T.fr).la0 rfl ?_ | refine (Sd.step0 T.fr).la1 rfl ?_ | refine (Sd.step0 T.fr).la2 rfl ?_ | refine (Sd.step0 T.fr).la3 rfl ?_ | refine (Sd.step0 T.fr).la4 rfl ?_ | refine (Sd.step0 T.fr).la5 rfl ?_ | refine (Sd.step0 T.fr).la6 rfl ?_ | refine (Sd.step0 T.fr).la7 rfl ?_ | refine (Sd.step0 T.fr).ld0 rfl rfl ?_ | refine (Sd.step0 T.fr).ld1 rfl rfl ?_ | refine (Sd.step0 T.fr).ld2 rfl rfl ?_ | refine (Sd.step0 T.fr).ld3 rfl rfl ?_ | refine (Sd.step0 T.fr).ld4 rfl rfl ?_ | refine (Sd.step0 T.fr).ld5 rfl rfl ?_ | refine (Sd.step0 T.fr).ld6 rfl rfl ?_ | refine (Sd.step0 T.fr).ld7 rfl rfl ?_ | refine ⟨by decide, ?_⟩ | refine ⟨hkeep _ T.fr, ?_⟩); try dsimp only))
    refine T.ab1 T.in0 (by omega) fun a7 c7 w7 T f7 => ?_
    (repeat ((first | refine ⟨hD _ (by first | exact Sd.bl0 | exact Sd.bl1 | exact Sd.bl2 | exact Sd.bl3 | exact Sd.bl4 | exact Sd.bl5 | exact Sd.bl6 | exact Sd.bl7), ?_⟩ | refine (Sd.step0 T.fr).la0 rfl ?_ | refine (Sd.step0 T.fr).la1 rfl ?_ | refine (Sd.step0 T.fr).la2 rfl ?_ | refine (Sd.step0 T.fr).la3 rfl ?_ | refine (Sd.step0 T.fr).la4 rfl ?_ | refine (Sd.step0 T.fr).la5 rfl ?_ | refine (Sd.step0 T.fr).la6 rfl ?_ | refine (Sd.step0 T.fr).la7 rfl ?_ | refine (Sd.step0 T.fr).ld0 rfl rfl ?_ | refine (Sd.step0 T.fr).ld1 rfl rfl ?_ | refine (Sd.step0 T.fr).ld2 rfl rfl ?_ | refine (Sd.step0 T.fr).ld3 rfl rfl ?_ | refine (Sd.step0 T.fr).ld4 rfl rfl ?_ | refine (Sd.step0 T.fr).ld5 rfl rfl ?_ | refine (Sd.step0 T.fr).ld6 rfl rfl ?_ | refine (Sd.step0 T.fr).ld7 rfl rfl ?_ | refine ⟨by decide, ?_⟩ | refine ⟨hkeep _ T.fr, ?_⟩); try dsimp only))
    have R := (T.tail).out
    have hq : [] ++ List.replicate g.s.toNat 255 ++ endL h ts = mkL g h xs ts := by unfold mkL payL; rw [if_pos (by omega)]; rfl
    rw [hq] at R
    exact R.after Sd.ext
  · refine S.reg fun D hD hkeep Sd T => ?_
    (repeat ((first | refine ⟨hD _ (by first | exact Sd.bl0 | exact Sd.bl1 | exact Sd.bl2 | exact Sd.bl3 | exact Sd.bl4 | exact Sd.bl5 | exact Sd.bl6 | exact Sd.bl7), ?_⟩ | refine (Sd.step0 T.fr).la0 rfl ?_ | refine (Sd.step0 T.fr).la1 rfl ?_ | refine (Sd.step0 T.fr).la2 rfl ?_ | refine (Sd.step0 T.fr).la3 rfl ?_ | refine (Sd.step0 T.fr).la4 rfl ?_ | refine (Sd.step0 T.fr).la5 rfl ?_ | refine (Sd.step0 T.fr).la6 rfl ?_ | refine (Sd.step0 T.fr).la7 rfl ?_ | refine (Sd.step0 T.fr).ld0 rfl rfl ?_ | refine (Sd.step0 T.fr).ld1 rfl rfl ?_ | refine (Sd.step0 T.fr).ld2 rfl rfl ?_ | refine (Sd.step0 T.fr).ld3 rfl rfl ?_ | refine (Sd.step0 T.fr).ld4 rfl rfl ?_ | refine (Sd.step0 T.fr).ld5 rfl rfl ?_ | refine (Sd.step0 T.fr).ld6 rfl rfl ?_ | refine (Sd.step0 T.fr).ld7 rfl rfl ?_ | refine ⟨by decide, ?_⟩ | refine ⟨hkeep _ T.fr, ?_⟩); try dsimp only))
    refine T.newB fun b5 w5 T f _ => ?_
    (repeat ((first | refine ⟨hD _ (by first | exact Sd.bl0 | exact Sd.bl1 | exact Sd.bl2 | exact Sd.bl3 | exact Sd.bl4 | exact Sd.bl5 | exact Sd.bl6 | exact Sd.bl7), ?_⟩ | refine (Sd.step0 T.fr).la0 rfl ?_ | refine (Sd.step0 T.fr).la1 rfl ?_ | refine (Sd.step0 T.fr).la2 rfl ?_ | refine (Sd.step0 T.fr).la3 rfl ?_ | refine (Sd.step0 T.fr).la4 rfl ?_ | refine (Sd.step0 T.fr).la5 rfl ?_ | refine (Sd.step0 T.fr).la6 rfl ?_ | refine (Sd.step0 T.fr).la7 rfl ?_ | refine (Sd.step0 T.fr).ld0 rfl rfl ?_ | refine (Sd.step0 T.fr).ld1 rfl rfl ?_ | refine (Sd.step0 T.fr).ld2 rfl rfl ?_ | refine (Sd.step0 T.fr).ld3 rfl rfl ?_ | refine (Sd.step0 T.fr).ld4 rfl rfl ?_ | refine (Sd.step0 T.fr).ld5 rfl rfl ?_ | refine (Sd.step0 T.fr).ld6 rfl rfl ?_ | refine (Sd.step0 T.fr).ld7 rfl rfl ?_ | refine ⟨by decide, ?_⟩ | refine ⟨hkeep _ T.fr, ?_⟩); try dsimp only))
    have T := T.asOwn (sz := 1) (n := 0) rfl (by omega) oneAll.nil
    refine T.ab0 (xs := []) (hx.ext (Sd.ext.trans T.ext)) (by omega) fun a5 c5 w5 T f5 => ?_
    (repeat ((first | refine ⟨hD _ (by first | exact Sd.bl0 | exact Sd.bl1 | exact Sd.bl2 | exact Sd.bl3 | exact Sd.bl4 | exact Sd.bl5 | exact Sd.bl6 | exact Sd.bl7), ?_⟩ | refine (Sd.step0 T.fr).la0 rfl ?_ | refine (Sd.step0 T.fr).la1 rfl ?_ | refine (Sd.step0 T.fr).la2 rfl ?_ | refine (Sd.step0 T.fr).la3 rfl ?_ | refine (Sd.step0 T.fr).la4 rfl ?_ | refine (Sd.step0 T.fr).la5 rfl ?_ | refine (Sd.step0 T.fr).la6 rfl ?_ | refine (Sd.step0 T.fr).la7 rfl ?_ | refine (Sd.step0 T.fr).ld0 rfl rfl ?_ | refine (Sd.step0 T.fr).ld1 rfl rfl ?_ | refine (Sd.step0 T.fr).ld2 rfl rfl ?_ | refine (Sd.step0 T.fr).ld3 rfl rfl ?_ | refine (Sd.step0 T.fr).ld4 rfl rfl ?_ | refine (Sd.step0 T.fr).ld5 rfl rfl ?_ | refine (Sd.step0 T.fr).ld6 rfl rfl ?_ | refine (Sd.step0 T.fr).ld7 rfl rfl ?_ | refine ⟨by decide, ?_⟩ | refine ⟨hkeep _ T.fr, ?_⟩); try dsimp only))
    refine (rEnd_c hg (ht.ext (Sd.ext.trans T.ext)) hE).mono ?_
    rintro ⟨⟨ea, en, ec⟩, ⟨⟩⟩ w6 h6
    have l4 := h6.ints.len
    dsimp only at h6 l4 ⊢
    have T := T.res h6
    dsimp only at T
    (repeat ((first | refine ⟨hD _ (by first | exact Sd.bl0 | exact Sd.bl1 | exact Sd.bl2 | exact Sd.bl3 | exact Sd.bl4 | exact Sd.bl5 | exact Sd.bl6 | exact Sd.bl7), ?_⟩ | refine (Sd.step0 T.fr).la0 rfl ?_ | refine (Sd.step0 T.fr).la1 rfl ?_ | refine (Sd.step0 T.fr).la2 rfl ?_ | refine (Sd.step0 T.fr).la3 rfl ?_ | refine (Sd.step0 T.fr).la4 rfl ?_ | refine (Sd.step0 T.fr).la5 rfl ?_ | refine (Sd.step0 T.fr).la6 rfl ?_ | refine (Sd.step0 T.fr).la7 rfl ?_ | refine (Sd.step0 T.fr).ld0 rfl rfl ?_ | refine (Sd.step0 T.fr).ld1 rfl rfl ?_ | refine (Sd.step0 T.fr).ld2 rfl rfl ?_ | refine (Sd.step0 T.fr).ld3 rfl rfl ?_ | refine (Sd.step0 T.fr).ld4 rfl rfl ?_ | refine (Sd.step0 T.fr).ld5 rfl rfl ?_ | refine (Sd.step0 T.fr).ld6 rfl rfl ?_ | refine (Sd.step0 T.fr).ld7 rfl rfl ?_ | refine ⟨by decide, ?_⟩ | refine ⟨hkeep _ T.fr, ?_⟩); try dsimp only))
    refine T.ab1 T.in0 (by omega) fun a7 c7 w7 T f7 => ?_
    (repeat ((first | refine ⟨hD _ (by first | exact Sd.bl0 | exact Sd.bl1 | exact Sd.bl2 | exact Sd.bl3 | exact Sd.bl4 | exact Sd.bl5 | exact Sd.bl6 | exact Sd.bl7), ?_⟩ | refine (Sd.step0 T.fr).la0 rfl ?_ | refine (Sd.step0 T.fr).la1 rfl ?_ | refine (Sd.step0 T.fr).la2 rfl ?_ | refine (Sd.step0 T.fr).la3 rfl ?_ | refine (Sd.step0 T.fr).la4 rfl ?_ | refine (Sd.step0 T.fr).la5 rfl ?_ | refine (Sd.step0 T.fr).la6 rfl ?_ | refine (Sd.step0 T.fr).la7 rfl ?_ | refine (Sd.step0 T.fr).ld0 rfl rfl ?_ | refine (Sd.step0 T.fr).ld1 rfl rfl ?_ | refine (Sd.step0 T.fr).ld2 rfl rfl ?_ | refine (Sd.step0 T.fr).ld3 rfl rfl ?_ | refine (Sd.step0 T.fr).ld4 rfl rfl ?_ | refine (Sd.step0 T.fr).ld5 rfl rfl ?_ | refine (Sd.step0 T.fr).ld6 rfl rfl ?_ | refine (Sd.step0 T.fr).ld7 rfl rfl ?_ | refine ⟨by decide, ?_⟩ | refine ⟨hkeep _ T.fr, ?_⟩); try dsimp only))
    have R := (T.tail).out
    have hq : [] ++ xs ++ endL h ts = mkL g h xs ts := by unfold mkL payL; rw [if_neg (by omega)]; rfl
    rw [hq] at R
    exact R.after Sd.ext
end Go.Proofs.YtlpeoaphdmfjdaaGreat.Vc
/-! The contracts of layer 15 (page): what bytes tell. -/
namespace Go.Proofs.YtlpeoaphdmfjdaaGreat.Vc
open Go Go.Eng Go.RowKit
def endP (g : Geo) (xs : List Int) : List Int := xs.drop g.s.toNat
def lenP (g : Geo) (xs : List Int) : Prop := Right g ∧ (xs.length : Int) = g.s + 88
instance (g : Geo) (xs : List Int) : Decidable (lenP g xs) := by unfold lenP; infer_instance
abbrev pays (g : Geo) (xs : List Int) : List Int := xs.take g.s.toNat
abbrev tags (g : Geo) (xs : List Int) : List Int := part (endP g xs) 48 80
end Go.Proofs.YtlpeoaphdmfjdaaGreat.Vc
/-! The contracts of layer 15 (page): the document's, and small ones. -/
namespace Go.Proofs.YtlpeoaphdmfjdaaGreat.Vc
open Go Go.Eng Go.RowKit
abbrev PgU : Type := Int × Int × Int × Int × Int × Int × SlV × SlV × Bool × Bool × Unit
abbrev zPu : PgU := ((0 : Int), (0 : Int), (0 : Int), (0 : Int), (0 : Int), (0 : Int), (⟨none, 0, 0⟩ : SlV), (⟨none, 0, 0⟩ : SlV), false, false, ())
abbrev pgU (h : Hd) (s t : SlV) (d : Bool) : PgU := (h.k, h.n, h.c, h.l, h.e, h.t, s, t, d, true, ())
theorem rPRead_c {w0 w : World} {g : Geo} {a : Option Addr} {n c : Nat} {xs : List Int} (hx : Ints w0 .u8 a n c xs) (e0 : Ext w0 w) (bx : Byt xs) (hL : lenP g xs) :
    CallV Tryz.prog 51 #[g.val, .slice a n c] w [.agg [.int .i64, .int .i64, .int .i64, .int .u32, .int .u64, .int .u64, .sl, .sl, .bool, .bool]] fun r w' =>
      Ext w w' ∧ (¬ okR (endP g xs) → r.1 = zPu) ∧ (okR (endP g xs) → ∃ s t : SlV, r.1 = pgU (hdOf (endP g xs)) s t (comm (endP g xs)) ∧ Ints w0 .u8 s.a s.n s.c (pays g xs) ∧ Ints w0 .u8 t.a t.n t.c (tags g xs)) := by
  apply ref15_Read.vc
  unfold ref15_Read.P
  have lx := hx.len
  have hc := hx.cap
  have hs := hL.1.sec
  have hl := hL.2
  have S := Sep.start NoB w
  refine S.newB fun b1 w1 S f _ => ?_
  refine S.newB fun b3 w2 S f _ => ?_
  (repeat ((first | refine S.newB fun _ _ S f _ => ?_ | refine S.la0 rfl ?_ | refine S.la1 rfl ?_ | refine S.la2 rfl ?_ | refine S.la3 rfl ?_ | refine S.la4 rfl ?_ | refine S.la5 rfl ?_ | refine S.ld0 rfl rfl ?_ | refine S.ld1 rfl rfl ?_ | refine S.ld2 rfl rfl ?_ | refine S.ld3 rfl rfl ?_ | refine S.ld4 rfl rfl ?_ | refine S.ld5 rfl rfl ?_ | refine S.st0 (by rfl) fun _ S f => ?_ | refine S.st1 (by rfl) fun _ S f => ?_ | refine S.st2 (by rfl) fun _ S f => ?_ | refine S.st3 (by rfl) fun _ S f => ?_ | refine S.st4 (by rfl) fun _ S f => ?_ | refine S.st5 (by rfl) fun _ S f => ?_ | refine S.su0 (by rfl) fun _ S f => ?_ | refine S.su1 (by rfl) fun _ S f => ?_ | refine S.su2 (by rfl) fun _ S f => ?_ | refine S.su3 (by rfl) fun _ S f => ?_ | refine S.su4 (by rfl) fun _ S f => ?_ | refine S.su5 (by rfl) fun _ S f => ?_ | refine ⟨by decide, ?_⟩); try dsimp only [List.set_cons_zero, List.set_cons_succ, cond_true, cond_false, Bool.not_true, Bool.not_false]))
  refine ⟨⟨by omega, by omega⟩, ?_⟩
  intro a6 ha6
  have i6 := hx.sub (l := g.s.toNat) (hh := n) (m := c) (by omega) (by omega) (by omega) ha6
  rw [List.take_of_length_le (by rw [List.length_drop]; omega)] at i6
  have i6 : Ints w0 .u8 a6 (n - g.s.toNat) (c - g.s.toNat) (endP g xs) := i6
  have bt : Byt (endP g xs) := bx.drop _
  have le : (endP g xs).length = 88 := by unfold endP; rw [List.length_drop]; omega
  refine (rRead_c (i6.ext (e0.trans S.ext)) bt (by omega)).mono ?_
  rintro ⟨⟨(k1 : Int), (k2 : Int), (k3 : Int), (k4 : Int), (k5 : Int), (k6 : Int), ⟨⟩⟩, (o : Bool), ⟨⟩⟩ w3 ⟨x3, hok, hno⟩
  dsimp only at hok hno ⊢
  have S := S.stepE x3
  by_cases hO : okR (endP g xs)
  case neg =>
    obtain ⟨-, h2⟩ := hno hO
    subst h2
    (repeat ((first | refine S.newB fun _ _ S f _ => ?_ | refine S.la0 rfl ?_ | refine S.la1 rfl ?_ | refine S.la2 rfl ?_ | refine S.la3 rfl ?_ | refine S.la4 rfl ?_ | refine S.la5 rfl ?_ | refine S.ld0 rfl rfl ?_ | refine S.ld1 rfl rfl ?_ | refine S.ld2 rfl rfl ?_ | refine S.ld3 rfl rfl ?_ | refine S.ld4 rfl rfl ?_ | refine S.ld5 rfl rfl ?_ | refine S.st0 (by rfl) fun _ S f => ?_ | refine S.st1 (by rfl) fun _ S f => ?_ | refine S.st2 (by rfl) fun _ S f => ?_ | refine S.st3 (by rfl) fun _ S f => ?_ | refine S.st4 (by rfl) fun _ S f => ?_ | refine S.st5 (by rfl) fun _ S f => ?_ | refine S.su0 (by rfl) fun _ S f => ?_ | refine S.su1 (by rfl) fun _ S f => ?_ | refine S.su2 (by rfl) fun _ S f => ?_ | refine S.su3 (by rfl) fun _ S f => ?_ | refine S.su4 (by rfl) fun _ S f => ?_ | refine S.su5 (by rfl) fun _ S f => ?_ | refine ⟨by decide, ?_⟩); try dsimp only [List.set_cons_zero, List.set_cons_succ, cond_true, cond_false, Bool.not_true, Bool.not_false]))
    exact ⟨S.ext, fun _ => rfl, fun h => absurd h hO⟩
  obtain ⟨h1, h2⟩ := hok hO
  subst h2
  have h1 : (k1, k2, k3, k4, k5, k6, ()) = (hdOf (endP g xs)).tup := h1
  simp only [Prod.mk.injEq, and_true] at h1
  obtain ⟨rfl, rfl, rfl, rfl, rfl, rfl⟩ := h1
  (repeat ((first | refine S.newB fun _ _ S f _ => ?_ | refine S.la0 rfl ?_ | refine S.la1 rfl ?_ | refine S.la2 rfl ?_ | refine S.la3 rfl ?_ | refine S.la4 rfl ?_ | refine S.la5 rfl ?_ | refine S.ld0 rfl rfl ?_ | refine S.ld1 rfl rfl ?_ | refine S.ld2 rfl rfl ?_ | refine S.ld3 rfl rfl ?_ | refine S.ld4 rfl rfl ?_ | refine S.ld5 rfl rfl ?_ | refine S.st0 (by rfl) fun _ S f => ?_ | refine S.st1 (by rfl) fun _ S f => ?_ | refine S.st2 (by rfl) fun _ S f => ?_ | refine S.st3 (by rfl) fun _ S f => ?_ | refine S.st4 (by rfl) fun _ S f => ?_ | refine S.st5 (by rfl) fun _ S f => ?_ | refine S.su0 (by rfl) fun _ S f => ?_ | refine S.su1 (by rfl) fun _ S f => ?_ | refine S.su2 (by rfl) fun _ S f => ?_ | refine S.su3 (by rfl) fun _ S f => ?_ | refine S.su4 (by rfl) fun _ S f => ?_ | refine S.su5 (by rfl) fun _ S f => ?_ | refine ⟨by decide, ?_⟩); try dsimp only [List.set_cons_zero, List.set_cons_succ, cond_true, cond_false, Bool.not_true, Bool.not_false]))
  have hne0 := S.ne 0 1 (by omega) rfl rfl
  have hne1 := S.ne 1 2 (by omega) rfl rfl
  refine S.regX (fun k => k = b3) fun D hD hkeep Sd T => ?_
  refine ⟨hD _ Sd.bl0 hne0, Sd.la0 rfl ⟨hD _ Sd.bl2 (fun e => hne1 e.symm), Sd.ld2 rfl rfl ⟨⟨by omega, by omega⟩, ?_⟩⟩⟩
  intro a17 ha17
  refine ⟨⟨by omega, by omega, by omega⟩, ?_⟩
  intro a18 ha18
  have i17 := hx.sub (l := 0) (hh := g.s.toNat) (m := c) (by omega) (by omega) (by omega) ha17
  rw [List.drop_zero, Nat.sub_zero] at i17
  have i18 := sub_part i6 (i := 48) (j := 80) (m := c - g.s.toNat) (by omega) (by omega) (by omega) ha18
  refine (rCommitted_c (i6.ext (e0.trans Sd.ext)) (by omega)).mono ?_
  rintro ⟨(r9 : Bool), ⟨⟩⟩ w9 ⟨h9, x9⟩
  dsimp only at h9 ⊢
  subst h9
  have S := Sd.stepE x9
  refine ⟨hkeep _ (Fr.of x9).any, ?_⟩
  refine S.st1 (by rfl) fun w10 S f10 => ⟨hkeep _ ((Fr.of x9).any.trans f10), S.la1 rfl ?_⟩
  exact ⟨S.ext, fun h => absurd hO h, fun _ => ⟨_, _, rfl, i17, i18⟩⟩
theorem rPDone_c {w0 w : World} {g : Geo} {a : Option Addr} {n c : Nat} {kind : Int} {xs : List Int} (hx : Ints w0 .u8 a n c xs) (e0 : Ext w0 w) (bx : Byt xs) (hL : lenP g xs) :
    CallV Tryz.prog 13 #[g.val, .slice a n c, .int .i64 kind] w [.agg [.int .i64, .int .i64, .int .i64, .int .u32, .int .u64, .int .u64, .sl, .sl, .bool, .bool]] fun r w' =>
      Ext w w' ∧ (¬ (okR (endP g xs) ∧ comm (endP g xs) = true ∧ (hdOf (endP g xs)).k = kind) → r.1 = zPu) ∧
      ((okR (endP g xs) ∧ comm (endP g xs) = true ∧ (hdOf (endP g xs)).k = kind) → ∃ s t : SlV, r.1 = pgU (hdOf (endP g xs)) s t (comm (endP g xs)) ∧ Ints w0 .u8 s.a s.n s.c (pays g xs) ∧ Ints w0 .u8 t.a t.n t.c (tags g xs)) := by
  apply ref15_Done.vc
  unfold ref15_Done.P
  have S := Sep.start NoB w
  (repeat ((first | refine S.newB fun _ _ S f _ => ?_ | refine S.la0 rfl ?_ | refine S.la1 rfl ?_ | refine S.la2 rfl ?_ | refine S.la3 rfl ?_ | refine S.la4 rfl ?_ | refine S.la5 rfl ?_ | refine S.ld0 rfl rfl ?_ | refine S.ld1 rfl rfl ?_ | refine S.ld2 rfl rfl ?_ | refine S.ld3 rfl rfl ?_ | refine S.ld4 rfl rfl ?_ | refine S.ld5 rfl rfl ?_ | refine S.st0 (by rfl) fun _ S f => ?_ | refine S.st1 (by rfl) fun _ S f => ?_ | refine S.st2 (by rfl) fun _ S f => ?_ | refine S.st3 (by rfl) fun _ S f => ?_ | refine S.st4 (by rfl) fun _ S f => ?_ | refine S.st5 (by rfl) fun _ S f => ?_ | refine S.su0 (by rfl) fun _ S f => ?_ | refine S.su1 (by rfl) fun _ S f => ?_ | refine S.su2 (by rfl) fun _ S f => ?_ | refine S.su3 (by rfl) fun _ S f => ?_ | refine S.su4 (by rfl) fun _ S f => ?_ | refine S.su5 (by rfl) fun _ S f => ?_ | refine ⟨by decide, ?_⟩); try dsimp only [List.set_cons_zero, List.set_cons_succ, cond_true, cond_false, Bool.not_true, Bool.not_false]))
  refine (rPRead_c (g := g) hx (e0.trans S.ext) bx hL).mono ?_
  rintro ⟨⟨(k1 : Int), (k2 : Int), (k3 : Int), (k4 : Int), (k5 : Int), (k6 : Int), ⟨sa, sn, sc⟩, ⟨ta, tn, tc⟩, (d : Bool), (o : Bool), ⟨⟩⟩, ⟨⟩⟩ w2 ⟨x2, h2, h3⟩
  dsimp only at h2 h3 ⊢
  have S := S.stepE x2
  by_cases hO : okR (endP g xs)
  case neg =>
    have q1 := h2 hO
    cases q1
    (repeat ((first | refine S.newB fun _ _ S f _ => ?_ | refine S.la0 rfl ?_ | refine S.la1 rfl ?_ | refine S.la2 rfl ?_ | refine S.la3 rfl ?_ | refine S.la4 rfl ?_ | refine S.la5 rfl ?_ | refine S.ld0 rfl rfl ?_ | refine S.ld1 rfl rfl ?_ | refine S.ld2 rfl rfl ?_ | refine S.ld3 rfl rfl ?_ | refine S.ld4 rfl rfl ?_ | refine S.ld5 rfl rfl ?_ | refine S.st0 (by rfl) fun _ S f => ?_ | refine S.st1 (by rfl) fun _ S f => ?_ | refine S.st2 (by rfl) fun _ S f => ?_ | refine S.st3 (by rfl) fun _ S f => ?_ | refine S.st4 (by rfl) fun _ S f => ?_ | refine S.st5 (by rfl) fun _ S f => ?_ | refine S.su0 (by rfl) fun _ S f => ?_ | refine S.su1 (by rfl) fun _ S f => ?_ | refine S.su2 (by rfl) fun _ S f => ?_ | refine S.su3 (by rfl) fun _ S f => ?_ | refine S.su4 (by rfl) fun _ S f => ?_ | refine S.su5 (by rfl) fun _ S f => ?_ | refine ⟨by decide, ?_⟩); try dsimp only [List.set_cons_zero, List.set_cons_succ, cond_true, cond_false, Bool.not_true, Bool.not_false]))
    exact ⟨S.ext, fun _ => rfl, fun h => absurd h.1 hO⟩
  obtain ⟨s, t, q2, is, it⟩ := h3 hO
  cases q2
  (repeat ((first | refine S.newB fun _ _ S f _ => ?_ | refine S.la0 rfl ?_ | refine S.la1 rfl ?_ | refine S.la2 rfl ?_ | refine S.la3 rfl ?_ | refine S.la4 rfl ?_ | refine S.la5 rfl ?_ | refine S.ld0 rfl rfl ?_ | refine S.ld1 rfl rfl ?_ | refine S.ld2 rfl rfl ?_ | refine S.ld3 rfl rfl ?_ | refine S.ld4 rfl rfl ?_ | refine S.ld5 rfl rfl ?_ | refine S.st0 (by rfl) fun _ S f => ?_ | refine S.st1 (by rfl) fun _ S f => ?_ | refine S.st2 (by rfl) fun _ S f => ?_ | refine S.st3 (by rfl) fun _ S f => ?_ | refine S.st4 (by rfl) fun _ S f => ?_ | refine S.st5 (by rfl) fun _ S f => ?_ | refine S.su0 (by rfl) fun _ S f => ?_ | refine S.su1 (by rfl) fun _ S f => ?_ | refine S.su2 (by rfl) fun _ S f => ?_ | refine S.su3 (by rfl) fun _ S f => ?_ | refine S.su4 (by rfl) fun _ S f => ?_ | refine S.su5 (by rfl) fun _ S f => ?_ | refine ⟨by decide, ?_⟩); try dsimp only [List.set_cons_zero, List.set_cons_succ, cond_true, cond_false, Bool.not_true, Bool.not_false]))
  refine cond_of (fun hc => ?_) (fun hc => ?_)
  · (repeat ((first | refine S.newB fun _ _ S f _ => ?_ | refine S.la0 rfl ?_ | refine S.la1 rfl ?_ | refine S.la2 rfl ?_ | refine S.la3 rfl ?_ | refine S.la4 rfl ?_ | refine S.la5 rfl ?_ | refine S.ld0 rfl rfl ?_ | refine S.ld1 rfl rfl ?_ | refine S.ld2 rfl rfl ?_ | refine S.ld3 rfl rfl ?_ | refine S.ld4 rfl rfl ?_ | refine S.ld5 rfl rfl ?_ | refine S.st0 (by rfl) fun _ S f => ?_ | refine S.st1 (by rfl) fun _ S f => ?_ | refine S.st2 (by rfl) fun _ S f => ?_ | refine S.st3 (by rfl) fun _ S f => ?_ | refine S.st4 (by rfl) fun _ S f => ?_ | refine S.st5 (by rfl) fun _ S f => ?_ | refine S.su0 (by rfl) fun _ S f => ?_ | refine S.su1 (by rfl) fun _ S f => ?_ | refine S.su2 (by rfl) fun _ S f => ?_ | refine S.su3 (by rfl) fun _ S f => ?_ | refine S.su4 (by rfl) fun _ S f => ?_ | refine S.su5 (by rfl) fun _ S f => ?_ | refine ⟨by decide, ?_⟩); try dsimp only [List.set_cons_zero, List.set_cons_succ, cond_true, cond_false, Bool.not_true, Bool.not_false]))
    exact ⟨S.ext, fun _ => rfl, fun h => by rw [h.2.1] at hc; cases hc⟩
  (repeat ((first | refine S.newB fun _ _ S f _ => ?_ | refine S.la0 rfl ?_ | refine S.la1 rfl ?_ | refine S.la2 rfl ?_ | refine S.la3 rfl ?_ | refine S.la4 rfl ?_ | refine S.la5 rfl ?_ | refine S.ld0 rfl rfl ?_ | refine S.ld1 rfl rfl ?_ | refine S.ld2 rfl rfl ?_ | refine S.ld3 rfl rfl ?_ | refine S.ld4 rfl rfl ?_ | refine S.ld5 rfl rfl ?_ | refine S.st0 (by rfl) fun _ S f => ?_ | refine S.st1 (by rfl) fun _ S f => ?_ | refine S.st2 (by rfl) fun _ S f => ?_ | refine S.st3 (by rfl) fun _ S f => ?_ | refine S.st4 (by rfl) fun _ S f => ?_ | refine S.st5 (by rfl) fun _ S f => ?_ | refine S.su0 (by rfl) fun _ S f => ?_ | refine S.su1 (by rfl) fun _ S f => ?_ | refine S.su2 (by rfl) fun _ S f => ?_ | refine S.su3 (by rfl) fun _ S f => ?_ | refine S.su4 (by rfl) fun _ S f => ?_ | refine S.su5 (by rfl) fun _ S f => ?_ | refine ⟨by decide, ?_⟩); try dsimp only [List.set_cons_zero, List.set_cons_succ, cond_true, cond_false, Bool.not_true, Bool.not_false]))
  refine cond_ne (fun hk => ?_) (fun hk => ?_)
  · (repeat ((first | refine S.newB fun _ _ S f _ => ?_ | refine S.la0 rfl ?_ | refine S.la1 rfl ?_ | refine S.la2 rfl ?_ | refine S.la3 rfl ?_ | refine S.la4 rfl ?_ | refine S.la5 rfl ?_ | refine S.ld0 rfl rfl ?_ | refine S.ld1 rfl rfl ?_ | refine S.ld2 rfl rfl ?_ | refine S.ld3 rfl rfl ?_ | refine S.ld4 rfl rfl ?_ | refine S.ld5 rfl rfl ?_ | refine S.st0 (by rfl) fun _ S f => ?_ | refine S.st1 (by rfl) fun _ S f => ?_ | refine S.st2 (by rfl) fun _ S f => ?_ | refine S.st3 (by rfl) fun _ S f => ?_ | refine S.st4 (by rfl) fun _ S f => ?_ | refine S.st5 (by rfl) fun _ S f => ?_ | refine S.su0 (by rfl) fun _ S f => ?_ | refine S.su1 (by rfl) fun _ S f => ?_ | refine S.su2 (by rfl) fun _ S f => ?_ | refine S.su3 (by rfl) fun _ S f => ?_ | refine S.su4 (by rfl) fun _ S f => ?_ | refine S.su5 (by rfl) fun _ S f => ?_ | refine ⟨by decide, ?_⟩); try dsimp only [List.set_cons_zero, List.set_cons_succ, cond_true, cond_false, Bool.not_true, Bool.not_false]))
    exact ⟨S.ext, fun _ => rfl, fun h => absurd h.2.2 hk⟩
  (repeat ((first | refine S.newB fun _ _ S f _ => ?_ | refine S.la0 rfl ?_ | refine S.la1 rfl ?_ | refine S.la2 rfl ?_ | refine S.la3 rfl ?_ | refine S.la4 rfl ?_ | refine S.la5 rfl ?_ | refine S.ld0 rfl rfl ?_ | refine S.ld1 rfl rfl ?_ | refine S.ld2 rfl rfl ?_ | refine S.ld3 rfl rfl ?_ | refine S.ld4 rfl rfl ?_ | refine S.ld5 rfl rfl ?_ | refine S.st0 (by rfl) fun _ S f => ?_ | refine S.st1 (by rfl) fun _ S f => ?_ | refine S.st2 (by rfl) fun _ S f => ?_ | refine S.st3 (by rfl) fun _ S f => ?_ | refine S.st4 (by rfl) fun _ S f => ?_ | refine S.st5 (by rfl) fun _ S f => ?_ | refine S.su0 (by rfl) fun _ S f => ?_ | refine S.su1 (by rfl) fun _ S f => ?_ | refine S.su2 (by rfl) fun _ S f => ?_ | refine S.su3 (by rfl) fun _ S f => ?_ | refine S.su4 (by rfl) fun _ S f => ?_ | refine S.su5 (by rfl) fun _ S f => ?_ | refine ⟨by decide, ?_⟩); try dsimp only [List.set_cons_zero, List.set_cons_succ, cond_true, cond_false, Bool.not_true, Bool.not_false]))
  exact ⟨S.ext, fun h => absurd ⟨hO, by simpa using hc, hk⟩ h, fun h => ⟨_, _, rfl, is, it⟩⟩
theorem mkL_byt {g : Geo} {h : Hd} {xs ts : List Int} (hg : h.rng) (hR : HRight h) (bx : Byt xs) (bt : Byt ts) : Byt (mkL g h xs ts) := by
  unfold mkL payL
  refine Byt.append ?_ (endL_byt hg hR bt)
  split
  · exact Byt.replicate (by omega) (by omega) _
  · exact bx
end Go.Proofs.YtlpeoaphdmfjdaaGreat.Vc
/-! Plain data of layer 24 (pool): what each of its operations makes. -/
namespace Go.Proofs.YtlpeoaphdmfjdaaGreat.Vc
open Go Go.Eng Go.RowKit
theorem comL_byt (g : Geo) : Byt (comL g) := by
  unfold comL
  intro x hx
  rcases List.mem_append.1 hx with h | h
  · rw [(List.mem_replicate.1 h).2]; decide
  · rw [(List.mem_replicate.1 h).2]; decide
theorem comL_len (g : Geo) : (comL g).length = (g.s + 80).toNat + 8 := by unfold comL; rw [List.length_append, List.length_replicate, List.length_replicate]
theorem chL_len (b : Int) (n : Nat) (φ : Blk → Blk) (L : List Blk) : (chL b n φ L).length = L.length := by unfold chL; split <;> simp
def dstP (C : CD) (L : List Blk) (b : Int) : CD × List Blk × Int :=
  if (eraC C (4 + b)).2 = 5 then
    (if (scrC (eraC C (4 + b)).1 (4 + b)).2 = 4 then ((scrC (eraC C (4 + b)).1 (4 + b)).1, chL b L.length fB L, 4)
     else ((scrC (eraC C (4 + b)).1 (4 + b)).1, chL b L.length (sB ((scrC (eraC C (4 + b)).1 (4 + b)).2 == 0)) (chL b L.length fB L), if (scrC (eraC C (4 + b)).1 (4 + b)).2 = 0 then 5 else 17))
  else ((eraC C (4 + b)).1, if (eraC C (4 + b)).2 = 0 then chL b L.length eB L else L, (eraC C (4 + b)).2)
def prgP (C : CD) (bl pa : Int) (xs : List Int) : CD × Int := if (progC C bl pa xs).2 = 0 then progC (progC C bl pa xs).1 bl pa (comL C.g) else progC C bl pa xs
def selP (C : CD) (b : Int) : CD × Int := progC C (4 + b) 0 (comL C.g)
def begH (L : List Blk) (b ns : Int) (o : Hd) : Hd := ⟨3, ns, 0, IntKind.u32.wrap (gx L b.toNat).er, o.e, o.t⟩
def fstP (C : CD) (b : Int) (h : Hd) (sl : Bool) : CD × Int :=
  if (progC C (4 + b) 0 (mkL C.g h [] [])).2 = 0 ∧ sl = true then selP (progC C (4 + b) 0 (mkL C.g h [] [])).1 b else progC C (4 + b) 0 (mkL C.g h [] [])
def begP (C : CD) (L : List Blk) (O : List Hd) (b ns : Int) (o : Hd) (sl : Bool) : CD × List Blk × List Hd × Int :=
  if (fstP C b (begH L b ns o) sl).2 = 0 then ((fstP C b (begH L b ns o) sl).1, chL b L.length (hB ns) L, O.set b.toNat (begH L b ns o), 0)
  else ((fstP C b (begH L b ns o) sl).1, L, O, (fstP C b (begH L b ns o) sl).2)
def opnP (ns : Int) (o : Hd) (sl : Bool) : Nat → CD → List Blk → List Hd → (CD × List Blk × List Hd) × Int × Int
  | 0, C, L, O => ((C, L, O), 0, 19)
  | k + 1, C, L, O =>
    if pickT L L.length < 0 then ((C, L, O), 0, 19) else
    let r := if (gx L (pickT L L.length).toNat).cl = true then (C, L, 0) else dstP C L (pickT L L.length)
    if r.2.2 = 0 then
      (let s := begP r.1 r.2.1 O (pickT L L.length) ns o sl
       if s.2.2.2 = 0 then ((s.1, s.2.1, s.2.2.1), pickT L L.length, 0) else
       if s.2.2.2 = 4 then ((s.1, s.2.1, s.2.2.1), 0, 4) else
       let d := dstP s.1 (chL (pickT L L.length) L.length fB s.2.1) (pickT L L.length)
       if d.2.2 = 4 then ((d.1, d.2.1, s.2.2.1), 0, 4) else opnP ns o sl k d.1 d.2.1 s.2.2.1)
    else if r.2.2 = 4 then ((r.1, r.2.1, O), 0, 4) else opnP ns o sl k r.1 r.2.1 O
structure PI (g : Geo) (n : Nat) (C : CD) (L : List Blk) (O : List Hd) : Prop where
  ok : COk C
  gg : C.g = g
  nn : (n : Int) = g.b - 4
  ll : L.length = n
  ol : O.length = n
  er : ∀ x ∈ L, 0 ≤ x.er ∧ x.er ≤ (C.ops : Int)
section
variable {g : Geo} {n : Nat} {C : CD} {L : List Blk} {O : List Hd}
theorem chL_er {b m : Int} {N : Nat} {φ : Blk → Blk} {L : List Blk} (hφ : ∀ x, (φ x).er = x.er) (hL : ∀ x ∈ L, 0 ≤ x.er ∧ x.er ≤ m) (hm : 0 ≤ m) : ∀ x ∈ chL b N φ L, 0 ≤ x.er ∧ x.er ≤ m := by
  intro x hx
  unfold chL at hx
  split at hx
  · rcases List.mem_or_eq_of_mem_set hx with k | k
    · exact hL x k
    · rw [k, hφ, List.getD_eq_getElem?_getD]
      cases he : L[b.toNat]? with
      | none => exact ⟨Int.le_refl _, hm⟩
      | some y => exact hL y (List.mem_of_getElem? he)
  · exact hL x hx
theorem PI.dst (h : PI g n C L O) (b : Int) (ho : C.ops + 2 ≤ 1000000) : PI g n (dstP C L b).1 (dstP C L b).2.1 O ∧ (dstP C L b).1.ops ≤ C.ops + 2 ∧ C.ops ≤ (dstP C L b).1.ops := by
  obtain ⟨a1, a2, a3⟩ := eraC_ok h.ok (4 + b) (by omega)
  obtain ⟨b1, b2⟩ := eraC_k C (4 + b)
  have up : ∀ {C' : CD} {L' : List Blk}, COk C' → C'.g = C.g → C.ops ≤ C'.ops → L'.length = L.length → (∀ x ∈ L', 0 ≤ x.er ∧ x.er ≤ (C'.ops : Int)) → PI g n C' L' O := fun c1 c2 c3 c4 c5 => ⟨c1, c2.trans h.gg, h.nn, c4.trans h.ll, h.ol, c5⟩
  have hL2 : ∀ {m : Int}, (C.ops : Int) ≤ m → ∀ x ∈ L, 0 ≤ x.er ∧ x.er ≤ m := fun hm x hx => by have := h.er x hx; omega
  unfold dstP
  split
  · obtain ⟨d1, d2, d3⟩ := scrC_ok a1 (4 + b) (by omega)
    obtain ⟨e1, e2⟩ := scrC_k (eraC C (4 + b)).1 (4 + b)
    split
    · dsimp only
      exact ⟨up d1 (e1.trans b1) (by omega) (chL_len ..) (chL_er (fun _ => rfl) (hL2 (by show _ ≤ ((scrC (eraC C (4 + b)).1 (4 + b)).1.ops : Int); omega)) (by show (0 : Int) ≤ ((scrC (eraC C (4 + b)).1 (4 + b)).1.ops : Int); omega)), by omega, by omega⟩
    · dsimp only
      exact ⟨up d1 (e1.trans b1) (by omega) ((chL_len ..).trans (chL_len ..)) (chL_er (fun _ => rfl) (chL_er (fun _ => rfl) (hL2 (by show _ ≤ ((scrC (eraC C (4 + b)).1 (4 + b)).1.ops : Int); omega)) (by show (0 : Int) ≤ ((scrC (eraC C (4 + b)).1 (4 + b)).1.ops : Int); omega)) (by show (0 : Int) ≤ ((scrC (eraC C (4 + b)).1 (4 + b)).1.ops : Int); omega)), by omega, by omega⟩
  · dsimp only
    refine ⟨up a1 b1 a3 (by split; exact chL_len ..; rfl) ?_, by omega, a3⟩
    split
    · rename_i h0
      have hops : (eraC C (4 + b)).1.ops = C.ops + 1 := by
        unfold eraC at h0 ⊢
        split
        · rfl
        · rename_i hm
          rw [if_neg hm] at h0
          exact absurd h0 hm
      intro x hx
      unfold chL at hx
      rw [hops]
      push_cast
      split at hx
      · rcases List.mem_or_eq_of_mem_set hx with k | k
        · have := h.er x k; omega
        · rw [k]
          show 0 ≤ (L.getD b.toNat default).er + 1 ∧ (L.getD b.toNat default).er + 1 ≤ _
          rw [List.getD_eq_getElem?_getD]
          cases he : L[b.toNat]? with
          | none => exact ⟨by show (0 : Int) ≤ 0 + 1; decide, by show (0 : Int) + 1 ≤ _; omega⟩
          | some y => have := h.er y (List.mem_of_getElem? he); exact ⟨by show 0 ≤ y.er + 1; omega, by show y.er + 1 ≤ _; omega⟩
      · have := h.er x hx; omega
    · exact hL2 (by show _ ≤ ((eraC C (4 + b)).1.ops : Int); omega)
theorem PI.prog (h : PI g n C L O) (bl pa : Int) {xs : List Int} (bx : Byt xs) (ho : C.ops + 1 ≤ 1000000) : PI g n (progC C bl pa xs).1 L O ∧ (progC C bl pa xs).1.ops ≤ C.ops + 1 ∧ C.ops ≤ (progC C bl pa xs).1.ops := by
  obtain ⟨a1, a2, a3⟩ := progC_ok h.ok bl pa bx (by omega)
  exact ⟨⟨a1, (progC_k C bl pa xs).1.trans h.gg, h.nn, h.ll, h.ol, fun x hx => by have := h.er x hx; omega⟩, a2, a3⟩
theorem PI.prg (h : PI g n C L O) (bl pa : Int) {xs : List Int} (bx : Byt xs) (ho : C.ops + 2 ≤ 1000000) : PI g n (prgP C bl pa xs).1 L O ∧ (prgP C bl pa xs).1.ops ≤ C.ops + 2 ∧ C.ops ≤ (prgP C bl pa xs).1.ops := by
  obtain ⟨a1, a2, a3⟩ := h.prog bl pa bx (by omega)
  unfold prgP
  split
  · obtain ⟨b1, b2, b3⟩ := a1.prog bl pa (comL_byt C.g) (by omega)
    exact ⟨b1, by omega, by omega⟩
  · exact ⟨a1, by omega, a3⟩
theorem PI.sel (h : PI g n C L O) (b : Int) (ho : C.ops + 1 ≤ 1000000) : PI g n (selP C b).1 L O ∧ (selP C b).1.ops ≤ C.ops + 1 ∧ C.ops ≤ (selP C b).1.ops := h.prog _ _ (comL_byt C.g) ho
theorem PI.fst (h : PI g n C L O) (b : Int) {hd : Hd} (hr : hd.rng) (hR : HRight hd) (sl : Bool) (ho : C.ops + 2 ≤ 1000000) : PI g n (fstP C b hd sl).1 L O ∧ (fstP C b hd sl).1.ops ≤ C.ops + 2 ∧ C.ops ≤ (fstP C b hd sl).1.ops := by
  obtain ⟨a1, a2, a3⟩ := h.prog (4 + b) 0 (mkL_byt (g := C.g) hr hR Byt.nil Byt.nil) (by omega)
  unfold fstP
  split
  · obtain ⟨b1, b2, b3⟩ := a1.sel b (by omega)
    exact ⟨b1, by omega, by omega⟩
  · exact ⟨a1, by omega, a3⟩
theorem begH_rng {ns : Int} {o : Hd} (L : List Blk) (b : Int) (hn : 0 ≤ ns ∧ ns < 4) (ho : o.rng) : (begH L b ns o).rng := by
  have hw : IntKind.u32.wrap (gx L b.toNat).er = (gx L b.toNat).er % 4294967296 := u32_wrap _
  unfold Hd.rng begH at *
  dsimp only at *
  omega
theorem begH_right {ns : Int} {o : Hd} (L : List Blk) (b : Int) (hn : 0 ≤ ns ∧ ns < 4) : HRight (begH L b ns o) := by
  unfold HRight begH
  dsimp only
  omega
theorem PI.chL (h : PI g n C L O) (b : Int) {φ : Blk → Blk} (hφ : ∀ x, (φ x).er = x.er) : PI g n C (chL b L.length φ L) O :=
  ⟨h.ok, h.gg, h.nn, (chL_len ..).trans h.ll, h.ol, chL_er hφ h.er (Int.natCast_nonneg _)⟩
theorem PI.beg (h : PI g n C L O) (b : Int) {ns : Int} {o : Hd} (hn : 0 ≤ ns ∧ ns < 4) (hr : o.rng) (sl : Bool) (ho : C.ops + 2 ≤ 1000000) :
    PI g n (begP C L O b ns o sl).1 (begP C L O b ns o sl).2.1 (begP C L O b ns o sl).2.2.1 ∧ (begP C L O b ns o sl).1.ops ≤ C.ops + 2 ∧ C.ops ≤ (begP C L O b ns o sl).1.ops := by
  obtain ⟨a1, a2, a3⟩ := h.fst b (begH_rng L b hn hr) (begH_right L b (o := o) hn) sl ho
  unfold begP
  split
  · have k := a1.chL b (φ := hB ns) (fun _ => rfl)
    exact ⟨⟨k.ok, k.gg, k.nn, k.ll, (List.length_set ..).trans h.ol, k.er⟩, a2, a3⟩
  · exact ⟨a1, a2, a3⟩
theorem PI.opn {ns : Int} {o : Hd} (hn : 0 ≤ ns ∧ ns < 4) (hr : o.rng) (sl : Bool) : ∀ (k : Nat) {C : CD} {L : List Blk} {O : List Hd}, PI g n C L O → C.ops + 6 * k ≤ 1000000 →
    PI g n (opnP ns o sl k C L O).1.1 (opnP ns o sl k C L O).1.2.1 (opnP ns o sl k C L O).1.2.2 ∧ (opnP ns o sl k C L O).1.1.ops ≤ C.ops + 6 * k ∧ C.ops ≤ (opnP ns o sl k C L O).1.1.ops
  | 0, C, L, O, h, ho => ⟨h, Nat.le_refl _, Nat.le_refl _⟩
  | k + 1, C, L, O, h, ho => by
    unfold opnP
    split
    · dsimp only
      exact ⟨h, by omega, Nat.le_refl _⟩
    · have hd : ∃ C1 L1 e1, (if (gx L (pickT L L.length).toNat).cl = true then (C, L, 0) else dstP C L (pickT L L.length)) = (C1, L1, e1) ∧ PI g n C1 L1 O ∧ C1.ops ≤ C.ops + 2 ∧ C.ops ≤ C1.ops := by
        split
        · exact ⟨C, L, 0, rfl, h, by omega, Nat.le_refl _⟩
        · obtain ⟨x1, x2, x3⟩ := h.dst (pickT L L.length) (by omega)
          exact ⟨_, _, _, rfl, x1, x2, x3⟩
      obtain ⟨C1, L1, e1, hq, h1, h2, h3⟩ := hd
      rw [hq]
      dsimp only
      split
      · obtain ⟨s1, s2, s3⟩ := h1.beg (pickT L L.length) (o := o) hn hr sl (by omega)
        split
        · dsimp only
          exact ⟨s1, by omega, by omega⟩
        · split
          · dsimp only
            exact ⟨s1, by omega, by omega⟩
          · have hk := s1.chL (pickT L L.length) (φ := fB) (fun _ => rfl)
            have hl : (begP C1 L1 O (pickT L L.length) ns o sl).2.1.length = L.length := by rw [s1.ll, h.ll]
            rw [hl] at hk
            obtain ⟨d1, d2, d3⟩ := hk.dst (pickT L L.length) (by omega)
            split
            · dsimp only
              exact ⟨d1, by omega, by omega⟩
            · obtain ⟨e1, e2, e3⟩ := PI.opn hn hr sl k d1 (by omega)
              exact ⟨e1, by omega, by omega⟩
      · split
        · dsimp only
          exact ⟨h1, by omega, by omega⟩
        · obtain ⟨e1, e2, e3⟩ := PI.opn hn hr sl k h1 (by omega)
          exact ⟨e1, by omega, by omega⟩
end
end Go.Proofs.YtlpeoaphdmfjdaaGreat.Vc
/-! The plans of functions as plain statements, printed by wip/tools/vcgen.py; the kernel holds each to the code. -/
namespace Go.Proofs.YtlpeoaphdmfjdaaGreat.Vc
open Go Go.Eng
def pool_New.A : Ann := .two .no (.two .no (.two .no (.two .no (.two (.draw (.take 0 (.take 1 (.take 2 (.take 4 (.eff 3 (.eff 5 (.take 6 (.eff 7 (.take 8 (.take 9 (.done)))))))))))) .no))))
def pool_New.P (p0 p1 : Addr) (a2 : Option Addr) (n2 c2 : Nat) (w : World) (K : (Option Addr) × Int × Unit → World → Prop) : Prop :=
  CallV Tryz.prog 59 #[.pointer (some p0)] w [.agg [.int .i64, .int .i64, .int .i64, .int .i64, .int .i64, .int .i64]] fun (r1 : (Int × Int × Int × Int × Int × Int × Unit) × Unit) w2 =>
  NewV #[.int .i64 0, .int .i64 0, .int .i64 0, .int .i64 0, .int .i64 0, .int .i64 0] 23 w2 fun b3 w4 =>
  StoreV w4 ⟨b3, 0, none⟩ [.int .i64 r1.1.1, .int .i64 r1.1.2.1, .int .i64 r1.1.2.2.1, .int .i64 r1.1.2.2.2.1, .int .i64 r1.1.2.2.2.2.1, .int .i64 r1.1.2.2.2.2.2.1] fun w5 =>
  LoadA w5 ⟨b3, 0, none⟩ [.int .i64, .int .i64, .int .i64, .int .i64, .int .i64, .int .i64] fun (x6 : Int × Int × Int × Int × Int × Int × Unit) =>
  CallV Tryz.prog 77 #[.agg #[.int .i64 x6.1, .int .i64 x6.2.1, .int .i64 x6.2.2.1, .int .i64 x6.2.2.2.1, .int .i64 x6.2.2.2.2.1, .int .i64 x6.2.2.2.2.2.1]] w5 [.one (.int .i64)] fun (r7 : Int × Unit) w8 =>
  cond (r7.1 == 0)
  (K (none, (2 : Int), ()) w8)
  (CallV Tryz.prog 78 #[.pointer (some p1)] w8 [.one (.int .i64)] fun (r9 : Int × Unit) w10 =>
  cond (r9.1 != r7.1)
  (K (none, (2 : Int), ()) w10)
  (cond (((n2 : Nat) : Int) != r7.1)
  (K (none, (2 : Int), ()) w10)
  (DrawV fun D11 =>
  (D11 b3 ∧ LoadA w10.drew ⟨b3, 0, none⟩ [.int .i64, .int .i64, .int .i64, .int .i64, .int .i64, .int .i64] fun (x12 : Int × Int × Int × Int × Int × Int × Unit) =>
  NewV #[] 46 w10.drew fun b13 w14 =>
  KeepOn D11 w10.drew w14 ∧
  AppS w14 a2 n2 6 fun ns19 =>
  AppV w14 46 6 48 (some ⟨b13, 0, none⟩) 0 0 ns19 n2 fun a15 n16 c17 w18 =>
  KeepOn D11 w10.drew w18 ∧
  NewV #[.pointer (some p0), .int .i64 x12.1, .int .i64 x12.2.1, .int .i64 x12.2.2.1, .int .i64 x12.2.2.2.1, .int .i64 x12.2.2.2.2.1, .int .i64 x12.2.2.2.2.2.1, .pointer (some p1), .slice a15 n16 c17] 107 w18 fun b20 w21 =>
  KeepOn D11 w10.drew w21 ∧
  K ((some ⟨b20, 0, none⟩), (0 : Int), ()) w21))))
theorem pool_New.vc (p0 p1 : Addr) (a2 : Option Addr) (n2 c2 : Nat) (w : World) (K : (Option Addr) × Int × Unit → World → Prop) (h : pool_New.P p0 p1 a2 n2 c2 w K) : CallV Tryz.prog 34 #[.pointer (some p0), .pointer (some p1), .slice a2 n2 c2] w [.one .ptr, .one (.int .i64)] K := by
  refine vcFun.of (A := pool_New.A) (wr := false) okf_ok follows h Tryz.func34 ?_
  kernel_rfl
def pool_Pool_Ledger.A : Ann := .no
def pool_Pool_Ledger.P (p0 : Addr) (w : World) (K : (Option Addr) × Unit → World → Prop) : Prop :=
  LoadS w (p0.add 7) .ptr fun (x1 : Option Addr) =>
  K (x1, ()) w
theorem pool_Pool_Ledger.vc (p0 : Addr) (w : World) (K : (Option Addr) × Unit → World → Prop) (h : pool_Pool_Ledger.P p0 w K) : CallV Tryz.prog 14 #[.pointer (some p0)] w [.one .ptr] K := by
  refine vcFun.of (A := pool_Pool_Ledger.A) (wr := false) okf_ok follows h Tryz.func14 ?_
  kernel_rfl
def pool_Pool_has.A : Ann := .no
def pool_Pool_has.P (p0 : Addr) (p1 : Int) (w : World) (K : Bool × Unit → World → Prop) : Prop :=
  cond (decide (p1 ≥ 0))
  (LoadS w (p0.add 8) .sl fun (x1 : SlV) =>
  K (decide (p1 < ((x1.n : Nat) : Int)), ()) w)
  (K (false, ()) w)
theorem pool_Pool_has.vc (p0 : Addr) (p1 : Int) (w : World) (K : Bool × Unit → World → Prop) (h : pool_Pool_has.P p0 p1 w K) : CallV Tryz.prog 44 #[.pointer (some p0), .int .i64 p1] w [.one .bool] K := by
  refine vcFun.of (A := pool_Pool_has.A) (wr := false) okf_ok follows h Tryz.func44 ?_
  kernel_rfl
def pool_Pool_Order.A : Ann := .no
def pool_Pool_Order.P (p0 : Addr) (p1 : Int) (w : World) (K : (Int × Int × Int × Int × Int × Int × Unit) × Unit → World → Prop) : Prop :=
  NewV #[.int .i64 0, .int .i64 0, .int .i64 0, .int .u32 0, .int .u64 0, .int .u64 0] 46 w fun b1 w2 =>
  CallV Tryz.prog 44 #[.pointer (some p0), .int .i64 p1] w2 [.one .bool] fun (r3 : Bool × Unit) w4 =>
  cond (!r3.1)
  (StoreV w4 ⟨b1, 0, none⟩ [.int .i64 0, .int .i64 0, .int .i64 0, .int .u32 0, .int .u64 0, .int .u64 0] fun w5 =>
  LoadA w5 ⟨b1, 0, none⟩ [.int .i64, .int .i64, .int .i64, .int .u32, .int .u64, .int .u64] fun (x6 : Int × Int × Int × Int × Int × Int × Unit) =>
  K ((x6.1, x6.2.1, x6.2.2.1, x6.2.2.2.1, x6.2.2.2.2.1, x6.2.2.2.2.2.1, ()), ()) w5)
  (LoadS w4 (p0.add 8) .sl fun (x7 : SlV) =>
  (0 ≤ p1 ∧ p1 < ((x7.n : Nat) : Int)) ∧ ∃ q8 : Addr, x7.a = some q8 ∧
  LoadA w4 (q8.add (p1.toNat * 6)) [.int .i64, .int .i64, .int .i64, .int .u32, .int .u64, .int .u64] fun (x9 : Int × Int × Int × Int × Int × Int × Unit) =>
  StoreV w4 ⟨b1, 0, none⟩ [.int .i64 x9.1, .int .i64 x9.2.1, .int .i64 x9.2.2.1, .int .u32 x9.2.2.2.1, .int .u64 x9.2.2.2.2.1, .int .u64 x9.2.2.2.2.2.1] fun w10 =>
  LoadA w10 ⟨b1, 0, none⟩ [.int .i64, .int .i64, .int .i64, .int .u32, .int .u64, .int .u64] fun (x11 : Int × Int × Int × Int × Int × Int × Unit) =>
  K ((x11.1, x11.2.1, x11.2.2.1, x11.2.2.2.1, x11.2.2.2.2.1, x11.2.2.2.2.2.1, ()), ()) w10)
theorem pool_Pool_Order.vc (p0 : Addr) (p1 : Int) (w : World) (K : (Int × Int × Int × Int × Int × Int × Unit) × Unit → World → Prop) (h : pool_Pool_Order.P p0 p1 w K) : CallV Tryz.prog 16 #[.pointer (some p0), .int .i64 p1] w [.agg [.int .i64, .int .i64, .int .i64, .int .u32, .int .u64, .int .u64]] K := by
  refine vcFun.of (A := pool_Pool_Order.A) (wr := false) okf_ok follows h Tryz.func16 ?_
  kernel_rfl
def pool_Pool_Place.A : Ann := .no
def pool_Pool_Place.P (p0 : Addr) (p1 p2 : Int) (w : World) (K : (Int × Int × Unit) × Unit → World → Prop) : Prop :=
  NewV #[.int .i64 0, .int .i64 0] 160 w fun b1 w2 =>
  Rng .i64 ((4 : Int) + p1) ∧
  StoreV w2 ⟨b1, 0, none⟩ [.int .i64 ((4 : Int) + p1), .int .i64 p2] fun w3 =>
  LoadA w3 ⟨b1, 0, none⟩ [.int .i64, .int .i64] fun (x4 : Int × Int × Unit) =>
  K ((x4.1, x4.2.1, ()), ()) w3
theorem pool_Pool_Place.vc (p0 : Addr) (p1 p2 : Int) (w : World) (K : (Int × Int × Unit) × Unit → World → Prop) (h : pool_Pool_Place.P p0 p1 p2 w K) : CallV Tryz.prog 93 #[.pointer (some p0), .int .i64 p1, .int .i64 p2] w [.agg [.int .i64, .int .i64]] K := by
  refine vcFun.of (A := pool_Pool_Place.A) (wr := false) okf_ok follows h Tryz.func93 ?_
  kernel_rfl
def pool_Pool_Destroy.A : Ann := .no
def pool_Pool_Destroy.P (p0 : Addr) (p1 : Int) (w : World) (K : Int × Unit → World → Prop) : Prop :=
  CallV Tryz.prog 44 #[.pointer (some p0), .int .i64 p1] w [.one .bool] fun (r1 : Bool × Unit) w2 =>
  cond (!r1.1)
  (K ((2 : Int), ()) w2)
  (LoadS w2 p0 .ptr fun (x3 : Option Addr) =>
  Rng .i64 ((4 : Int) + p1) ∧
  CallV Tryz.prog 45 #[.pointer x3, .int .i64 ((4 : Int) + p1)] w2 [.one (.int .i64)] fun (r4 : Int × Unit) w5 =>
  cond (r4.1 == 0)
  (LoadS w5 (p0.add 7) .ptr fun (x6 : Option Addr) =>
  CallV Tryz.prog 46 #[.pointer x6, .int .i64 p1] w5 [.one (.int .i64)] fun (r7 : Int × Unit) w8 =>
  cond (r4.1 != 5)
  (K (r4.1, ()) w8)
  (LoadS w8 (p0.add 7) .ptr fun (x9 : Option Addr) =>
  CallV Tryz.prog 47 #[.pointer x9, .int .i64 p1] w8 [.one (.int .i64)] fun (r10 : Int × Unit) w11 =>
  LoadS w11 p0 .ptr fun (x12 : Option Addr) =>
  Rng .i64 ((4 : Int) + p1) ∧
  CallV Tryz.prog 48 #[.pointer x12, .int .i64 ((4 : Int) + p1)] w11 [.one (.int .i64)] fun (r13 : Int × Unit) w14 =>
  cond (r13.1 == 4)
  (K (r13.1, ()) w14)
  (LoadS w14 (p0.add 7) .ptr fun (x15 : Option Addr) =>
  CallV Tryz.prog 49 #[.pointer x15, .int .i64 p1, .bool (r13.1 == 0)] w14 [.one (.int .i64)] fun (r16 : Int × Unit) w17 =>
  cond (r13.1 == 0)
  (K ((5 : Int), ()) w17)
  (K ((17 : Int), ()) w17))))
  (cond (r4.1 != 5)
  (K (r4.1, ()) w5)
  (LoadS w5 (p0.add 7) .ptr fun (x18 : Option Addr) =>
  CallV Tryz.prog 47 #[.pointer x18, .int .i64 p1] w5 [.one (.int .i64)] fun (r19 : Int × Unit) w20 =>
  LoadS w20 p0 .ptr fun (x21 : Option Addr) =>
  Rng .i64 ((4 : Int) + p1) ∧
  CallV Tryz.prog 48 #[.pointer x21, .int .i64 ((4 : Int) + p1)] w20 [.one (.int .i64)] fun (r22 : Int × Unit) w23 =>
  cond (r22.1 == 4)
  (K (r22.1, ()) w23)
  (LoadS w23 (p0.add 7) .ptr fun (x24 : Option Addr) =>
  CallV Tryz.prog 49 #[.pointer x24, .int .i64 p1, .bool (r22.1 == 0)] w23 [.one (.int .i64)] fun (r25 : Int × Unit) w26 =>
  cond (r22.1 == 0)
  (K ((5 : Int), ()) w26)
  (K ((17 : Int), ()) w26)))))
theorem pool_Pool_Destroy.vc (p0 : Addr) (p1 : Int) (w : World) (K : Int × Unit → World → Prop) (h : pool_Pool_Destroy.P p0 p1 w K) : CallV Tryz.prog 10 #[.pointer (some p0), .int .i64 p1] w [.one (.int .i64)] K := by
  refine vcFun.of (A := pool_Pool_Destroy.A) (wr := false) okf_ok follows h Tryz.func10 ?_
  kernel_rfl
def pool_Pool_programmed.A : Ann := .two .no (.two (.two (.draw (.take 0 (.take 1 (.take 2 (.take 3 (.take 4 (.take 5 (.eff 6 (.take 7 (.done)))))))))) .no) (.two .no (.two .no (.two (.draw (.take 0 (.take 1 (.take 2 (.take 3 (.take 4 (.take 5 (.eff 6 (.take 7 (.done)))))))))) .no))))
def pool_Pool_programmed.P (p0 : Addr) (p1_0 p1_1 : Int) (a2 : Option Addr) (n2 c2 : Nat) (w : World) (K : Int × Unit → World → Prop) : Prop :=
  NewV #[.int .i64 p1_0, .int .i64 p1_1] 160 w fun b1 w2 =>
  DrawV fun D3 =>
  (D3 p0.block ∧ LoadS w2.drew p0 .ptr fun (x4 : Option Addr) =>
  (D3 b1 ∧ LoadA w2.drew ⟨b1, 0, none⟩ [.int .i64, .int .i64] fun (x5 : Int × Int × Unit) =>
  CallV Tryz.prog 92 #[.pointer x4, .agg #[.int .i64 x5.1, .int .i64 x5.2.1], .slice a2 n2 c2] w2.drew [.one (.int .i64)] fun (r6 : Int × Unit) w7 =>
  KeepOn D3 w2.drew w7 ∧
  cond (r6.1 != 0)
  (K (r6.1, ()) w7)
  (LoadA w7 (p0.add 1) [.int .i64, .int .i64, .int .i64, .int .i64, .int .i64, .int .i64] fun (x8 : Int × Int × Int × Int × Int × Int × Unit) =>
  CallV Tryz.prog 91 #[.agg #[.int .i64 x8.1, .int .i64 x8.2.1, .int .i64 x8.2.2.1, .int .i64 x8.2.2.2.1, .int .i64 x8.2.2.2.2.1, .int .i64 x8.2.2.2.2.2.1]] w7 [.one .sl, .one (.int .i64)] fun (r9 : SlV × Int × Unit) w10 =>
  cond (r9.2.1 != 0)
  (K (r9.2.1, ()) w10)
  (DrawV fun D11 =>
  (D11 p0.block ∧ LoadS w10.drew p0 .ptr fun (x12 : Option Addr) =>
  (D11 b1 ∧ LoadA w10.drew ⟨b1, 0, none⟩ [.int .i64, .int .i64] fun (x13 : Int × Int × Unit) =>
  CallV Tryz.prog 92 #[.pointer x12, .agg #[.int .i64 x13.1, .int .i64 x13.2.1], .slice r9.1.a r9.1.n r9.1.c] w10.drew [.one (.int .i64)] fun (r14 : Int × Unit) w15 =>
  KeepOn D11 w10.drew w15 ∧
  K (r14.1, ()) w15))))))
theorem pool_Pool_programmed.vc (p0 : Addr) (p1_0 p1_1 : Int) (a2 : Option Addr) (n2 c2 : Nat) (w : World) (K : Int × Unit → World → Prop) (h : pool_Pool_programmed.P p0 p1_0 p1_1 a2 n2 c2 w K) : CallV Tryz.prog 139 #[.pointer (some p0), .agg #[.int .i64 p1_0, .int .i64 p1_1], .slice a2 n2 c2] w [.one (.int .i64)] K := by
  refine vcFun.of (A := pool_Pool_programmed.A) (wr := false) okf_ok follows h Tryz.func139 ?_
  kernel_rfl
def pool_Pool_Write.A : Ann := .two .no (.two .no (.two (.draw (.take 0 (.take 1 (.take 2 (.take 3 (.take 4 (.take 5 (.take 6 (.eff 7 (.take 8 (.take 9 (.take 10 (.take 11 (.take 12 (.done))))))))))))))) .no))
def pool_Pool_Write.P (p0 : Addr) (p1 p2 p3_0 p3_1 p3_2 p3_3 p3_4 p3_5 : Int) (a4 : Option Addr) (n4 c4 : Nat) (a5 : Option Addr) (n5 c5 : Nat) (w : World) (K : Int × Unit → World → Prop) : Prop :=
  NewV #[.int .i64 p3_0, .int .i64 p3_1, .int .i64 p3_2, .int .u32 p3_3, .int .u64 p3_4, .int .u64 p3_5] 46 w fun b1 w2 =>
  CallV Tryz.prog 44 #[.pointer (some p0), .int .i64 p1] w2 [.one .bool] fun (r3 : Bool × Unit) w4 =>
  cond (!r3.1)
  (K ((2 : Int), ()) w4)
  (DrawV fun D5 =>
  (D5 (p0.add 1).block ∧ LoadA w4.drew (p0.add 1) [.int .i64, .int .i64, .int .i64, .int .i64, .int .i64, .int .i64] fun (x6 : Int × Int × Int × Int × Int × Int × Unit) =>
  (D5 b1 ∧ LoadA w4.drew ⟨b1, 0, none⟩ [.int .i64, .int .i64, .int .i64, .int .u32, .int .u64, .int .u64] fun (x7 : Int × Int × Int × Int × Int × Int × Unit) =>
  CallV Tryz.prog 127 #[.agg #[.int .i64 x6.1, .int .i64 x6.2.1, .int .i64 x6.2.2.1, .int .i64 x6.2.2.2.1, .int .i64 x6.2.2.2.2.1, .int .i64 x6.2.2.2.2.2.1], .agg #[.int .i64 x7.1, .int .i64 x7.2.1, .int .i64 x7.2.2.1, .int .u32 x7.2.2.2.1, .int .u64 x7.2.2.2.2.1, .int .u64 x7.2.2.2.2.2.1], .slice a4 n4 c4, .slice a5 n5 c5] w4.drew [.one .sl, .one (.int .i64)] fun (r8 : SlV × Int × Unit) w9 =>
  KeepOn D5 w4.drew w9 ∧
  cond (r8.2.1 != 0)
  (K (r8.2.1, ()) w9)
  (CallV Tryz.prog 93 #[.pointer (some p0), .int .i64 p1, .int .i64 p2] w9 [.agg [.int .i64, .int .i64]] fun (r10 : (Int × Int × Unit) × Unit) w11 =>
  CallV Tryz.prog 139 #[.pointer (some p0), .agg #[.int .i64 r10.1.1, .int .i64 r10.1.2.1], .slice r8.1.a r8.1.n r8.1.c] w11 [.one (.int .i64)] fun (r12 : Int × Unit) w13 =>
  K (r12.1, ()) w13))))
theorem pool_Pool_Write.vc (p0 : Addr) (p1 p2 p3_0 p3_1 p3_2 p3_3 p3_4 p3_5 : Int) (a4 : Option Addr) (n4 c4 : Nat) (a5 : Option Addr) (n5 c5 : Nat) (w : World) (K : Int × Unit → World → Prop) (h : pool_Pool_Write.P p0 p1 p2 p3_0 p3_1 p3_2 p3_3 p3_4 p3_5 a4 n4 c4 a5 n5 c5 w K) : CallV Tryz.prog 84 #[.pointer (some p0), .int .i64 p1, .int .i64 p2, .agg #[.int .i64 p3_0, .int .i64 p3_1, .int .i64 p3_2, .int .u32 p3_3, .int .u64 p3_4, .int .u64 p3_5], .slice a4 n4 c4, .slice a5 n5 c5] w [.one (.int .i64)] K := by
  refine vcFun.of (A := pool_Pool_Write.A) (wr := false) okf_ok follows h Tryz.func84 ?_
  kernel_rfl
def pool_Pool_Copy.A : Ann := .two .no (.two .no (.two (.draw (.take 0 (.take 1 (.take 2 (.take 3 (.take 4 (.eff 5 (.take 6 (.take 7 (.take 8 (.take 9 (.take 10 (.done))))))))))))) (.two .no (.two (.two .no (.one (.loop [11, 31, 32, 33, 34, 35, 36, 37, 38, 39] [(11, .one (.int .i64))] .no))) .no))))
def pool_Pool_Copy.P (p0 : Addr) (p1 p2 p3_0 p3_1 : Int) (w : World) (K : Int × Unit → World → Prop) : Prop :=
  NewV #[.int .i64 p3_0, .int .i64 p3_1] 160 w fun b1 w2 =>
  CallV Tryz.prog 44 #[.pointer (some p0), .int .i64 p1] w2 [.one .bool] fun (r3 : Bool × Unit) w4 =>
  cond (!r3.1)
  (K ((2 : Int), ()) w4)
  (DrawV fun D5 =>
  (D5 p0.block ∧ LoadS w4.drew p0 .ptr fun (x6 : Option Addr) =>
  (D5 b1 ∧ LoadA w4.drew ⟨b1, 0, none⟩ [.int .i64, .int .i64] fun (x7 : Int × Int × Unit) =>
  CallV Tryz.prog 118 #[.pointer x6, .agg #[.int .i64 x7.1, .int .i64 x7.2.1]] w4.drew [.one .sl, .one (.int .i64)] fun (r8 : SlV × Int × Unit) w9 =>
  KeepOn D5 w4.drew w9 ∧
  cond (r8.2.1 != 0)
  (K (r8.2.1, ()) w9)
  (Rng .i64 (((r8.1.n : Nat) : Int) - 8) ∧
  LoopV [.one (.int .i64)] (((r8.1.n : Nat) : Int) - 8, ()) w9 fun (z10 : Int × Unit) w11 (K12 : Int × Unit → World → Prop) =>
  cond (decide (z10.1 < ((r8.1.n : Nat) : Int)))
  ((0 ≤ z10.1 ∧ z10.1 < ((r8.1.n : Nat) : Int)) ∧ ∃ q13 : Addr, r8.1.a = some q13 ∧
  StoreV w11 (q13.add (z10.1.toNat * 1)) [.int .u8 255] fun w14 =>
  Rng .i64 (z10.1 + 1) ∧
  K12 (z10.1 + 1, ()) w14)
  (CallV Tryz.prog 93 #[.pointer (some p0), .int .i64 p1, .int .i64 p2] w11 [.agg [.int .i64, .int .i64]] fun (r15 : (Int × Int × Unit) × Unit) w16 =>
  CallV Tryz.prog 139 #[.pointer (some p0), .agg #[.int .i64 r15.1.1, .int .i64 r15.1.2.1], .slice r8.1.a r8.1.n r8.1.c] w16 [.one (.int .i64)] fun (r17 : Int × Unit) w18 =>
  K (r17.1, ()) w18)))))
theorem pool_Pool_Copy.vc (p0 : Addr) (p1 p2 p3_0 p3_1 : Int) (w : World) (K : Int × Unit → World → Prop) (h : pool_Pool_Copy.P p0 p1 p2 p3_0 p3_1 w K) : CallV Tryz.prog 89 #[.pointer (some p0), .int .i64 p1, .int .i64 p2, .agg #[.int .i64 p3_0, .int .i64 p3_1]] w [.one (.int .i64)] K := by
  refine vcFun.of (A := pool_Pool_Copy.A) (wr := false) okf_ok follows h Tryz.func89 ?_
  kernel_rfl
def pool_Pool_Seal.A : Ann := .two .no (.two .no (.two .no (.two .no (.two (.draw (.take 0 (.take 1 (.take 2 (.take 3 (.take 4 (.take 5 (.take 7 (.eff 6 (.eff 8 (.take 9 (.done)))))))))))) .no))))
def pool_Pool_Seal.P (p0 : Addr) (p1 : Int) (w : World) (K : Int × Unit → World → Prop) : Prop :=
  CallV Tryz.prog 44 #[.pointer (some p0), .int .i64 p1] w [.one .bool] fun (r1 : Bool × Unit) w2 =>
  cond (!r1.1)
  (K ((2 : Int), ()) w2)
  (LoadA w2 (p0.add 1) [.int .i64, .int .i64, .int .i64, .int .i64, .int .i64, .int .i64] fun (x3 : Int × Int × Int × Int × Int × Int × Unit) =>
  CallV Tryz.prog 91 #[.agg #[.int .i64 x3.1, .int .i64 x3.2.1, .int .i64 x3.2.2.1, .int .i64 x3.2.2.2.1, .int .i64 x3.2.2.2.2.1, .int .i64 x3.2.2.2.2.2.1]] w2 [.one .sl, .one (.int .i64)] fun (r4 : SlV × Int × Unit) w5 =>
  cond (r4.2.1 != 0)
  (K (r4.2.1, ()) w5)
  (DrawV fun D6 =>
  (D6 p0.block ∧ LoadS w5.drew p0 .ptr fun (x7 : Option Addr) =>
  CallV Tryz.prog 93 #[.pointer (some p0), .int .i64 p1, .int .i64 0] w5.drew [.agg [.int .i64, .int .i64]] fun (r8 : (Int × Int × Unit) × Unit) w9 =>
  KeepOn D6 w5.drew w9 ∧
  CallV Tryz.prog 92 #[.pointer x7, .agg #[.int .i64 r8.1.1, .int .i64 r8.1.2.1], .slice r4.1.a r4.1.n r4.1.c] w9 [.one (.int .i64)] fun (r10 : Int × Unit) w11 =>
  KeepOn D6 w5.drew w11 ∧
  K (r10.1, ()) w11)))
theorem pool_Pool_Seal.vc (p0 : Addr) (p1 : Int) (w : World) (K : Int × Unit → World → Prop) (h : pool_Pool_Seal.P p0 p1 w K) : CallV Tryz.prog 40 #[.pointer (some p0), .int .i64 p1] w [.one (.int .i64)] K := by
  refine vcFun.of (A := pool_Pool_Seal.A) (wr := false) okf_ok follows h Tryz.func40 ?_
  kernel_rfl
def pool_Pool_begin.A : Ann := .two .no (.join [11, 14, 15, 16, 17, 18, 19, 20, 21, 22, 23, 24, 25, 26, 27] [(11, .one .ptr)] (.draw (.take 0 (.take 1 (.take 2 (.take 3 (.take 4 (.take 5 (.take 9 (.take 10 (.take 11 (.take 12 (.both 6 (.take 7 (.take 8 (.take 13 (.eff 14 (.eff 15 (.done)))))) 14 (.eff 6 (.take 7 (.take 8 (.take 13 (.eff 15 (.done)))))))))))))))))) (.two (.draw (.take 0 (.take 1 (.take 2 (.take 3 (.take 4 (.eff 5 (.take 6 (.take 7 (.take 8 (.take 9 (.take 10 (.done))))))))))))) (.join [13, 37, 38, 39, 40, 41, 42, 43, 44, 45, 46, 47] [(13, .one (.int .i64))] (.two .no (.two (.draw (.take 0 (.take 1 (.take 2 (.take 3 (.take 4 (.take 5 (.take 7 (.eff 6 (.eff 8 (.take 9 (.done)))))))))))) .no)) (.join [13, 48, 49, 50, 51, 52, 53, 54, 55] [(13, .one (.int .i64))] .no (.two (.two .no (.two (.two .no (.draw (.take 0 (.take 1 (.take 2 (.take 3 (.take 4 (.take 5 (.take 6 (.eff 7 (.done))))))))))) .no)) .no)))))
def pool_Pool_begin.P (p0 : Addr) (p1 p2 p3_0 p3_1 p3_2 p3_3 p3_4 p3_5 : Int) (p4 : Bool) (w : World) (K : Int × Unit → World → Prop) : Prop :=
  NewV #[.int .i64 p3_0, .int .i64 p3_1, .int .i64 p3_2, .int .u32 p3_3, .int .u64 p3_4, .int .u64 p3_5] 46 w fun b1 w2 =>
  JoinV [.one .ptr] (fun (v4 : (Option Addr) × Unit) w5 =>
  DrawV fun D6 =>
  (D6 (p0.add 1).block ∧ LoadA w5.drew (p0.add 1) [.int .i64, .int .i64, .int .i64, .int .i64, .int .i64, .int .i64] fun (x7 : Int × Int × Int × Int × Int × Int × Unit) =>
  PtrK v4.1 fun q8 =>
  (D6 q8.block ∧ LoadA w5.drew q8 [.int .i64, .int .i64, .int .i64, .int .u32, .int .u64, .int .u64] fun (x9 : Int × Int × Int × Int × Int × Int × Unit) =>
  CallV Tryz.prog 127 #[.agg #[.int .i64 x7.1, .int .i64 x7.2.1, .int .i64 x7.2.2.1, .int .i64 x7.2.2.2.1, .int .i64 x7.2.2.2.2.1, .int .i64 x7.2.2.2.2.2.1], .agg #[.int .i64 x9.1, .int .i64 x9.2.1, .int .i64 x9.2.2.1, .int .u32 x9.2.2.2.1, .int .u64 x9.2.2.2.2.1, .int .u64 x9.2.2.2.2.2.1], .slice none 0 0, .slice none 0 0] w5.drew [.one .sl, .one (.int .i64)] fun (r10 : SlV × Int × Unit) w11 =>
  KeepOn D6 w5.drew w11 ∧
  JoinV [.one (.int .i64)] (fun (v13 : Int × Unit) w14 =>
  JoinV [.one (.int .i64)] (fun (v16 : Int × Unit) w17 =>
  cond (v16.1 == 0)
  (LoadS w17 (p0.add 7) .ptr fun (x18 : Option Addr) =>
  CallV Tryz.prog 158 #[.pointer x18, .int .i64 p1, .int .i64 p2] w17 [.one (.int .i64)] fun (r19 : Int × Unit) w20 =>
  DrawV fun D21 =>
  (D21 (p0.add 8).block ∧ LoadS w20.drew (p0.add 8) .sl fun (x22 : SlV) =>
  PtrK v4.1 fun q23 =>
  (D21 q23.block ∧ LoadA w20.drew q23 [.int .i64, .int .i64, .int .i64, .int .u32, .int .u64, .int .u64] fun (x24 : Int × Int × Int × Int × Int × Int × Unit) =>
  (0 ≤ p1 ∧ p1 < ((x22.n : Nat) : Int)) ∧ ∃ q25 : Addr, x22.a = some q25 ∧
  StoreV w20.drew (q25.add (p1.toNat * 6)) [.int .i64 x24.1, .int .i64 x24.2.1, .int .i64 x24.2.2.1, .int .u32 x24.2.2.2.1, .int .u64 x24.2.2.2.2.1, .int .u64 x24.2.2.2.2.2.1] fun w26 =>
  KeepOn D21 w20.drew w26 ∧
  K (v16.1, ()) w26)))
  (K (v16.1, ()) w17)) fun (J15 : Int × Unit → World → Prop) =>
  cond (v13.1 == 0)
  (cond p4
  (CallV Tryz.prog 40 #[.pointer (some p0), .int .i64 p1] w14 [.one (.int .i64)] fun (r27 : Int × Unit) w28 =>
  J15 (r27.1, ()) w28)
  (J15 (v13.1, ()) w14))
  (J15 (v13.1, ()) w14)) fun (J12 : Int × Unit → World → Prop) =>
  cond (r10.2.1 == 0)
  (DrawV fun D29 =>
  (D29 p0.block ∧ LoadS w11.drew p0 .ptr fun (x30 : Option Addr) =>
  CallV Tryz.prog 93 #[.pointer (some p0), .int .i64 p1, .int .i64 0] w11.drew [.agg [.int .i64, .int .i64]] fun (r31 : (Int × Int × Unit) × Unit) w32 =>
  KeepOn D29 w11.drew w32 ∧
  CallV Tryz.prog 92 #[.pointer x30, .agg #[.int .i64 r31.1.1, .int .i64 r31.1.2.1], .slice r10.1.a r10.1.n r10.1.c] w32 [.one (.int .i64)] fun (r33 : Int × Unit) w34 =>
  KeepOn D29 w11.drew w34 ∧
  J12 (r33.1, ()) w34))
  (J12 (r10.2.1, ()) w11)))) fun (J3 : (Option Addr) × Unit → World → Prop) =>
  DrawV fun D35 =>
  (D35 (p0.add 7).block ∧ LoadS w2.drew (p0.add 7) .ptr fun (x36 : Option Addr) =>
  (D35 b1 ∧ LoadS w2.drew ⟨b1, 4, none⟩ (.int .u64) fun (x37 : Int) =>
  (D35 b1 ∧ LoadS w2.drew ⟨b1, 5, none⟩ (.int .u64) fun (x38 : Int) =>
  ((CallV Tryz.prog 15 #[.pointer x36, .int .i64 p1] w2.drew [.agg [.int .i64, .int .i64, .int .i64, .int .i64, .bool, .bool, .bool, .bool, .bool]] fun (r39 : (Int × Int × Int × Int × Bool × Bool × Bool × Bool × Bool × Unit) × Unit) w40 =>
  KeepOn D35 w2.drew w40 ∧
  NewV #[.int .i64 0, .int .i64 0, .int .i64 0, .int .u32 0, .int .u64 0, .int .u64 0] 46 w40 fun b41 w42 =>
  KeepOn D35 w2.drew w42 ∧
  StoreV w42 ⟨b41, 0, none⟩ [.int .i64 3, .int .i64 p2, .int .i64 0, .int .u32 (IntKind.u32.wrap r39.1.2.2.2.1), .int .u64 x37, .int .u64 x38] fun w43 =>
  KeepOn D35 w2.drew w43 ∧
  J3 ((some ⟨b41, 0, none⟩), ()) w43) ∧
  (NewV #[.int .i64 0, .int .i64 0, .int .i64 0, .int .u32 0, .int .u64 0, .int .u64 0] 46 w2.drew fun b44 w45 =>
  KeepOn D35 w2.drew w45 ∧
  CallV Tryz.prog 15 #[.pointer x36, .int .i64 p1] w45 [.agg [.int .i64, .int .i64, .int .i64, .int .i64, .bool, .bool, .bool, .bool, .bool]] fun (r46 : (Int × Int × Int × Int × Bool × Bool × Bool × Bool × Bool × Unit) × Unit) w47 =>
  KeepOn D35 w2.drew w47 ∧
  StoreV w47 ⟨b44, 0, none⟩ [.int .i64 3, .int .i64 p2, .int .i64 0, .int .u32 (IntKind.u32.wrap r46.1.2.2.2.1), .int .u64 x37, .int .u64 x38] fun w48 =>
  KeepOn D35 w2.drew w48 ∧
  J3 ((some ⟨b44, 0, none⟩), ()) w48)))))
theorem pool_Pool_begin.vc (p0 : Addr) (p1 p2 p3_0 p3_1 p3_2 p3_3 p3_4 p3_5 : Int) (p4 : Bool) (w : World) (K : Int × Unit → World → Prop) (h : pool_Pool_begin.P p0 p1 p2 p3_0 p3_1 p3_2 p3_3 p3_4 p3_5 p4 w K) : CallV Tryz.prog 111 #[.pointer (some p0), .int .i64 p1, .int .i64 p2, .agg #[.int .i64 p3_0, .int .i64 p3_1, .int .i64 p3_2, .int .u32 p3_3, .int .u64 p3_4, .int .u64 p3_5], .bool p4] w [.one (.int .i64)] K := by
  refine vcFun.of (A := pool_Pool_begin.A) (wr := false) okf_ok follows h Tryz.func111 ?_
  kernel_rfl
def pool_Pool_Open.A : Ann := .no
def pool_Pool_Open.P (p0 : Addr) (p1 p2_0 p2_1 p2_2 p2_3 p2_4 p2_5 : Int) (w : World) (K : Int × Int × Unit → World → Prop) : Prop :=
  NewV #[.int .i64 p2_0, .int .i64 p2_1, .int .i64 p2_2, .int .u32 p2_3, .int .u64 p2_4, .int .u64 p2_5] 46 w fun b1 w2 =>
  LoadA w2 ⟨b1, 0, none⟩ [.int .i64, .int .i64, .int .i64, .int .u32, .int .u64, .int .u64] fun (x3 : Int × Int × Int × Int × Int × Int × Unit) =>
  CallV Tryz.prog 50 #[.pointer (some p0), .int .i64 p1, .agg #[.int .i64 x3.1, .int .i64 x3.2.1, .int .i64 x3.2.2.1, .int .u32 x3.2.2.2.1, .int .u64 x3.2.2.2.2.1, .int .u64 x3.2.2.2.2.2.1], .bool true] w2 [.one (.int .i64), .one (.int .i64)] fun (r4 : Int × Int × Unit) w5 =>
  K (r4.1, r4.2.1, ()) w5
theorem pool_Pool_Open.vc (p0 : Addr) (p1 p2_0 p2_1 p2_2 p2_3 p2_4 p2_5 : Int) (w : World) (K : Int × Int × Unit → World → Prop) (h : pool_Pool_Open.P p0 p1 p2_0 p2_1 p2_2 p2_3 p2_4 p2_5 w K) : CallV Tryz.prog 12 #[.pointer (some p0), .int .i64 p1, .agg #[.int .i64 p2_0, .int .i64 p2_1, .int .i64 p2_2, .int .u32 p2_3, .int .u64 p2_4, .int .u64 p2_5]] w [.one (.int .i64), .one (.int .i64)] K := by
  refine vcFun.of (A := pool_Pool_Open.A) (wr := false) okf_ok follows h Tryz.func12 ?_
  kernel_rfl
def pool_Pool_Begin.A : Ann := .no
def pool_Pool_Begin.P (p0 : Addr) (p1 p2_0 p2_1 p2_2 p2_3 p2_4 p2_5 : Int) (w : World) (K : Int × Int × Unit → World → Prop) : Prop :=
  NewV #[.int .i64 p2_0, .int .i64 p2_1, .int .i64 p2_2, .int .u32 p2_3, .int .u64 p2_4, .int .u64 p2_5] 46 w fun b1 w2 =>
  LoadA w2 ⟨b1, 0, none⟩ [.int .i64, .int .i64, .int .i64, .int .u32, .int .u64, .int .u64] fun (x3 : Int × Int × Int × Int × Int × Int × Unit) =>
  CallV Tryz.prog 50 #[.pointer (some p0), .int .i64 p1, .agg #[.int .i64 x3.1, .int .i64 x3.2.1, .int .i64 x3.2.2.1, .int .u32 x3.2.2.2.1, .int .u64 x3.2.2.2.2.1, .int .u64 x3.2.2.2.2.2.1], .bool false] w2 [.one (.int .i64), .one (.int .i64)] fun (r4 : Int × Int × Unit) w5 =>
  K (r4.1, r4.2.1, ()) w5
theorem pool_Pool_Begin.vc (p0 : Addr) (p1 p2_0 p2_1 p2_2 p2_3 p2_4 p2_5 : Int) (w : World) (K : Int × Int × Unit → World → Prop) (h : pool_Pool_Begin.P p0 p1 p2_0 p2_1 p2_2 p2_3 p2_4 p2_5 w K) : CallV Tryz.prog 82 #[.pointer (some p0), .int .i64 p1, .agg #[.int .i64 p2_0, .int .i64 p2_1, .int .i64 p2_2, .int .u32 p2_3, .int .u64 p2_4, .int .u64 p2_5]] w [.one (.int .i64), .one (.int .i64)] K := by
  refine vcFun.of (A := pool_Pool_Begin.A) (wr := false) okf_ok follows h Tryz.func82 ?_
  kernel_rfl
def pool_Pool_open.A : Ann := .two .no (.one (.two .no (.two .no (.two (.two .no (.one (.loop [8, 9, 10, 11, 12, 13, 24, 25, 26, 27, 28, 29, 30, 31, 32, 33, 34, 35, 36, 37, 38, 39, 40, 41, 42, 43, 44, 45, 46, 47, 48, 49, 50, 51, 52, 53, 54, 55, 56, 57, 58, 59, 60, 61, 62, 63, 64, 65, 66, 67, 68, 69, 70, 71, 72, 73, 74, 75, 76] [(24, .one (.int .i64))] .no))) .no))))
def pool_Pool_open.P (p0 : Addr) (p1 p2_0 p2_1 p2_2 p2_3 p2_4 p2_5 : Int) (p3 : Bool) (w : World) (K : Int × Int × Unit → World → Prop) : Prop :=
  NewV #[.int .i64 p2_0, .int .i64 p2_1, .int .i64 p2_2, .int .u32 p2_3, .int .u64 p2_4, .int .u64 p2_5] 46 w fun b1 w2 =>
  cond (decide (p1 < 0))
  (K ((0 : Int), (2 : Int), ()) w2)
  (cond (decide (p1 ≥ 4))
  (K ((0 : Int), (2 : Int), ()) w2)
  (LoopV [.one (.int .i64)] ((0 : Int), ()) w2 fun (z3 : Int × Unit) w4 (K5 : Int × Unit → World → Prop) =>
  cond (decide (z3.1 < 128))
  (LoadS w4 (p0.add 7) .ptr fun (x6 : Option Addr) =>
  CallV Tryz.prog 110 #[.pointer x6] w4 [.one (.int .i64)] fun (r7 : Int × Unit) w8 =>
  cond (decide (r7.1 < 0))
  (K ((0 : Int), (19 : Int), ()) w8)
  (LoadS w8 (p0.add 7) .ptr fun (x9 : Option Addr) =>
  CallV Tryz.prog 15 #[.pointer x9, .int .i64 r7.1] w8 [.agg [.int .i64, .int .i64, .int .i64, .int .i64, .bool, .bool, .bool, .bool, .bool]] fun (r10 : (Int × Int × Int × Int × Bool × Bool × Bool × Bool × Bool × Unit) × Unit) w11 =>
  cond (!r10.1.2.2.2.2.2.1)
  (CallV Tryz.prog 10 #[.pointer (some p0), .int .i64 r7.1] w11 [.one (.int .i64)] fun (r12 : Int × Unit) w13 =>
  cond (r12.1 == 0)
  (LoadA w13 ⟨b1, 0, none⟩ [.int .i64, .int .i64, .int .i64, .int .u32, .int .u64, .int .u64] fun (x14 : Int × Int × Int × Int × Int × Int × Unit) =>
  CallV Tryz.prog 111 #[.pointer (some p0), .int .i64 r7.1, .int .i64 p1, .agg #[.int .i64 x14.1, .int .i64 x14.2.1, .int .i64 x14.2.2.1, .int .u32 x14.2.2.2.1, .int .u64 x14.2.2.2.2.1, .int .u64 x14.2.2.2.2.2.1], .bool p3] w13 [.one (.int .i64)] fun (r15 : Int × Unit) w16 =>
  cond (r15.1 == 0)
  (K (r7.1, r15.1, ()) w16)
  (cond (r15.1 == 4)
  (K ((0 : Int), r15.1, ()) w16)
  (LoadS w16 (p0.add 7) .ptr fun (x17 : Option Addr) =>
  CallV Tryz.prog 47 #[.pointer x17, .int .i64 r7.1] w16 [.one (.int .i64)] fun (r18 : Int × Unit) w19 =>
  CallV Tryz.prog 10 #[.pointer (some p0), .int .i64 r7.1] w19 [.one (.int .i64)] fun (r20 : Int × Unit) w21 =>
  cond (r20.1 == 4)
  (K ((0 : Int), r20.1, ()) w21)
  (Rng .i64 (z3.1 + 1) ∧
  K5 (z3.1 + 1, ()) w21))))
  (cond (r12.1 == 4)
  (K ((0 : Int), r12.1, ()) w13)
  (Rng .i64 (z3.1 + 1) ∧
  K5 (z3.1 + 1, ()) w13)))
  (LoadA w11 ⟨b1, 0, none⟩ [.int .i64, .int .i64, .int .i64, .int .u32, .int .u64, .int .u64] fun (x22 : Int × Int × Int × Int × Int × Int × Unit) =>
  CallV Tryz.prog 111 #[.pointer (some p0), .int .i64 r7.1, .int .i64 p1, .agg #[.int .i64 x22.1, .int .i64 x22.2.1, .int .i64 x22.2.2.1, .int .u32 x22.2.2.2.1, .int .u64 x22.2.2.2.2.1, .int .u64 x22.2.2.2.2.2.1], .bool p3] w11 [.one (.int .i64)] fun (r23 : Int × Unit) w24 =>
  cond (r23.1 == 0)
  (K (r7.1, r23.1, ()) w24)
  (cond (r23.1 == 4)
  (K ((0 : Int), r23.1, ()) w24)
  (LoadS w24 (p0.add 7) .ptr fun (x25 : Option Addr) =>
  CallV Tryz.prog 47 #[.pointer x25, .int .i64 r7.1] w24 [.one (.int .i64)] fun (r26 : Int × Unit) w27 =>
  CallV Tryz.prog 10 #[.pointer (some p0), .int .i64 r7.1] w27 [.one (.int .i64)] fun (r28 : Int × Unit) w29 =>
  cond (r28.1 == 4)
  (K ((0 : Int), r28.1, ()) w29)
  (Rng .i64 (z3.1 + 1) ∧
  K5 (z3.1 + 1, ()) w29))))))
  (K ((0 : Int), (19 : Int), ()) w4)))
theorem pool_Pool_open.vc (p0 : Addr) (p1 p2_0 p2_1 p2_2 p2_3 p2_4 p2_5 : Int) (p3 : Bool) (w : World) (K : Int × Int × Unit → World → Prop) (h : pool_Pool_open.P p0 p1 p2_0 p2_1 p2_2 p2_3 p2_4 p2_5 p3 w K) : CallV Tryz.prog 50 #[.pointer (some p0), .int .i64 p1, .agg #[.int .i64 p2_0, .int .i64 p2_1, .int .i64 p2_2, .int .u32 p2_3, .int .u64 p2_4, .int .u64 p2_5], .bool p3] w [.one (.int .i64), .one (.int .i64)] K := by
  refine vcFun.of (A := pool_Pool_open.A) (wr := false) okf_ok follows h Tryz.func50 ?_
  kernel_rfl
end Go.Proofs.YtlpeoaphdmfjdaaGreat.Vc
/-! The order of the parts. -/
namespace Go.Eng
open Go
def frontL : List Asr → List Nat → Option (List Asr)
  | Rs, [] => some Rs
  | Rs, i :: is => match Rs[i]? with | none => none | some R => (frontL (Rs.eraseIdx i) is).map (R :: ·)
theorem frontL_perm : ∀ {is : List Nat} {Rs Ts : List Asr}, frontL Rs is = some Ts → Rs.Perm Ts
  | [], Rs, Ts, h => by simp [frontL] at h; subst h; exact List.Perm.refl _
  | i :: is, Rs, Ts, h => by
    simp only [frontL] at h
    split at h
    · cases h
    · rename_i R hR
      obtain ⟨Vs, hV, rfl⟩ := Option.map_eq_some_iff.1 h
      exact (perm_front hR).trans ((frontL_perm hV).cons R)
section
variable {E : Nat → Prop} {w0 w : World} {A B C D F : Asr} {Rs Ts : List Asr}
theorem Sep.fro (S : Sep E w0 w Rs) (is : List Nat) (h : frontL Rs is = some Ts) : Sep E w0 w Ts := S.perm (frontL_perm h)
theorem Sep.up2 (S : Sep E w0 w (A :: B :: C :: Rs)) : Sep E w0 w (C :: A :: B :: Rs) := S.fro [2] rfl
theorem Sep.dn2 (S : Sep E w0 w (C :: A :: B :: Rs)) : Sep E w0 w (A :: B :: C :: Rs) := S.fro [1, 1] rfl
theorem Sep.up3 (S : Sep E w0 w (A :: B :: C :: D :: Rs)) : Sep E w0 w (D :: A :: B :: C :: Rs) := S.fro [3] rfl
theorem Sep.dn3 (S : Sep E w0 w (D :: A :: B :: C :: Rs)) : Sep E w0 w (A :: B :: C :: D :: Rs) := S.fro [1, 1, 1] rfl
end
end Go.Eng
/-! The contracts of pool (layer 24): destroy, program, seal, begin. -/
namespace Go.Proofs.YtlpeoaphdmfjdaaGreat.Vc
open Go Go.Eng Go.RowKit
theorem Hdv_len (h : Hd) : h.vs.length = 6 := rfl
theorem Hdv_one (h : Hd) : oneAll h.vs := fun v hv => by
  simp only [Hd.vs, List.mem_cons, List.not_mem_nil, or_false] at hv
  rcases hv with rfl | rfl | rfl | rfl | rfl | rfl <;> rfl
abbrev boxPl (pp p q : Nat) (g : Geo) (s : SlV) : Asr := BoxA pp 107 [.pointer (some ⟨p, 0, none⟩), .int .i64 g.b, .int .i64 g.p, .int .i64 g.s, .int .i64 g.sp, .int .i64 g.wr, .int .i64 g.ro, .pointer (some ⟨q, 0, none⟩), .slice s.a s.n s.c]
abbrev ordP (s : SlV) (O : List Hd) : Asr := OwnA 46 6 s.a s.n s.c (O.flatMap Hd.vs)
abbrev plS (pp p q : Nat) (g : Geo) (s : SlV) (O : List Hd) (C : CD) (L : List Blk) (Rs : List Asr) : List Asr := boxPl pp p q g s :: ordP s O :: ledE q L :: chipE p C :: Rs
def zHd : Hd := ⟨0, 0, 0, 0, 0, 0⟩
def dsC (n : Nat) (C : CD) (L : List Blk) (b : Int) : CD × List Blk × Int := if 0 ≤ b ∧ b < (n : Int) then dstP C L b else (C, L, 2)
def slC (n : Nat) (C : CD) (b : Int) : CD × Int := if 0 ≤ b ∧ b < (n : Int) then selP C b else (C, 2)
section
variable {E : Nat → Prop} {w0 w : World} {pp p q n : Nat} {g : Geo} {s : SlV} {O : List Hd} {C : CD} {L : List Blk} {Rs : List Asr}
theorem plS_n (S : Sep E w0 w (plS pp p q g s O C L Rs)) : s.n = O.length := by
  have h := (S.own 1 rfl).len
  rw [flatF_len Hdv_len] at h
  exact (Nat.eq_of_mul_eq_mul_right (by decide) h).symm
theorem PI.le (h : PI g n C L O) : (n : Int) ≤ 60 := by
  have := h.nn
  have h2 := h.ok.g.1.1
  rw [h.gg] at h2
  omega
theorem PI.erL (h : PI g n C L O) : ∀ x ∈ L, 0 ≤ x.er ∧ x.er ≤ 1000000000 := fun x hx => by
  have := h.er x hx
  have := h.ok.ops
  omega
theorem has24_c {b : Int} (S : Sep E w0 w (plS pp p q g s O C L Rs)) : CallV Tryz.prog 44 #[.pointer (some ⟨pp, 0, none⟩), .int .i64 b] w [.one .bool] fun r w' => r.1 = decide (0 ≤ b ∧ b < (s.n : Int)) ∧ w' = w := by
  apply pool_Pool_has.vc
  unfold pool_Pool_has.P
  simp only [Addr.add_lit, Nat.zero_add]
  refine cond_d (fun h0 => ?_) (fun h0 => ?_)
  · exact S.ld0 (j := 8) rfl rfl ⟨decide_eq_decide.2 ⟨fun x => ⟨h0, x⟩, fun x => x.2⟩, trivial⟩
  · exact ⟨(decide_eq_false fun x => h0 x.1).symm, trivial⟩
theorem Place24_c {b i : Int} (hb : -4 ≤ b ∧ b ≤ 1000000) : CallV Tryz.prog 93 #[.pointer (some ⟨pp, 0, none⟩), .int .i64 b, .int .i64 i] w [.agg [.int .i64, .int .i64]] fun r w' => r.1 = (4 + b, i, ()) ∧ Ext w w' := by
  apply pool_Pool_Place.vc
  unfold pool_Pool_Place.P
  have T := Sep.start NoB w
  refine T.newB fun b1 w1 T f1 _ => ?_
  refine ⟨Rng.i64 (by omega) (by omega), T.st0 (by rfl) fun w2 T f2 => T.la0 rfl ⟨rfl, T.ext⟩⟩
theorem Order24_c {b : Int} (S : Sep E w0 w (plS pp p q g s O C L Rs)) : CallV Tryz.prog 16 #[.pointer (some ⟨pp, 0, none⟩), .int .i64 b] w [.agg [.int .i64, .int .i64, .int .i64, .int .u32, .int .u64, .int .u64]] fun r w' => r.1 = (if 0 ≤ b ∧ b < (O.length : Int) then O.getD b.toNat zHd else zHd).tup ∧ Ext w w' := by
  apply pool_Pool_Order.vc
  unfold pool_Pool_Order.P
  simp only [Addr.add_lit, Nat.zero_add]
  have hn := plS_n S
  have T := Sep.start NoB w
  refine T.newB fun b1 w1 T f1 _ => ?_
  have S := S.stepE T.ext
  refine (has24_c (b := b) S).mono ?_
  rintro ⟨(r : Bool), ⟨⟩⟩ w2 ⟨h2, rfl⟩
  dsimp only at h2 ⊢
  subst h2
  by_cases hb : 0 ≤ b ∧ b < (s.n : Int)
  · refine cond_f (by rw [decide_eq_true hb]; rfl) ?_
    obtain ⟨q, x, hq, hx, hc⟩ := S.nthF (f := Hd.vs) (m := 6) 1 rfl Hdv_len (by decide) hb.1 hb.2
    refine S.ld0 (j := 8) rfl rfl ⟨hb, q, hq, x.tup, hc, ?_⟩
    refine T.st0 (by rfl) fun w3 T f3 => T.la0 rfl ⟨?_, T.ext⟩
    rw [if_pos (by omega), getD_some hx]
  · refine cond_t (by rw [decide_eq_false hb]; rfl) ?_
    refine T.st0 (by rfl) fun w3 T f3 => T.la0 rfl ⟨?_, T.ext⟩
    rw [if_neg (by omega)]
    rfl
theorem Ledger24_c (S : Sep E w0 w (plS pp p q g s O C L Rs)) : CallV Tryz.prog 14 #[.pointer (some ⟨pp, 0, none⟩)] w [.one .ptr] fun r w' => r.1 = some ⟨q, 0, none⟩ ∧ w' = w := by
  apply pool_Pool_Ledger.vc
  unfold pool_Pool_Ledger.P
  simp only [Addr.add_lit, Nat.zero_add]
  exact S.ld0 (j := 7) rfl rfl ⟨rfl, trivial⟩
theorem Destroy24_c {b : Int} (h : PI g n C L O) (ho : C.ops + 2 ≤ 1000000) (S : Sep E w0 w (plS pp p q g s O C L Rs)) :
    CallV Tryz.prog 10 #[.pointer (some ⟨pp, 0, none⟩), .int .i64 b] w [.one (.int .i64)] fun r w' => r.1 = (dsC n C L b).2.2 ∧ Sep E w0 w' (plS pp p q g s O (dsC n C L b).1 (dsC n C L b).2.1 Rs) := by
  apply pool_Pool_Destroy.vc
  unfold pool_Pool_Destroy.P
  simp only [Addr.add_lit, Nat.zero_add]
  have hn := plS_n S
  have hol := h.ol
  have hle := h.le
  refine (has24_c (b := b) S).mono ?_
  rintro ⟨(r : Bool), ⟨⟩⟩ w2 ⟨h2, rfl⟩
  dsimp only at h2 ⊢
  subst h2
  by_cases hb : 0 ≤ b ∧ b < (n : Int)
  case neg => exact cond_t (by rw [decide_eq_false (by omega)]; rfl) (by unfold dsC; rw [if_neg hb]; exact ⟨rfl, S⟩)
  refine cond_f (by rw [decide_eq_true (by omega)]; rfl) ?_
  have hd : dsC n C L b = dstP C L b := if_pos hb
  rw [hd]
  have rg : Rng .i64 ((4 : Int) + b) := Rng.i64 (by omega) (by omega)
  refine S.ld0 (j := 0) rfl rfl ⟨rg, ?_⟩
  refine (Erase_e h.ok S.up3).mono ?_
  rintro ⟨e, ⟨⟩⟩ w5 ⟨h5, S⟩
  dsimp only at h5 ⊢
  subst h5
  have S := S.dn3
  obtain ⟨o1, o2, o3⟩ := eraC_ok h.ok (4 + b) (by omega)
  refine cond_eq (fun (h0 : (eraC C (4 + b)).2 = 0) => ?_) (fun (h0 : (eraC C (4 + b)).2 ≠ 0) => ?_)
  · refine S.ld0 (j := 7) rfl rfl ?_
    refine (Erased_e h.erL S.up2).mono ?_
    rintro ⟨(e2 : Int), ⟨⟩⟩ w8 ⟨-, S⟩
    have S := S.dn2
    refine cond_ne (fun (hne : (eraC C (4 + b)).2 ≠ 5) => ?_) (fun (hq : (eraC C (4 + b)).2 = 5) => ?_)
    · unfold dstP
      rw [if_neg hne, if_pos h0]
      exact ⟨rfl, S⟩
    · omega
  · refine cond_ne (fun (hne : (eraC C (4 + b)).2 ≠ 5) => ?_) (fun (hq : (eraC C (4 + b)).2 = 5) => ?_)
    · unfold dstP
      rw [if_neg hne, if_neg h0]
      exact ⟨rfl, S⟩
    · refine S.ld0 (j := 7) rfl rfl ?_
      refine (Failed_e S.up2).mono ?_
      rintro ⟨(e2 : Int), ⟨⟩⟩ w8 ⟨-, S⟩
      have S := S.dn2
      refine S.ld0 (j := 0) rfl rfl ⟨rg, ?_⟩
      refine (Scrub_e o1 S.up3).mono ?_
      rintro ⟨f, ⟨⟩⟩ w9 ⟨h9, S⟩
      dsimp only at h9 ⊢
      subst h9
      have S := S.dn3
      unfold dstP
      rw [if_pos hq]
      refine cond_eq (fun (h4 : (scrC (eraC C (4 + b)).1 (4 + b)).2 = 4) => ?_) (fun (h4 : (scrC (eraC C (4 + b)).1 (4 + b)).2 ≠ 4) => ?_)
      · rw [if_pos h4]
        exact ⟨h4, S⟩
      · rw [if_neg h4]
        refine S.ld0 (j := 7) rfl rfl ?_
        refine (Scrubbed_e S.up2).mono ?_
        rintro ⟨(e3 : Int), ⟨⟩⟩ w10 ⟨-, S⟩
        have S := S.dn2
        rw [chL_len] at S
        refine cond_eq (fun h6 => ?_) (fun h6 => ?_)
        · exact ⟨(if_pos h6).symm, S⟩
        · exact ⟨(if_neg h6).symm, S⟩
theorem programmed_c {bl pa : Int} {dd : SlP Int} (h : PI g n C L O) (bx : Byt dd.l) (ho : C.ops + 2 ≤ 1000000) (hdn : dd.n ≤ 100000) (S : Sep E w0 w (plS pp p q g s O C L (RdL [dd] :: Rs))) :
    CallV Tryz.prog 139 #[.pointer (some ⟨pp, 0, none⟩), .agg #[.int .i64 bl, .int .i64 pa], .slice dd.a dd.n dd.c] w [.one (.int .i64)] fun r w' => r.1 = (prgP C bl pa dd.l).2 ∧ Sep E w0 w' (plS pp p q g s O (prgP C bl pa dd.l).1 L (RdL [dd] :: Rs)) := by
  apply pool_Pool_programmed.vc
  unfold pool_Pool_programmed.P
  simp only [Addr.add_lit, Nat.zero_add]
  refine S.newB fun b1 w1 S f1 _ => ?_
  have hR : Right g := by have := h.ok.g; rwa [h.gg] at this
  have S : Sep E w0 w1 ([chipE p C, RdL [dd]] ++ (BoxA b1 _ _ :: boxPl pp p q g s :: ordP s O :: ledE q L :: Rs)) := S.fro [4, 4] rfl
  refine Sep.regC [chipE p C, RdL [dd]] S fun G D hG T S hDt hDo hkeep back => ?_
  refine ⟨hDt 1 _ _ _ rfl, S.ld3 (j := 0) rfl rfl ⟨hDt 0 _ _ _ rfl, S.la2 rfl ?_⟩⟩
  refine (Program_e (bl := bl) (pa := pa) h.ok hdn T).mono ?_
  rintro ⟨e, ⟨⟩⟩ w2 ⟨h2, T⟩
  dsimp only at h2 ⊢
  subst h2
  obtain ⟨h1, o1, o2⟩ := h.prog bl pa bx (by omega)
  have S : Sep E w0 w2 (BoxA b1 _ _ :: plS pp p q g s O _ L (RdL [dd] :: Rs)) := (back _ _ T).fro [2, 2, 2, 2] rfl
  refine ⟨hkeep _ T.fr, ?_⟩
  refine cond_ne (fun (hne : (progC C bl pa dd.l).2 ≠ 0) => ?_) (fun (hq : (progC C bl pa dd.l).2 = 0) => ?_)
  · unfold prgP
    rw [if_neg hne]
    exact ⟨rfl, S.tail⟩
  refine S.lb1 (o := 1) rfl ?_
  refine (PCommit_c (g := g)).mono ?_
  rintro ⟨⟨va, vn, vc⟩, e, ⟨⟩⟩ w3 ⟨x3, h3, -⟩
  dsimp only at h3 ⊢
  obtain ⟨r3, h3⟩ := h3 hR
  subst h3
  refine cond_f rfl ?_
  have S := res_rdL S r3 (comL_byt g)
  have hvn : vn ≤ 100000 := by have h8 := r3.own.ints.len; have h9 := comL_len g; have h7 := hR.sec; dsimp only at h8; omega
  have S : Sep E w0 w3 ([chipE p _, RdL [⟨va, vn, vc, comL g⟩]] ++ (BoxA b1 _ _ :: boxPl pp p q g s :: ordP s O :: ledE q L :: RdL [dd] :: Rs)) := S.fro [5, 0] rfl
  refine Sep.regC [chipE p _, RdL [_]] S fun G D hG T S hDt hDo hkeep back => ?_
  refine ⟨hDt 1 _ _ _ rfl, S.ld3 (j := 0) rfl rfl ⟨hDt 0 _ _ _ rfl, S.la2 rfl ?_⟩⟩
  refine (Program_e (bl := bl) (pa := pa) h1.ok hvn T).mono ?_
  rintro ⟨e, ⟨⟩⟩ w4 ⟨h4, T⟩
  dsimp only at h4 ⊢
  subst h4
  refine ⟨hkeep _ T.fr, ?_⟩
  unfold prgP
  rw [if_pos hq, h.gg]
  exact ⟨rfl, ((back _ _ T).fro [1, 1, 1, 1, 1] rfl).tail.tail⟩
theorem Seal24_c {b : Int} (h : PI g n C L O) (ho : C.ops + 1 ≤ 1000000) (S : Sep E w0 w (plS pp p q g s O C L Rs)) :
    CallV Tryz.prog 40 #[.pointer (some ⟨pp, 0, none⟩), .int .i64 b] w [.one (.int .i64)] fun r w' => r.1 = (slC n C b).2 ∧ Sep E w0 w' (plS pp p q g s O (slC n C b).1 L Rs) := by
  apply pool_Pool_Seal.vc
  unfold pool_Pool_Seal.P
  simp only [Addr.add_lit, Nat.zero_add]
  have hn := plS_n S
  have hol := h.ol
  have hle := h.le
  have hR : Right g := by have := h.ok.g; rwa [h.gg] at this
  refine (has24_c (b := b) S).mono ?_
  rintro ⟨(r : Bool), ⟨⟩⟩ w2 ⟨h2, rfl⟩
  dsimp only at h2 ⊢
  subst h2
  by_cases hb : 0 ≤ b ∧ b < (n : Int)
  case neg => exact cond_t (by rw [decide_eq_false (by omega)]; rfl) (by unfold slC; rw [if_neg hb]; exact ⟨rfl, S⟩)
  refine cond_f (by rw [decide_eq_true (by omega)]; rfl) ?_
  rw [show slC n C b = selP C b from if_pos hb]
  refine S.lb0 (o := 1) rfl ?_
  refine (PCommit_c (g := g)).mono ?_
  rintro ⟨⟨va, vn, vc⟩, e, ⟨⟩⟩ w3 ⟨x3, h3, -⟩
  dsimp only at h3 ⊢
  obtain ⟨r3, h3⟩ := h3 hR
  subst h3
  refine cond_f rfl ?_
  have S := res_rdL S r3 (comL_byt g)
  have hvn : vn ≤ 100000 := by have h8 := r3.own.ints.len; have h9 := comL_len g; have h7 := hR.sec; dsimp only at h8; omega
  have S : Sep E w0 w3 ([chipE p _, RdL [⟨va, vn, vc, comL g⟩]] ++ (boxPl pp p q g s :: ordP s O :: ledE q L :: Rs)) := S.fro [4, 0] rfl
  refine Sep.regC [chipE p _, RdL [_]] S fun G D hG T S hDt hDo hkeep back => ?_
  refine ⟨hDt 0 _ _ _ rfl, S.ld2 (j := 0) rfl rfl ?_⟩
  refine (Place24_c (pp := pp) (b := b) (i := 0) (by omega)).mono ?_
  rintro ⟨x, ⟨⟩⟩ w4 ⟨h4, x4⟩
  dsimp only at h4 ⊢
  subst h4
  have T := T.stepE x4
  refine ⟨hkeep _ T.fr, ?_⟩
  refine (Program_e (bl := 4 + b) (pa := 0) h.ok hvn T).mono ?_
  rintro ⟨e, ⟨⟩⟩ w5 ⟨h5, T⟩
  dsimp only at h5 ⊢
  subst h5
  refine ⟨hkeep _ T.fr, ?_⟩
  unfold selP
  rw [h.gg]
  exact ⟨rfl, ((back _ _ T).fro [1, 1, 1, 1] rfl).tail⟩
end
end Go.Proofs.YtlpeoaphdmfjdaaGreat.Vc
/-! The contracts of pool (layer 24): begin, open. -/
namespace Go.Proofs.YtlpeoaphdmfjdaaGreat.Vc
open Go Go.Eng Go.RowKit
def opC (ns : Int) (o : Hd) (sl : Bool) (C : CD) (L : List Blk) (O : List Hd) : (CD × List Blk × List Hd) × Int × Int := if 0 ≤ ns ∧ ns < 4 then opnP ns o sl 128 C L O else ((C, L, O), 0, 2)
theorem mkL_len13 (g : Geo) (h : Hd) : (mkL g h [] []).length = g.s.toNat + 88 := by
  unfold mkL payL
  rw [List.length_append, endL_length _ (.inl rfl), if_pos (by rfl), List.length_replicate]
section
variable {E : Nat → Prop} {w0 w : World} {pp p q n : Nat} {g : Geo} {s : SlV} {O : List Hd} {C : CD} {L : List Blk} {Rs : List Asr}
theorem begin24_c {b ns : Int} {o : Hd} {sl : Bool} (h : PI g n C L O) (hn : 0 ≤ ns ∧ ns < 4) (hr : o.rng) (ho : C.ops + 2 ≤ 1000000) (hb : 0 ≤ b ∧ b < (n : Int)) (S : Sep E w0 w (plS pp p q g s O C L Rs)) :
    CallV Tryz.prog 111 #[.pointer (some ⟨pp, 0, none⟩), .int .i64 b, .int .i64 ns, o.val, .bool sl] w [.one (.int .i64)] fun r w' => r.1 = (begP C L O b ns o sl).2.2.2 ∧ Sep E w0 w' (plS pp p q g s (begP C L O b ns o sl).2.2.1 (begP C L O b ns o sl).1 (begP C L O b ns o sl).2.1 Rs) := by
  apply pool_Pool_begin.vc
  unfold pool_Pool_begin.P
  simp only [Addr.add_lit, Nat.zero_add]
  have hnn := plS_n S
  have hol := h.ol
  have hll := h.ll
  have hle := h.le
  have hg := h.gg
  subst hg
  have hR : Right C.g := h.ok.g
  refine S.newB fun b1 w1 S f1 _ => ?_
  have hh := begH_rng L b hn hr
  have hhR := begH_right L b (o := o) hn
  refine ⟨fun v w' => ∃ b2, v.1 = some ⟨b2, 0, none⟩ ∧ Sep E w0 w' (BoxA b2 46 (begH L b ns o).vs :: plS pp p q C.g s O C L Rs), ?_, ?_⟩
  case refine_2 =>
    have cl : ∀ {w' : World}, Sep E w0 w' (BoxA b1 46 o.vs :: plS pp p q C.g s O C L Rs) → CallV Tryz.prog 15 #[.pointer (some ⟨q, 0, none⟩), .int .i64 b] w' [.agg [.int .i64, .int .i64, .int .i64, .int .i64, .bool, .bool, .bool, .bool, .bool]] fun r w2 => r.1 = (gx L b.toNat).tup ∧ Ext w' w2 := fun S => At_e (S.fro [3] rfl) ⟨hb.1, by omega⟩
    refine S.reg fun D hD hkeep S T => ?_
    refine ⟨hD _ S.bl1, S.ld1 (j := 7) rfl rfl ⟨hD _ S.bl0, S.ld0 (j := 4) rfl rfl ⟨hD _ S.bl0, S.ld0 (j := 5) rfl rfl ⟨?_, ?_⟩⟩⟩⟩
    · refine (cl S).mono ?_
      rintro ⟨x, ⟨⟩⟩ w2 ⟨h2, x2⟩
      dsimp only at h2 ⊢
      subst h2
      have S := S.stepE x2
      have T := T.stepE x2
      refine ⟨hkeep _ T.fr, S.newB fun b2 w3 S f3 hb3 => ?_⟩
      have hz : w1.drew.heap.size ≤ b2 := Nat.le_trans T.fr.size hb3
      have T := T.step0 f3
      refine ⟨hkeep _ T.fr, S.st0 (by rfl) fun w4 S f4 => ?_⟩
      exact ⟨hkeep _ (T.fr.trans' f4 fun i hi => .inr (by rw [hi]; exact hz)), b2, rfl, (S.fro [1] rfl).tail⟩
    · refine S.newB fun b2 w3 S f3 hb3 => ?_
      have T := T.step0 f3
      refine ⟨hkeep _ T.fr, ?_⟩
      refine (cl S.tail).mono ?_
      rintro ⟨x, ⟨⟩⟩ w2 ⟨h2, x2⟩
      dsimp only at h2 ⊢
      subst h2
      have S := S.stepE x2
      have T := T.stepE x2
      refine ⟨hkeep _ T.fr, S.st0 (by rfl) fun w4 S f4 => ?_⟩
      exact ⟨hkeep _ (T.fr.trans' f4 fun i hi => .inr (by rw [hi]; exact hb3)), b2, rfl, (S.fro [1] rfl).tail⟩
  clear S
  rintro ⟨v, ⟨⟩⟩ w2 ⟨b2, hv, S⟩
  dsimp only at hv
  subst hv
  dsimp only
  refine S.reg fun D hD hkeep S T => ?_
  refine ⟨hD _ S.bl1, S.lb1 (o := 1) rfl ?_⟩
  refine PtrK.of rfl ⟨hD _ S.bl0, S.la0 rfl ?_⟩
  refine (Make_c (g := C.g) (h := begH L b ns o) hh intsNil intsNil).mono ?_
  rintro ⟨⟨va, vn, vc⟩, e, ⟨⟩⟩ w3 ⟨x3, h3, -⟩
  dsimp only at h3 ⊢
  have T := T.stepE x3
  refine ⟨hkeep _ T.fr, ?_⟩
  obtain ⟨r3, h3⟩ := h3 ⟨hR, ⟨hhR, .inl rfl⟩, .inl rfl⟩
  subst h3
  have bm : Byt (mkL C.g (begH L b ns o) [] []) := mkL_byt hh hhR Byt.nil Byt.nil
  have S := res_rdL S r3 bm
  have hvn : vn ≤ 100000 := by
    have h8 := r3.own.ints.len
    have h9 : (mkL C.g (begH L b ns o) [] []).length = C.g.s.toNat + 88 := by
      exact mkL_len13 _ _
    have h7 := hR.sec
    dsimp only at h8
    omega
  obtain ⟨h1, o1, o2⟩ := h.prog (4 + b) 0 bm (by omega)
  refine ⟨fun v w' => v.1 = (progC C (4 + b) 0 (mkL C.g (begH L b ns o) [] [])).2 ∧ Sep E w0 w' (BoxA b2 46 (begH L b ns o).vs :: plS pp p q C.g s O (progC C (4 + b) 0 (mkL C.g (begH L b ns o) [] [])).1 L Rs), ?_, ?_⟩
  case refine_2 =>
    refine cond_t rfl ?_
    have S : Sep E w0 w3 ([chipE p C, RdL [⟨va, vn, vc, mkL C.g (begH L b ns o) [] []⟩]] ++ (BoxA b2 46 (begH L b ns o).vs :: boxPl pp p q C.g s :: ordP s O :: ledE q L :: Rs)) := S.fro [5, 0] rfl
    refine Sep.regC [chipE p _, RdL [_]] S fun G D hG T S hDt hDo hkeep back => ?_
    refine ⟨hDt 1 _ _ _ rfl, S.ld3 (j := 0) rfl rfl ?_⟩
    refine (Place24_c (pp := pp) (b := b) (i := 0) (by omega)).mono ?_
    rintro ⟨x, ⟨⟩⟩ w4 ⟨h4, x4⟩
    dsimp only at h4 ⊢
    subst h4
    have T := T.stepE x4
    refine ⟨hkeep _ T.fr, ?_⟩
    refine (Program_e (bl := 4 + b) (pa := 0) h.ok hvn T).mono ?_
    rintro ⟨e, ⟨⟩⟩ w5 ⟨h5, T⟩
    dsimp only at h5 ⊢
    subst h5
    exact ⟨hkeep _ T.fr, rfl, ((back _ _ T).fro [1, 1, 1, 1, 1] rfl).tail⟩
  clear S T
  rintro ⟨v, ⟨⟩⟩ w4 ⟨hv, S⟩
  dsimp only at hv
  subst hv
  dsimp only
  obtain ⟨k1, k2, k3⟩ := h.fst b hh hhR sl (by omega)
  refine ⟨fun v w' => v.1 = (fstP C b (begH L b ns o) sl).2 ∧ Sep E w0 w' (BoxA b2 46 (begH L b ns o).vs :: plS pp p q C.g s O (fstP C b (begH L b ns o) sl).1 L Rs), ?_, ?_⟩
  case refine_2 =>
    have nos : ∀ {w' : World}, ¬ ((progC C (4 + b) 0 (mkL C.g (begH L b ns o) [] [])).2 = 0 ∧ sl = true) → Sep E w0 w' (BoxA b2 46 (begH L b ns o).vs :: plS pp p q C.g s O (progC C (4 + b) 0 (mkL C.g (begH L b ns o) [] [])).1 L Rs) →
        (progC C (4 + b) 0 (mkL C.g (begH L b ns o) [] [])).2 = (fstP C b (begH L b ns o) sl).2 ∧ Sep E w0 w' (BoxA b2 46 (begH L b ns o).vs :: plS pp p q C.g s O (fstP C b (begH L b ns o) sl).1 L Rs) := fun hno S => by
      unfold fstP
      rw [if_neg hno]
      exact ⟨rfl, S⟩
    refine cond_eq (fun h0 => ?_) (fun h0 => nos (fun x => h0 x.1) S)
    refine cond_of (fun hs => ?_) (fun hs => nos (fun x => by rw [hs] at x; cases x.2) S)
    refine (Seal24_c (b := b) h1 (by omega) (S.fro [1, 1, 1, 1] rfl)).mono ?_
    rintro ⟨e, ⟨⟩⟩ w5 ⟨h5, S⟩
    dsimp only at h5 ⊢
    subst h5
    have hq : slC n (progC C (4 + b) 0 (mkL C.g (begH L b ns o) [] [])).1 b = selP (progC C (4 + b) 0 (mkL C.g (begH L b ns o) [] [])).1 b := if_pos hb
    rw [hq] at S ⊢
    unfold fstP
    rw [if_pos ⟨h0, hs⟩]
    exact ⟨rfl, S.fro [4] rfl⟩
  clear S
  rintro ⟨v, ⟨⟩⟩ w5 ⟨hv, S⟩
  dsimp only at hv
  subst hv
  dsimp only
  refine cond_eq (fun (h0 : (fstP C b (begH L b ns o) sl).2 = 0) => ?_) (fun (h0 : (fstP C b (begH L b ns o) sl).2 ≠ 0) => ?_)
  case refine_2 =>
    unfold begP
    rw [if_neg h0]
    exact ⟨rfl, S.tail⟩
  refine S.ld1 (j := 7) rfl rfl ?_
  refine (Hold_e (b := b) (ns := ns) (S.fro [3] rfl)).mono ?_
  rintro ⟨(e : Int), ⟨⟩⟩ w6 ⟨-, S⟩
  rw [if_pos hn] at S
  have S : Sep E w0 w6 ([ordP s O] ++ (ledE q (chL b L.length (hB ns) L) :: BoxA b2 46 (begH L b ns o).vs :: boxPl pp p q C.g s :: chipE p (fstP C b (begH L b ns o) sl).1 :: Rs)) := S.fro [3] rfl
  refine Sep.regC [ordP s O] S fun G D hG T S hDt hDo hkeep back => ?_
  refine ⟨hDt 2 _ _ _ rfl, S.ld3 (j := 8) rfl rfl ?_⟩
  refine PtrK.of rfl ⟨hDt 1 _ _ _ rfl, S.la2 rfl ?_⟩
  refine ⟨⟨hb.1, by dsimp only; omega⟩, T.putF Hdv_len Hdv_one (by decide) ⟨hb.1, by omega⟩ (begH L b ns o) fun w7 T f7 => ⟨hkeep _ T.fr, ?_⟩⟩
  have S := (back _ _ T).fro [2, 2] rfl
  unfold begP
  rw [if_pos h0]
  exact ⟨h0, S.tail⟩
theorem open24_c {ns : Int} {o : Hd} {sl : Bool} (h : PI g n C L O) (hr : o.rng) (ho : C.ops + 768 ≤ 1000000) (S : Sep E w0 w (plS pp p q g s O C L Rs)) :
    CallV Tryz.prog 50 #[.pointer (some ⟨pp, 0, none⟩), .int .i64 ns, o.val, .bool sl] w [.one (.int .i64), .one (.int .i64)] fun r w' =>
      r.1 = (opC ns o sl C L O).2.1 ∧ r.2.1 = (opC ns o sl C L O).2.2 ∧ Sep E w0 w' (plS pp p q g s (opC ns o sl C L O).1.2.2 (opC ns o sl C L O).1.1 (opC ns o sl C L O).1.2.1 Rs) := by
  apply pool_Pool_open.vc
  unfold pool_Pool_open.P
  simp only [Addr.add_lit, Nat.zero_add]
  refine S.newB fun b1 w1 S f1 _ => ?_
  have no : ¬ (0 ≤ ns ∧ ns < 4) → opC ns o sl C L O = ((C, L, O), 0, 2) := fun hn => if_neg hn
  refine cond_d (fun h0 => by rw [no (by omega)]; exact ⟨rfl, rfl, S.tail⟩) (fun h0 => ?_)
  refine cond_d (fun h4 => by rw [no (by omega)]; exact ⟨rfl, rfl, S.tail⟩) (fun h4 => ?_)
  have hn : 0 ≤ ns ∧ ns < 4 := ⟨by omega, by omega⟩
  rw [show opC ns o sl C L O = opnP ns o sl 128 C L O from if_pos hn]
  generalize hX : opnP ns o sl 128 C L O = X
  refine Loop1 (fun (v : Int × Unit) w' => ∃ (k : Nat) (C' : CD) (L' : List Blk) (O' : List Hd), v.1 = 128 - (k : Int) ∧ k ≤ 128 ∧ PI g n C' L' O' ∧ C'.ops + 6 * k ≤ 1000000 ∧ opnP ns o sl k C' L' O' = X ∧ Sep E w0 w' (BoxA b1 46 o.vs :: plS pp p q g s O' C' L' Rs)) (fun (v : Int × Unit) _ => (128 - v.1).toNat)
    ⟨128, C, L, O, rfl, by omega, h, by omega, hX, S⟩ ?_
  clear S h hX ho
  rintro ⟨(v : Int), ⟨⟩⟩ w2 ⟨k, C, L, O, hv, hk, h, ho, hX, S⟩
  dsimp only at hv
  subst hv
  refine cond_d (fun hlt => ?_) (fun hge => ?_)
  case refine_2 =>
    have : k = 0 := by omega
    subst this
    rw [← hX]
    exact ⟨rfl, rfl, S.tail⟩
  obtain ⟨k, rfl⟩ : ∃ m, k = m + 1 := ⟨k - 1, by omega⟩
  have hll := h.ll
  have hle := h.le
  refine S.ld1 (j := 7) rfl rfl ?_
  refine (Pick_e (by omega) (S.fro [3] rfl)).mono ?_
  rintro ⟨(b : Int), ⟨⟩⟩ w3 ⟨h3, x3⟩
  dsimp only at h3 ⊢
  have S := S.stepE x3
  unfold opnP at hX
  have hbd := bestT_bd (L := L) (m := fun _ x => freeB x) (ah := fun x y => decide (x.er < y.er)) L.length
  have hbd : -1 ≤ pickT L L.length ∧ pickT L L.length < (L.length : Int) := hbd
  rw [← h3] at hX hbd
  clear h3
  refine cond_d (fun hneg => ?_) (fun hneg => ?_)
  · rw [if_pos hneg] at hX
    rw [← hX]
    exact ⟨rfl, rfl, S.tail⟩
  rw [if_neg hneg] at hX
  have hb : 0 ≤ b ∧ b < (n : Int) := ⟨by omega, by omega⟩
  refine S.ld1 (j := 7) rfl rfl ?_
  refine (At_e (b := b) (S.fro [3] rfl) ⟨hb.1, by omega⟩).mono ?_
  rintro ⟨x, ⟨⟩⟩ w4 ⟨h4, x4⟩
  dsimp only at h4 ⊢
  subst h4
  have S := S.stepE x4
  dsimp only
  have nxt : ∀ {w' : World} {C' : CD} {L' : List Blk} {O' : List Hd}, PI g n C' L' O' → C'.ops ≤ C.ops + 6 → opnP ns o sl k C' L' O' = X → Sep E w0 w' (BoxA b1 46 o.vs :: plS pp p q g s O' C' L' Rs) →
      Rng .i64 (128 - ((k + 1 : Nat) : Int) + 1) ∧ (∃ (k2 : Nat) (C' : CD) (L' : List Blk) (O' : List Hd), 128 - ((k + 1 : Nat) : Int) + 1 = 128 - (k2 : Int) ∧ k2 ≤ 128 ∧ PI g n C' L' O' ∧ C'.ops + 6 * k2 ≤ 1000000 ∧ opnP ns o sl k2 C' L' O' = X ∧ Sep E w0 w' (BoxA b1 46 o.vs :: plS pp p q g s O' C' L' Rs)) ∧ (128 - (128 - ((k + 1 : Nat) : Int) + 1)).toNat < (128 - (128 - ((k + 1 : Nat) : Int))).toNat :=
    fun h1 h2 h3 S => ⟨Rng.i64 (by omega) (by omega), ⟨k, _, _, _, by push_cast; omega, by omega, h1, by omega, h3, S⟩, by omega⟩
  refine cond_of (fun hcl => ?_) (fun hcl => ?_)
  · have hcl : (gx L b.toNat).cl = false := by simpa using hcl
    have hcl' : ¬ (gx L b.toNat).cl = true := by rw [hcl]; simp
    rw [if_neg hcl'] at hX
    refine (Destroy24_c (b := b) h (by omega) (S.fro [1, 1, 1, 1] rfl)).mono ?_
    rintro ⟨e, ⟨⟩⟩ w5 ⟨h5, S⟩
    dsimp only at h5 ⊢
    rw [show dsC n C L b = dstP C L b from if_pos hb] at h5 S
    obtain ⟨q1, q2, q3⟩ := h.dst b (by omega)
    generalize dstP C L b = R at hX h5 S q1 q2 q3
    obtain ⟨C1, L1, e1⟩ := R
    dsimp only at hX h5 S q1 q2 q3
    subst h5
    have S := S.fro [4] rfl
    refine cond_eq (fun h0 => ?_) (fun h0 => ?_)
    case refine_2 =>
      rw [if_neg h0] at hX
      refine cond_eq (fun h4 => ?_) (fun h4 => ?_)
      · rw [if_pos h4] at hX
        rw [← hX]
        exact ⟨rfl, h4, S.tail⟩
      · rw [if_neg h4] at hX
        exact nxt q1 (by omega) hX S
    rw [if_pos h0] at hX
    clear h0
    refine S.la0 rfl ?_
    refine (begin24_c (b := b) (sl := sl) q1 hn hr (by omega) hb (S.fro [1, 1, 1, 1] rfl)).mono ?_
    rintro ⟨e2, ⟨⟩⟩ w6 ⟨h6, S⟩
    dsimp only at h6 ⊢
    have S := S.fro [4] rfl
    obtain ⟨r1, r2, r3⟩ := q1.beg b hn hr sl (by omega)
    generalize begP C1 L1 O b ns o sl = Z at hX h6 S r1 r2 r3
    obtain ⟨C2, L2, O2, e3⟩ := Z
    dsimp only at hX h6 S r1 r2 r3
    subst h6
    refine cond_eq (fun h0 => ?_) (fun h0 => ?_)
    · rw [if_pos h0] at hX
      rw [← hX]
      exact ⟨rfl, h0, S.tail⟩
    rw [if_neg h0] at hX
    refine cond_eq (fun h4 => ?_) (fun h4 => ?_)
    · rw [if_pos h4] at hX
      rw [← hX]
      exact ⟨rfl, h4, S.tail⟩
    rw [if_neg h4] at hX
    refine S.ld1 (j := 7) rfl rfl ?_
    refine (Failed_e (b := b) (S.fro [3] rfl)).mono ?_
    rintro ⟨(e4 : Int), ⟨⟩⟩ w7 ⟨-, S⟩
    have S := S.fro [1, 1, 1] rfl
    have hl2 : L2.length = L.length := by rw [r1.ll, h.ll]
    have r1 := r1.chL b (φ := fB) (fun _ => rfl)
    rw [hl2] at S r1
    refine (Destroy24_c (b := b) r1 (by omega) (S.fro [1, 1, 1, 1] rfl)).mono ?_
    rintro ⟨e5, ⟨⟩⟩ w8 ⟨h8, S⟩
    dsimp only at h8 ⊢
    rw [show dsC n C2 (chL b L.length fB L2) b = dstP C2 (chL b L.length fB L2) b from if_pos hb] at h8 S
    obtain ⟨d1, d2, d3⟩ := r1.dst b (by omega)
    generalize dstP C2 (chL b L.length fB L2) b = Y at hX h8 S d1 d2 d3
    obtain ⟨C3, L3, e6⟩ := Y
    dsimp only at hX h8 S d1 d2 d3
    subst h8
    have S := S.fro [4] rfl
    refine cond_eq (fun h4 => ?_) (fun h4 => ?_)
    · rw [if_pos h4] at hX
      rw [← hX]
      exact ⟨rfl, h4, S.tail⟩
    · rw [if_neg h4] at hX
      exact nxt d1 (by omega) hX S
  · have hcl : (gx L b.toNat).cl = true := by simpa using hcl
    rw [if_pos hcl] at hX
    dsimp only at hX
    rw [if_pos rfl] at hX
    obtain ⟨C1, L1, q1, q2, q3, hX, S⟩ : ∃ C1 L1, PI g n C1 L1 O ∧ C1.ops ≤ C.ops + 2 ∧ C.ops ≤ C1.ops ∧ (let s := begP C1 L1 O b ns o sl
       if s.2.2.2 = 0 then ((s.1, s.2.1, s.2.2.1), b, 0) else
       if s.2.2.2 = 4 then ((s.1, s.2.1, s.2.2.1), 0, 4) else
       let d := dstP s.1 (chL b L.length fB s.2.1) b
       if d.2.2 = 4 then ((d.1, d.2.1, s.2.2.1), 0, 4) else opnP ns o sl k d.1 d.2.1 s.2.2.1) = X ∧ Sep E w0 w4 (BoxA b1 46 o.vs :: plS pp p q g s O C1 L1 Rs) := ⟨C, L, h, by omega, by omega, hX, S⟩
    refine S.la0 rfl ?_
    refine (begin24_c (b := b) (sl := sl) q1 hn hr (by omega) hb (S.fro [1, 1, 1, 1] rfl)).mono ?_
    rintro ⟨e2, ⟨⟩⟩ w6 ⟨h6, S⟩
    dsimp only at h6 ⊢
    have S := S.fro [4] rfl
    obtain ⟨r1, r2, r3⟩ := q1.beg b hn hr sl (by omega)
    generalize begP C1 L1 O b ns o sl = Z at hX h6 S r1 r2 r3
    obtain ⟨C2, L2, O2, e3⟩ := Z
    dsimp only at hX h6 S r1 r2 r3
    subst h6
    refine cond_eq (fun h0 => ?_) (fun h0 => ?_)
    · rw [if_pos h0] at hX
      rw [← hX]
      exact ⟨rfl, h0, S.tail⟩
    rw [if_neg h0] at hX
    refine cond_eq (fun h4 => ?_) (fun h4 => ?_)
    · rw [if_pos h4] at hX
      rw [← hX]
      exact ⟨rfl, h4, S.tail⟩
    rw [if_neg h4] at hX
    refine S.ld1 (j := 7) rfl rfl ?_
    refine (Failed_e (b := b) (S.fro [3] rfl)).mono ?_
    rintro ⟨(e4 : Int), ⟨⟩⟩ w7 ⟨-, S⟩
    have S := S.fro [1, 1, 1] rfl
    have hl2 : L2.length = L.length := by rw [r1.ll, h.ll]
    have r1 := r1.chL b (φ := fB) (fun _ => rfl)
    rw [hl2] at S r1
    refine (Destroy24_c (b := b) r1 (by omega) (S.fro [1, 1, 1, 1] rfl)).mono ?_
    rintro ⟨e5, ⟨⟩⟩ w8 ⟨h8, S⟩
    dsimp only at h8 ⊢
    rw [show dsC n C2 (chL b L.length fB L2) b = dstP C2 (chL b L.length fB L2) b from if_pos hb] at h8 S
    obtain ⟨d1, d2, d3⟩ := r1.dst b (by omega)
    generalize dstP C2 (chL b L.length fB L2) b = Y at hX h8 S d1 d2 d3
    obtain ⟨C3, L3, e6⟩ := Y
    dsimp only at hX h8 S d1 d2 d3
    subst h8
    have S := S.fro [4] rfl
    refine cond_eq (fun h4 => ?_) (fun h4 => ?_)
    · rw [if_pos h4] at hX
      rw [← hX]
      exact ⟨rfl, h4, S.tail⟩
    · rw [if_neg h4] at hX
      exact nxt d1 (by omega) hX S
end
end Go.Proofs.YtlpeoaphdmfjdaaGreat.Vc
/-! The contracts of pool (layer 24): new, opened, written, copied. -/
namespace Go.Proofs.YtlpeoaphdmfjdaaGreat.Vc
open Go Go.Eng Go.RowKit
theorem set_run {α : Type} (xs : List α) (k i : Nat) (v : α) (h : k + i < xs.length) : (xs.take k ++ (List.replicate i v ++ xs.drop (k + i))).set (k + i) v = xs.take k ++ (List.replicate (i + 1) v ++ xs.drop (k + (i + 1))) := by
  have hk : (xs.take k).length = k := by rw [List.length_take]; omega
  rw [List.set_append_right _ _ (by omega), hk, show k + i - k = i by omega, List.set_append_right _ _ (by simp), List.length_replicate, Nat.sub_self, List.drop_eq_getElem_cons h, List.set_cons_zero, List.replicate_succ', List.append_assoc]
  rfl
def cpyL (xs : List Int) : List Int := xs.take (xs.length - 8) ++ List.replicate 8 255
def wrtC (n : Nat) (C : CD) (b pa : Int) (h : Hd) (xs : List Int) : CD × Int := if 0 ≤ b ∧ b < (n : Int) then (if HRight h then prgP C (4 + b) pa (mkL C.g h xs []) else (C, 2)) else (C, 2)
def cpyC (n : Nat) (C : CD) (b pa fb fp : Int) : CD × Int := if 0 ≤ b ∧ b < (n : Int) then (if readC C fb fp = 0 then prgP C (4 + b) pa (cpyL (pgC13 C fb fp)) else (C, readC C fb fp)) else (C, 2)
theorem payL_full {g : Geo} {h : Hd} {xs : List Int} (hr : h.rng) (hR : HRight h) (bx : Byt xs) : Byt (mkL g h xs []) := mkL_byt hr hR bx Byt.nil
theorem cpyL_byt {xs : List Int} (bx : Byt xs) : Byt (cpyL xs) := by
  intro v hv
  rcases List.mem_append.1 hv with h | h
  · exact bx v (List.mem_of_mem_take h)
  · rw [(List.mem_replicate.1 h).2]; decide
section
variable {E : Nat → Prop} {w0 w : World} {pp p q n : Nat} {g : Geo} {s : SlV} {O : List Hd} {C : CD} {L : List Blk} {Rs : List Asr}
theorem Open24_c {ns : Int} {o : Hd} (h : PI g n C L O) (hr : o.rng) (ho : C.ops + 768 ≤ 1000000) (S : Sep E w0 w (plS pp p q g s O C L Rs)) :
    CallV Tryz.prog 12 #[.pointer (some ⟨pp, 0, none⟩), .int .i64 ns, o.val] w [.one (.int .i64), .one (.int .i64)] fun r w' =>
      r.1 = (opC ns o true C L O).2.1 ∧ r.2.1 = (opC ns o true C L O).2.2 ∧ Sep E w0 w' (plS pp p q g s (opC ns o true C L O).1.2.2 (opC ns o true C L O).1.1 (opC ns o true C L O).1.2.1 Rs) := by
  apply pool_Pool_Open.vc
  unfold pool_Pool_Open.P
  refine S.newB fun b1 w1 S f1 _ => S.la0 rfl ?_
  refine (open24_c (ns := ns) (sl := true) h hr ho (S.fro [1, 1, 1, 1] rfl)).mono ?_
  rintro ⟨a, e, ⟨⟩⟩ w2 ⟨h1, h2, S⟩
  exact ⟨h1, h2, (S.fro [4] rfl).tail⟩
theorem Begin24_c {ns : Int} {o : Hd} (h : PI g n C L O) (hr : o.rng) (ho : C.ops + 768 ≤ 1000000) (S : Sep E w0 w (plS pp p q g s O C L Rs)) :
    CallV Tryz.prog 82 #[.pointer (some ⟨pp, 0, none⟩), .int .i64 ns, o.val] w [.one (.int .i64), .one (.int .i64)] fun r w' =>
      r.1 = (opC ns o false C L O).2.1 ∧ r.2.1 = (opC ns o false C L O).2.2 ∧ Sep E w0 w' (plS pp p q g s (opC ns o false C L O).1.2.2 (opC ns o false C L O).1.1 (opC ns o false C L O).1.2.1 Rs) := by
  apply pool_Pool_Begin.vc
  unfold pool_Pool_Begin.P
  refine S.newB fun b1 w1 S f1 _ => S.la0 rfl ?_
  refine (open24_c (ns := ns) (sl := false) h hr ho (S.fro [1, 1, 1, 1] rfl)).mono ?_
  rintro ⟨a, e, ⟨⟩⟩ w2 ⟨h1, h2, S⟩
  exact ⟨h1, h2, (S.fro [4] rfl).tail⟩
theorem PI.R (h : PI g n C L O) : Right g := by have := h.ok.g; rwa [h.gg] at this
theorem Write24_c {b pa : Int} {hd : Hd} {dd : SlP Int} (h : PI g n C L O) (hr : hd.rng) (hlen : dd.n = 0 ∨ (dd.n : Int) = g.s) (ho : C.ops + 2 ≤ 1000000) (S : Sep E w0 w (plS pp p q g s O C L (RdL [dd] :: Rs))) :
    CallV Tryz.prog 84 #[.pointer (some ⟨pp, 0, none⟩), .int .i64 b, .int .i64 pa, hd.val, .slice dd.a dd.n dd.c, .slice none 0 0] w [.one (.int .i64)] fun r w' =>
      r.1 = (wrtC n C b pa hd dd.l).2 ∧ Sep E w0 w' (plS pp p q g s O (wrtC n C b pa hd dd.l).1 L (RdL [dd] :: Rs)) := by
  apply pool_Pool_Write.vc
  unfold pool_Pool_Write.P
  simp only [Addr.add_lit, Nat.zero_add]
  have hnn := plS_n S
  have hol := h.ol
  have hle := h.le
  have hR := h.R
  have hx : Ints w .u8 dd.a dd.n dd.c dd.l ∧ Byt dd.l := by
    obtain ⟨G, hG, -⟩ := S.get (i := 4) rfl
    exact ⟨Ty.ints (hG _ (List.mem_singleton.2 rfl)), Ty.byt (hG _ (List.mem_singleton.2 rfl))⟩
  refine S.newB fun b1 w1 S f1 _ => ?_
  refine (has24_c (b := b) (S.fro [1, 1, 1, 1] rfl)).mono ?_
  rintro ⟨(r : Bool), ⟨⟩⟩ w2 ⟨h2, rfl⟩
  dsimp only at h2 ⊢
  subst h2
  unfold wrtC
  by_cases hb : 0 ≤ b ∧ b < (n : Int)
  case neg => exact cond_t (by rw [decide_eq_false (by omega)]; rfl) (by rw [if_neg hb]; exact ⟨rfl, S.tail⟩)
  refine cond_f (by rw [decide_eq_true (by omega)]; rfl) ?_
  rw [if_pos hb]
  refine S.reg fun D hD hkeep S T => ?_
  refine ⟨hD _ S.bl1, S.lb1 (o := 1) rfl ⟨hD _ S.bl0, S.la0 rfl ?_⟩⟩
  have hI : Ints w2.drew .u8 dd.a dd.n dd.c dd.l := (hx.1.ext f1.ext).drew
  refine (Make_c (g := g) (h := hd) hr hI intsNil).mono ?_
  rintro ⟨⟨va, vn, vc⟩, (e : Int), ⟨⟩⟩ w3 ⟨x3, h3, h3'⟩
  dsimp only at h3 h3' ⊢
  refine ⟨hkeep _ (T.stepE x3).fr, ?_⟩
  by_cases hH : HRight hd
  case neg =>
    obtain ⟨-, he⟩ := h3' (fun x => hH x.2.1.1)
    subst he
    exact cond_t rfl (by rw [if_neg hH]; exact ⟨rfl, (S.stepE x3).tail⟩)
  obtain ⟨r3, he⟩ := h3 ⟨hR, ⟨hH, .inl rfl⟩, hlen⟩
  subst he
  refine cond_f rfl ?_
  rw [if_pos hH]
  have bm := payL_full (g := g) hr hH hx.2
  have S := res_rdL S r3 bm
  have hvn : vn ≤ 100000 := by
    have h8 := r3.own.ints.len
    have h9 : (mkL g hd dd.l []).length ≤ g.s.toNat + 88 := by
      unfold mkL payL
      rw [List.length_append, endL_length _ (.inl rfl)]
      have := hI.len
      split
      · rw [List.length_replicate]; omega
      · omega
    have h7 := hR.sec
    dsimp only at h8
    omega
  refine (Place24_c (pp := pp) (b := b) (i := pa) (by omega)).mono ?_
  rintro ⟨x, ⟨⟩⟩ w4 ⟨h4, x4⟩
  dsimp only at h4 ⊢
  subst h4
  have S := S.stepE x4
  refine (programmed_c (bl := 4 + b) (pa := pa) (dd := ⟨va, vn, vc, mkL g hd dd.l []⟩) h bm ho hvn (S.fro [2, 2, 2, 2] rfl)).mono ?_
  rintro ⟨e, ⟨⟩⟩ w5 ⟨h5, S⟩
  dsimp only at h5 S
  rw [h.gg]
  exact ⟨h5, (S.fro [4, 4] rfl).tail.tail⟩
theorem Copy24_c {b pa fb fp : Int} (h : PI g n C L O) (ho : C.ops + 2 ≤ 1000000) (S : Sep E w0 w (plS pp p q g s O C L Rs)) :
    CallV Tryz.prog 89 #[.pointer (some ⟨pp, 0, none⟩), .int .i64 b, .int .i64 pa, .agg #[.int .i64 fb, .int .i64 fp]] w [.one (.int .i64)] fun r w' =>
      r.1 = (cpyC n C b pa fb fp).2 ∧ Sep E w0 w' (plS pp p q g s O (cpyC n C b pa fb fp).1 L Rs) := by
  apply pool_Pool_Copy.vc
  unfold pool_Pool_Copy.P
  simp only [Addr.add_lit, Nat.zero_add]
  have hnn := plS_n S
  have hol := h.ol
  have hle := h.le
  obtain ⟨-, -, ⟨n5, n6⟩, n7, n8⟩ := h.ok.num
  refine S.newB fun b1 w1 S f1 _ => ?_
  refine (has24_c (b := b) (S.fro [1, 1, 1, 1] rfl)).mono ?_
  rintro ⟨(r : Bool), ⟨⟩⟩ w2 ⟨h2, rfl⟩
  dsimp only at h2 ⊢
  subst h2
  unfold cpyC
  by_cases hb : 0 ≤ b ∧ b < (n : Int)
  case neg => exact cond_t (by rw [decide_eq_false (by omega)]; rfl) (by rw [if_neg hb]; exact ⟨rfl, S.tail⟩)
  refine cond_f (by rw [decide_eq_true (by omega)]; rfl) ?_
  rw [if_pos hb]
  refine S.reg fun D hD hkeep S T => ?_
  refine ⟨hD _ S.bl1, S.ld1 (j := 0) rfl rfl ⟨hD _ S.bl0, S.la0 rfl ?_⟩⟩
  refine (Read_e (bl := fb) (pa := fp) h.ok (S.fro [4] rfl)).mono ?_
  rintro ⟨⟨va, vn, vc⟩, (e : Int), ⟨⟩⟩ w3 ⟨h3, h4, h5⟩
  dsimp only at h3 h4 h5 ⊢
  subst h3
  by_cases hrd : readC C fb fp = 0
  case neg =>
    obtain ⟨-, x3⟩ := h4 hrd
    refine ⟨hkeep _ (T.stepE x3).fr, cond_t (by simpa using hrd) ?_⟩
    rw [if_neg hrd]
    exact ⟨rfl, (S.stepE x3).tail⟩
  have r3 := h5 hrd
  clear h4 h5
  rw [if_pos hrd]
  refine ⟨hkeep _ (T.stepE r3.ext).fr, cond_f (by rw [hrd]; rfl) ?_⟩
  have hin : inC C fb fp := by
    unfold readC at hrd
    split at hrd
    · omega
    · split at hrd
      · assumption
      · omega
  obtain ⟨-, hpl, bx⟩ := h.ok.page hin
  generalize pgC13 C fb fp = xs at r3 hpl bx ⊢
  have hlen := r3.own.ints.len
  dsimp only at hlen
  have S := S.pushO r3.ext r3.own
  have hvn : vn = C.g.s.toNat + 88 := by omega
  have hv8 : ((vn : Nat) : Int) - 8 = ((vn - 8 : Nat) : Int) := by omega
  rw [hv8]
  refine ⟨Rng.i64 (by omega) (by omega), ?_⟩
  refine Loop1 (fun (v : Int × Unit) w' => ∃ i : Nat, v.1 = ((vn - 8 + i : Nat) : Int) ∧ i ≤ 8 ∧ Sep E w0 w' (OwnA 5 1 va vn vc (bv8 (xs.take (vn - 8) ++ (List.replicate i 255 ++ xs.drop (vn - 8 + i)))) :: BoxA b1 160 [.int .i64 fb, .int .i64 fp] :: plS pp p q g s O C L Rs)) (fun (v : Int × Unit) _ => ((vn : Int) - v.1).toNat)
    ⟨0, by dsimp only; omega, by omega, ?_⟩ ?_
  · have : xs.take (vn - 8) ++ (List.replicate 0 255 ++ xs.drop (vn - 8 + 0)) = xs := by rw [List.replicate_zero, List.nil_append, Nat.add_zero, List.take_append_drop]
    rw [this]
    exact S
  clear S
  rintro ⟨(v : Int), ⟨⟩⟩ w4 ⟨i, hv, hi, S⟩
  dsimp only at hv
  subst hv
  refine cond_d (fun hlt => ?_) (fun hge => ?_)
  · refine S.pu0 (by omega) hlt rfl fun w5 S f5 => ⟨Rng.i64 (by omega) (by omega), ⟨i + 1, by push_cast; omega, by omega, ?_⟩, by omega⟩
    have e : (bv8 (xs.take (vn - 8) ++ (List.replicate i 255 ++ xs.drop (vn - 8 + i)))).set ((vn - 8 + i : Nat) : Int).toNat (.int .u8 255) = bv8 (xs.take (vn - 8) ++ (List.replicate (i + 1) 255 ++ xs.drop (vn - 8 + (i + 1)))) := by
      rw [Int.toNat_natCast, ← set_run _ _ _ _ (by omega)]
      exact List.map_set.symm
    rw [e] at S
    exact S
  have h8 : i = 8 := by omega
  subst h8
  have he : xs.take (vn - 8) ++ (List.replicate 8 255 ++ xs.drop (vn - 8 + 8)) = cpyL xs := by
    unfold cpyL
    rw [List.drop_eq_nil_of_le (by omega), List.append_nil, hlen]
  rw [he] at S
  have bc := cpyL_byt bx
  have S := S.conv (R' := RdL [⟨va, vn, vc, cpyL xs⟩]) fun F hF _ x hx => by
    rw [List.mem_singleton.1 hx]
    exact own_rdB hF (fun k hk => hk) bc
  refine (Place24_c (pp := pp) (b := b) (i := pa) (by omega)).mono ?_
  rintro ⟨x, ⟨⟩⟩ w5 ⟨h5, x5⟩
  dsimp only at h5 ⊢
  subst h5
  have S := S.stepE x5
  refine (programmed_c (bl := 4 + b) (pa := pa) (dd := ⟨va, vn, vc, cpyL xs⟩) h bc ho (by dsimp only; omega) (S.fro [2, 2, 2, 2] rfl)).mono ?_
  rintro ⟨e, ⟨⟩⟩ w6 ⟨h6, S⟩
  exact ⟨h6, (S.fro [4, 4] rfl).tail.tail⟩
theorem New24_c {y : SlV} (hC : COk C) (hl : L.length ≤ 100) (hy : y.n ≤ 1000) (hO : RdC w y.a (O.flatMap Hd.vs)) (hOl : O.length = y.n) (S : Sep E w0 w (chipE p C :: ledE q L :: Rs)) :
    CallV Tryz.prog 34 #[.pointer (some ⟨p, 0, none⟩), .pointer (some ⟨q, 0, none⟩), .slice y.a y.n y.c] w [.one .ptr, .one (.int .i64)] fun r w' =>
      (¬ ((L.length : Int) = C.g.b - 4 ∧ (y.n : Int) = C.g.b - 4) → r.1 = none ∧ r.2.1 = (2 : Int) ∧ Ext w w') ∧
      ((L.length : Int) = C.g.b - 4 ∧ (y.n : Int) = C.g.b - 4 → r.2.1 = (0 : Int) ∧ ∃ (pp : Nat) (s : SlV), r.1 = some (⟨pp, 0, none⟩ : Addr) ∧ Ext w w' ∧ Sep E w0 w' (plS pp p q C.g s O C L Rs)) := by
  apply pool_New.vc
  unfold pool_New.P
  have hR := hC.g
  have T := Sep.start NoB w
  refine (Geometry_e S).mono ?_
  rintro ⟨_, ⟨⟩⟩ w1 ⟨h1, x1⟩
  dsimp only at h1
  subst h1
  have S := S.stepE x1
  have X := x1
  refine S.newB fun b3 w3 S f3 z3 => ?_
  refine S.st0 (by rfl) fun w4 S f4 => S.la0 rfl ?_
  have X3 := (Fr.of X).trans f3
  have X4 : Fr NoB w w4 := X3.trans' f4 fun i hi => .inr (by rw [hi]; exact Nat.le_trans X.size z3)
  refine (Data_c (g := C.g)).mono ?_
  rintro ⟨(d : Int), ⟨⟩⟩ w5 ⟨h5, x5⟩
  dsimp only at h5 ⊢
  rw [if_pos hR] at h5
  subst h5
  obtain ⟨⟨n1, n2⟩, -⟩ := hC.num
  have S := S.stepE x5
  have X5 := X4.trans (.of x5)
  refine cond_f (by simp; omega) ?_
  refine (Len_e (S.fro [2] rfl)).mono ?_
  rintro ⟨(r : Int), ⟨⟩⟩ w6 ⟨h6, rfl⟩
  dsimp only at h6 ⊢
  subst h6
  refine cond_ne (fun hne => ⟨fun _ => ⟨rfl, rfl, X5.ext⟩, fun hh => absurd hh.1 hne⟩) (fun he => ?_)
  refine cond_ne (fun hne => ⟨fun _ => ⟨rfl, rfl, X5.ext⟩, fun hh => absurd hh.2 hne⟩) (fun he2 => ?_)
  refine S.reg fun D hD hkeep S T => ?_
  have X := T.fr
  clear T
  refine ⟨hD _ S.bl0, S.la0 rfl ?_⟩
  refine S.newB fun b13 w14 S f14 z14 => ?_
  have X := X.trans f14
  refine ⟨hkeep _ X, ?_⟩
  have S := S.asOwn (sz := 6) (n := 0) rfl (by omega) oneAll.nil
  have hO' : RdC w14 y.a (O.flatMap Hd.vs) := hO.imp id fun ⟨p, h1, h2⟩ => ⟨p, h1, ((X5.trans (.drew _ _)).trans X).ext.cells h2⟩
  refine AppS.of (news := O.flatMap Hd.vs) (by rw [flatF_len Hdv_len, hOl]) hO' ?_
  refine S.ap0 (by rw [flatF_len Hdv_len, hOl]) (flatF_one Hdv_one O) (by omega) (by omega) fun a' c' w18 S f18 => ?_
  have X : Fr NoB w6.drew w18 := X.trans' f18 fun i ⟨q, hq, hi⟩ => .inr (by cases hq; subst hi; exact z14)
  refine ⟨hkeep _ X, ?_⟩
  dsimp only [List.nil_append] at S ⊢
  rw [Nat.zero_add] at S ⊢
  refine S.newB fun b20 w21 S f21 z21 => ?_
  have X := X.trans f21
  refine ⟨hkeep _ X, fun hh => absurd ⟨he, he2⟩ hh, fun _ => ⟨rfl, b20, ⟨a', y.n, c'⟩, rfl, ((X5.trans (.drew _ _)).trans X).ext, ?_⟩⟩
  exact (S.fro [2] rfl).tail.fro [0, 0, 1] rfl
end
end Go.Proofs.YtlpeoaphdmfjdaaGreat.Vc
/-! The contracts of layer 13: one step, done by both: the walk. -/
namespace Go.Proofs.YtlpeoaphdmfjdaaGreat.Vc
open Go Go.Eng Go.RowKit
section
variable {E : Nat → Prop} {w0 w : World} {B : SlP TBd.T} {f : SlP TF.T} {C : CD} {Ts : List Asr}
theorem refCall {fn : FuncId} {args : Array Value} {l : List Sh} {get : RT l → Int × Int × Int × Int × Int × Int × SlV × SlV × Bool × Int × Unit} {C' : CD} {Q : RT l → Prop} (S : Sep E w0 w (RdT (Ty.sl TBd) B :: Ts)) (hdb : B.l.map bdOf = C.bs) (hf : LF.rd w All f) (hdf : fds f = C.pl)
    (hc : ∀ H : Nat → Prop, (∀ k, w.heap.size ≤ k → H k) → RefR H w B f C → CallV Tryz.prog fn args w l fun r w' => ∃ B' : SlP TBd.T, get r = chT B' f C' ∧ Q r ∧ RefR H w' B' f C' ∧ Ext w w') {K : RT l → World → Prop}
    (hk : ∀ r w' (B' : SlP TBd.T), get r = chT B' f C' → Q r → B'.l.map bdOf = C'.bs → Ext w w' → Sep E w0 w' (RdT (Ty.sl TBd) B' :: Ts) → K r w') : CallV Tryz.prog fn args w l K := by
  obtain ⟨F, h1, h2, h3⟩ := Sep.frame1 S
  refine (hc (fun k => F k ∨ w.heap.size ≤ k) (fun k hk => .inr hk) ⟨(Ty.sl TBd).rd_mono (fun k hk _ => .inl hk) h1, hdb, hf, hdf⟩).mono ?_
  rintro r w' ⟨B', g1, g2, g3, g4⟩
  refine hk r w' B' g1 g2 g3.db g4 (h3 w' [_] ⟨(Fr.of g4).any, fun k => (F k ∨ w.heap.size ≤ k) ∧ k < w'.heap.size, ⟨fun k => (F k ∨ w.heap.size ≤ k) ∧ k < w'.heap.size, NoB, (Ty.sl TBd).rd_mono (fun k hk hl => ⟨hk, hl⟩) g3.rb, trivial, fun _ _ x => x, fun _ x => x, fun _ x => x.elim⟩, fun k hk => hk⟩)
end
end Go.Proofs.YtlpeoaphdmfjdaaGreat.Vc
