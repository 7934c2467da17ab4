/- Texts in one: The plans of functions as plain statements, printed by wip/tools/vcgen.py; the kernel holds each to the code. The contracts of layer 19 (chunk): a record's pages. The contract of Hold of layer 19 (chunk): the record that pages hold. The contracts of Current of layer 19 (chunk), and small ones. Plain laws of layer 19: a block whose last page lacks its mark holds nothing, one that has it holds its record. Plain data of layer 20 (keybox): what each of its operations makes. Plain data of layer 24 (pool): what each of its operations makes. The order of the parts. The contracts of pool (layer 24): destroy, program, seal, begin. What any parameter of a law is known to be, with the sizes of what it holds: structs, arrays and slices of whole numbers, texts, and of each other. What the laws of layer 13 share. The contracts of layer 24: what the laws share: payloads, cases, and a new pool by both. The contracts of layer 13: the trace. Plain laws of layer 13: what a trace tells of programs. Plain laws of layer 13: what only clears. Plain laws of layer 24 (pool): what a block has that was destroyed, or opened. Plain laws of layer 20 (keybox): a record that is written without a fault. An array as a part, with what its trace tells of scrubs that were not whole. The plans of functions as plain statements, printed by wip/tools/vcgen.py; the kernel holds each to the code. The contracts of keybox (layer 20). The contracts of keybox (layer 20): a record written. The contracts of keybox (layer 20): Commit. The contracts of keybox (layer 20): Open. Plain laws of layer 20 (keybox): the first record, without a fault; what an Open finds. The plans of functions as plain statements, printed by wip/tools/vcgen.py; the kernel holds each to the code. What the laws of layer 24 share: a step keeps a pool right; does the program answer at all? The contracts of keybox (layer 20): does a block leak; what the laws share. The contracts of layer 20 (keybox): is a block gone; may a case be played. The contract of layer 20's half: was a scrub of an array done half? Plain laws of layer 20 (keybox): what bits that are set, or left, leave of a record. Plain laws of layer 20 (keybox): what a write leaves that was not done. Plain laws of layer 20 (keybox): what is gone behind a Commit. Plain laws of layer 20 (keybox): what a key store keeps, whatever fails, if no scrub is done half. -/
import Derived.Test.YtlpeoaphdmfjdaaZKeyboxCrashesc

set_option linter.unusedVariables false
set_option linter.unusedSimpArgs false
/-! The plans of functions as plain statements, printed by wip/tools/vcgen.py; the kernel holds each to the code. -/
namespace Go.Proofs.Ytlpeoaphdmfjdaa.Vc
open Go Go.Eng
def chunk_own.A : Ann := .no
def chunk_own.P (p0_0 p0_1 p0_2 p0_3 p0_4 p0_5 p1 p2 : Int) (w : World) (K : (Int × Int × Int × Int × Int × Int × Unit) × Unit → World → Prop) : Prop :=
  NewV #[.int .i64 p0_0, .int .i64 p0_1, .int .i64 p0_2, .int .i64 p0_3, .int .i64 p0_4, .int .i64 p0_5] 33 w fun b1 w2 =>
  NewV #[.int .i64 0, .int .i64 0, .int .i64 0, .int .u32 0, .int .u64 0, .int .u64 0] 25 w2 fun b3 w4 =>
  LoadA w4 ⟨b1, 0, none⟩ [.int .i64, .int .i64, .int .i64, .int .i64, .int .i64, .int .i64] fun (x5 : Int × Int × Int × Int × Int × Int × Unit) =>
  CallV Try.prog 66 #[.agg #[.int .i64 x5.1, .int .i64 x5.2.1, .int .i64 x5.2.2.1, .int .i64 x5.2.2.2.1, .int .i64 x5.2.2.2.2.1, .int .i64 x5.2.2.2.2.2.1]] w4 [.one (.int .i64)] fun (r6 : Int × Unit) w7 =>
  StoreV w7 ⟨b3, 0, none⟩ [.int .i64 4, .int .i64 p1, .int .i64 0, .int .u32 (IntKind.u32.wrap r6.1), .int .u64 p2, .int .u64 0] fun w8 =>
  LoadA w8 ⟨b3, 0, none⟩ [.int .i64, .int .i64, .int .i64, .int .u32, .int .u64, .int .u64] fun (x9 : Int × Int × Int × Int × Int × Int × Unit) =>
  K ((x9.1, x9.2.1, x9.2.2.1, x9.2.2.2.1, x9.2.2.2.2.1, x9.2.2.2.2.2.1, ()), ()) w8
theorem chunk_own.vc (p0_0 p0_1 p0_2 p0_3 p0_4 p0_5 p1 p2 : Int) (w : World) (K : (Int × Int × Int × Int × Int × Int × Unit) × Unit → World → Prop) (h : chunk_own.P p0_0 p0_1 p0_2 p0_3 p0_4 p0_5 p1 p2 w K) : CallV Try.prog 102 #[.agg #[.int .i64 p0_0, .int .i64 p0_1, .int .i64 p0_2, .int .i64 p0_3, .int .i64 p0_4, .int .i64 p0_5], .int .i64 p1, .int .u64 p2] w [.agg [.int .i64, .int .i64, .int .i64, .int .u32, .int .u64, .int .u64]] K := by
  refine vcFun.of (A := chunk_own.A) (wr := false) okf_ok follows h Try.func102 ?_
  kernel_rfl
def chunk_Pages.A : Ann := .two .no (.two .no (.two .no (.two (.draw (.take 1 (.take 3 (.take 4 (.take 5 (.take 6 (.take 7 (.take 8 (.take 9 (.eff 0 (.eff 2 (.eff 10 (.eff 11 (.take 12 (.done))))))))))))))) (.two .no (.two (.two .no (.one (.loop [6, 7, 10, 11, 12, 13, 37, 38, 39, 40, 41, 42, 43, 44, 45, 46, 47, 48, 49, 50, 51, 52, 53, 54, 55, 56, 57, 58, 59, 60, 61, 62, 63, 64, 65, 66, 67, 68, 69, 70, 71, 72] [(10, .one .sl), (37, .one (.int .i64))] (.two .no (.two .no (.two (.one (.two .no (.two (.draw (.take 0 (.take 1 (.take 2 (.take 3 (.take 5 (.take 6 (.take 7 (.take 8 (.take 9 (.take 10 (.take 11 (.take 12 (.take 13 (.take 14 (.take 15 (.take 16 (.take 17 (.take 18 (.take 19 (.take 20 (.eff 4 (.eff 21 (.take 22 (.take 23 (.take 24 (.take 25 (.take 26 (.done))))))))))))))))))))))))))))) .no))) .no)))))) .no)))))
def chunk_Pages.P (p0_0 p0_1 p0_2 p0_3 p0_4 p0_5 : Int) (a1 : Option Addr) (n1 c1 : Nat) (p2 : Int) (w : World) (K : SlV × Int × Unit → World → Prop) : Prop :=
  NewV #[.int .i64 p0_0, .int .i64 p0_1, .int .i64 p0_2, .int .i64 p0_3, .int .i64 p0_4, .int .i64 p0_5] 33 w fun b1 w2 =>
  LoadA w2 ⟨b1, 0, none⟩ [.int .i64, .int .i64, .int .i64, .int .i64, .int .i64, .int .i64] fun (x3 : Int × Int × Int × Int × Int × Int × Unit) =>
  CallV Try.prog 40 #[.agg #[.int .i64 x3.1, .int .i64 x3.2.1, .int .i64 x3.2.2.1, .int .i64 x3.2.2.2.1, .int .i64 x3.2.2.2.2.1, .int .i64 x3.2.2.2.2.2.1]] w2 [.one (.int .i64)] fun (r4 : Int × Unit) w5 =>
  cond (r4.1 != 0)
  (K ((⟨none, 0, 0⟩ : SlV), (2 : Int), ()) w5)
  (cond (((n1 : Nat) : Int) != 624)
  (K ((⟨none, 0, 0⟩ : SlV), (2 : Int), ()) w5)
  (LoadA w5 ⟨b1, 0, none⟩ [.int .i64, .int .i64, .int .i64, .int .i64, .int .i64, .int .i64] fun (x6 : Int × Int × Int × Int × Int × Int × Unit) =>
  CallV Try.prog 66 #[.agg #[.int .i64 x6.1, .int .i64 x6.2.1, .int .i64 x6.2.2.1, .int .i64 x6.2.2.2.1, .int .i64 x6.2.2.2.2.1, .int .i64 x6.2.2.2.2.2.1]] w5 [.one (.int .i64)] fun (r7 : Int × Unit) w8 =>
  DrawV fun D9 =>
  (D9 b1 ∧ LoadS w8.drew ⟨b1, 2, none⟩ (.int .i64) fun (x10 : Int) =>
  Rng .i64 (r7.1 * x10) ∧
  Rng .i64 ((r7.1 * x10) - ((n1 : Nat) : Int)) ∧
  NewV #[] 5 w8.drew fun b11 w12 =>
  KeepOn D9 w8.drew w12 ∧
  AppS w12 a1 n1 1 fun ns17 =>
  AppV w12 5 1 1 (some ⟨b11, 0, none⟩) 0 0 ns17 n1 fun a13 n14 c15 w16 =>
  KeepOn D9 w8.drew w16 ∧
  CallV Try.prog 91 #[.int .u8 255, .int .i64 ((r7.1 * x10) - ((n1 : Nat) : Int))] w16 [.one .sl] fun (r18 : SlV × Unit) w19 =>
  KeepOn D9 w8.drew w19 ∧
  AppS w19 r18.1.a r18.1.n 1 fun ns24 =>
  AppV w19 5 1 1 a13 n14 c15 ns24 r18.1.n fun a20 n21 c22 w23 =>
  KeepOn D9 w8.drew w23 ∧
  LoopV [.one .sl, .one (.int .i64)] ((⟨none, 0, 0⟩ : SlV), (0 : Int), ()) w23 fun (z25 : SlV × Int × Unit) w26 (K27 : SlV × Int × Unit → World → Prop) =>
  cond (decide (z25.2.1 < r7.1))
  (DrawV fun D28 =>
  (D28 b1 ∧ LoadA w26.drew ⟨b1, 0, none⟩ [.int .i64, .int .i64, .int .i64, .int .i64, .int .i64, .int .i64] fun (x29 : Int × Int × Int × Int × Int × Int × Unit) =>
  (D28 b1 ∧ LoadA w26.drew ⟨b1, 0, none⟩ [.int .i64, .int .i64, .int .i64, .int .i64, .int .i64, .int .i64] fun (x30 : Int × Int × Int × Int × Int × Int × Unit) =>
  (D28 b1 ∧ LoadS w26.drew ⟨b1, 2, none⟩ (.int .i64) fun (x31 : Int) =>
  Rng .i64 (z25.2.1 * x31) ∧
  Rng .i64 (z25.2.1 + 1) ∧
  (D28 b1 ∧ LoadS w26.drew ⟨b1, 2, none⟩ (.int .i64) fun (x32 : Int) =>
  Rng .i64 ((z25.2.1 + 1) * x32) ∧
  Rng .i64 (z25.2.1 + 1) ∧
  (D28 b1 ∧ LoadS w26.drew ⟨b1, 2, none⟩ (.int .i64) fun (x33 : Int) =>
  Rng .i64 ((z25.2.1 + 1) * x33) ∧
  ((0 : Int) ≤ (z25.2.1 * x31) ∧ (z25.2.1 * x31) ≤ ((z25.2.1 + 1) * x32) ∧ ((z25.2.1 + 1) * x32) ≤ ((z25.2.1 + 1) * x33) ∧ ((z25.2.1 + 1) * x33) ≤ ((c22 : Nat) : Int)) ∧
  SubK a20 ((z25.2.1 * x31).toNat) (((z25.2.1 + 1) * x33).toNat) 1 fun a34 =>
  CallV Try.prog 102 #[.agg #[.int .i64 x30.1, .int .i64 x30.2.1, .int .i64 x30.2.2.1, .int .i64 x30.2.2.2.1, .int .i64 x30.2.2.2.2.1, .int .i64 x30.2.2.2.2.2.1], .int .i64 z25.2.1, .int .u64 p2] w26.drew [.agg [.int .i64, .int .i64, .int .i64, .int .u32, .int .u64, .int .u64]] fun (r35 : (Int × Int × Int × Int × Int × Int × Unit) × Unit) w36 =>
  KeepOn D28 w26.drew w36 ∧
  CallV Try.prog 52 #[.agg #[.int .i64 x29.1, .int .i64 x29.2.1, .int .i64 x29.2.2.1, .int .i64 x29.2.2.2.1, .int .i64 x29.2.2.2.2.1, .int .i64 x29.2.2.2.2.2.1], .agg #[.int .i64 r35.1.1, .int .i64 r35.1.2.1, .int .i64 r35.1.2.2.1, .int .u32 r35.1.2.2.2.1, .int .u64 r35.1.2.2.2.2.1, .int .u64 r35.1.2.2.2.2.2.1], .slice a34 ((((z25.2.1 + 1) * x32).toNat) - ((z25.2.1 * x31).toNat)) ((((z25.2.1 + 1) * x33).toNat) - ((z25.2.1 * x31).toNat)), .slice none 0 0] w36 [.one .sl, .one (.int .i64)] fun (r37 : SlV × Int × Unit) w38 =>
  KeepOn D28 w26.drew w38 ∧
  cond (r37.2.1 != 0)
  (K ((⟨none, 0, 0⟩ : SlV), r37.2.1, ()) w38)
  (NewV #[.slice r37.1.a r37.1.n r37.1.c] 56 w38 fun b39 w40 =>
  AppS w40 (some ⟨b39, 0, none⟩) 1 1 fun ns45 =>
  AppV w40 56 1 24 z25.1.a z25.1.n z25.1.c ns45 1 fun a41 n42 c43 w44 =>
  Rng .i64 (z25.2.1 + 1) ∧
  K27 ((⟨a41, n42, c43⟩ : SlV), z25.2.1 + 1, ()) w44)))))))
  (K (z25.1, (0 : Int), ()) w26))))
theorem chunk_Pages.vc (p0_0 p0_1 p0_2 p0_3 p0_4 p0_5 : Int) (a1 : Option Addr) (n1 c1 : Nat) (p2 : Int) (w : World) (K : SlV × Int × Unit → World → Prop) (h : chunk_Pages.P p0_0 p0_1 p0_2 p0_3 p0_4 p0_5 a1 n1 c1 p2 w K) : CallV Try.prog 62 #[.agg #[.int .i64 p0_0, .int .i64 p0_1, .int .i64 p0_2, .int .i64 p0_3, .int .i64 p0_4, .int .i64 p0_5], .slice a1 n1 c1, .int .u64 p2] w [.one .sl, .one (.int .i64)] K := by
  refine vcFun.of (A := chunk_Pages.A) (wr := false) okf_ok follows h Try.func62 ?_
  kernel_rfl
def chunk_Hold.A : Ann := .two .no (.two .no (.two .no (.two .no (.two .no (.two (.two .no (.one (.loop [4, 5, 6, 8, 9, 10, 11, 12, 24, 25, 26, 27, 28, 29, 30, 31, 32, 33, 34, 35, 36, 37, 38, 39, 40, 41, 42, 43, 44, 45, 46, 47, 48, 49, 50, 51, 52, 53, 54, 55, 56, 57, 58, 59, 60, 61, 62, 63, 64, 65, 66, 67] [(8, .one .sl), (9, .one (.int .u64)), (24, .one (.int .i64))] (.two .no (.two .no (.two (.one (.two .no (.join [11, 12, 27, 28, 29, 30, 31, 32, 33, 34, 35] [(11, .one .ptr), (12, .one (.int .i64))] (.draw (.take 0 (.take 1 (.take 2 (.take 3 (.take 4 (.both 5 (.take 6 (.take 7 (.take 8 (.eff 9 (.eff 10 (.take 11 (.done))))))) 9 (.eff 5 (.take 6 (.take 7 (.take 8 (.eff 10 (.take 11 (.done)))))))))))))) (.join [9, 36, 37, 38, 39, 40] [(9, .one (.int .u64))] .no (.two (.two (.draw (.take 0 (.take 1 (.take 2 (.take 3 (.take 4 (.take 5 (.take 6 (.take 7 (.eff 8 (.take 9 (.take 10 (.take 11 (.take 12 (.take 13 (.take 14 (.take 15 (.take 16 (.take 17 (.take 18 (.take 19 (.take 20 (.take 21 (.done)))))))))))))))))))))))) .no) .no))))) .no)))))) (.two (.draw (.take 0 (.take 1 (.take 2 (.take 3 (.take 4 (.take 5 (.done)))))))) .no))))))
def chunk_Hold.P (p0_0 p0_1 p0_2 p0_3 p0_4 p0_5 : Int) (a1 : Option Addr) (n1 c1 : Nat) (w : World) (K : Int × SlV × Bool × Unit → World → Prop) : Prop :=
  NewV #[.int .i64 p0_0, .int .i64 p0_1, .int .i64 p0_2, .int .i64 p0_3, .int .i64 p0_4, .int .i64 p0_5] 33 w fun b1 w2 =>
  LoadA w2 ⟨b1, 0, none⟩ [.int .i64, .int .i64, .int .i64, .int .i64, .int .i64, .int .i64] fun (x3 : Int × Int × Int × Int × Int × Int × Unit) =>
  CallV Try.prog 66 #[.agg #[.int .i64 x3.1, .int .i64 x3.2.1, .int .i64 x3.2.2.1, .int .i64 x3.2.2.2.1, .int .i64 x3.2.2.2.2.1, .int .i64 x3.2.2.2.2.2.1]] w2 [.one (.int .i64)] fun (r4 : Int × Unit) w5 =>
  cond (r4.1 == 0)
  (K ((0 : Int), (⟨none, 0, 0⟩ : SlV), false, ()) w5)
  (cond (decide (((n1 : Nat) : Int) < r4.1))
  (K ((0 : Int), (⟨none, 0, 0⟩ : SlV), false, ()) w5)
  (LoopV [.one .sl, .one (.int .u64), .one (.int .i64)] ((⟨none, 0, 0⟩ : SlV), (0 : Int), (0 : Int), ()) w5 fun (z6 : SlV × Int × Int × Unit) w7 (K8 : SlV × Int × Int × Unit → World → Prop) =>
  cond (decide (z6.2.2.1 < r4.1))
  (JoinV [.one .ptr, .one (.int .i64)] (fun (v10 : (Option Addr) × Int × Unit) w11 =>
  JoinV [.one (.int .u64)] (fun (v13 : Int × Unit) w14 =>
  DrawV fun D15 =>
  cond (v10.2.1 != 0)
  (K ((0 : Int), (⟨none, 0, 0⟩ : SlV), false, ()) w14.drew)
  (PtrK v10.1 fun q16 =>
  (D15 q16.block ∧ LoadA w14.drew q16 [.int .i64, .int .i64, .int .i64, .int .u32, .int .u64, .int .u64] fun (x17 : Int × Int × Int × Int × Int × Int × Unit) =>
  (D15 b1 ∧ LoadA w14.drew ⟨b1, 0, none⟩ [.int .i64, .int .i64, .int .i64, .int .i64, .int .i64, .int .i64] fun (x18 : Int × Int × Int × Int × Int × Int × Unit) =>
  CallV Try.prog 102 #[.agg #[.int .i64 x18.1, .int .i64 x18.2.1, .int .i64 x18.2.2.1, .int .i64 x18.2.2.2.1, .int .i64 x18.2.2.2.2.1, .int .i64 x18.2.2.2.2.2.1], .int .i64 z6.2.2.1, .int .u64 v13.1] w14.drew [.agg [.int .i64, .int .i64, .int .i64, .int .u32, .int .u64, .int .u64]] fun (r19 : (Int × Int × Int × Int × Int × Int × Unit) × Unit) w20 =>
  KeepOn D15 w14.drew w20 ∧
  AggEq Try.prog 25 #[.int .i64 x17.1, .int .i64 x17.2.1, .int .i64 x17.2.2.1, .int .u32 x17.2.2.2.1, .int .u64 x17.2.2.2.2.1, .int .u64 x17.2.2.2.2.2.1] #[.int .i64 r19.1.1, .int .i64 r19.1.2.1, .int .i64 r19.1.2.2.1, .int .u32 r19.1.2.2.2.1, .int .u64 r19.1.2.2.2.2.1, .int .u64 r19.1.2.2.2.2.2.1] fun e21 =>
  cond (!e21)
  (K ((0 : Int), (⟨none, 0, 0⟩ : SlV), false, ()) w20)
  (Rng .i64 (r4.1 - 1) ∧
  cond (z6.2.2.1 == (r4.1 - 1))
  (PtrK v10.1 fun q22 =>
  (D15 (q22.add 8).block ∧ LoadS w14.drew (q22.add 8) .bool fun (x23 : Bool) =>
  cond (!x23)
  (K ((0 : Int), (⟨none, 0, 0⟩ : SlV), false, ()) w20)
  (PtrK v10.1 fun q24 =>
  LoadS w20 (q24.add 6) .sl fun (x25 : SlV) =>
  AppS w20 x25.a x25.n 1 fun ns30 =>
  AppV w20 5 1 1 z6.1.a z6.1.n z6.1.c ns30 x25.n fun a26 n27 c28 w29 =>
  Rng .i64 (z6.2.2.1 + 1) ∧
  K8 ((⟨a26, n27, c28⟩ : SlV), v13.1, z6.2.2.1 + 1, ()) w29)))
  (PtrK v10.1 fun q31 =>
  LoadS w20 (q31.add 6) .sl fun (x32 : SlV) =>
  AppS w20 x32.a x32.n 1 fun ns37 =>
  AppV w20 5 1 1 z6.1.a z6.1.n z6.1.c ns37 x32.n fun a33 n34 c35 w36 =>
  Rng .i64 (z6.2.2.1 + 1) ∧
  K8 ((⟨a33, n34, c35⟩ : SlV), v13.1, z6.2.2.1 + 1, ()) w36)))))) fun (J12 : Int × Unit → World → Prop) =>
  cond (z6.2.2.1 == 0)
  (PtrK v10.1 fun q38 =>
  LoadS w11 (q38.add 4) (.int .u64) fun (x39 : Int) =>
  J12 (x39, ()) w11)
  (J12 (z6.2.1, ()) w11)) fun (J9 : (Option Addr) × Int × Unit → World → Prop) =>
  DrawV fun D40 =>
  (D40 b1 ∧ LoadA w7.drew ⟨b1, 0, none⟩ [.int .i64, .int .i64, .int .i64, .int .i64, .int .i64, .int .i64] fun (x41 : Int × Int × Int × Int × Int × Int × Unit) =>
  (0 ≤ z6.2.2.1 ∧ z6.2.2.1 < ((n1 : Nat) : Int)) ∧ ∃ q42 : Addr, a1 = some q42 ∧
  (D40 (q42.add (z6.2.2.1.toNat * 1)).block ∧ LoadS w7.drew (q42.add (z6.2.2.1.toNat * 1)) .sl fun (x43 : SlV) =>
  ((CallV Try.prog 120 #[.agg #[.int .i64 x41.1, .int .i64 x41.2.1, .int .i64 x41.2.2.1, .int .i64 x41.2.2.2.1, .int .i64 x41.2.2.2.2.1, .int .i64 x41.2.2.2.2.2.1], .slice x43.a x43.n x43.c] w7.drew [.agg [.int .i64, .int .i64, .int .i64, .int .u32, .int .u64, .int .u64, .sl, .sl, .bool], .one (.int .i64)] fun (r44 : (Int × Int × Int × Int × Int × Int × SlV × SlV × Bool × Unit) × Int × Unit) w45 =>
  KeepOn D40 w7.drew w45 ∧
  NewV #[.int .i64 0, .int .i64 0, .int .i64 0, .int .u32 0, .int .u64 0, .int .u64 0, .slice none 0 0, .slice none 0 0, .bool false] 175 w45 fun b46 w47 =>
  KeepOn D40 w7.drew w47 ∧
  StoreV w47 ⟨b46, 0, none⟩ [.int .i64 r44.1.1, .int .i64 r44.1.2.1, .int .i64 r44.1.2.2.1, .int .u32 r44.1.2.2.2.1, .int .u64 r44.1.2.2.2.2.1, .int .u64 r44.1.2.2.2.2.2.1, .slice r44.1.2.2.2.2.2.2.1.a r44.1.2.2.2.2.2.2.1.n r44.1.2.2.2.2.2.2.1.c, .slice r44.1.2.2.2.2.2.2.2.1.a r44.1.2.2.2.2.2.2.2.1.n r44.1.2.2.2.2.2.2.2.1.c, .bool r44.1.2.2.2.2.2.2.2.2.1] fun w48 =>
  KeepOn D40 w7.drew w48 ∧
  J9 ((some ⟨b46, 0, none⟩), r44.2.1, ()) w48) ∧
  (NewV #[.int .i64 0, .int .i64 0, .int .i64 0, .int .u32 0, .int .u64 0, .int .u64 0, .slice none 0 0, .slice none 0 0, .bool false] 175 w7.drew fun b49 w50 =>
  KeepOn D40 w7.drew w50 ∧
  CallV Try.prog 120 #[.agg #[.int .i64 x41.1, .int .i64 x41.2.1, .int .i64 x41.2.2.1, .int .i64 x41.2.2.2.1, .int .i64 x41.2.2.2.2.1, .int .i64 x41.2.2.2.2.2.1], .slice x43.a x43.n x43.c] w50 [.agg [.int .i64, .int .i64, .int .i64, .int .u32, .int .u64, .int .u64, .sl, .sl, .bool], .one (.int .i64)] fun (r51 : (Int × Int × Int × Int × Int × Int × SlV × SlV × Bool × Unit) × Int × Unit) w52 =>
  KeepOn D40 w7.drew w52 ∧
  StoreV w52 ⟨b49, 0, none⟩ [.int .i64 r51.1.1, .int .i64 r51.1.2.1, .int .i64 r51.1.2.2.1, .int .u32 r51.1.2.2.2.1, .int .u64 r51.1.2.2.2.2.1, .int .u64 r51.1.2.2.2.2.2.1, .slice r51.1.2.2.2.2.2.2.1.a r51.1.2.2.2.2.2.2.1.n r51.1.2.2.2.2.2.2.1.c, .slice r51.1.2.2.2.2.2.2.2.1.a r51.1.2.2.2.2.2.2.2.1.n r51.1.2.2.2.2.2.2.2.1.c, .bool r51.1.2.2.2.2.2.2.2.2.1] fun w53 =>
  KeepOn D40 w7.drew w53 ∧
  J9 ((some ⟨b49, 0, none⟩), r51.2.1, ()) w53)))))
  (DrawV fun D54 =>
  ((0 : Int) ≤ (624 : Int) ∧ (624 : Int) ≤ (624 : Int) ∧ (624 : Int) ≤ ((z6.1.c : Nat) : Int)) ∧
  SubK z6.1.a 0 624 1 fun a55 =>
  K (z6.2.1, (⟨a55, 624 - 0, 624 - 0⟩ : SlV), true, ()) w7.drew)))
theorem chunk_Hold.vc (p0_0 p0_1 p0_2 p0_3 p0_4 p0_5 : Int) (a1 : Option Addr) (n1 c1 : Nat) (w : World) (K : Int × SlV × Bool × Unit → World → Prop) (h : chunk_Hold.P p0_0 p0_1 p0_2 p0_3 p0_4 p0_5 a1 n1 c1 w K) : CallV Try.prog 106 #[.agg #[.int .i64 p0_0, .int .i64 p0_1, .int .i64 p0_2, .int .i64 p0_3, .int .i64 p0_4, .int .i64 p0_5], .slice a1 n1 c1] w [.one (.int .u64), .one .sl, .one .bool] K := by
  refine vcFun.of (A := chunk_Hold.A) (wr := false) okf_ok follows h Try.func106 ?_
  kernel_rfl
def chunk_Current.A : Ann := .two .no (.two .no (.two (.two .no (.one (.loop [7, 8, 9, 10, 11, 12, 13, 14, 17, 18, 19, 20, 21, 22, 23, 24, 25, 26, 27, 28, 29, 30, 31, 32, 33, 34, 35, 36, 37, 38, 39, 40, 41, 42] [(7, .one (.int .i64)), (8, .one (.int .u64)), (9, .one .sl), (17, .one (.int .i64))] .no))) .no))
def chunk_Current.P (p0_0 p0_1 p0_2 p0_3 p0_4 p0_5 : Int) (a1 : Option Addr) (n1 c1 : Nat) (w : World) (K : Int × Int × SlV × Unit → World → Prop) : Prop :=
  NewV #[.int .i64 p0_0, .int .i64 p0_1, .int .i64 p0_2, .int .i64 p0_3, .int .i64 p0_4, .int .i64 p0_5] 33 w fun b1 w2 =>
  LoopV [.one (.int .i64), .one (.int .u64), .one .sl, .one (.int .i64)] (((-1) : Int), (0 : Int), (⟨none, 0, 0⟩ : SlV), (0 : Int), ()) w2 fun (z3 : Int × Int × SlV × Int × Unit) w4 (K5 : Int × Int × SlV × Int × Unit → World → Prop) =>
  cond (decide (z3.2.2.2.1 < ((n1 : Nat) : Int)))
  ((0 ≤ z3.2.2.2.1 ∧ z3.2.2.2.1 < ((n1 : Nat) : Int)) ∧ ∃ q6 : Addr, a1 = some q6 ∧
  LoadS w4 (q6.add (z3.2.2.2.1.toNat * 1)) .sl fun (x7 : SlV) =>
  LoadA w4 ⟨b1, 0, none⟩ [.int .i64, .int .i64, .int .i64, .int .i64, .int .i64, .int .i64] fun (x8 : Int × Int × Int × Int × Int × Int × Unit) =>
  CallV Try.prog 106 #[.agg #[.int .i64 x8.1, .int .i64 x8.2.1, .int .i64 x8.2.2.1, .int .i64 x8.2.2.2.1, .int .i64 x8.2.2.2.2.1, .int .i64 x8.2.2.2.2.2.1], .slice x7.a x7.n x7.c] w4 [.one (.int .u64), .one .sl, .one .bool] fun (r9 : Int × SlV × Bool × Unit) w10 =>
  cond r9.2.2.1
  (cond (decide (z3.1 < 0))
  (Rng .i64 (z3.2.2.2.1 + 1) ∧
  K5 (z3.2.2.2.1, r9.1, r9.2.1, z3.2.2.2.1 + 1, ()) w10)
  (cond (decide (r9.1 > z3.2.1))
  (Rng .i64 (z3.2.2.2.1 + 1) ∧
  K5 (z3.2.2.2.1, r9.1, r9.2.1, z3.2.2.2.1 + 1, ()) w10)
  (Rng .i64 (z3.2.2.2.1 + 1) ∧
  K5 (z3.1, z3.2.1, z3.2.2.1, z3.2.2.2.1 + 1, ()) w10)))
  (Rng .i64 (z3.2.2.2.1 + 1) ∧
  K5 (z3.1, z3.2.1, z3.2.2.1, z3.2.2.2.1 + 1, ()) w10))
  (K (z3.1, z3.2.1, z3.2.2.1, ()) w4)
theorem chunk_Current.vc (p0_0 p0_1 p0_2 p0_3 p0_4 p0_5 : Int) (a1 : Option Addr) (n1 c1 : Nat) (w : World) (K : Int × Int × SlV × Unit → World → Prop) (h : chunk_Current.P p0_0 p0_1 p0_2 p0_3 p0_4 p0_5 a1 n1 c1 w K) : CallV Try.prog 67 #[.agg #[.int .i64 p0_0, .int .i64 p0_1, .int .i64 p0_2, .int .i64 p0_3, .int .i64 p0_4, .int .i64 p0_5], .slice a1 n1 c1] w [.one (.int .i64), .one (.int .u64), .one .sl] K := by
  refine vcFun.of (A := chunk_Current.A) (wr := false) okf_ok follows h Try.func67 ?_
  kernel_rfl
end Go.Proofs.Ytlpeoaphdmfjdaa.Vc
/-! The contracts of layer 19 (chunk): a record's pages. -/
namespace Go.Proofs.Ytlpeoaphdmfjdaa.Vc
open Go Go.Eng Go.RowKit
theorem own19_c {w : World} {g : Geo} {i gen : Int} (hR : Right g) : CallV Try.prog 102 #[g.val, .int .i64 i, .int .u64 gen] w [.agg [.int .i64, .int .i64, .int .i64, .int .u32, .int .u64, .int .u64]] fun r w' => r.1 = (ownH g i gen).tup ∧ Ext w w' := by
  apply chunk_own.vc
  unfold chunk_own.P
  have b := nCh_bd hR
  have S := Sep.start NoB w
  (repeat ((first | refine S.newB fun _ _ S f _ => ?_ | refine S.la0 rfl ?_ | refine S.la1 rfl ?_ | refine S.la2 rfl ?_ | refine S.la3 rfl ?_ | refine S.la4 rfl ?_ | refine S.la5 rfl ?_ | refine S.ld0 rfl rfl ?_ | refine S.ld1 rfl rfl ?_ | refine S.ld2 rfl rfl ?_ | refine S.ld3 rfl rfl ?_ | refine S.ld4 rfl rfl ?_ | refine S.ld5 rfl rfl ?_ | refine S.st0 (by rfl) fun _ S f => ?_ | refine S.st1 (by rfl) fun _ S f => ?_ | refine S.st2 (by rfl) fun _ S f => ?_ | refine S.st3 (by rfl) fun _ S f => ?_ | refine S.st4 (by rfl) fun _ S f => ?_ | refine S.st5 (by rfl) fun _ S f => ?_ | refine S.su0 (by rfl) fun _ S f => ?_ | refine S.su1 (by rfl) fun _ S f => ?_ | refine S.su2 (by rfl) fun _ S f => ?_ | refine S.su3 (by rfl) fun _ S f => ?_ | refine S.su4 (by rfl) fun _ S f => ?_ | refine S.su5 (by rfl) fun _ S f => ?_ | refine ⟨by decide, ?_⟩); try dsimp only [List.set_cons_zero, List.set_cons_succ, cond_true, cond_false, Bool.not_true, Bool.not_false]))
  refine (Chunks_c (g := g)).mono ?_
  rintro ⟨(r : Int), ⟨⟩⟩ w2 ⟨h2, e2⟩
  dsimp only at h2 ⊢
  rw [if_pos hR] at h2
  have h2 : r = nCh g := h2
  subst h2
  have S := S.stepE e2
  have hw : IntKind.u32.wrap (nCh g) = nCh g := by rw [u32_wrap]; omega
  rw [hw]
  (repeat ((first | refine S.newB fun _ _ S f _ => ?_ | refine S.la0 rfl ?_ | refine S.la1 rfl ?_ | refine S.la2 rfl ?_ | refine S.la3 rfl ?_ | refine S.la4 rfl ?_ | refine S.la5 rfl ?_ | refine S.ld0 rfl rfl ?_ | refine S.ld1 rfl rfl ?_ | refine S.ld2 rfl rfl ?_ | refine S.ld3 rfl rfl ?_ | refine S.ld4 rfl rfl ?_ | refine S.ld5 rfl rfl ?_ | refine S.st0 (by rfl) fun _ S f => ?_ | refine S.st1 (by rfl) fun _ S f => ?_ | refine S.st2 (by rfl) fun _ S f => ?_ | refine S.st3 (by rfl) fun _ S f => ?_ | refine S.st4 (by rfl) fun _ S f => ?_ | refine S.st5 (by rfl) fun _ S f => ?_ | refine S.su0 (by rfl) fun _ S f => ?_ | refine S.su1 (by rfl) fun _ S f => ?_ | refine S.su2 (by rfl) fun _ S f => ?_ | refine S.su3 (by rfl) fun _ S f => ?_ | refine S.su4 (by rfl) fun _ S f => ?_ | refine S.su5 (by rfl) fun _ S f => ?_ | refine ⟨by decide, ?_⟩); try dsimp only [List.set_cons_zero, List.set_cons_succ, cond_true, cond_false, Bool.not_true, Bool.not_false]))
  exact ⟨rfl, S.ext⟩
theorem mul_le' {a b s : Int} (h : a ≤ b) (hs : 0 ≤ s) : a * s ≤ b * s := Int.mul_le_mul_of_nonneg_right h hs
theorem toNat_mul' {i : Nat} {s : Int} (hs : 0 ≤ s) : ((i : Int) * s).toNat = i * s.toNat := by rw [Int.toNat_mul (by omega) hs, Int.toNat_natCast]
theorem Pages_c {w : World} {g : Geo} {a : Option Addr} {n c : Nat} {gen : Int} {rec : List Int} (hx : Ints w .u8 a n c rec) (br : Byt rec) (hgen : 0 ≤ gen ∧ gen < 18446744073709551616) :
    CallV Try.prog 62 #[g.val, .slice a n c, .int .u64 gen] w [.one .sl, .one (.int .i64)] fun r w' => Ext w w' ∧ (¬ (Right g ∧ n = 624) → r.1 = (⟨none, 0, 0⟩ : SlV) ∧ r.2.1 = (2 : Int)) ∧
      (Right g ∧ n = 624 → r.2.1 = (0 : Int) ∧ ∃ y : SlP (SlP Int), r.1 = (⟨y.a, y.n, y.c⟩ : SlV) ∧ y.l.map (·.l) = pagesL g rec gen ∧ LstS w w' y) := by
  apply chunk_Pages.vc
  unfold chunk_Pages.P
  have lx := hx.len
  have S := Sep.start NoB w
  have no : ∀ {w' : World}, ¬ (Right g ∧ n = 624) → Ext w w' → (Ext w w' ∧ (¬ (Right g ∧ n = 624) → (⟨none, 0, 0⟩ : SlV) = (⟨none, 0, 0⟩ : SlV) ∧ (2 : Int) = (2 : Int)) ∧
      (Right g ∧ n = 624 → (2 : Int) = (0 : Int) ∧ ∃ y : SlP (SlP Int), (⟨none, 0, 0⟩ : SlV) = (⟨y.a, y.n, y.c⟩ : SlV) ∧ y.l.map (·.l) = pagesL g rec gen ∧ LstS w w' y)) := fun h e => ⟨e, fun _ => ⟨rfl, rfl⟩, fun hh => absurd hh h⟩
  refine S.newB fun b1 w1 S f1 _ => ?_
  (repeat ((first | refine S.newB fun _ _ S f _ => ?_ | refine S.la0 rfl ?_ | refine S.la1 rfl ?_ | refine S.la2 rfl ?_ | refine S.la3 rfl ?_ | refine S.la4 rfl ?_ | refine S.la5 rfl ?_ | refine S.ld0 rfl rfl ?_ | refine S.ld1 rfl rfl ?_ | refine S.ld2 rfl rfl ?_ | refine S.ld3 rfl rfl ?_ | refine S.ld4 rfl rfl ?_ | refine S.ld5 rfl rfl ?_ | refine S.st0 (by rfl) fun _ S f => ?_ | refine S.st1 (by rfl) fun _ S f => ?_ | refine S.st2 (by rfl) fun _ S f => ?_ | refine S.st3 (by rfl) fun _ S f => ?_ | refine S.st4 (by rfl) fun _ S f => ?_ | refine S.st5 (by rfl) fun _ S f => ?_ | refine S.su0 (by rfl) fun _ S f => ?_ | refine S.su1 (by rfl) fun _ S f => ?_ | refine S.su2 (by rfl) fun _ S f => ?_ | refine S.su3 (by rfl) fun _ S f => ?_ | refine S.su4 (by rfl) fun _ S f => ?_ | refine S.su5 (by rfl) fun _ S f => ?_ | refine ⟨by decide, ?_⟩); try dsimp only [List.set_cons_zero, List.set_cons_succ, cond_true, cond_false, Bool.not_true, Bool.not_false]))
  refine (Check_c (g := g)).mono ?_
  rintro ⟨(r : Int), ⟨⟩⟩ w2 ⟨h2, e2⟩
  dsimp only at h2 ⊢
  have S := S.stepE e2
  subst h2
  by_cases hR : Right g
  case neg => exact cond_t (by unfold chkE; rw [if_neg hR]; rfl) (no (fun h => hR h.1) S.ext)
  refine cond_f (by unfold chkE; rw [if_pos hR]; rfl) ?_
  refine cond_ne (fun hn => no (fun h => hn (by omega)) S.ext) (fun hn => ?_)
  have hs := hR.sec
  have bN := nCh_bd hR
  (repeat ((first | refine S.newB fun _ _ S f _ => ?_ | refine S.la0 rfl ?_ | refine S.la1 rfl ?_ | refine S.la2 rfl ?_ | refine S.la3 rfl ?_ | refine S.la4 rfl ?_ | refine S.la5 rfl ?_ | refine S.ld0 rfl rfl ?_ | refine S.ld1 rfl rfl ?_ | refine S.ld2 rfl rfl ?_ | refine S.ld3 rfl rfl ?_ | refine S.ld4 rfl rfl ?_ | refine S.ld5 rfl rfl ?_ | refine S.st0 (by rfl) fun _ S f => ?_ | refine S.st1 (by rfl) fun _ S f => ?_ | refine S.st2 (by rfl) fun _ S f => ?_ | refine S.st3 (by rfl) fun _ S f => ?_ | refine S.st4 (by rfl) fun _ S f => ?_ | refine S.st5 (by rfl) fun _ S f => ?_ | refine S.su0 (by rfl) fun _ S f => ?_ | refine S.su1 (by rfl) fun _ S f => ?_ | refine S.su2 (by rfl) fun _ S f => ?_ | refine S.su3 (by rfl) fun _ S f => ?_ | refine S.su4 (by rfl) fun _ S f => ?_ | refine S.su5 (by rfl) fun _ S f => ?_ | refine ⟨by decide, ?_⟩); try dsimp only [List.set_cons_zero, List.set_cons_succ, cond_true, cond_false, Bool.not_true, Bool.not_false]))
  refine (Chunks_c (g := g)).mono ?_
  rintro ⟨(r3 : Int), ⟨⟩⟩ w3 ⟨h3, e3⟩
  dsimp only at h3 ⊢
  rw [if_pos hR] at h3
  have h3 : r3 = nCh g := h3
  subst h3
  have S := S.stepE e3
  generalize hN : (nCh g).toNat = N at *
  have hNi : nCh g = (N : Int) := by omega
  refine S.reg fun D hD hkeep Sd T => ?_
  refine ⟨hD _ S.bl0, Sd.ld0 rfl rfl ⟨Rng.i64 (by omega) (by omega), Rng.i64 (by omega) (by omega), ?_⟩⟩
  refine T.newB fun b5 w5 T f5 _ => ⟨hkeep _ T.fr, ?_⟩
  have T := T.asOwn (sz := 1) (n := 0) rfl (by omega) oneAll.nil
  refine T.ab0 (xs := []) (hx.ext (Sd.ext.trans T.ext)) (by omega) fun a6 c6 w6 T f6 => ⟨hkeep _ T.fr, ?_⟩
  refine Fill_c.mono ?_
  rintro ⟨⟨sa, sn, sc⟩, ⟨⟩⟩ w7 h7
  dsimp only at h7 ⊢
  have hf : (max 0 (min (65536 : Int) (nCh g * g.s - ((n : Nat) : Int)))).toNat = (nCh g * g.s - 624).toNat := by generalize hL : (65536 : Int) = L; omega
  rw [hf] at h7
  have l7 := h7.ints.len
  rw [List.length_replicate] at l7
  have T := T.res h7
  dsimp only at l7 T
  refine ⟨hkeep _ T.fr, ?_⟩
  refine T.ab1 T.in0 (by omega) fun a8 c8 w8 T f8 => ⟨hkeep _ T.fr, ?_⟩
  have S := (Sd.frame0 T).sel [1, 1] rfl
  have hall : [] ++ rec ++ List.replicate (nCh g * g.s - 624).toNat 255 = allR g rec := rfl
  rw [hall] at S
  have la := allR_length hR (show rec.length = 624 by omega)
  rw [hN] at la
  have S := (S.nilL).nilOwn 56 1
  have lc8 := (S.own 2 rfl).cap
  have ln8 := (S.own 2 rfl).len
  rw [List.length_map, la, Nat.mul_one] at ln8
  generalize hn8 : 0 + n + sn = n8 at S lc8 ln8
  refine Loop1 (fun (y : SlV × Int × Unit) w' => ∃ (i : Nat) (L : List (SlP Int)), y.2.1 = (i : Int) ∧ i ≤ N ∧ y.1.n = i ∧ L.map (·.l) = (pagesL g rec gen).take i ∧ Sep NoB w w' [OwnA 56 1 y.1.a y.1.n y.1.c (L.map slV), RdL L, OwnA 5 1 a8 n8 c8 ((allR g rec).map (Value.int .u8)), BoxA b1 33 g.vs])
    (fun (y : SlV × Int × Unit) _ => ((N : Int) - y.2.1).toNat) ⟨0, [], rfl, by omega, rfl, rfl, S⟩ ?_
  rintro ⟨⟨ya, yn, yc⟩, (z : Int), ⟨⟩⟩ w9 ⟨i, L, hz, hi, hyn, hL, S⟩
  dsimp only at hz hyn S ⊢
  subst hz
  subst hyn
  have hpl : (pagesL g rec gen).length = N := by unfold pagesL; rw [List.length_map, List.length_range, hN]
  have hLl : L.length = yn := by
    have := congrArg List.length hL
    rw [List.length_map, List.length_take, hpl] at this
    omega
  refine cond_d (fun hlt => ?_) (fun hge => ?_)
  · have m1 := mul_le' (show (yn : Int) + 1 ≤ nCh g by omega) (show 0 ≤ g.s by omega)
    have m0 : 0 ≤ (yn : Int) * g.s := Int.mul_nonneg (by omega) (by omega)
    have m2 : ((yn : Int) + 1) * g.s = (yn : Int) * g.s + g.s := by rw [Int.add_mul, Int.one_mul]
    have t0 : ((yn : Int) * g.s).toNat = yn * g.s.toNat := toNat_mul' (by omega)
    have n0 : (((yn : Int) * g.s).toNat : Int) = (yn : Int) * g.s := Int.toNat_of_nonneg m0
    have e5000 : nCh g * g.s ≤ 5000 := bN.2.2.2
    have hcap : nCh g * g.s ≤ ((c8 : Nat) : Int) := by
      have : nCh g * g.s = ((N * g.s.toNat : Nat) : Int) := by rw [hNi, Int.natCast_mul, Int.toNat_of_nonneg (by omega)]
      omega
    refine S.reg fun D hD hkeep Sd T => ?_
    refine ⟨hD _ S.bl3, Sd.la3 rfl ⟨hD _ S.bl3, Sd.la3 rfl ⟨hD _ S.bl3, Sd.ld3 rfl rfl ⟨Rng.i64 (by omega) (by omega), Rng.i64 (by omega) (by omega), hD _ S.bl3, Sd.ld3 rfl rfl ⟨Rng.i64 (by omega) (by omega), Rng.i64 (by omega) (by omega), hD _ S.bl3, Sd.ld3 rfl rfl ⟨Rng.i64 (by omega) (by omega), ⟨by omega, by omega, by omega, by omega⟩, ?_⟩⟩⟩⟩⟩⟩
    intro a10 ha10
    dsimp only
    have i10 := (Sd.in2).sub (l := ((yn : Int) * g.s).toNat) (hh := (((yn : Int) + 1) * g.s).toNat) (m := (((yn : Int) + 1) * g.s).toNat) (by omega) (by omega) (by omega) ha10
    have hlen : (((yn : Int) + 1) * g.s).toNat - ((yn : Int) * g.s).toNat = g.s.toNat := by omega
    rw [hlen] at i10 ⊢
    rw [t0] at i10
    have i10 : Ints _ .u8 a10 g.s.toNat g.s.toNat (chk g rec yn) := i10
    refine (own19_c (g := g) (i := (yn : Int)) (gen := gen) hR).mono ?_
    rintro ⟨_, ⟨⟩⟩ w10 ⟨h10, e10⟩
    dsimp only at h10
    subst h10
    have T := T.stepE e10
    refine ⟨hkeep _ T.fr, ?_⟩
    refine (Make_c (g := g) (h := ownH g yn gen) (ownH_rng hR hgen) (i10.ext T.ext) intsNil).mono ?_
    rintro ⟨⟨pa, pn, pc⟩, (e11 : Int), ⟨⟩⟩ w11 ⟨x11, h11, -⟩
    obtain ⟨k1, k2⟩ := h11 ⟨hR, ⟨ownH_right ⟨by omega, by omega⟩, .inl rfl⟩, .inr (by omega)⟩
    dsimp only at k1 k2 ⊢
    subst k2
    have T := T.res k1
    dsimp only at T
    refine ⟨hkeep _ T.fr, cond_f rfl ?_⟩
    have S := Sd.frame0 T
    dsimp only [List.cons_append, List.nil_append] at S
    refine S.newB fun b12 w12 S f12 _ => ?_
    refine AppS.of (news := [slV ⟨pa, pn, pc, pgOf g rec gen yn⟩]) rfl (.inr ⟨_, rfl, S.cells 0 rfl⟩) ?_
    refine S.ap2 (by rfl) (fun u hu => by rw [List.mem_singleton.1 hu]; rfl) (by omega) (by omega) fun a13 c13 w13 S f13 => ?_
    have S := S.sel [1, 2, 1, 1, 1] rfl
    have S := S.addL (mkL_byt (ownH_rng hR hgen) (ownH_right ⟨by omega, by omega⟩) (chk_byt br _) Byt.nil)
    have S := S.sel [1, 0, 0, 0] rfl
    have hpg : (pagesL g rec gen)[yn]'(by omega) = pgOf g rec gen yn := by simp [pagesL]
    refine ⟨Rng.i64 (by omega) (by omega), ⟨yn + 1, L ++ [⟨pa, pn, pc, pgOf g rec gen yn⟩], by push_cast; rfl, by omega, rfl, ?_, ?_⟩, by omega⟩
    · rw [List.map_append, hL, List.take_succ_eq_append_getElem (by omega), hpg]; rfl
    · rw [List.map_append]; exact S
  · have hyN : yn = N := by omega
    subst hyN
    rw [List.take_of_length_le (by omega)] at hL
    exact ⟨S.ext, fun h => absurd ⟨hR, by omega⟩ h, fun _ => ⟨rfl, ⟨ya, yn, yc, L⟩, rfl, hL, S.sel [0, 0] rfl⟩⟩
end Go.Proofs.Ytlpeoaphdmfjdaa.Vc
/-! The contract of Hold of layer 19 (chunk): the record that pages hold. -/
namespace Go.Proofs.Ytlpeoaphdmfjdaa.Vc
open Go Go.Eng Go.RowKit
def PgA (s t : SlV) (P : PgS) : Asr := ⟨fun w F => TB.rd w F ⟨s.a, s.n, s.c, P.x⟩ ∧ TB.rd w F ⟨t.a, t.n, t.c, P.t⟩, fun h k => ⟨TB.rd_kp (fun i hi _ => k i hi) h.1, TB.rd_kp (fun i hi _ => k i hi) h.2⟩⟩
theorem TB_nil {w : World} {F : Nat → Prop} : TB.rd w F ⟨none, 0, 0, []⟩ := ⟨rfl, Nat.le_refl _, Nat.zero_le _, .inl ⟨rfl, rfl⟩, fun y hy => (List.not_mem_nil hy).elim⟩
theorem PReadS_c {w : World} {g : Geo} {a : Option Addr} {n c : Nat} {xs : List Int} (hx : Ints w .u8 a n c xs) (bx : Byt xs) :
    CallV Try.prog 120 #[g.val, .slice a n c] w [.agg [.int .i64, .int .i64, .int .i64, .int .u32, .int .u64, .int .u64, .sl, .sl, .bool], .one (.int .i64)] fun r w' => r.2.1 = rdE g xs ∧ ∃ s t, r.1 = pgT (pSpec g xs).h s t (pSpec g xs).d ∧ Sep NoB w w' [PgA s t (pSpec g xs)] := by
  refine (PRead_c hx bx).mono ?_
  rintro r w' ⟨e, h1, h2, h3⟩
  have z : Sep NoB w w' [PgA ⟨none, 0, 0⟩ ⟨none, 0, 0⟩ zS] := (Sep.start NoB w).push (F := NoB) (.of e) ⟨TB_nil, TB_nil⟩ fun _ x => x.elim
  unfold rdE pSpec
  by_cases hL : lenP g xs
  · by_cases hO : okR (endP g xs)
    · rw [if_pos hL, if_pos hO, if_pos ⟨hL, hO⟩]
      obtain ⟨k1, s, t, k2, _, _, T⟩ := h3 hL hO
      refine ⟨k1, s, t, k2, T.conv2 fun F1 F2 q1 q2 _ => ⟨TB.rd_mono (fun k hk _ => .inl hk) (own_rd q1 (bx.take _)), TB.rd_mono (fun k hk _ => .inr hk) (own_rd q2 ((bx.drop _).drop _ |>.take _))⟩⟩
    · rw [if_pos hL, if_neg hO, if_neg fun h => hO h.2, (h2 hL hO).1]
      exact ⟨(h2 hL hO).2, _, _, rfl, z⟩
  · rw [if_neg hL, if_neg fun h => hL h.1, (h1 hL).1]
    exact ⟨(h1 hL).2, _, _, rfl, z⟩
theorem _root_.Go.Eng.Sep.pgx {E : Nat → Prop} {w0 w : World} {Rs : List Asr} (S : Sep E w0 w Rs) (i : Nat) {s t : SlV} {P : PgS} (hi : Rs[i]? = some (PgA s t P)) : Ints w .u8 s.a s.n s.c P.x := by
  obtain ⟨F, h, _⟩ := S.get hi
  exact Ty.ints h.1
theorem getD_map {L : List (SlP Int)} {i : Nat} {y : SlP Int} (h : L[i]? = some y) : (L.map (·.l)).getD i [] = y.l := by
  rw [List.getD_eq_getElem?_getD, List.getElem?_map, h]; rfl
theorem holdS_no {g : Geo} {ps : List (List Int)} (h : ¬ holds g ps) : holdS g ps = (0, [], false) := by unfold holdS; rw [if_neg h]
theorem holdS_yes {g : Geo} {ps : List (List Int)} (h : holds g ps) : holdS g ps = (gen0 g ps, recOf g ps, true) := by unfold holdS; rw [if_pos h]
def HoldR (w w' : World) (g : Geo) (ps : List (List Int)) (r : Int × SlV × Bool) : Prop :=
  r.1 = (holdS g ps).1 ∧ r.2.2 = (holdS g ps).2.2 ∧ Sep NoB w w' [RdL [⟨r.2.1.a, r.2.1.n, r.2.1.c, (holdS g ps).2.1⟩]]
theorem HoldR.no {w w' : World} {g : Geo} {ps : List (List Int)} (h : ¬ holds g ps) (e : Ext w w') : HoldR w w' g ps (0, ⟨none, 0, 0⟩, false) := by
  unfold HoldR
  rw [holdS_no h]
  exact ⟨rfl, rfl, (Sep.start NoB w).push (F := NoB) (.of e) (fun x hx => by rw [List.mem_singleton.1 hx]; exact TB_nil) fun _ x => x.elim⟩
def accR (g : Geo) (ps : List (List Int)) (i : Nat) : List Int := ((List.range i).map fun j => pays g (ps.getD j [])).flatten
theorem accR_succ (g : Geo) (ps : List (List Int)) (i : Nat) : accR g ps (i + 1) = accR g ps i ++ pays g (ps.getD i []) := by
  unfold accR
  rw [List.range_succ, List.map_append, List.flatten_append]
  simp
theorem accR_byt {g : Geo} {ps : List (List Int)} (bp : ∀ p ∈ ps, Byt p) : ∀ i, Byt (accR g ps i)
  | 0 => Byt.nil
  | i + 1 => by
    rw [accR_succ]
    refine (accR_byt bp i).append (Byt.take ?_ _)
    rw [List.getD_eq_getElem?_getD]
    cases h : ps[i]? with
    | none => exact Byt.nil
    | some p => exact bp p (List.mem_of_getElem? h)
theorem Hold_c {w : World} {g : Geo} {x : SlP (SlP Int)} {G : Nat → Prop} (hx : TBB.rd w G x) : CallV Try.prog 106 #[g.val, .slice x.a x.n x.c] w [.one (.int .u64), .one .sl, .one .bool] fun r w' => HoldR w w' g (x.l.map (·.l)) (r.1, r.2.1, r.2.2.1) := by
  apply chunk_Hold.vc
  unfold chunk_Hold.P
  generalize hps : x.l.map (·.l) = ps
  have hlp : ps.length = x.n := by rw [← hps, List.length_map]; exact hx.1
  have bp : ∀ p ∈ ps, Byt p := by
    intro p hp
    rw [← hps] at hp
    obtain ⟨y, hy, rfl⟩ := List.mem_map.1 hp
    exact Ty.byt (hx.2.2.2.2 y hy)
  have S := Sep.start NoB w
  refine S.newB fun b1 w1 S f1 _ => ?_
  (repeat ((first | refine S.newB fun _ _ S f _ => ?_ | refine S.la0 rfl ?_ | refine S.la1 rfl ?_ | refine S.la2 rfl ?_ | refine S.la3 rfl ?_ | refine S.la4 rfl ?_ | refine S.la5 rfl ?_ | refine S.ld0 rfl rfl ?_ | refine S.ld1 rfl rfl ?_ | refine S.ld2 rfl rfl ?_ | refine S.ld3 rfl rfl ?_ | refine S.ld4 rfl rfl ?_ | refine S.ld5 rfl rfl ?_ | refine S.st0 (by rfl) fun _ S f => ?_ | refine S.st1 (by rfl) fun _ S f => ?_ | refine S.st2 (by rfl) fun _ S f => ?_ | refine S.st3 (by rfl) fun _ S f => ?_ | refine S.st4 (by rfl) fun _ S f => ?_ | refine S.st5 (by rfl) fun _ S f => ?_ | refine S.su0 (by rfl) fun _ S f => ?_ | refine S.su1 (by rfl) fun _ S f => ?_ | refine S.su2 (by rfl) fun _ S f => ?_ | refine S.su3 (by rfl) fun _ S f => ?_ | refine S.su4 (by rfl) fun _ S f => ?_ | refine S.su5 (by rfl) fun _ S f => ?_ | refine ⟨by decide, ?_⟩); try dsimp only [List.set_cons_zero, List.set_cons_succ, cond_true, cond_false, Bool.not_true, Bool.not_false]))
  refine (Chunks_c (g := g)).mono ?_
  rintro ⟨(r3 : Int), ⟨⟩⟩ w3 ⟨h3, e3⟩
  dsimp only at h3 ⊢
  have S := S.stepE e3
  by_cases hR : Right g
  case neg =>
    rw [if_neg hR] at h3
    subst h3
    exact cond_t rfl (.no (fun h => hR h.1) S.ext)
  rw [if_pos hR] at h3
  have h3 : r3 = nCh g := h3
  subst h3
  have bN := nCh_bd hR
  have hs := hR.sec
  generalize hN : (nCh g).toNat = N at *
  have hNi : nCh g = (N : Int) := by omega
  refine cond_eq (fun h => by omega) (fun _ => ?_)
  refine cond_d (fun h => .no (fun hh => by have := hh.2.1; omega) S.ext) (fun hge => ?_)
  have S := S.nilOwn 5 1
  refine Loop1 (fun (y : SlV × Int × Int × Unit) w' => ∃ i : Nat, y.2.2.1 = (i : Int) ∧ i ≤ N ∧ (∀ j, j < i → pageOk g ps j) ∧ (0 < i → y.2.1 = gen0 g ps) ∧ (0 ≤ y.2.1 ∧ y.2.1 < 18446744073709551616) ∧ Sep NoB w w' [OwnA 5 1 y.1.a y.1.n y.1.c ((accR g ps i).map (Value.int .u8)), BoxA b1 33 g.vs] ∧ y.1.n = i * g.s.toNat)
    (fun (y : SlV × Int × Int × Unit) _ => ((N : Int) - y.2.2.1).toNat) ⟨0, rfl, by omega, fun j hj => by omega, fun h => by omega, by decide, S, by simp⟩ ?_
  rintro ⟨⟨ya, yn, yc⟩, (gen : Int), (z : Int), ⟨⟩⟩ w4 ⟨i, hz, hi, hall, hgen, hgr, S, hyn⟩
  dsimp only at hz hgen hgr S hyn ⊢
  subst hz
  refine cond_d (fun hlt => ?_) (fun hgeN => ?_)
  case refine_2 =>
    have hiN : i = N := by omega
    subst hiN
    have hh : holds g ps := ⟨hR, by omega, fun j hj => hall j (by omega)⟩
    have hn624 : 624 ≤ yn := by
      have : nCh g * g.s = ((i * g.s.toNat : Nat) : Int) := by rw [hNi, Int.natCast_mul, Int.toNat_of_nonneg (by omega)]
      omega
    have hc := (S.own 0 rfl).cap
    have i0 := S.in0
    have hl0 := i0.len
    refine S.reg fun D hD hkeep S T => ?_
    refine ⟨⟨by omega, by omega, by omega⟩, ?_⟩
    intro a5 ha5
    unfold HoldR
    rw [holdS_yes hh]
    refine ⟨hgen (by omega), rfl, S.take1.conv fun F ho _ y hy => ?_⟩
    rw [List.mem_singleton.1 hy]
    have r0 := own_rd ho (accR_byt bp _)
    have i5 := (Ty.ints r0).sub (l := 0) (hh := 624) (m := 624) (by omega) hn624 (by omega) ha5
    rw [List.drop_zero, Nat.sub_zero] at i5
    have hrec : recOf g ps = (accR g ps i).take 624 := by unfold recOf accR; rw [hN]
    have hm := maxLen_eq
    refine ⟨by rw [hrec, List.length_take]; show min 624 _ = 624 - 0; omega, Nat.le_refl _, by show 624 - 0 ≤ maxLen; omega, ?_, fun v hv => rngU8 ((accR_byt bp i).take 624 v (by rw [← hrec]; exact hv))⟩
    have hfl : (recOf g ps).flatMap (Ty.int .u8).vs = ((accR g ps i).take 624).map (Value.int .u8) := by rw [← hrec]; exact flat_ints .u8 _
    rw [hfl]
    rcases i5.rd with ⟨q1, q2⟩ | ⟨p, q1, q2⟩
    · exact .inl ⟨q1, q2⟩
    · refine .inr ⟨p, q1, q2, fun _ => ?_⟩
      rw [if_neg (by omega)] at ha5
      rw [ha5] at q1
      obtain ⟨q, hq, hq2⟩ := Option.map_eq_some_iff.1 q1
      rw [← hq2, add_block]
      exact ho.2 q hq
  obtain ⟨q, y, hq, hy, hc, hr, hGq, hbq⟩ := TBB_nth (TBB.rd_ext S.ext hx) (Int.natCast_nonneg i) (show (i : Int) < (x.n : Int) by omega)
  have hpi : ps.getD i [] = y.l := by rw [← hps]; rw [Int.toNat_natCast] at hy; exact getD_map hy
  have by_ : Byt y.l := Ty.byt hr
  generalize hP : pSpec g y.l = P
  have hPr : 0 ≤ P.h.e ∧ P.h.e < 18446744073709551616 := by
    rw [← hP]; unfold pSpec
    split
    · rename_i h
      exact (hdOf_rng (by_.drop _) (by have := h.1.2; have h2 : (endP g y.l).length = 88 := (by unfold endP; rw [List.length_drop]; omega); show 24 ≤ (endP g y.l).length; omega)).2.1
    · decide
  refine ⟨fun (v : Option Addr × Int × Unit) w' => ∃ b s t, v.1 = some ⟨b, 0, none⟩ ∧ v.2.1 = rdE g y.l ∧ Sep NoB w w' [BoxA b 175 (pgC P.h s t P.d), PgA s t P, OwnA 5 1 ya yn yc ((accR g ps i).map (Value.int .u8)), BoxA b1 33 g.vs], ?_, ?_⟩
  case refine_2 =>
    refine S.reg fun D hD hkeep Sd T => ?_
    refine ⟨hD _ S.bl1, Sd.la1 rfl ⟨⟨by omega, by omega⟩, q, hq, by rw [add_block]; exact hD _ hbq, ldp0 (cells_same (by rw [add_block]; rfl) hc) (h := .sl) (x := ⟨y.a, y.n, y.c⟩) rfl ?_⟩⟩
    have iy := (Ty.ints hr).ext (Ext.drew w4)
    refine ⟨?_, ?_⟩
    · refine (PReadS_c (g := g) iy by_).mono ?_
      rintro ⟨q5, (e5 : Int), ⟨⟩⟩ w5 ⟨h5, s, t, k5, T5⟩
      dsimp only at h5 k5
      rw [hP] at k5 T5
      subst k5
      have T := T.frame0 T5
      refine ⟨hkeep _ T.fr, T.newB fun b6 w6 T f6 _ => ⟨hkeep _ T.fr, ?_⟩⟩
      refine T.st0 (by rfl) fun w7 T f7 => ⟨hkeep _ T.fr, b6, s, t, rfl, h5, (Sd.frame0 T).sel [0, 0, 0, 0] rfl⟩
    · refine T.newB fun b6 w6 T f6 _ => ⟨hkeep _ T.fr, ?_⟩
      refine (PReadS_c (g := g) (iy.ext T.ext) by_).mono ?_
      rintro ⟨q5, (e5 : Int), ⟨⟩⟩ w5 ⟨h5, s, t, k5, T5⟩
      dsimp only at h5 k5
      rw [hP] at k5 T5
      subst k5
      have T := T.frame0 T5
      refine ⟨hkeep _ T.fr, ?_⟩
      refine T.st1 (by rfl) fun w7 T f7 => ⟨hkeep _ T.fr, b6, s, t, rfl, h5, (Sd.frame0 T).sel [1, 0, 0, 0] rfl⟩
  rintro ⟨v, (e5 : Int), ⟨⟩⟩ w5 ⟨b, s, t, hv, h5, S⟩
  dsimp only at hv h5 ⊢
  subst hv; subst h5
  have okE : rdE g y.l = 0 → lenP g y.l ∧ okR (endP g y.l) := fun h => by
    unfold rdE at h
    split at h
    · rename_i h1
      split at h
      · rename_i h2; exact ⟨h1, h2⟩
      · cases h
    · cases h
  refine ⟨fun (v : Int × Unit) w' => (lenP g y.l ∧ okR (endP g y.l) → v.1 = gen0 g ps) ∧ (0 ≤ v.1 ∧ v.1 < 18446744073709551616) ∧ Sep NoB w w' [BoxA b 175 (pgC P.h s t P.d), PgA s t P, OwnA 5 1 ya yn yc ((accR g ps i).map (Value.int .u8)), BoxA b1 33 g.vs], ?_, ?_⟩
  case refine_2 =>
    refine cond_eq (fun h0 => ?_) (fun h0 => ⟨fun _ => hgen (by omega), hgr, S⟩)
    refine PtrK.of rfl (S.ld0 (j := 4) rfl rfl ⟨fun hh => ?_, hPr, S⟩)
    have : i = 0 := by omega
    subst this
    show P.h.e = _
    unfold gen0
    rw [hpi, ← hP]
    unfold pSpec
    rw [if_pos hh]
  rintro ⟨(gn : Int), ⟨⟩⟩ w6 ⟨hgn, hgnr, S⟩
  dsimp only at hgn hgnr ⊢
  refine S.reg fun D hD hkeep Sd T => ?_
  refine cond_ne (fun he => .no (fun hh => ?_) Sd.ext) (fun he => ?_)
  · have := (hh.2.2 i (by omega)).1
    have h2 := (hh.2.2 i (by omega)).2.1
    rw [hpi] at this h2
    exact he (by unfold rdE; rw [if_pos this, if_pos h2])
  obtain ⟨hL, hO⟩ := okE he
  have hPv : P = fS g y.l := by rw [← hP]; unfold pSpec; rw [if_pos ⟨hL, hO⟩]
  have hg0 := hgn ⟨hL, hO⟩
  refine PtrK.of rfl ⟨hD _ S.bl0, Sd.lb0 (o := 0) rfl ⟨hD _ S.bl3, Sd.la3 rfl ?_⟩⟩
  refine (own19_c (g := g) (i := (i : Int)) (gen := gn) hR).mono ?_
  rintro ⟨_, ⟨⟩⟩ w7 ⟨h7, e7⟩
  dsimp only at h7
  subst h7
  refine ⟨hkeep _ (.of e7), ?_⟩
  have S := Sd.stepE e7
  refine eqHd (g := P.h) (h := ownH g i gn) ?_
  refine cond_of (fun hc => .no (fun hh => ?_) S.ext) (fun hc => ?_)
  · have := (hh.2.2 i (by omega)).2.2.1
    rw [hpi] at this
    have hne : P.h ≠ ownH g i gn := by simpa using hc
    exact hne (by rw [hPv, hg0]; exact this)
  have hhd : P.h = ownH g i gn := by simpa using hc
  refine ⟨Rng.i64 (by omega) (by omega), ?_⟩
  have okP : ((i : Int) = nCh g - 1 → P.d = true) → pageOk g ps i := fun hd => by
    unfold pageOk
    rw [hpi]
    rw [hPv] at hhd hd
    rw [hg0] at hhd
    exact ⟨hL, hO, hhd, hd⟩
  have fin : ((i : Int) = nCh g - 1 → P.d = true) → LoadS w7 ⟨b, 6, none⟩ .sl fun (x34 : SlV) => AppS w7 x34.a x34.n 1 fun ns39 => AppV w7 5 1 1 ya yn yc ns39 x34.n fun a35 n36 c37 w38 =>
      Rng .i64 ((i : Int) + 1) ∧ (∃ j : Nat, (i : Int) + 1 = (j : Int) ∧ j ≤ N ∧ (∀ k, k < j → pageOk g ps k) ∧ (0 < j → gn = gen0 g ps) ∧ (0 ≤ gn ∧ gn < 18446744073709551616) ∧ Sep NoB w w38 [OwnA 5 1 a35 n36 c37 ((accR g ps j).map (Value.int .u8)), BoxA b1 33 g.vs] ∧ n36 = j * g.s.toNat) ∧ ((N : Int) - ((i : Int) + 1)).toNat < ((N : Int) - (i : Int)).toNat := fun hd => by
    refine S.ld0 rfl rfl ?_
    have ip := S.pgx 1 rfl
    have lp := ip.len
    rw [hPv] at lp
    have lp : (pays g y.l).length = s.n := lp
    rw [List.length_take] at lp
    have hl2 := hL.2
    have hmul : i * g.s.toNat + g.s.toNat ≤ N * g.s.toNat := by rw [← Nat.succ_mul]; exact Nat.mul_le_mul_right _ (by omega)
    have h5 : N * g.s.toNat ≤ 5000 := by
      have h1 : nCh g * g.s = ((N * g.s.toNat : Nat) : Int) := by rw [hNi, Int.natCast_mul, Int.toNat_of_nonneg (by omega)]
      have := bN.2.2.2
      omega
    dsimp only
    refine S.ab2 ip (by omega) fun a8 c8 w8 S f8 => ?_
    refine ⟨Rng.i64 (by omega) (by omega), ⟨i + 1, by push_cast; rfl, by omega, fun k hk => ?_, fun _ => hg0, hgnr, ?_, ?_⟩, by omega⟩
    · by_cases hki : k = i
      · subst hki; exact okP hd
      · exact hall k (by omega)
    · rw [accR_succ, hpi]
      rw [hPv] at S
      exact S.sel [2, 2] rfl
    · rw [Nat.add_mul, Nat.one_mul]; omega
  refine cond_eq (fun hl => ?_) (fun hl => fin (fun h => absurd h hl))
  refine PtrK.of rfl ⟨hD _ Sd.bl0, Sd.ld0 (j := 8) rfl rfl ?_⟩
  refine cond_of (fun hc => .no (fun hh => ?_) S.ext) (fun hc => fin fun _ => by simpa using hc)
  have := (hh.2.2 i (by omega)).2.2.2 hl
  rw [hpi] at this
  rw [hPv] at hc
  have hc : (!comm (endP g y.l)) = true := hc
  rw [this] at hc
  cases hc
end Go.Proofs.Ytlpeoaphdmfjdaa.Vc
/-! The contracts of Current of layer 19 (chunk), and small ones. -/
namespace Go.Proofs.Ytlpeoaphdmfjdaa.Vc
open Go Go.Eng Go.RowKit
abbrev TBBB : Ty := .sl TBB
abbrev slV2 (s : SlP (SlP Int)) : Value := .slice s.a s.n s.c
theorem TBBB_nth {w : World} {G : Nat → Prop} {x : SlP (SlP (SlP Int))} (h : TBBB.rd w G x) {i : Int} (h0 : 0 ≤ i) (h1 : i < (x.n : Int)) :
    ∃ q y, x.a = some q ∧ x.l[i.toNat]? = some y ∧ CellsAt w (q.add (i.toNat * 1)) [slV2 y] ∧ TBB.rd w G y ∧ G q.block ∧ q.block < w.heap.size := Ty.nth (e := TBB) h h0 h1 (by decide)
abbrev pgs (y : SlP (SlP Int)) : List (List Int) := y.l.map (·.l)
theorem getD_map2 {L : List (SlP (SlP Int))} {i : Nat} {y : SlP (SlP Int)} (h : L[i]? = some y) : (L.map pgs).getD i [] = pgs y := by
  rw [List.getD_eq_getElem?_getD, List.getElem?_map, h]; rfl
open Classical in
noncomputable def curTo (g : Geo) (bs : List (List (List Int))) : Nat → Int × Int × List Int
  | 0 => (-1, 0, [])
  | i + 1 => if (holdS g (bs.getD i [])).2.2 = true ∧ ((curTo g bs i).1 < 0 ∨ (curTo g bs i).2.1 < (holdS g (bs.getD i [])).1) then ((i : Int), (holdS g (bs.getD i [])).1, (holdS g (bs.getD i [])).2.1) else curTo g bs i
theorem curTo_yes {g : Geo} {bs : List (List (List Int))} {i : Nat} (h : (holdS g (bs.getD i [])).2.2 = true ∧ ((curTo g bs i).1 < 0 ∨ (curTo g bs i).2.1 < (holdS g (bs.getD i [])).1)) : curTo g bs (i + 1) = ((i : Int), (holdS g (bs.getD i [])).1, (holdS g (bs.getD i [])).2.1) := by
  rw [curTo, if_pos h]
theorem curTo_no {g : Geo} {bs : List (List (List Int))} {i : Nat} (h : ¬ ((holdS g (bs.getD i [])).2.2 = true ∧ ((curTo g bs i).1 < 0 ∨ (curTo g bs i).2.1 < (holdS g (bs.getD i [])).1))) : curTo g bs (i + 1) = curTo g bs i := by
  rw [curTo, if_neg h]
def CurR (w w' : World) (g : Geo) (bs : List (List (List Int))) (r : Int × Int × SlV) : Prop :=
  r.1 = (curTo g bs bs.length).1 ∧ r.2.1 = (curTo g bs bs.length).2.1 ∧ Sep NoB w w' [RdL [⟨r.2.2.a, r.2.2.n, r.2.2.c, (curTo g bs bs.length).2.2⟩]]
theorem Current_c {w : World} {g : Geo} {x : SlP (SlP (SlP Int))} {G : Nat → Prop} (hx : TBBB.rd w G x) (hn : x.n ≤ 1000) : CallV Try.prog 67 #[g.val, .slice x.a x.n x.c] w [.one (.int .i64), .one (.int .u64), .one .sl] fun r w' => CurR w w' g (x.l.map pgs) (r.1, r.2.1, r.2.2.1) := by
  apply chunk_Current.vc
  unfold chunk_Current.P
  generalize hbs : x.l.map pgs = bs
  have hlb : bs.length = x.n := by rw [← hbs, List.length_map]; exact hx.1
  have S := Sep.start NoB w
  refine S.newB fun b1 w1 S f1 _ => ?_
  have S := S.push (R := RdL [⟨none, 0, 0, []⟩]) (F := NoB) (Fr.refl _ _) (fun x hx => by rw [List.mem_singleton.1 hx]; exact TB_nil) fun _ x => x.elim
  refine Loop1 (fun (y : Int × Int × SlV × Int × Unit) w' => ∃ i : Nat, y.2.2.2.1 = (i : Int) ∧ i ≤ x.n ∧ y.1 = (curTo g bs i).1 ∧ y.2.1 = (curTo g bs i).2.1 ∧ Sep NoB w w' [RdL [⟨y.2.2.1.a, y.2.2.1.n, y.2.2.1.c, (curTo g bs i).2.2⟩], BoxA b1 33 g.vs])
    (fun (y : Int × Int × SlV × Int × Unit) _ => ((x.n : Int) - y.2.2.2.1).toNat) ⟨0, rfl, by omega, rfl, rfl, S⟩ ?_
  rintro ⟨(at_ : Int), (most : Int), ⟨ra, rn, rc⟩, (z : Int), ⟨⟩⟩ w2 ⟨i, hz, hi, hat, hmost, S⟩
  dsimp only at hz hat hmost S ⊢
  subst hz
  refine cond_d (fun hlt => ?_) (fun hge => ?_)
  · obtain ⟨q, y, hq, hy, hc0, hr, hGq, hb0⟩ := TBBB_nth hx (Int.natCast_nonneg i) hlt
    have hpi : bs.getD i [] = pgs y := by rw [← hbs]; rw [Int.toNat_natCast] at hy; exact getD_map2 hy
    refine ⟨⟨by omega, hlt⟩, q, hq, ldp0 (S.ext.cells hc0) (h := .sl) (x := ⟨y.a, y.n, y.c⟩) rfl ?_⟩
    (repeat ((first | refine S.newB fun _ _ S f _ => ?_ | refine S.la0 rfl ?_ | refine S.la1 rfl ?_ | refine S.la2 rfl ?_ | refine S.la3 rfl ?_ | refine S.la4 rfl ?_ | refine S.la5 rfl ?_ | refine S.ld0 rfl rfl ?_ | refine S.ld1 rfl rfl ?_ | refine S.ld2 rfl rfl ?_ | refine S.ld3 rfl rfl ?_ | refine S.ld4 rfl rfl ?_ | refine S.ld5 rfl rfl ?_ | refine S.st0 (by rfl) fun _ S f => ?_ | refine S.st1 (by rfl) fun _ S f => ?_ | refine S.st2 (by rfl) fun _ S f => ?_ | refine S.st3 (by rfl) fun _ S f => ?_ | refine S.st4 (by rfl) fun _ S f => ?_ | refine S.st5 (by rfl) fun _ S f => ?_ | refine S.su0 (by rfl) fun _ S f => ?_ | refine S.su1 (by rfl) fun _ S f => ?_ | refine S.su2 (by rfl) fun _ S f => ?_ | refine S.su3 (by rfl) fun _ S f => ?_ | refine S.su4 (by rfl) fun _ S f => ?_ | refine S.su5 (by rfl) fun _ S f => ?_ | refine ⟨by decide, ?_⟩); try dsimp only [List.set_cons_zero, List.set_cons_succ, cond_true, cond_false, Bool.not_true, Bool.not_false]))
    refine (Hold_c (g := g) (TBB.rd_ext S.ext hr)).mono ?_
    rintro ⟨(gen : Int), ⟨ha, hn', hc'⟩, (ok : Bool), ⟨⟩⟩ w3 ⟨h1, h2, T⟩
    dsimp only at h1 h2 T ⊢
    rw [show y.l.map (fun x => x.l) = bs.getD i [] from hpi.symm] at h1 h2 T
    have S := S.frame0 T
    dsimp only [List.cons_append, List.nil_append] at S
    have up : (holdS g (bs.getD i [])).2.2 = true ∧ ((curTo g bs i).1 < 0 ∨ (curTo g bs i).2.1 < (holdS g (bs.getD i [])).1) → Rng .i64 ((i : Int) + 1) ∧ (∃ j : Nat, (i : Int) + 1 = (j : Int) ∧ j ≤ x.n ∧ (i : Int) = (curTo g bs j).1 ∧ gen = (curTo g bs j).2.1 ∧ Sep NoB w w3 [RdL [⟨ha, hn', hc', (curTo g bs j).2.2⟩], BoxA b1 33 g.vs]) ∧ ((x.n : Int) - ((i : Int) + 1)).toNat < ((x.n : Int) - (i : Int)).toNat := fun h => by
      refine ⟨Rng.i64 (by omega) (by omega), ⟨i + 1, by push_cast; rfl, by omega, ?_⟩, by omega⟩
      rw [curTo_yes h]
      exact ⟨rfl, h1, S.sel [0, 1] rfl⟩
    have st : ¬ ((holdS g (bs.getD i [])).2.2 = true ∧ ((curTo g bs i).1 < 0 ∨ (curTo g bs i).2.1 < (holdS g (bs.getD i [])).1)) → Rng .i64 ((i : Int) + 1) ∧ (∃ j : Nat, (i : Int) + 1 = (j : Int) ∧ j ≤ x.n ∧ at_ = (curTo g bs j).1 ∧ most = (curTo g bs j).2.1 ∧ Sep NoB w w3 [RdL [⟨ra, rn, rc, (curTo g bs j).2.2⟩], BoxA b1 33 g.vs]) ∧ ((x.n : Int) - ((i : Int) + 1)).toNat < ((x.n : Int) - (i : Int)).toNat := fun h => by
      refine ⟨Rng.i64 (by omega) (by omega), ⟨i + 1, by push_cast; rfl, by omega, ?_⟩, by omega⟩
      rw [curTo_no h]
      exact ⟨hat, hmost, S.sel [1, 1] rfl⟩
    refine cond_of (fun hk => ?_) (fun hk => st fun h => by rw [← h2, hk] at h; exact Bool.noConfusion h.1)
    refine cond_d (fun ha0 => up ⟨by rw [← h2]; exact hk, .inl (by omega)⟩) (fun ha0 => ?_)
    refine cond_d (fun hgt => up ⟨by rw [← h2]; exact hk, .inr (by omega)⟩) (fun hgt => st fun h => by omega)
  · have : i = bs.length := by omega
    subst this
    exact ⟨hat, hmost, S.take1⟩
end Go.Proofs.Ytlpeoaphdmfjdaa.Vc
/-! Plain laws of layer 19: a block whose last page lacks its mark holds nothing, one that has it holds its record. -/
namespace Go.Proofs.Ytlpeoaphdmfjdaa.Vc
open Go Go.Eng Go.RowKit
def lastM (g : Geo) (rec : List Int) (gen : Int) : List Int := payL g (chk g rec ((nCh g).toNat - 1)) ++ markL (ownH g (((nCh g).toNat - 1 : Nat) : Int) gen) []
def mkdL (g : Geo) (rec : List Int) (gen : Int) : List (List Int) := (pagesL g rec gen).set ((nCh g).toNat - 1) (lastM g rec gen)
theorem pagesL_length (g : Geo) (rec : List Int) (gen : Int) : (pagesL g rec gen).length = (nCh g).toNat := by unfold pagesL; simp
theorem pagesL_get {g : Geo} {rec : List Int} {gen : Int} {i : Nat} (hi : i < (nCh g).toNat) : (pagesL g rec gen)[i]? = some (pgOf g rec gen i) := by
  unfold pagesL
  rw [List.getElem?_map, List.getElem?_range hi]
  rfl
theorem chk_len2 {g : Geo} (h : Right g) {rec : List Int} (hr : rec.length = 624) {i : Nat} (hi : i < (nCh g).toNat) : (chk g rec i).length = 0 ∨ ((chk g rec i).length : Int) = g.s := by
  have := chk_length h hr hi
  have hs := h.sec
  omega
theorem mkd_get {g : Geo} {rec : List Int} {gen : Int} {i : Nat} (hi : i < (nCh g).toNat) : (mkdL g rec gen).getD i [] = if i = (nCh g).toNat - 1 then lastM g rec gen else pgOf g rec gen i := by
  unfold mkdL
  rw [List.getD_eq_getElem?_getD, List.getElem?_set]
  split
  · rename_i e
    rw [if_pos (by rw [pagesL_length]; omega), if_pos e.symm]
    rfl
  · rename_i e
    rw [if_neg (fun k => e k.symm), pagesL_get hi]
    rfl
theorem mkd_facts {g : Geo} (h : Right g) {rec : List Int} (hr : rec.length = 624) {gen : Int} (hgen : 0 ≤ gen ∧ gen < 18446744073709551616) {i : Nat} (hi : i < (nCh g).toNat) :
    lenP g ((mkdL g rec gen).getD i []) ∧ okR (endP g ((mkdL g rec gen).getD i [])) ∧ hdOf (endP g ((mkdL g rec gen).getD i [])) = ownH g i gen ∧ ((i : Int) = nCh g - 1 → comm (endP g ((mkdL g rec gen).getD i [])) = true) ∧ pays g ((mkdL g rec gen).getD i []) = chk g rec i := by
  have b := nCh_bd h
  have hs := h.sec
  have hc := chk_len2 h hr hi
  have hl := chk_length h hr hi
  have hp : payL g (chk g rec i) = chk g rec i := by unfold payL; rw [if_neg (by omega)]
  have hO := ownH_rng (g := g) (i := (i : Int)) (gen := gen)
  have hg : (ownH g (i : Int) gen).rng := ownH_rng h hgen
  have hR : HRight (ownH g (i : Int) gen) := ownH_right (by omega)
  rw [mkd_get hi]
  split
  · rename_i e
    subst e
    unfold lastM
    rw [end_mark hs hc, pays_mark hs hc]
    refine ⟨⟨h, ?_⟩, markL_ok _ hR, markL_hd _ hg _, fun _ => markL_comm _ (.inl rfl), hp⟩
    rw [List.length_append, payL_length hs hc, markL_length _ (.inl rfl)]
    omega
  · rename_i e
    unfold pgOf
    rw [end_mk hs hc, pays_mk hs hc]
    refine ⟨⟨h, ?_⟩, endL_ok _ (.inl rfl) hg hR, endL_hd _ hg _, fun k => absurd (by omega) e, hp⟩
    unfold mkL
    rw [List.length_append, payL_length hs hc, endL_length _ (.inl rfl)]
    omega
theorem mkd_holds {g : Geo} (h : Right g) {rec : List Int} (hr : rec.length = 624) {gen : Int} (hgen : 0 ≤ gen ∧ gen < 18446744073709551616) : holdS g (mkdL g rec gen) = (gen, rec, true) := by
  have b := nCh_bd h
  have hs := h.sec
  have g0 : gen0 g (mkdL g rec gen) = gen := by
    unfold gen0
    rw [(mkd_facts h hr hgen (i := 0) (by omega)).2.2.1]
    rfl
  have hh : holds g (mkdL g rec gen) := by
    refine ⟨h, by unfold mkdL; rw [List.length_set, pagesL_length]; omega, fun i hi => ?_⟩
    obtain ⟨f1, f2, f3, f4, -⟩ := mkd_facts h hr hgen hi
    exact ⟨f1, f2, by rw [g0]; exact f3, f4⟩
  rw [holdS_yes hh, g0]
  congr 2
  unfold recOf
  rw [List.map_congr_left (g := fun i => ((allR g rec).drop (i * g.s.toNat)).take g.s.toNat) (fun i hi => (mkd_facts h hr hgen (List.mem_range.1 hi)).2.2.2.2), chunks_join, ← allR_length h hr, List.take_length]
  unfold allR
  rw [List.take_append_of_le_length (by omega), List.take_of_length_le (by omega)]
end Go.Proofs.Ytlpeoaphdmfjdaa.Vc
/-! Plain data of layer 20 (keybox): what each of its operations makes. -/
namespace Go.Proofs.Ytlpeoaphdmfjdaa.Vc
open Go Go.Eng Go.RowKit
structure KB where
  C : CD
  cu : Int
  ge : Int
  cl : List Bool
  bd : List Bool
  lk : List Bool
  hf : Bool
abbrev KB.c (B : KB) (k : Int) : Bool := B.cl.getD k.toNat false
abbrev KB.b (B : KB) (k : Int) : Bool := B.bd.getD k.toNat false
abbrev KB.l (B : KB) (k : Int) : Bool := B.lk.getD k.toNat false
def KB.at (B : KB) (k gen : Int) : KB := ⟨B.C, k, gen, B.cl, B.bd, B.lk, B.hf⟩
def dsK (B : KB) (k : Int) : KB × Int :=
  if (eraC B.C k).2 = 5 then
    (if (scrC (eraC B.C k).1 k).2 = 4 then ({ B with C := (scrC (eraC B.C k).1 k).1, bd := B.bd.set k.toNat true, cl := B.cl.set k.toNat false, hf := B.hf || (decide (mayC (eraC B.C k).1 k = 0) && (scrC (eraC B.C k).1 k).2 != 0) }, 4)
     else ({ B with C := (scrC (eraC B.C k).1 k).1, bd := B.bd.set k.toNat true, cl := B.cl.set k.toNat false, lk := B.lk.set k.toNat ((scrC (eraC B.C k).1 k).2 != 0), hf := B.hf || (decide (mayC (eraC B.C k).1 k = 0) && (scrC (eraC B.C k).1 k).2 != 0) }, 5))
  else if (eraC B.C k).2 = 0 then ({ B with C := (eraC B.C k).1, cl := B.cl.set k.toNat true, lk := B.lk.set k.toNat false }, 0) else ({ B with C := (eraC B.C k).1 }, (eraC B.C k).2)
def wrPg (k : Int) : List (List Int) → Int → CD → CD × Int
  | [], _, C => (C, 0)
  | p :: ps, i, C => if (progC C k i p).2 = 0 then wrPg k ps (i + 1) (progC C k i p).1 else progC C k i p
def wrK (C : CD) (k : Int) (l : List (List Int)) : CD × Int := if (wrPg k l 0 C).2 = 0 then progC (wrPg k l 0 C).1 k ((l.length : Int) - 1) (comL C.g) else wrPg k l 0 C
def ty2K (B : KB) (k : Int) (l : List (List Int)) : KB × Int :=
  if (wrK B.C k l).2 = 0 ∨ (wrK B.C k l).2 = 4 then ({ B with C := (wrK B.C k l).1, cl := B.cl.set k.toNat false }, (wrK B.C k l).2)
  else
    let t := dsK { B with C := (wrK B.C k l).1, cl := B.cl.set k.toNat false, bd := B.bd.set k.toNat true } k
    (t.1, if t.2 = 4 then 4 else 5)
def tyK (B : KB) (k : Int) (l : List (List Int)) : KB × Int :=
  if B.c k = true then ty2K B k l else if (dsK B k).2 = 0 then ty2K (dsK B k).1 k l else dsK B k
def skK (B : KB) (k : Int) : Prop := k = B.cu ∨ B.c k = true ∨ (B.b k = true ∧ B.l k = false)
instance (B : KB) (k : Int) : Decidable (skK B k) := by unfold skK; infer_instance
def otK : Nat → KB → KB × Int
  | 0, B => (B, 0)
  | n + 1, B => if skK B (3 - n) then otK n B else if (dsK B (3 - n)).2 = 4 then dsK B (3 - n) else otK n (dsK B (3 - n)).1
def cmK (l : List (List Int)) (gen : Int) : Nat → KB → KB × Int
  | 0, B => (B, 15)
  | n + 1, B =>
    if (B.cu + 1 + (3 - n)) % 4 = B.cu ∨ B.b ((B.cu + 1 + (3 - n)) % 4) = true then cmK l gen n B else
    if (tyK B ((B.cu + 1 + (3 - n)) % 4) l).2 = 0 then otK 4 ((tyK B ((B.cu + 1 + (3 - n)) % 4) l).1.at ((B.cu + 1 + (3 - n)) % 4) gen) else
    if (tyK B ((B.cu + 1 + (3 - n)) % 4) l).2 = 4 then tyK B ((B.cu + 1 + (3 - n)) % 4) l else cmK l gen n (tyK B ((B.cu + 1 + (3 - n)) % 4) l).1
def coK (B : KB) (rec : List Int) (gen : Int) : KB × Int := if B.C.off = true then (B, 4) else if rec.length = 624 then cmK (pagesL B.C.g rec gen) gen 4 B else (B, 2)
structure KI (g : Geo) (B : KB) : Prop where
  ok : COk B.C
  gg : B.C.g = g
  cu : -1 ≤ B.cu ∧ B.cu < 4
  cl : B.cl.length = 4
  bd : B.bd.length = 4
  lk : B.lk.length = 4
section
variable {g : Geo} {B : KB}
theorem KI.ds (h : KI g B) (k : Int) (ho : B.C.ops + 2 ≤ 1000000) : KI g (dsK B k).1 ∧ (dsK B k).1.C.ops ≤ B.C.ops + 2 ∧ B.C.ops ≤ (dsK B k).1.C.ops ∧ (dsK B k).1.cu = B.cu := by
  obtain ⟨a1, a2, a3⟩ := eraC_ok h.ok k (by omega)
  obtain ⟨b1, b2⟩ := eraC_k B.C k
  obtain ⟨d1, d2, d3⟩ := scrC_ok a1 k (by omega)
  obtain ⟨e1, e2⟩ := scrC_k (eraC B.C k).1 k
  unfold dsK
  split
  · split
    · exact ⟨⟨d1, e1.trans (b1.trans h.gg), h.cu, by rw [List.length_set]; exact h.cl, by rw [List.length_set]; exact h.bd, h.lk⟩, by dsimp only; omega, by dsimp only; omega, rfl⟩
    · exact ⟨⟨d1, e1.trans (b1.trans h.gg), h.cu, by rw [List.length_set]; exact h.cl, by rw [List.length_set]; exact h.bd, by rw [List.length_set]; exact h.lk⟩, by dsimp only; omega, by dsimp only; omega, rfl⟩
  · split
    · exact ⟨⟨a1, b1.trans h.gg, h.cu, by rw [List.length_set]; exact h.cl, h.bd, by rw [List.length_set]; exact h.lk⟩, by dsimp only; omega, by dsimp only; omega, rfl⟩
    · exact ⟨⟨a1, b1.trans h.gg, h.cu, h.cl, h.bd, h.lk⟩, by dsimp only; omega, by dsimp only; omega, rfl⟩
theorem wrPg_ok (k : Int) : ∀ {l : List (List Int)} {i : Int} {C : CD}, COk C → (∀ p ∈ l, Byt p) → C.ops + l.length ≤ 1000000 → COk (wrPg k l i C).1 ∧ (wrPg k l i C).1.g = C.g ∧ (wrPg k l i C).1.pl = C.pl ∧ (wrPg k l i C).1.ops ≤ C.ops + l.length ∧ C.ops ≤ (wrPg k l i C).1.ops
  | [], i, C, h, _, _ => ⟨h, rfl, rfl, Nat.le_refl _, Nat.le_refl _⟩
  | p :: ps, i, C, h, hp, ho => by
    rw [List.length_cons] at ho ⊢
    obtain ⟨a1, a2, a3⟩ := progC_ok h k i (hp p List.mem_cons_self) (by omega)
    obtain ⟨b1, b2⟩ := progC_k C k i p
    unfold wrPg
    split
    · obtain ⟨c1, c2, c3, c4, c5⟩ := wrPg_ok k (l := ps) (i := i + 1) a1 (fun q hq => hp q (List.mem_cons_of_mem _ hq)) (by omega)
      exact ⟨c1, c2.trans b1, c3.trans b2, by omega, by omega⟩
    · exact ⟨a1, b1, b2, by omega, a3⟩
theorem wrK_ok {C : CD} (h : COk C) (k : Int) {l : List (List Int)} (hp : ∀ p ∈ l, Byt p) (ho : C.ops + l.length + 1 ≤ 1000000) : COk (wrK C k l).1 ∧ (wrK C k l).1.g = C.g ∧ (wrK C k l).1.pl = C.pl ∧ (wrK C k l).1.ops ≤ C.ops + l.length + 1 ∧ C.ops ≤ (wrK C k l).1.ops := by
  obtain ⟨a1, a2, a3, a4, a5⟩ := wrPg_ok k (l := l) (i := 0) h hp (by omega)
  have bc : Byt (comL C.g) := by
    unfold comL
    exact (Byt.replicate (by decide) (by decide) _).append (Byt.replicate (by decide) (by decide) _)
  unfold wrK
  split
  · obtain ⟨c1, c2, c3⟩ := progC_ok a1 k ((l.length : Int) - 1) bc (by omega)
    obtain ⟨b1, b2⟩ := progC_k (wrPg k l 0 C).1 k ((l.length : Int) - 1) (comL C.g)
    exact ⟨c1, b1.trans a2, b2.trans a3, by omega, by omega⟩
  · exact ⟨a1, a2, a3, by omega, a5⟩
theorem KI.ty2 (h : KI g B) (k : Int) {l : List (List Int)} (hp : ∀ p ∈ l, Byt p) (ho : B.C.ops + l.length + 3 ≤ 1000000) : KI g (ty2K B k l).1 ∧ (ty2K B k l).1.C.ops ≤ B.C.ops + l.length + 3 ∧ B.C.ops ≤ (ty2K B k l).1.C.ops ∧ (ty2K B k l).1.cu = B.cu := by
  obtain ⟨a1, a2, a3, a4, a5⟩ := wrK_ok h.ok k hp (by omega)
  unfold ty2K
  split
  · exact ⟨⟨a1, a2.trans h.gg, h.cu, by rw [List.length_set]; exact h.cl, h.bd, h.lk⟩, by dsimp only; omega, by dsimp only; omega, rfl⟩
  · have h1 : KI g { B with C := (wrK B.C k l).1, cl := B.cl.set k.toNat false, bd := B.bd.set k.toNat true } := ⟨a1, a2.trans h.gg, h.cu, by rw [List.length_set]; exact h.cl, by rw [List.length_set]; exact h.bd, h.lk⟩
    obtain ⟨d1, d2, d3, d4⟩ := h1.ds k (by dsimp only; omega)
    dsimp only at d2 d3 ⊢
    exact ⟨d1, by omega, by omega, d4⟩
theorem KI.ty (h : KI g B) (k : Int) {l : List (List Int)} (hp : ∀ p ∈ l, Byt p) (ho : B.C.ops + l.length + 5 ≤ 1000000) : KI g (tyK B k l).1 ∧ (tyK B k l).1.C.ops ≤ B.C.ops + l.length + 5 ∧ B.C.ops ≤ (tyK B k l).1.C.ops ∧ (tyK B k l).1.cu = B.cu := by
  obtain ⟨a1, a2, a3, a4⟩ := h.ds k (by omega)
  unfold tyK
  split
  · obtain ⟨b1, b2, b3, b4⟩ := h.ty2 k hp (by omega)
    exact ⟨b1, by omega, b3, b4⟩
  split
  · obtain ⟨b1, b2, b3, b4⟩ := a1.ty2 k hp (by omega)
    exact ⟨b1, by omega, by omega, b4.trans a4⟩
  · exact ⟨a1, by omega, a3, a4⟩
theorem KI.ot : ∀ {n : Nat} {B : KB}, KI g B → B.C.ops + 2 * n ≤ 1000000 → KI g (otK n B).1 ∧ (otK n B).1.C.ops ≤ B.C.ops + 2 * n ∧ B.C.ops ≤ (otK n B).1.C.ops ∧ (otK n B).1.cu = B.cu
  | 0, B, h, _ => ⟨h, Nat.le_refl _, Nat.le_refl _, rfl⟩
  | n + 1, B, h, ho => by
    obtain ⟨a1, a2, a3, a4⟩ := h.ds (3 - n) (by omega)
    unfold otK
    split
    · obtain ⟨b1, b2, b3, b4⟩ := KI.ot (n := n) h (by omega)
      exact ⟨b1, by omega, b3, b4⟩
    split
    · exact ⟨a1, by omega, a3, a4⟩
    · obtain ⟨b1, b2, b3, b4⟩ := KI.ot (n := n) a1 (by omega)
      exact ⟨b1, by omega, by omega, b4.trans a4⟩
theorem KI.cm {l : List (List Int)} {gen : Int} (hp : ∀ p ∈ l, Byt p) : ∀ {n : Nat} {B : KB}, KI g B → B.C.ops + n * (l.length + 5) + 8 ≤ 1000000 → KI g (cmK l gen n B).1 ∧ (cmK l gen n B).1.C.ops ≤ B.C.ops + n * (l.length + 5) + 8 ∧ B.C.ops ≤ (cmK l gen n B).1.C.ops
  | 0, B, h, _ => ⟨h, by show B.C.ops ≤ _; omega, Nat.le_refl _⟩
  | n + 1, B, h, ho => by
    rw [Nat.add_mul, Nat.one_mul] at ho ⊢
    unfold cmK
    have hk : 0 ≤ (B.cu + 1 + (3 - n)) % 4 ∧ (B.cu + 1 + (3 - n)) % 4 < 4 := by omega
    generalize (B.cu + 1 + (3 - n)) % 4 = k at hk ⊢
    obtain ⟨a1, a2, a3, a4⟩ := h.ty k hp (by omega)
    split
    · obtain ⟨b1, b2, b3⟩ := KI.cm hp (n := n) h (by omega)
      exact ⟨b1, by omega, b3⟩
    split
    · have h1 : KI g ((tyK B k l).1.at k gen) := ⟨a1.ok, a1.gg, by show -1 ≤ k ∧ k < 4; omega, a1.cl, a1.bd, a1.lk⟩
      obtain ⟨b1, b2, b3, -⟩ := KI.ot (n := 4) h1 (by show (tyK B k l).1.C.ops + _ ≤ _; omega)
      have e : ((tyK B k l).1.at k gen).C.ops = (tyK B k l).1.C.ops := rfl
      rw [e] at b2 b3
      exact ⟨b1, by omega, by omega⟩
    split
    · exact ⟨a1, by omega, a3⟩
    · obtain ⟨b1, b2, b3⟩ := KI.cm hp (n := n) a1 (by omega)
      exact ⟨b1, by omega, by omega⟩
theorem pagesL_byt {g : Geo} (h : Right g) {rec : List Int} (br : Byt rec) {gen : Int} (hgen : 0 ≤ gen ∧ gen < 18446744073709551616) : ∀ p ∈ pagesL g rec gen, Byt p := fun p hp => by
  obtain ⟨i, hi, rfl⟩ := List.mem_map.1 hp
  have hi := List.mem_range.1 hi
  have := (nCh_bd h).1
  exact mkL_byt (ownH_rng h hgen) (ownH_right (by omega)) (chk_byt br i) Byt.nil
theorem KI.co (h : KI g B) {rec : List Int} (br : Byt rec) {gen : Int} (hgen : 0 ≤ gen ∧ gen < 18446744073709551616) (ho : B.C.ops + 200 ≤ 1000000) : KI g (coK B rec gen).1 ∧ (coK B rec gen).1.C.ops ≤ B.C.ops + 4 * ((nCh g).toNat + 5) + 8 ∧ B.C.ops ≤ (coK B rec gen).1.C.ops := by
  have hR : Right g := by have := h.ok.g; rwa [h.gg] at this
  have hn := (nCh_bd hR).1
  unfold coK
  split
  · exact ⟨h, by dsimp only; omega, Nat.le_refl _⟩
  split
  · rw [h.gg]
    have hl := pagesL_length g rec gen
    have := KI.cm (g := g) (gen := gen) (pagesL_byt hR br hgen) (n := 4) h (by rw [hl]; omega)
    rwa [hl] at this
  · exact ⟨h, by dsimp only; omega, Nat.le_refl _⟩
end
end Go.Proofs.Ytlpeoaphdmfjdaa.Vc
/-! Plain data of layer 24 (pool): what each of its operations makes. -/
namespace Go.Proofs.Ytlpeoaphdmfjdaa.Vc
open Go Go.Eng Go.RowKit
theorem comL_len (g : Geo) : (comL g).length = (g.s + 80).toNat + 8 := by unfold comL; rw [List.length_append, List.length_replicate, List.length_replicate]
structure PI (g : Geo) (n : Nat) (C : CD) (L : List Blk) (O : List Hd) : Prop where
  ok : COk C
  gg : C.g = g
  nn : (n : Int) = g.b - 4
  ll : L.length = n
  ol : O.length = n
  er : ∀ x ∈ L, 0 ≤ x.er ∧ x.er ≤ (C.ops : Int)
end Go.Proofs.Ytlpeoaphdmfjdaa.Vc
/-! The order of the parts. -/
namespace Go.Eng
open Go
def frontL : List Asr → List Nat → Option (List Asr)
  | Rs, [] => some Rs
  | Rs, i :: is => match Rs[i]? with | none => none | some R => (frontL (Rs.eraseIdx i) is).map (R :: ·)
theorem frontL_perm : ∀ {is : List Nat} {Rs Ts : List Asr}, frontL Rs is = some Ts → Rs.Perm Ts
  | [], Rs, Ts, h => by simp [frontL] at h; subst h; exact List.Perm.refl _
  | i :: is, Rs, Ts, h => by
    simp only [frontL] at h
    split at h
    · cases h
    · rename_i R hR
      obtain ⟨Vs, hV, rfl⟩ := Option.map_eq_some_iff.1 h
      exact (perm_front hR).trans ((frontL_perm hV).cons R)
section
variable {E : Nat → Prop} {w0 w : World} {A B C D F : Asr} {Rs Ts : List Asr}
theorem Sep.fro (S : Sep E w0 w Rs) (is : List Nat) (h : frontL Rs is = some Ts) : Sep E w0 w Ts := S.perm (frontL_perm h)
theorem Sep.up1 (S : Sep E w0 w (A :: B :: Rs)) : Sep E w0 w (B :: A :: Rs) := S.perm (.swap ..)
end
end Go.Eng
/-! The contracts of pool (layer 24): destroy, program, seal, begin. -/
namespace Go.Proofs.Ytlpeoaphdmfjdaa.Vc
open Go Go.Eng Go.RowKit
section
variable {E : Nat → Prop} {w0 w : World} {pp p q n : Nat} {g : Geo} {s : SlV} {O : List Hd} {C : CD} {L : List Blk} {Rs : List Asr}
theorem PI.erL (h : PI g n C L O) : ∀ x ∈ L, 0 ≤ x.er ∧ x.er ≤ 1000000000 := fun x hx => by
  have := h.er x hx
  have := h.ok.ops
  omega
end
end Go.Proofs.Ytlpeoaphdmfjdaa.Vc
/-! What any parameter of a law is known to be, with the sizes of what it holds: structs, arrays and slices of whole numbers, texts, and of each other. -/
namespace Go.Proofs.Ytlpeoaphdmfjdaa.Vc
open Go Go.Eng Go.RowKit Go.ChangeShapes
def Ty.big : (t : Ty) → t.T → Prop
  | .int _, _ => True
  | .bool, _ => True
  | .str, (x : ByteArray) => x.size ≤ 140737488351232
  | .sl e, (x : SlP e.T) => x.n ≤ 140737488351232 ∧ ∀ y ∈ x.l, e.big y
  | .nil, _ => True
  | .cons a r, (x : a.T × r.T) => a.big x.1 ∧ r.big x.2
section
variable {H : Type} {enc : TypeId × Value → H} {P : Program} {w : World}
def Fit (l : List Nat) : Prop := l.all (· ≤ reachBytes) = true
theorem Fit.cons {a : Nat} {m : List Nat} : Fit (a :: m) ↔ a ≤ reachBytes ∧ Fit m := by unfold Fit; rw [List.all_cons, Bool.and_eq_true]; simp
end
end Go.Proofs.Ytlpeoaphdmfjdaa.Vc
/-! What the laws of layer 13 share. -/
namespace Go.Proofs.Ytlpeoaphdmfjdaa.Vc
open Go Go.Eng Go.RowKit
theorem fds_byt {w : World} {G : Nat → Prop} {f : SlP TF.T} (hf : LF.rd w G f) : ∀ F ∈ fds f, Byt F.2.2.1 := fun F hF => by
  obtain ⟨x, hx, rfl⟩ := List.mem_map.1 hF
  rw [TF_dat]
  exact fun v hv => rng_u8 ((hf.2.2.2.2 x hx).2.2.1.2.2.2.2 v hv)
end Go.Proofs.Ytlpeoaphdmfjdaa.Vc
/-! The contracts of layer 24: what the laws share: payloads, cases, and a new pool by both. -/
namespace Go.Proofs.Ytlpeoaphdmfjdaa.Vc
open Go Go.Eng Go.RowKit
abbrev casV24 (g : Geo) (f : SlP TF.T) (s : SlV) : List Value := [.int .i64 g.b, .int .i64 g.p, .int .i64 g.s, .int .i64 g.sp, .int .i64 g.wr, .int .i64 g.ro, .slice f.a f.n f.c, .slice s.a s.n s.c]
end Go.Proofs.Ytlpeoaphdmfjdaa.Vc
/-! The contracts of layer 13: the trace. -/
namespace Go.Proofs.Ytlpeoaphdmfjdaa.Vc
open Go Go.Eng Go.RowKit
section
variable {E : Nat → Prop} {w0 w : World} {Rs : List Asr} {p : Nat} {y : Lay} {C : CD} {L : List TOp}
theorem TOp_len (o : TOp) : o.vs.length = 5 := rfl
theorem ap_56 {n : Nat} (h : n ≤ 1000000) : (2 * (n + 1) + 256) * 56 ≤ 281474976710656 := by omega
theorem Trace_c (ho : C.ops ≤ 1000000) (hd : ∀ o ∈ L, o.d.l.length ≤ 100000) (S : Sep E w0 w (ChipQ p y C L Rs)) :
    CallV Try.prog 72 #[.pointer (some ⟨p, 0, none⟩)] w [.one .sl] fun r w' => ∃ L' : List TOp, L'.map TOp.dat = L.map TOp.dat ∧ r.1.n = L'.length ∧ Sep NoB w w' [OwnA 139 5 r.1.a r.1.n r.1.c (L'.flatMap TOp.vs), RdL (L'.map (·.d))] := by
  apply nand_Chip_Trace.vc
  unfold nand_Chip_Trace.P
  simp only [Addr.add_lit, Nat.zero_add]
  have hLn : L.length = C.ops := by
    have := (S.own 7 rfl).len
    rw [flatF_len (f := TOp.vs) (m := 5) TOp_len] at this
    omega
  refine S.ld0 (j := 14) rfl rfl ?_
  dsimp only
  have T := (Sep.start NoB w).nilL
  have T := T.nilOwn 139 5
  refine Loop1 (fun (v : SlV × Int × Unit) w' => ∃ (i : Nat) (L' : List TOp), v.2.1 = (i : Int) ∧ i ≤ C.ops ∧ v.1.n = i ∧ L'.map TOp.dat = (L.take i).map TOp.dat ∧ Sep NoB w w' [OwnA 139 5 v.1.a v.1.n v.1.c (L'.flatMap TOp.vs), RdL (L'.map (·.d))])
    (fun (v : SlV × Int × Unit) _ => ((C.ops : Int) - v.2.1).toNat) ⟨0, [], rfl, by omega, rfl, rfl, T⟩ ?_
  rintro ⟨⟨a, m, c⟩, (v : Int), ⟨⟩⟩ w3 ⟨i, L', hv, hi, hm, hL, T⟩
  dsimp only at hv hm T ⊢
  subst hv
  subst hm
  have hl' : L'.length = m := by
    have := congrArg List.length hL
    rw [List.length_map, List.length_map, List.length_take] at this
    omega
  refine cond_d (fun hlt => ?_) (fun hge => ?_)
  · have S := S.stepE T.ext
    obtain ⟨q, o, hq, hoi, hc⟩ := S.nthF (f := TOp.vs) (m := 5) 7 rfl TOp_len (by decide) (j := (m : Int)) (by omega) hlt
    obtain ⟨G, hG, -⟩ := S.get (i := 8) rfl
    have hmem : o ∈ L := List.mem_of_getElem? hoi
    have hod : TB.rd w3 G o.d := hG _ (List.mem_map.2 ⟨o, hmem, rfl⟩)
    have hI := Ty.ints hod
    have hIl := hI.len
    have hdd := hd o hmem
    have hby : Byt o.d.l := fun u hu => rng_u8 (hod.2.2.2.2 u hu)
    refine ⟨⟨by omega, hlt⟩, q, hq, (o.k, o.bl, o.pa, ⟨o.d.a, o.d.n, o.d.c⟩, o.e, ()), hc, ?_⟩
    refine T.newB fun b7 w4 T f4 _ => ?_
    refine T.st0 (by rfl) fun w5 T f5 => ?_
    refine T.newB fun b10 w6 T f6 _ => ?_
    have T := T.asOwn (sz := 1) (n := 0) rfl (by omega) oneAll.nil
    refine T.ld1 (j := 3) rfl rfl ?_
    refine T.ab0 (xs := []) (hI.ext (((f4.trans' f5 fun k hk => .inr (by omega)).trans f6).ext)) (by omega) fun a' c' w7 T f7 => ?_
    rw [List.nil_append, Nat.zero_add] at T
    rw [Nat.zero_add]
    refine T.su1 (j := 3) (by rfl) fun w8 T f8 => ?_
    refine T.la1 rfl ?_
    refine T.newB fun b20 w9 T f9 _ => ?_
    refine AppS.of (news := TOp.vs ⟨o.k, o.bl, o.pa, ⟨a', o.d.n, c', o.d.l⟩, o.e⟩) rfl (.inr ⟨_, rfl, T.cells 0 rfl⟩) ?_
    refine T.ap3 rfl (TOp.one _) (ap_56 (by omega)) (by omega) fun a22 c24 w10 T f10 => ?_
    refine ⟨Rng.i64 (by omega) (by omega), ⟨m + 1, L' ++ [⟨o.k, o.bl, o.pa, ⟨a', o.d.n, c', o.d.l⟩, o.e⟩], by push_cast; rfl, by omega, rfl, ?_, ?_⟩, by omega⟩
    · rw [Int.toNat_natCast] at hoi
      rw [List.take_add_one, hoi, List.map_append, List.map_append, hL]
      rfl
    · have T := (Sep.addL (T.sel [1, 3, 2] rfl) hby).sel [1, 0] rfl
      rw [List.flatMap_append, List.map_append]
      exact T
  · have : m = C.ops := by omega
    subst this
    rw [List.take_of_length_le (by omega)] at hL
    exact ⟨L', hL, hl'.symm, T⟩
end
end Go.Proofs.Ytlpeoaphdmfjdaa.Vc
/-! Plain laws of layer 13: what a trace tells of programs. -/
namespace Go.Proofs.Ytlpeoaphdmfjdaa.Vc
open Go Go.Eng Go.RowKit
theorem ref_in {C : CD} {bl pa : Int} {n : Nat} (h : refC C bl pa n = 0) : inC C bl pa ∧ n = szP C.g ∧ usC C bl pa ≤ 1 := by
  unfold refC at h
  split at h
  · cases h
  split at h
  · cases h
  rename_i h2
  have h2 := Classical.not_not.1 h2
  split at h
  · cases h
  rename_i h3
  exact ⟨h2.1, h2.2, by omega⟩
end Go.Proofs.Ytlpeoaphdmfjdaa.Vc
/-! Plain laws of layer 13: what only clears. -/
namespace Go.Proofs.Ytlpeoaphdmfjdaa.Vc
open Go Go.Eng Go.RowKit
theorem cl_of {xs ys : List Int} (bx : Byt xs) (by' : Byt ys) (hl : ys.length = xs.length) (h : ∀ i, i < 8 * xs.length → hasL ys i = true → hasL xs i = true) : andL xs ys = ys := by
  refine bits_ext (andL_byt _ _) by' (by rw [andL_length, hl]) fun i hi => ?_
  rw [andL_length] at hi
  rw [hasL_and bx by' hi]
  cases hy : hasL ys i
  · exact Bool.and_false _
  · rw [h i hi hy]; rfl
end Go.Proofs.Ytlpeoaphdmfjdaa.Vc
/-! Plain laws of layer 24 (pool): what a block has that was destroyed, or opened. -/
namespace Go.Proofs.Ytlpeoaphdmfjdaa.Vc
open Go Go.Eng Go.RowKit
theorem blk_set {C C' : CD} {n : Int} {x : BD} (hC : COk C) (hn : 0 ≤ n ∧ n < C.g.b) (hb : C'.bs = C.bs.set n.toNat x) : blkC C' n = x := by
  unfold blkC
  rw [hb, List.getD_eq_getElem?_getD, List.getElem?_set_self (by rw [hC.bl]; omega)]
  rfl
theorem blk_oth {C C' : CD} {n m : Int} {x : BD} (hb : C'.bs = C.bs.set n.toNat x) (hne : m.toNat ≠ n.toNat) : blkC C' m = blkC C m := by
  unfold blkC
  rw [hb, List.getD_eq_getElem?_getD, List.getD_eq_getElem?_getD, List.getElem?_set_ne (fun h => hne h.symm)]
theorem code_cases (C : CD) : (codeC C).1 = 0 ∨ (codeC C).1 = 4 ∨ (codeC C).1 = 5 := by
  unfold codeC
  split
  · exact .inl rfl
  · split
    · exact .inr (.inl rfl)
    · exact .inr (.inr rfl)
theorem era_zero {C : CD} (hC : COk C) {n : Int} (hn : 0 ≤ n ∧ n < C.g.b) (h : (eraC C n).2 = 0) : blkC (eraC C n).1 n = { blankB C.g with er := (blkC C n).er + 1 } := by
  unfold eraC at h ⊢
  by_cases hm : mayC C n = 0
  · rw [if_pos hm] at h ⊢
    have h : (codeC C).1 = 0 := h
    refine blk_set hC hn (x := { blankB C.g with er := (blkC C n).er + 1 }) ?_
    show C.bs.set n.toNat (if (codeC C).1 = 0 then _ else _) = _
    rw [if_pos h]
  · rw [if_neg hm] at h
    exact absurd h hm
theorem scr_zero {C : CD} (hC : COk C) {n : Int} (hn : 0 ≤ n ∧ n < C.g.b) (h : (scrC C n).2 = 0) : allC (scrC C n).1 n = List.replicate (bszC C) 0 := by
  unfold scrC at h ⊢
  by_cases hm : mayC C n = 0
  · rw [if_pos hm] at h ⊢
    have h : (codeC C).1 = 0 := h
    obtain ⟨-, ⟨n3, n4⟩, -, n7, n8⟩ := hC.num
    have hall := (hC.blk hn).2.all
    have hb : (scrX C n).bs = C.bs.set n.toNat { blkC C n with sc := true, pg := cutL (if (codeC C).1 = 0 then List.replicate (blkC C n).pg.flatten.length 0 else progL (blkC C n).pg.flatten (List.replicate (blkC C n).pg.flatten.length 0) (codeC C).2.1 false) C.g.p.toNat } := rfl
    have h2 := blk_set hC hn hb
    show (blkC (scrX C n) n).pg.flatten = _
    rw [h2, if_pos h]
    dsimp only
    rw [(cutL_flat (z := szP C.g) (by omega) (by rw [List.length_replicate]; exact hall.1)).1, hall.1]
  · rw [if_neg hm] at h
    exact absurd h hm
def BIn (C : CD) : Prop := ∀ x ∈ C.bs, x.sc = false → ∀ (i : Nat) (q : List Int), x.la < (i : Int) → x.pg[i]? = some q → q = List.replicate (szP C.g) 255
theorem BIn.off {C : CD} (h : BIn C) (b : Bool) : BIn { C with off := b } := h
theorem bit255 : ∀ j : Fin 8, bitB 255 j.val = true := by decide
end Go.Proofs.Ytlpeoaphdmfjdaa.Vc
/-! Plain laws of layer 20 (keybox): a record that is written without a fault. -/
namespace Go.Proofs.Ytlpeoaphdmfjdaa.Vc
open Go Go.Eng Go.RowKit
def QT (C : CD) (m : Nat) : Prop := ∀ o : Nat, o < m → atF C.pl ((C.ops + o : Nat) : Int) = none
theorem code_q {C : CD} {m : Nat} (h : QT C (m + 1)) : codeC C = (0, [], false) := by
  have h0 : atF C.pl (C.ops : Int) = none := h 0 (by omega)
  unfold codeC
  rw [h0]
theorem QT.less {C : CD} {m n : Nat} (h : QT C m) (hn : n ≤ m) : QT C n := fun o ho => h o (by omega)
theorem QT.next {C C' : CD} {m : Nat} (h : QT C (m + 1)) (hp : C'.pl = C.pl) (ho : C'.ops = C.ops + 1) : QT C' m := fun o hm => by
  have := h (o + 1) (by omega)
  rw [hp, ho, show C.ops + 1 + o = C.ops + (o + 1) from by omega]
  exact this
theorem QT.skip {C C' : CD} {m n : Nat} (h : QT C (n + m)) (hp : C'.pl = C.pl) (ho : C'.ops = C.ops + n) : QT C' m := fun o hm => by
  have := h (n + o) (by omega)
  rw [hp, ho, show C.ops + n + o = C.ops + (n + o) from by omega]
  exact this
structure Same (C C' : CD) (k : Int) : Prop where
  g : C'.g = C.g
  pl : C'.pl = C.pl
  oth : ∀ m : Int, m.toNat ≠ k.toNat → blkC C' m = blkC C m
theorem Same.refl (C : CD) (k : Int) : Same C C k := ⟨rfl, rfl, fun _ _ => rfl⟩
theorem Same.trans {C C' C'' : CD} {k : Int} (h : Same C C' k) (h' : Same C' C'' k) : Same C C'' k := ⟨h'.g.trans h.g, h'.pl.trans h.pl, fun m hm => (h'.oth m hm).trans (h.oth m hm)⟩
theorem era_same (C : CD) (k : Int) : Same C (eraC C k).1 k := by
  unfold eraC
  split
  · exact ⟨rfl, rfl, fun m hm => blk_oth (C' := eraX C k) rfl hm⟩
  · exact .refl C k
theorem scr_same (C : CD) (k : Int) : Same C (scrC C k).1 k := by
  unfold scrC
  split
  · exact ⟨rfl, rfl, fun m hm => blk_oth (C' := scrX C k) rfl hm⟩
  · exact .refl C k
theorem prog_same (C : CD) (k i : Int) (b : List Int) : Same C (progC C k i b).1 k := by
  unfold progC
  split
  · exact ⟨rfl, rfl, fun m hm => blk_oth (C' := progX C k i b) rfl hm⟩
  · exact .refl C k
theorem era_q {C : CD} {k : Int} {m : Nat} (hk : 0 ≤ k ∧ k < C.g.b) (ho : C.off = false) (hq : QT C (m + 1)) : (eraC C k).2 = 0 ∧ (eraC C k).1.off = false ∧ (eraC C k).1.ops = C.ops + 1 := by
  have hm : mayC C k = 0 := by unfold mayC; rw [if_neg (by rw [ho]; simp), if_neg (fun h => h hk)]
  have hc := code_q hq
  unfold eraC
  rw [if_pos hm]
  refine ⟨by rw [hc], ?_, rfl⟩
  show (codeC C).2.2 = false
  rw [hc]
theorem prog_zero {C : CD} {k i : Int} {b : List Int} (hC : COk C) (h : (progC C k i b).2 = 0) : C.off = false ∧ inC C k i ∧ b.length = szP C.g ∧ (blkC C k).sc = false ∧ (progC C k i b).1.off = false ∧ (progC C k i b).1.ops = C.ops + 1 ∧
    blkC (progC C k i b).1 k = { blkC C k with pg := (blkC C k).pg.set i.toNat (andL (pgC13 C k i) b), us := (blkC C k).us.set i.toNat (usC C k i + 1), la := max (blkC C k).la i } := by
  unfold progC at h ⊢
  by_cases hr : refC C k i b.length = 0
  case neg => rw [if_neg hr] at h; exact absurd h hr
  rw [if_pos hr] at h ⊢
  have h : (codeC C).1 = 0 := h
  obtain ⟨h1, h2, -⟩ := ref_in hr
  have hoff : C.off = false ∧ (blkC C k).sc = false := by
    unfold refC at hr
    split at hr
    · cases hr
    rename_i ho
    split at hr
    · cases hr
    split at hr
    · cases hr
    rename_i hs
    exact ⟨by cases hq : C.off; rfl; exact absurd hq ho, by cases hq : (blkC C k).sc; rfl; exact absurd (.inl hq) hs⟩
  refine ⟨hoff.1, h1, h2, hoff.2, ((code_off C).1 h).1, rfl, ?_⟩
  refine blk_set (C' := progX C k i b) hC h1.1 ?_
  show C.bs.set k.toNat { blkC C k with pg := (blkC C k).pg.set i.toNat (if (codeC C).1 = 0 then _ else _), us := _, la := _ } = _
  rw [if_pos h]
structure WrI (g : Geo) (X : BD) (i : Nat) : Prop where
  sc : X.sc = false
  la : X.la < i
  us : ∀ j, i ≤ j → X.us.getD j 0 = 0
  pg : ∀ j, i ≤ j → j < g.p.toNat → X.pg.getD j [] = List.replicate (szP g) 255
theorem WrI.blank (g : Geo) (e : Int) : WrI g { blankB g with er := e } 0 := by
  refine ⟨rfl, by show (-1 : Int) < ((0 : Nat) : Int); omega, fun j _ => ?_, fun j _ hj => ?_⟩
  · show (List.replicate g.p.toNat (0 : Int)).getD j 0 = 0
    rw [List.getD_eq_getElem?_getD, List.getElem?_replicate]
    split <;> rfl
  · show (List.replicate g.p.toNat (List.replicate (szP g) (255 : Int))).getD j [] = _
    rw [List.getD_eq_getElem?_getD, List.getElem?_replicate, if_pos hj]
    rfl
theorem and_blank {n : Nat} {b : List Int} (bb : Byt b) (hl : b.length = n) : andL (List.replicate n 255) b = b := by
  refine cl_of (Byt.replicate (by decide) (by decide) _) bb (by rw [List.length_replicate, hl]) fun i hi' _ => ?_
  rw [List.length_replicate] at hi'
  unfold hasL
  rw [List.getD_eq_getElem?_getD, List.getElem?_replicate, if_pos (by omega)]
  exact bit255 ⟨i % 8, Nat.mod_lt _ (by decide)⟩
theorem set_drop {α : Type} {l : List α} {i : Nat} {x : α} (h : i < l.length) (m : Nat) : (l.set i x).take (i + 1) = l.take i ++ [x] ∧ (l.set i x).drop (i + 1 + m) = l.drop (i + 1 + m) := by
  constructor
  · rw [List.take_succ_eq_append_getElem (by rw [List.length_set]; exact h), List.take_set_of_le (Nat.le_refl _), List.getElem_set_self]
  · rw [List.drop_set_of_lt (by omega)]
theorem wrPg_done {k : Int} : ∀ {l : List (List Int)} {i : Nat} {C : CD}, COk C → (0 ≤ k ∧ k < C.g.b) → WrI C.g (blkC C k) i → i + l.length ≤ C.g.p.toNat → (∀ x ∈ l, x.length = szP C.g ∧ Byt x) → C.ops + l.length ≤ 1000000 →
    (C.off = false → QT C l.length → (wrPg k l (i : Int) C).2 = 0) ∧ ((wrPg k l (i : Int) C).2 = 0 → C.off = false → (wrPg k l (i : Int) C).1.off = false ∧ (wrPg k l (i : Int) C).1.ops = C.ops + l.length ∧
      WrI C.g (blkC (wrPg k l (i : Int) C).1 k) (i + l.length) ∧ (blkC (wrPg k l (i : Int) C).1 k).pg = (blkC C k).pg.take i ++ (l ++ (blkC C k).pg.drop (i + l.length)) ∧ (∀ j, i ≤ j → j < i + l.length → (blkC (wrPg k l (i : Int) C).1 k).us.getD j 0 = 1) ∧ (∀ j, j < i → (blkC (wrPg k l (i : Int) C).1 k).us.getD j 0 = (blkC C k).us.getD j 0))
  | [], i, C, hC, hk, hW, hi, hl, ho => ⟨fun _ _ => rfl, fun _ hf => ⟨hf, rfl, hW, by rw [List.nil_append]; exact (List.take_append_drop _ _).symm, fun j h1 h2 => absurd h2 (by have : ([] : List (List Int)).length = 0 := rfl; omega), fun _ _ => rfl⟩⟩
  | p :: ps, i, C, hC, hk, hW, hi, hl, ho => by
    rw [List.length_cons] at hi ho ⊢
    have hp := hl p List.mem_cons_self
    have hin : inC C k (i : Int) := ⟨hk, by omega⟩
    have hbo := (hC.blk hk).2
    obtain ⟨a1, a2, a3⟩ := progC_ok hC k (i : Int) hp.2 (by omega)
    have hs := prog_same C k (i : Int) p
    have hlp : i < (blkC C k).pg.length := by rw [hbo.pl]; omega
    have hlu : i < (blkC C k).us.length := by rw [hbo.ul]; omega
    have hpg : pgC13 C k (i : Int) = List.replicate (szP C.g) 255 := hW.pg i (Nat.le_refl _) (by omega)
    have hus : usC C k (i : Int) = 0 := hW.us i (Nat.le_refl _)
    have nxt : (progC C k (i : Int) p).2 = 0 → C.off = false ∧ (progC C k (i : Int) p).1.off = false ∧ (progC C k (i : Int) p).1.ops = C.ops + 1 ∧ WrI C.g (blkC (progC C k (i : Int) p).1 k) (i + 1) ∧ blkC (progC C k (i : Int) p).1 k = { blkC C k with pg := (blkC C k).pg.set i p, us := (blkC C k).us.set i 1, la := max (blkC C k).la i } := fun h => by
      obtain ⟨z1, z2, z3, z4, z5, z6, z7⟩ := prog_zero hC h
      rw [hpg, and_blank hp.2 hp.1, hus] at z7
      have z7 : blkC (progC C k (i : Int) p).1 k = { blkC C k with pg := (blkC C k).pg.set i p, us := (blkC C k).us.set i 1, la := max (blkC C k).la i } := z7
      have hla := hW.la
      refine ⟨z1, z5, z6, ?_, z7⟩
      rw [z7]
      refine ⟨z4, by dsimp only; omega, fun j hj => ?_, fun j hj hj2 => ?_⟩
      · dsimp only
        rw [List.getD_eq_getElem?_getD, List.getElem?_set_ne (by omega), ← List.getD_eq_getElem?_getD]
        exact hW.us j (by omega)
      · dsimp only
        rw [List.getD_eq_getElem?_getD, List.getElem?_set_ne (by omega), ← List.getD_eq_getElem?_getD]
        exact hW.pg j (by omega) hj2
    have rec' := fun (h : (progC C k (i : Int) p).2 = 0) => wrPg_done (k := k) (l := ps) (i := i + 1) a1 (by rw [hs.g]; exact hk) (by rw [hs.g]; exact (nxt h).2.2.2.1) (by rw [hs.g]; omega) (fun x hx => by rw [hs.g]; exact hl x (List.mem_cons_of_mem _ hx)) (by rw [(nxt h).2.2.1]; omega)
    have ei : (i : Int) + 1 = ((i + 1 : Nat) : Int) := by push_cast; rfl
    unfold wrPg
    constructor
    · intro hoff hq
      have hla := hW.la
      have hr : refC C k (i : Int) p.length = 0 := by
        unfold refC
        rw [if_neg (by rw [hoff]; simp), if_neg (fun h => h ⟨hin, hp.1⟩), if_neg (fun h => h.elim (fun h => by rw [hW.sc] at h; cases h) (fun h => by omega)), if_neg (fun h => by omega)]
      have h0 : (progC C k (i : Int) p).2 = 0 := by
        unfold progC
        rw [if_pos hr]
        show (codeC C).1 = 0
        rw [code_q hq]
      rw [if_pos h0, ei]
      exact (rec' h0).1 (nxt h0).2.1 (hq.next hs.pl (nxt h0).2.2.1)
    · intro h hoff
      by_cases h0 : (progC C k (i : Int) p).2 = 0
      case neg => rw [if_neg h0] at h; exact absurd h h0
      rw [if_pos h0, ei] at h ⊢
      obtain ⟨n1, n2, n3, n4, n5⟩ := nxt h0
      obtain ⟨b1, b2, b3, b4, b5, b6⟩ := (rec' h0).2 h n2
      rw [hs.g] at b3
      have hd := set_drop (x := p) hlp ps.length
      refine ⟨b1, by omega, by rw [show i + (ps.length + 1) = i + 1 + ps.length from by omega]; exact b3, ?_, fun j h1 h2 => ?_, fun j h1 => ?_⟩
      · rw [b4, n5]
        dsimp only
        rw [hd.1, hd.2, List.append_assoc, show i + 1 + ps.length = i + (ps.length + 1) from by omega]
        rfl
      · by_cases hj : j = i
        · subst hj
          rw [b6 j (by omega), n5]
          dsimp only
          rw [List.getD_eq_getElem?_getD, List.getElem?_set_self hlu]
          rfl
        · exact b5 j (by omega) (by omega)
      · rw [b6 j (by omega), n5]
        dsimp only
        rw [List.getD_eq_getElem?_getD, List.getElem?_set_ne (by omega), ← List.getD_eq_getElem?_getD]
theorem wrPg_same (k : Int) : ∀ (l : List (List Int)) (i : Int) (C : CD), Same C (wrPg k l i C).1 k
  | [], i, C => .refl C k
  | p :: ps, i, C => by
    unfold wrPg
    split
    · exact (prog_same C k i p).trans (wrPg_same k ps (i + 1) _)
    · exact prog_same C k i p
theorem wrK_same (C : CD) (k : Int) (l : List (List Int)) : Same C (wrK C k l).1 k := by
  unfold wrK
  split
  · exact (wrPg_same k l 0 C).trans (prog_same _ k _ _)
  · exact wrPg_same k l 0 C
theorem wrK_done {C : CD} {k : Int} {rec : List Int} {gen : Int} (hC : COk C) (hk : 0 ≤ k ∧ k < C.g.b) (hW : WrI C.g (blkC C k) 0) (hr : rec.length = 624) (br : Byt rec) (hgen : 0 ≤ gen ∧ gen < 18446744073709551616) (hoff : C.off = false) (ho : C.ops + (nCh C.g).toNat + 1 ≤ 1000000) :
    (QT C ((nCh C.g).toNat + 1) → (wrK C k (pagesL C.g rec gen)).2 = 0) ∧ ((wrK C k (pagesL C.g rec gen)).2 = 0 → (wrK C k (pagesL C.g rec gen)).1.off = false ∧ (wrK C k (pagesL C.g rec gen)).1.ops = C.ops + (nCh C.g).toNat + 1 ∧
      (blkC (wrK C k (pagesL C.g rec gen)).1 k).pg.take (nCh C.g).toNat = mkdL C.g rec gen) := by
  have hR := hC.g
  have hn := (nCh_bd hR).1
  have hll := pagesL_length C.g rec gen
  obtain ⟨n1, n2, n3, n4, n5⟩ := hC.num
  have hnp : nCh C.g ≤ C.g.p := by unfold Right at hR; exact hR.2.1
  have hbt := pagesL_byt hR br hgen
  have hl : ∀ x ∈ pagesL C.g rec gen, x.length = szP C.g ∧ Byt x := fun x hx => by
    refine ⟨?_, hbt x hx⟩
    obtain ⟨i, hi, rfl⟩ := List.mem_map.1 hx
    have hi := List.mem_range.1 hi
    have hc := chk_length hR hr hi
    unfold pgOf mkL payL
    rw [List.length_append, endL_length _ (.inl rfl), if_neg (by omega), hc, n4]
  obtain ⟨w1, w2⟩ := wrPg_done (k := k) (l := pagesL C.g rec gen) (i := 0) hC hk hW (by rw [hll]; omega) hl (by rw [hll]; omega)
  rw [hll] at w1 w2
  rw [Nat.zero_add] at w2
  rw [show ((0 : Nat) : Int) = 0 from rfl] at w1 w2
  have w1 : C.off = false → QT C (nCh C.g).toNat → (wrPg k (pagesL C.g rec gen) 0 C).2 = 0 := w1
  obtain ⟨o1, o2, o3, o4, o5⟩ := wrPg_ok k (l := pagesL C.g rec gen) (i := 0) hC hbt (by rw [hll]; omega)
  have hsm := wrPg_same k (pagesL C.g rec gen) 0 C
  have e1 : (((nCh C.g).toNat : Nat) : Int) - 1 = (((nCh C.g).toNat - 1 : Nat) : Int) := by omega
  unfold wrK
  rw [hll, e1]
  generalize hN : (nCh C.g).toNat = N at *
  constructor
  · intro hq
    have h0 := w1 hoff (hq.less (by omega))
    obtain ⟨b1, b2, b3, b4, b5, b6⟩ := w2 h0 hoff
    rw [if_pos h0]
    unfold progC
    have hin : inC (wrPg k (pagesL C.g rec gen) 0 C).1 k ((N - 1 : Nat) : Int) := by unfold inC; rw [o2]; exact ⟨hk, by omega⟩
    have hu : usC (wrPg k (pagesL C.g rec gen) 0 C).1 k ((N - 1 : Nat) : Int) = 1 := b5 (N - 1) (by omega) (by omega)
    have hcl : (comL C.g).length = szP (wrPg k (pagesL C.g rec gen) 0 C).1.g := by rw [o2, comL_len]; omega
    have hr : refC (wrPg k (pagesL C.g rec gen) 0 C).1 k ((N - 1 : Nat) : Int) (comL C.g).length = 0 := by
      unfold refC
      rw [if_neg (by rw [b1]; simp), if_neg (fun h => h ⟨hin, hcl⟩), if_neg (fun h => h.elim (fun h => by rw [b3.sc] at h; cases h) (fun h => by omega)), if_neg (fun h => by omega)]
    rw [if_pos hr]
    show (codeC (wrPg k (pagesL C.g rec gen) 0 C).1).1 = 0
    rw [code_q (hq.skip (m := 1) o3 b2)]
  · intro h
    by_cases h0 : (wrPg k (pagesL C.g rec gen) 0 C).2 = 0
    case neg => rw [if_neg h0] at h; exact absurd h h0
    rw [if_pos h0] at h ⊢
    obtain ⟨b1, b2, b3, b4, b5, b6⟩ := w2 h0 hoff
    obtain ⟨z1, z2, z3, z4, z5, z6, z7⟩ := prog_zero o1 h
    refine ⟨z5, by omega, ?_⟩
    rw [z7]
    dsimp only
    have b4 : (blkC (wrPg k (pagesL C.g rec gen) 0 C).1 k).pg = [] ++ (pagesL C.g rec gen ++ (blkC C k).pg.drop N) := b4
    rw [List.nil_append] at b4
    have hpp : pgC13 (wrPg k (pagesL C.g rec gen) 0 C).1 k ((N - 1 : Nat) : Int) = pgOf C.g rec gen (N - 1) := by
      unfold pgC13
      rw [b4, Int.toNat_natCast, List.getD_eq_getElem?_getD, List.getElem?_append_left (by rw [hll]; omega), pagesL_get (by omega)]
      rfl
    rw [hpp, Int.toNat_natCast, b4, List.set_append_left _ _ (by rw [hll]; omega), List.take_append_of_le_length (by rw [List.length_set, hll]; omega), List.take_of_length_le (by rw [List.length_set, hll]; omega)]
    unfold mkdL lastM pgOf
    rw [hN]
    congr 1
    refine and_mk hR.sec (chk_len2 hR hr (by omega)) (ownH_right (by omega)) (chk_byt br _) Byt.nil (.inl rfl)
end Go.Proofs.Ytlpeoaphdmfjdaa.Vc
/-! An array as a part, with what its trace tells of scrubs that were not whole. -/
namespace Go.Proofs.Ytlpeoaphdmfjdaa.Vc
open Go Go.Eng Go.RowKit
abbrev TDat : Type := Int × Int × Int × List Int × Int
def hlfD (l : List TDat) : Prop := ∃ o ∈ l, o.1 = 3 ∧ o.2.2.2.2 ≠ 0
def lenD (l : List TDat) : Prop := ∀ o ∈ l, o.2.2.2.1.length ≤ 100000
theorem hlfD.app {l : List TDat} (h : hlfD l) (t : List TDat) : hlfD (l ++ t) := by
  obtain ⟨o, h1, h2⟩ := h
  exact ⟨o, List.mem_append_left _ h1, h2⟩
theorem lenD.app {l t : List TDat} (h : lenD l) (k : lenD t) : lenD (l ++ t) := fun o ho => (List.mem_append.1 ho).elim (h o) (k o)
theorem lenD.if1 {c : Prop} [Decidable c] {x : TDat} (h : x.2.2.2.1.length ≤ 100000) : lenD (if c then [x] else []) := fun o ho => by
  split at ho
  · rw [List.mem_singleton.1 ho]; exact h
  · exact (List.not_mem_nil ho).elim
def chipH (p : Nat) (C : CD) (hf : Bool) : Asr := ⟨fun w F => ∃ (y : Lay) (L : List TOp), (fds y.F = C.pl ∧ (hf = true → hlfD (L.map TOp.dat)) ∧ lenD (L.map TOp.dat)) ∧ StarP w (ChipP p y C L) F, fun h k => by obtain ⟨y, L, h1, h2⟩ := h; exact ⟨y, L, h1, h2.st k⟩⟩
section
variable {E : Nat → Prop} {w0 w : World} {Rs : List Asr} {p : Nat} {C : CD} {hf : Bool}
theorem chipH_in {y : Lay} {T : List TOp} (hF : fds y.F = C.pl) (h1 : hf = true → hlfD (T.map TOp.dat)) (h2 : lenD (T.map TOp.dat)) (S : Sep E w0 w (ChipP p y C T ++ Rs)) : Sep E w0 w (chipH p C hf :: Rs) :=
  (S.fold (Rs := ChipP p y C T)).conv fun F h _ => ⟨y, T, ⟨hF, h1, h2⟩, h⟩
theorem chipH_out (S : Sep E w0 w (chipH p C hf :: Rs)) : ∃ (y : Lay) (T : List TOp), fds y.F = C.pl ∧ (hf = true → hlfD (T.map TOp.dat)) ∧ lenD (T.map TOp.dat) ∧ Sep E w0 w (ChipP p y C T ++ Rs) := by
  obtain ⟨F, ⟨F1, F2, ⟨y, T, ⟨h1, h1a, h1b⟩, h2⟩, h3⟩, hb⟩ := S.ex
  have S2 : Sep E w0 w (StarA (ChipP p y C T) :: Rs) := ⟨S.fr, F, ⟨F1, F2, h2, h3⟩, hb⟩
  exact ⟨y, T, h1, h1a, h1b, S2.unfold (Rs := ChipP p y C T)⟩
theorem chipH_new {y : Lay} (hF : fds y.F = C.pl) (S : Sep E w0 w (ChipP p y C [] ++ Rs)) : Sep E w0 w (chipH p C false :: Rs) :=
  chipH_in hF (fun h => by cases h) (fun o ho => (List.not_mem_nil ho).elim) S
theorem chipH_E (S : Sep E w0 w (chipH p C hf :: Rs)) : Sep E w0 w (chipE p C :: Rs) := by
  obtain ⟨y, T, hF, -, -, S⟩ := chipH_out S
  exact chipE_in hF S
theorem Erase_h {n : Int} (hC : COk C) (S : Sep E w0 w (chipH p C hf :: Rs)) : CallV Try.prog 48 #[.pointer (some ⟨p, 0, none⟩), .int .i64 n] w [.one (.int .i64)] fun r w' =>
    r.1 = (eraC C n).2 ∧ Sep E w0 w' (chipH p (eraC C n).1 hf :: Rs) := by
  obtain ⟨y, T, hF, hh, hl, S⟩ := chipH_out S
  refine Sep.call (ChipP p y C T) S (fun G SG => Erase13_c hC hF SG) fun G fr r w' hr => ?_
  obtain ⟨h1, ta, tc, L', hL, S'⟩ := hr
  exact ⟨h1, chipH_in (y := upT y ta tc) (by show fds y.F = _; rw [hF, (eraC_k C n).2]) (fun h => by rw [hL]; exact (hh h).app _) (by rw [hL]; exact hl.app (lenD.if1 (by show (0 : Nat) ≤ 100000; omega))) (fr _ _ S')⟩
theorem Scrub_h {n : Int} (hC : COk C) (S : Sep E w0 w (chipH p C hf :: Rs)) : CallV Try.prog 50 #[.pointer (some ⟨p, 0, none⟩), .int .i64 n] w [.one (.int .i64)] fun r w' =>
    r.1 = (scrC C n).2 ∧ Sep E w0 w' (chipH p (scrC C n).1 (hf || (decide (mayC C n = 0) && (scrC C n).2 != 0)) :: Rs) := by
  obtain ⟨y, T, hF, hh, hl, S⟩ := chipH_out S
  refine Sep.call (ChipP p y C T) S (fun G SG => Scrub13_c hC hF SG) fun G fr r w' hr => ?_
  obtain ⟨h1, ta, tc, L', hL, S'⟩ := hr
  refine ⟨h1, chipH_in (y := upT y ta tc) (by show fds y.F = _; rw [hF, (scrC_k C n).2]) (fun h => ?_) (by rw [hL]; exact hl.app (lenD.if1 (by show (0 : Nat) ≤ 100000; omega))) (fr _ _ S')⟩
  rw [hL]
  cases hf
  case true => exact (hh rfl).app _
  rw [Bool.false_or, Bool.and_eq_true, decide_eq_true_eq] at h
  rw [if_pos h.1]
  refine ⟨_, List.mem_append_right _ List.mem_cons_self, rfl, ?_⟩
  have h2 := h.2
  unfold scrC at h2
  rw [if_pos h.1] at h2
  simpa using h2
theorem Program_hL {bl pa : Int} {dd : SlP Int} {D : List (SlP Int)} (hC : COk C) (hdn : dd.n ≤ 100000) (hD : dd ∈ D) (S : Sep E w0 w (chipH p C hf :: RdL D :: Rs)) : CallV Try.prog 56 #[.pointer (some ⟨p, 0, none⟩), .agg #[.int .i64 bl, .int .i64 pa], .slice dd.a dd.n dd.c] w [.one (.int .i64)] fun r w' =>
    r.1 = (progC C bl pa dd.l).2 ∧ Sep E w0 w' (chipH p (progC C bl pa dd.l).1 hf :: RdL D :: Rs) := by
  have hdl : dd.l.length = dd.n := by
    obtain ⟨F1, h, _⟩ := S.get (i := 1) rfl
    exact (Ty.ints (h dd hD)).len
  obtain ⟨y, T, hF, hh, hl, S⟩ := chipH_out S
  refine Sep.call (ChipQ p y C T [RdL D]) S (fun G SG => Program13_c (bl := bl) (pa := pa) hC hF hdn SG hD) fun G fr r w' hr => ?_
  obtain ⟨h1, ta, tc, L', hL, S'⟩ := hr
  exact ⟨h1, chipH_in (y := upT y ta tc) (T := L') (Rs := RdL D :: Rs) (by show fds y.F = _; rw [hF, (progC_k C bl pa dd.l).2]) (fun h => by rw [hL]; exact (hh h).app _) (by rw [hL]; exact hl.app (lenD.if1 (by show dd.l.length ≤ 100000; omega))) (fr _ _ S')⟩
theorem Program_h {bl pa : Int} {dd : SlP Int} (hC : COk C) (hdn : dd.n ≤ 100000) (S : Sep E w0 w (chipH p C hf :: RdL [dd] :: Rs)) : CallV Try.prog 56 #[.pointer (some ⟨p, 0, none⟩), .agg #[.int .i64 bl, .int .i64 pa], .slice dd.a dd.n dd.c] w [.one (.int .i64)] fun r w' =>
    r.1 = (progC C bl pa dd.l).2 ∧ Sep E w0 w' (chipH p (progC C bl pa dd.l).1 hf :: RdL [dd] :: Rs) := Program_hL hC hdn (List.mem_singleton.2 rfl) S
theorem Power_h {on : Bool} (S : Sep E w0 w (chipH p C hf :: Rs)) : CallV Try.prog 34 #[.pointer (some ⟨p, 0, none⟩), .bool on] w [] fun _ w' => Sep E w0 w' (chipH p { C with off := !on } hf :: Rs) := by
  obtain ⟨y, T, hF, hh, hl, S⟩ := chipH_out S
  refine Sep.call (ChipP p y C T) S (fun G SG => Power_c SG) fun G fr r w' hr => ?_
  exact chipH_in (y := y) hF hh hl (fr _ _ hr)
end
end Go.Proofs.Ytlpeoaphdmfjdaa.Vc
/-! The plans of functions as plain statements, printed by wip/tools/vcgen.py; the kernel holds each to the code. -/
namespace Go.Proofs.Ytlpeoaphdmfjdaa.Vc
open Go Go.Eng
def keybox_pages.A : Ann := .two .no (.two .no (.two (.two .no (.one (.loop [6, 7, 8, 9, 10, 11, 13, 14, 15, 16, 17, 18, 19, 20, 21, 22, 23, 24, 25, 26, 27, 28, 29, 30, 31] [(8, .one .sl), (13, .one (.int .i64))] .no))) .no))
def keybox_pages.P (p0 : Addr) (p1 p2 : Int) (w : World) (K : SlV × Int × Unit → World → Prop) : Prop :=
  LoopV [.one .sl, .one (.int .i64)] ((⟨none, 0, 0⟩ : SlV), (0 : Int), ()) w fun (z1 : SlV × Int × Unit) w2 (K3 : SlV × Int × Unit → World → Prop) =>
  cond (decide (z1.2.1 < p2))
  (CallV Try.prog 54 #[.pointer (some p0), .agg #[.int .i64 p1, .int .i64 z1.2.1]] w2 [.one .sl, .one (.int .i64)] fun (r4 : SlV × Int × Unit) w5 =>
  cond (r4.2.1 != 0)
  (K ((⟨none, 0, 0⟩ : SlV), r4.2.1, ()) w5)
  (NewV #[.slice r4.1.a r4.1.n r4.1.c] 56 w5 fun b6 w7 =>
  AppS w7 (some ⟨b6, 0, none⟩) 1 1 fun ns12 =>
  AppV w7 56 1 24 z1.1.a z1.1.n z1.1.c ns12 1 fun a8 n9 c10 w11 =>
  Rng .i64 (z1.2.1 + 1) ∧
  K3 ((⟨a8, n9, c10⟩ : SlV), z1.2.1 + 1, ()) w11))
  (K (z1.1, (0 : Int), ()) w2)
theorem keybox_pages.vc (p0 : Addr) (p1 p2 : Int) (w : World) (K : SlV × Int × Unit → World → Prop) (h : keybox_pages.P p0 p1 p2 w K) : CallV Try.prog 65 #[.pointer (some p0), .int .i64 p1, .int .i64 p2] w [.one .sl, .one (.int .i64)] K := by
  refine vcFun.of (A := keybox_pages.A) (wr := false) okf_ok follows h Try.func65 ?_
  kernel_rfl
def keybox_Open.A : Ann := .two .no (.two .no (.two .no (.two .no (.two (.two .no (.one (.loop [2, 3, 4, 6, 7, 8, 9, 21, 22, 23, 24, 25, 26, 27, 28, 29, 30, 31, 32, 33, 34, 35, 36, 37, 38, 39, 40, 41, 42] [(6, .one .sl), (21, .one (.int .i64))] .no))) .no))))
def keybox_Open.P (p0 : Addr) (w : World) (K : (Option Addr) × SlV × Int × Unit → World → Prop) : Prop :=
  CallV Try.prog 30 #[.pointer (some p0)] w [.agg [.int .i64, .int .i64, .int .i64, .int .i64, .int .i64, .int .i64]] fun (r1 : (Int × Int × Int × Int × Int × Int × Unit) × Unit) w2 =>
  NewV #[.pointer (some p0), .int .i64 r1.1.1, .int .i64 r1.1.2.1, .int .i64 r1.1.2.2.1, .int .i64 r1.1.2.2.2.1, .int .i64 r1.1.2.2.2.2.1, .int .i64 r1.1.2.2.2.2.2.1, .int .i64 (-1), .int .u64 0, .bool false, .bool false, .bool false, .bool false, .bool false, .bool false, .bool false, .bool false, .bool false, .bool false, .bool false, .bool false] 124 w2 fun b3 w4 =>
  CallV Try.prog 61 #[.pointer (some p0)] w4 [.one .bool] fun (r5 : Bool × Unit) w6 =>
  cond (!r5.1)
  (K (none, (⟨none, 0, 0⟩ : SlV), (4 : Int), ()) w6)
  (LoopV [.one .sl, .one (.int .i64)] ((⟨none, 0, 0⟩ : SlV), (0 : Int), ()) w6 fun (z7 : SlV × Int × Unit) w8 (K9 : SlV × Int × Unit → World → Prop) =>
  cond (decide (z7.2.1 < 4))
  (LoadA w8 ⟨b3, 1, none⟩ [.int .i64, .int .i64, .int .i64, .int .i64, .int .i64, .int .i64] fun (x10 : Int × Int × Int × Int × Int × Int × Unit) =>
  CallV Try.prog 66 #[.agg #[.int .i64 x10.1, .int .i64 x10.2.1, .int .i64 x10.2.2.1, .int .i64 x10.2.2.2.1, .int .i64 x10.2.2.2.2.1, .int .i64 x10.2.2.2.2.2.1]] w8 [.one (.int .i64)] fun (r11 : Int × Unit) w12 =>
  CallV Try.prog 65 #[.pointer (some p0), .int .i64 z7.2.1, .int .i64 r11.1] w12 [.one .sl, .one (.int .i64)] fun (r13 : SlV × Int × Unit) w14 =>
  cond (r13.2.1 != 0)
  (K (none, (⟨none, 0, 0⟩ : SlV), r13.2.1, ()) w14)
  (NewV #[.slice r13.1.a r13.1.n r13.1.c] 64 w14 fun b15 w16 =>
  AppS w16 (some ⟨b15, 0, none⟩) 1 1 fun ns21 =>
  AppV w16 64 1 24 z7.1.a z7.1.n z7.1.c ns21 1 fun a17 n18 c19 w20 =>
  Rng .i64 (z7.2.1 + 1) ∧
  K9 ((⟨a17, n18, c19⟩ : SlV), z7.2.1 + 1, ()) w20))
  (LoadA w8 ⟨b3, 1, none⟩ [.int .i64, .int .i64, .int .i64, .int .i64, .int .i64, .int .i64] fun (x22 : Int × Int × Int × Int × Int × Int × Unit) =>
  CallV Try.prog 67 #[.agg #[.int .i64 x22.1, .int .i64 x22.2.1, .int .i64 x22.2.2.1, .int .i64 x22.2.2.2.1, .int .i64 x22.2.2.2.2.1, .int .i64 x22.2.2.2.2.2.1], .slice z7.1.a z7.1.n z7.1.c] w8 [.one (.int .i64), .one (.int .u64), .one .sl] fun (r23 : Int × Int × SlV × Unit) w24 =>
  StoreV w24 ⟨b3, 7, none⟩ [.int .i64 r23.1] fun w25 =>
  StoreV w25 ⟨b3, 8, none⟩ [.int .u64 r23.2.1] fun w26 =>
  cond (decide (r23.1 < 0))
  (K ((some ⟨b3, 0, none⟩), (⟨none, 0, 0⟩ : SlV), (10 : Int), ()) w26)
  (K ((some ⟨b3, 0, none⟩), r23.2.2.1, (0 : Int), ()) w26)))
theorem keybox_Open.vc (p0 : Addr) (w : World) (K : (Option Addr) × SlV × Int × Unit → World → Prop) (h : keybox_Open.P p0 w K) : CallV Try.prog 26 #[.pointer (some p0)] w [.one .ptr, .one .sl, .one (.int .i64)] K := by
  refine vcFun.of (A := keybox_Open.A) (wr := false) okf_ok follows h Try.func26 ?_
  kernel_rfl
def keybox_Box_destroy.A : Ann := .two .no (.two .no (.two (.two .no (.two (.draw (.take 0 (.take 1 (.take 2 (.take 3 (.take 4 (.take 5 (.take 6 (.take 8 (.take 9 (.eff 7 (.take 10 (.eff 11 (.done)))))))))))))) .no)) (.two .no (.two (.draw (.take 0 (.take 1 (.take 2 (.take 3 (.take 4 (.take 5 (.take 6 (.take 8 (.take 9 (.eff 7 (.take 10 (.eff 11 (.done)))))))))))))) .no))))
def keybox_Box_destroy.P (p0 : Addr) (p1 : Int) (w : World) (K : Int × Unit → World → Prop) : Prop :=
  LoadS w p0 .ptr fun (x1 : Option Addr) =>
  CallV Try.prog 48 #[.pointer x1, .int .i64 p1] w [.one (.int .i64)] fun (r2 : Int × Unit) w3 =>
  cond (r2.1 == 0)
  (DrawV fun D4 =>
  (0 ≤ p1 ∧ p1 < (4 : Int)) ∧
  StoreV w3.drew ((p0.add 9 : Addr).add (p1.toNat * 1)) [.bool true] fun w5 =>
  KeepOn D4 w3.drew w5 ∧
  (0 ≤ p1 ∧ p1 < (4 : Int)) ∧
  StoreV w5 ((p0.add 17 : Addr).add (p1.toNat * 1)) [.bool false] fun w6 =>
  KeepOn D4 w3.drew w6 ∧
  cond (r2.1 != 5)
  (K (r2.1, ()) w6)
  (DrawV fun D7 =>
  (0 ≤ p1 ∧ p1 < (4 : Int)) ∧
  StoreV w6.drew ((p0.add 13 : Addr).add (p1.toNat * 1)) [.bool true] fun w8 =>
  KeepOn D7 w6.drew w8 ∧
  (0 ≤ p1 ∧ p1 < (4 : Int)) ∧
  StoreV w8 ((p0.add 9 : Addr).add (p1.toNat * 1)) [.bool false] fun w9 =>
  KeepOn D7 w6.drew w9 ∧
  LoadS w9 p0 .ptr fun (x10 : Option Addr) =>
  CallV Try.prog 50 #[.pointer x10, .int .i64 p1] w9 [.one (.int .i64)] fun (r11 : Int × Unit) w12 =>
  cond (r11.1 == 4)
  (K (r11.1, ()) w12)
  ((0 ≤ p1 ∧ p1 < (4 : Int)) ∧
  StoreV w12 ((p0.add 17 : Addr).add (p1.toNat * 1)) [.bool (r11.1 != 0)] fun w13 =>
  K ((5 : Int), ()) w13)))
  (cond (r2.1 != 5)
  (K (r2.1, ()) w3)
  (DrawV fun D14 =>
  (0 ≤ p1 ∧ p1 < (4 : Int)) ∧
  StoreV w3.drew ((p0.add 13 : Addr).add (p1.toNat * 1)) [.bool true] fun w15 =>
  KeepOn D14 w3.drew w15 ∧
  (0 ≤ p1 ∧ p1 < (4 : Int)) ∧
  StoreV w15 ((p0.add 9 : Addr).add (p1.toNat * 1)) [.bool false] fun w16 =>
  KeepOn D14 w3.drew w16 ∧
  LoadS w16 p0 .ptr fun (x17 : Option Addr) =>
  CallV Try.prog 50 #[.pointer x17, .int .i64 p1] w16 [.one (.int .i64)] fun (r18 : Int × Unit) w19 =>
  cond (r18.1 == 4)
  (K (r18.1, ()) w19)
  ((0 ≤ p1 ∧ p1 < (4 : Int)) ∧
  StoreV w19 ((p0.add 17 : Addr).add (p1.toNat * 1)) [.bool (r18.1 != 0)] fun w20 =>
  K ((5 : Int), ()) w20)))
theorem keybox_Box_destroy.vc (p0 : Addr) (p1 : Int) (w : World) (K : Int × Unit → World → Prop) (h : keybox_Box_destroy.P p0 p1 w K) : CallV Try.prog 103 #[.pointer (some p0), .int .i64 p1] w [.one (.int .i64)] K := by
  refine vcFun.of (A := keybox_Box_destroy.A) (wr := false) okf_ok follows h Try.func103 ?_
  kernel_rfl
def keybox_Box_write.A : Ann := .two .no (.two (.two .no (.one (.loop [6, 7, 8, 9, 14, 15, 16, 17, 18, 19, 20, 21, 22, 23, 24, 25, 26, 27, 28, 29, 30, 31] [(14, .one (.int .i64))] .no))) .no)
def keybox_Box_write.P (p0 : Addr) (p1 : Int) (a2 : Option Addr) (n2 c2 : Nat) (w : World) (K : Int × Unit → World → Prop) : Prop :=
  LoopV [.one (.int .i64)] ((0 : Int), ()) w fun (z1 : Int × Unit) w2 (K3 : Int × Unit → World → Prop) =>
  cond (decide (z1.1 < ((n2 : Nat) : Int)))
  ((0 ≤ z1.1 ∧ z1.1 < ((n2 : Nat) : Int)) ∧ ∃ q4 : Addr, a2 = some q4 ∧
  LoadS w2 (q4.add (z1.1.toNat * 1)) .sl fun (x5 : SlV) =>
  LoadS w2 p0 .ptr fun (x6 : Option Addr) =>
  CallV Try.prog 56 #[.pointer x6, .agg #[.int .i64 p1, .int .i64 z1.1], .slice x5.a x5.n x5.c] w2 [.one (.int .i64)] fun (r7 : Int × Unit) w8 =>
  cond (r7.1 != 0)
  (K (r7.1, ()) w8)
  (Rng .i64 (z1.1 + 1) ∧
  K3 (z1.1 + 1, ()) w8))
  (LoadA w2 (p0.add 1) [.int .i64, .int .i64, .int .i64, .int .i64, .int .i64, .int .i64] fun (x9 : Int × Int × Int × Int × Int × Int × Unit) =>
  CallV Try.prog 55 #[.agg #[.int .i64 x9.1, .int .i64 x9.2.1, .int .i64 x9.2.2.1, .int .i64 x9.2.2.2.1, .int .i64 x9.2.2.2.2.1, .int .i64 x9.2.2.2.2.2.1]] w2 [.one .sl, .one (.int .i64)] fun (r10 : SlV × Int × Unit) w11 =>
  cond (r10.2.1 != 0)
  (K (r10.2.1, ()) w11)
  (LoadS w11 p0 .ptr fun (x12 : Option Addr) =>
  Rng .i64 (((n2 : Nat) : Int) - 1) ∧
  CallV Try.prog 56 #[.pointer x12, .agg #[.int .i64 p1, .int .i64 (((n2 : Nat) : Int) - 1)], .slice r10.1.a r10.1.n r10.1.c] w11 [.one (.int .i64)] fun (r13 : Int × Unit) w14 =>
  K (r13.1, ()) w14))
theorem keybox_Box_write.vc (p0 : Addr) (p1 : Int) (a2 : Option Addr) (n2 c2 : Nat) (w : World) (K : Int × Unit → World → Prop) (h : keybox_Box_write.P p0 p1 a2 n2 c2 w K) : CallV Try.prog 104 #[.pointer (some p0), .int .i64 p1, .slice a2 n2 c2] w [.one (.int .i64)] K := by
  refine vcFun.of (A := keybox_Box_write.A) (wr := false) okf_ok follows h Try.func104 ?_
  kernel_rfl
def keybox_Box_others.A : Ann := .two .no (.two (.two .no (.one (.loop [2, 3, 4, 5, 6, 7, 8, 9, 10, 11, 12, 13, 14, 15, 16, 17, 18, 19, 20, 21, 22, 23, 24, 25, 26, 27, 28, 29, 30, 31, 32, 33, 34, 35, 36, 37, 38, 39, 40, 41, 42, 43, 44, 45] [(5, .one (.int .i64))] .no))) .no)
def keybox_Box_others.P (p0 : Addr) (w : World) (K : Int × Unit → World → Prop) : Prop :=
  LoopV [.one (.int .i64)] ((0 : Int), ()) w fun (z1 : Int × Unit) w2 (K3 : Int × Unit → World → Prop) =>
  cond (decide (z1.1 < 4))
  (LoadS w2 (p0.add 7) (.int .i64) fun (x4 : Int) =>
  cond (z1.1 == x4)
  (Rng .i64 (z1.1 + 1) ∧
  K3 (z1.1 + 1, ()) w2)
  ((0 ≤ z1.1 ∧ z1.1 < (4 : Int)) ∧
  LoadS w2 ((p0.add 9 : Addr).add (z1.1.toNat * 1)) .bool fun (x5 : Bool) =>
  cond x5
  (Rng .i64 (z1.1 + 1) ∧
  K3 (z1.1 + 1, ()) w2)
  ((0 ≤ z1.1 ∧ z1.1 < (4 : Int)) ∧
  LoadS w2 ((p0.add 13 : Addr).add (z1.1.toNat * 1)) .bool fun (x6 : Bool) =>
  cond x6
  ((0 ≤ z1.1 ∧ z1.1 < (4 : Int)) ∧
  LoadS w2 ((p0.add 17 : Addr).add (z1.1.toNat * 1)) .bool fun (x7 : Bool) =>
  cond (!x7)
  (Rng .i64 (z1.1 + 1) ∧
  K3 (z1.1 + 1, ()) w2)
  (CallV Try.prog 103 #[.pointer (some p0), .int .i64 z1.1] w2 [.one (.int .i64)] fun (r8 : Int × Unit) w9 =>
  cond (r8.1 == 4)
  (K (r8.1, ()) w9)
  (Rng .i64 (z1.1 + 1) ∧
  K3 (z1.1 + 1, ()) w9)))
  (CallV Try.prog 103 #[.pointer (some p0), .int .i64 z1.1] w2 [.one (.int .i64)] fun (r10 : Int × Unit) w11 =>
  cond (r10.1 == 4)
  (K (r10.1, ()) w11)
  (Rng .i64 (z1.1 + 1) ∧
  K3 (z1.1 + 1, ()) w11)))))
  (K ((0 : Int), ()) w2)
theorem keybox_Box_others.vc (p0 : Addr) (w : World) (K : Int × Unit → World → Prop) (h : keybox_Box_others.P p0 w K) : CallV Try.prog 64 #[.pointer (some p0)] w [.one (.int .i64)] K := by
  refine vcFun.of (A := keybox_Box_others.A) (wr := false) okf_ok follows h Try.func64 ?_
  kernel_rfl
def keybox_Box_try.A : Ann := .no
def keybox_Box_try.P (p0 : Addr) (p1 : Int) (a2 : Option Addr) (n2 c2 : Nat) (w : World) (K : Int × Unit → World → Prop) : Prop :=
  (0 ≤ p1 ∧ p1 < (4 : Int)) ∧
  LoadS w ((p0.add 9 : Addr).add (p1.toNat * 1)) .bool fun (x1 : Bool) =>
  cond (!x1)
  (CallV Try.prog 103 #[.pointer (some p0), .int .i64 p1] w [.one (.int .i64)] fun (r2 : Int × Unit) w3 =>
  cond (r2.1 != 0)
  (K (r2.1, ()) w3)
  ((0 ≤ p1 ∧ p1 < (4 : Int)) ∧
  StoreV w3 ((p0.add 9 : Addr).add (p1.toNat * 1)) [.bool false] fun w4 =>
  CallV Try.prog 104 #[.pointer (some p0), .int .i64 p1, .slice a2 n2 c2] w4 [.one (.int .i64)] fun (r5 : Int × Unit) w6 =>
  cond (r5.1 == 0)
  (K (r5.1, ()) w6)
  (cond (r5.1 == 4)
  (K (r5.1, ()) w6)
  ((0 ≤ p1 ∧ p1 < (4 : Int)) ∧
  StoreV w6 ((p0.add 13 : Addr).add (p1.toNat * 1)) [.bool true] fun w7 =>
  CallV Try.prog 103 #[.pointer (some p0), .int .i64 p1] w7 [.one (.int .i64)] fun (r8 : Int × Unit) w9 =>
  cond (r8.1 == 4)
  (K (r8.1, ()) w9)
  (K ((5 : Int), ()) w9)))))
  ((0 ≤ p1 ∧ p1 < (4 : Int)) ∧
  StoreV w ((p0.add 9 : Addr).add (p1.toNat * 1)) [.bool false] fun w10 =>
  CallV Try.prog 104 #[.pointer (some p0), .int .i64 p1, .slice a2 n2 c2] w10 [.one (.int .i64)] fun (r11 : Int × Unit) w12 =>
  cond (r11.1 == 0)
  (K (r11.1, ()) w12)
  (cond (r11.1 == 4)
  (K (r11.1, ()) w12)
  ((0 ≤ p1 ∧ p1 < (4 : Int)) ∧
  StoreV w12 ((p0.add 13 : Addr).add (p1.toNat * 1)) [.bool true] fun w13 =>
  CallV Try.prog 103 #[.pointer (some p0), .int .i64 p1] w13 [.one (.int .i64)] fun (r14 : Int × Unit) w15 =>
  cond (r14.1 == 4)
  (K (r14.1, ()) w15)
  (K ((5 : Int), ()) w15))))
theorem keybox_Box_try.vc (p0 : Addr) (p1 : Int) (a2 : Option Addr) (n2 c2 : Nat) (w : World) (K : Int × Unit → World → Prop) (h : keybox_Box_try.P p0 p1 a2 n2 c2 w K) : CallV Try.prog 63 #[.pointer (some p0), .int .i64 p1, .slice a2 n2 c2] w [.one (.int .i64)] K := by
  refine vcFun.of (A := keybox_Box_try.A) (wr := false) okf_ok follows h Try.func63 ?_
  kernel_rfl
def keybox_Box_Commit.A : Ann := .two .no (.one (.two .no (.two .no (.two .no (.two .no (.two (.two .no (.one (.loop [6, 9, 10, 11, 35, 36, 37, 38, 39, 40, 41, 42, 43, 44, 45, 46, 47, 48, 49, 50, 51, 52, 53, 54, 55, 56, 57, 58, 59, 60, 61, 62, 63, 64, 65, 66, 67, 68, 69, 70, 71, 72, 73, 74, 75, 76, 77, 78, 79, 80] [(35, .one (.int .i64))] .no))) .no))))))
def keybox_Box_Commit.P (p0 : Addr) (a1 : Option Addr) (n1 c1 : Nat) (p2 : Int) (w : World) (K : Int × Unit → World → Prop) : Prop :=
  LoadS w p0 .ptr fun (x1 : Option Addr) =>
  CallV Try.prog 61 #[.pointer x1] w [.one .bool] fun (r2 : Bool × Unit) w3 =>
  cond (!r2.1)
  (K ((4 : Int), ()) w3)
  (LoadA w3 (p0.add 1) [.int .i64, .int .i64, .int .i64, .int .i64, .int .i64, .int .i64] fun (x4 : Int × Int × Int × Int × Int × Int × Unit) =>
  CallV Try.prog 62 #[.agg #[.int .i64 x4.1, .int .i64 x4.2.1, .int .i64 x4.2.2.1, .int .i64 x4.2.2.2.1, .int .i64 x4.2.2.2.2.1, .int .i64 x4.2.2.2.2.2.1], .slice a1 n1 c1, .int .u64 p2] w3 [.one .sl, .one (.int .i64)] fun (r5 : SlV × Int × Unit) w6 =>
  cond (r5.2.1 != 0)
  (K (r5.2.1, ()) w6)
  (LoopV [.one (.int .i64)] ((0 : Int), ()) w6 fun (z7 : Int × Unit) w8 (K9 : Int × Unit → World → Prop) =>
  cond (decide (z7.1 < 4))
  (LoadS w8 (p0.add 7) (.int .i64) fun (x10 : Int) =>
  Rng .i64 (x10 + 1) ∧
  Rng .i64 ((x10 + 1) + z7.1) ∧
  4 ≠ (0 : Int) ∧
  LoadS w8 (p0.add 7) (.int .i64) fun (x11 : Int) =>
  cond ((Int.tmod ((x10 + 1) + z7.1) 4) == x11)
  (Rng .i64 (z7.1 + 1) ∧
  K9 (z7.1 + 1, ()) w8)
  ((0 ≤ (Int.tmod ((x10 + 1) + z7.1) 4) ∧ (Int.tmod ((x10 + 1) + z7.1) 4) < (4 : Int)) ∧
  LoadS w8 ((p0.add 13 : Addr).add ((Int.tmod ((x10 + 1) + z7.1) 4).toNat * 1)) .bool fun (x12 : Bool) =>
  cond x12
  (Rng .i64 (z7.1 + 1) ∧
  K9 (z7.1 + 1, ()) w8)
  (CallV Try.prog 63 #[.pointer (some p0), .int .i64 (Int.tmod ((x10 + 1) + z7.1) 4), .slice r5.1.a r5.1.n r5.1.c] w8 [.one (.int .i64)] fun (r13 : Int × Unit) w14 =>
  cond (r13.1 == 0)
  (StoreV w14 (p0.add 7) [.int .i64 (Int.tmod ((x10 + 1) + z7.1) 4)] fun w15 =>
  StoreV w15 (p0.add 8) [.int .u64 p2] fun w16 =>
  CallV Try.prog 64 #[.pointer (some p0)] w16 [.one (.int .i64)] fun (r17 : Int × Unit) w18 =>
  K (r17.1, ()) w18)
  (cond (r13.1 == 4)
  (K (r13.1, ()) w14)
  (Rng .i64 (z7.1 + 1) ∧
  K9 (z7.1 + 1, ()) w14)))))
  (K ((15 : Int), ()) w8)))
theorem keybox_Box_Commit.vc (p0 : Addr) (a1 : Option Addr) (n1 c1 : Nat) (p2 : Int) (w : World) (K : Int × Unit → World → Prop) (h : keybox_Box_Commit.P p0 a1 n1 c1 p2 w K) : CallV Try.prog 21 #[.pointer (some p0), .slice a1 n1 c1, .int .u64 p2] w [.one (.int .i64)] K := by
  refine vcFun.of (A := keybox_Box_Commit.A) (wr := false) okf_ok follows h Try.func21 ?_
  kernel_rfl
def keybox_Box_Current.A : Ann := .no
def keybox_Box_Current.P (p0 : Addr) (w : World) (K : Int × Unit → World → Prop) : Prop :=
  LoadS w (p0.add 7) (.int .i64) fun (x1 : Int) =>
  K (x1, ()) w
theorem keybox_Box_Current.vc (p0 : Addr) (w : World) (K : Int × Unit → World → Prop) (h : keybox_Box_Current.P p0 w K) : CallV Try.prog 22 #[.pointer (some p0)] w [.one (.int .i64)] K := by
  refine vcFun.of (A := keybox_Box_Current.A) (wr := false) okf_ok follows h Try.func22 ?_
  kernel_rfl
def keybox_Box_Gen.A : Ann := .no
def keybox_Box_Gen.P (p0 : Addr) (w : World) (K : Int × Unit → World → Prop) : Prop :=
  LoadS w (p0.add 8) (.int .u64) fun (x1 : Int) =>
  K (x1, ()) w
theorem keybox_Box_Gen.vc (p0 : Addr) (w : World) (K : Int × Unit → World → Prop) (h : keybox_Box_Gen.P p0 w K) : CallV Try.prog 23 #[.pointer (some p0)] w [.one (.int .u64)] K := by
  refine vcFun.of (A := keybox_Box_Gen.A) (wr := false) okf_ok follows h Try.func23 ?_
  kernel_rfl
end Go.Proofs.Ytlpeoaphdmfjdaa.Vc
/-! The contracts of keybox (layer 20). -/
namespace Go.Proofs.Ytlpeoaphdmfjdaa.Vc
open Go Go.Eng Go.RowKit
abbrev blv (l : List Bool) : List Value := l.map Value.bool
abbrev kPre (p : Nat) (g : Geo) (B : KB) : List Value := [.pointer (some ⟨p, 0, none⟩), .int .i64 g.b, .int .i64 g.p, .int .i64 g.s, .int .i64 g.sp, .int .i64 g.wr, .int .i64 g.ro, .int .i64 B.cu, .int .u64 B.ge]
abbrev kbV (p : Nat) (g : Geo) (B : KB) : List Value := kPre p g B ++ (blv B.cl ++ (blv B.bd ++ blv B.lk))
abbrev boxK (kb p : Nat) (g : Geo) (B : KB) : Asr := BoxA kb 124 (kbV p g B)
abbrev kbS (kb p : Nat) (g : Geo) (B : KB) (Rs : List Asr) : List Asr := boxK kb p g B :: chipH p B.C B.hf :: Rs
theorem blv_set (l : List Bool) (i : Nat) (v : Bool) : (blv l).take i ++ ([Value.bool v] ++ (blv l).drop (i + 1)) = if i < l.length then blv (l.set i v) else (blv l).take i ++ ([Value.bool v] ++ (blv l).drop (i + 1)) := by
  split
  · rename_i h
    unfold blv
    rw [List.map_set, List.set_eq_take_append_cons_drop, if_pos (by simpa using h)]
    rfl
  · rfl
section
variable {E : Nat → Prop} {w0 w : World} {Rs : List Asr} {kb p : Nat} {g : Geo} {B : KB} {k : Int}
theorem kb_set {pre post : List Value} {l : List Bool} {v : Bool} {o : Nat} {b : Nat} {e : TypeId} (S : Sep E w0 w (BoxA b e (pre ++ (blv l ++ post)) :: Rs)) (ho : o = pre.length) (hl : l.length = 4) (hk : 0 ≤ k ∧ k < 4) {K : World → Prop}
    (hK : ∀ w', Sep E w0 w' (BoxA b e (pre ++ (blv (l.set k.toNat v) ++ post)) :: Rs) → Fr (fun i => i = b) w w' → K w') : StoreV w ((⟨b, o, none⟩ : Addr).add (k.toNat * 1)) [.bool v] K := by
  rw [Nat.mul_one]
  refine S.stM 0 k.toNat rfl ho (by rw [List.length_map]; show _ + 1 ≤ _; omega) fun w' S f => hK w' ?_ f
  have := blv_set l k.toNat v
  rw [if_pos (by omega)] at this
  rw [← this]
  exact S
theorem kb_get {pre post : List Value} {l : List Bool} {o : Nat} {b : Nat} {e : TypeId} (S : Sep E w0 w (BoxA b e (pre ++ (blv l ++ post)) :: Rs)) (ho : o = pre.length) (hl : l.length = 4) (hk : 0 ≤ k ∧ k < 4) {K : Bool → Prop} (hK : K (l.getD k.toNat false)) : LoadS w ((⟨b, o, none⟩ : Addr).add (k.toNat * 1)) .bool K := by
  rw [Nat.mul_one]
  refine S.ldM 0 k.toNat rfl ho (v := .bool (l.getD k.toNat false)) ?_ (h := .bool) rfl hK
  have hi : k.toNat < l.length := by omega
  rw [List.getElem?_map, some_getD (d := false) hi]
  rfl
theorem kb_cl {v : Bool} (S : Sep E w0 w (boxK kb p g B :: Rs)) (hl : B.cl.length = 4) (hk : 0 ≤ k ∧ k < 4) {K : World → Prop} (hK : ∀ w', Sep E w0 w' (boxK kb p g { B with cl := B.cl.set k.toNat v } :: Rs) → Fr (fun i => i = kb) w w' → K w') :
    StoreV w (((⟨kb, 0, none⟩ : Addr).add 9).add (k.toNat * 1)) [.bool v] K := kb_set (pre := kPre p g B) S rfl hl hk hK
theorem kb_bd {v : Bool} (S : Sep E w0 w (boxK kb p g B :: Rs)) (hc : B.cl.length = 4) (hl : B.bd.length = 4) (hk : 0 ≤ k ∧ k < 4) {K : World → Prop} (hK : ∀ w', Sep E w0 w' (boxK kb p g { B with bd := B.bd.set k.toNat v } :: Rs) → Fr (fun i => i = kb) w w' → K w') :
    StoreV w (((⟨kb, 0, none⟩ : Addr).add 13).add (k.toNat * 1)) [.bool v] K := by
  have S : Sep E w0 w (BoxA kb 124 ((kPre p g B ++ blv B.cl) ++ (blv B.bd ++ blv B.lk)) :: Rs) := by rw [List.append_assoc]; exact S
  refine kb_set S (by rw [List.length_append, List.length_map, hc]; rfl) hl hk fun w' S f => hK w' ?_ f
  rw [List.append_assoc] at S
  exact S
theorem kb_lk {v : Bool} (S : Sep E w0 w (boxK kb p g B :: Rs)) (hc : B.cl.length = 4) (hb : B.bd.length = 4) (hl : B.lk.length = 4) (hk : 0 ≤ k ∧ k < 4) {K : World → Prop} (hK : ∀ w', Sep E w0 w' (boxK kb p g { B with lk := B.lk.set k.toNat v } :: Rs) → Fr (fun i => i = kb) w w' → K w') :
    StoreV w (((⟨kb, 0, none⟩ : Addr).add 17).add (k.toNat * 1)) [.bool v] K := by
  have S : Sep E w0 w (BoxA kb 124 ((kPre p g B ++ (blv B.cl ++ blv B.bd)) ++ (blv B.lk ++ [])) :: Rs) := by rw [List.append_nil, List.append_assoc, List.append_assoc]; exact S
  refine kb_set S (by rw [List.length_append, List.length_append, List.length_map, List.length_map, hc, hb]; rfl) hl hk fun w' S f => hK w' ?_ f
  rw [List.append_nil, List.append_assoc, List.append_assoc] at S
  exact S
theorem kb_gc (S : Sep E w0 w (boxK kb p g B :: Rs)) (hl : B.cl.length = 4) (hk : 0 ≤ k ∧ k < 4) {K : Bool → Prop} (hK : K (B.c k)) : LoadS w (((⟨kb, 0, none⟩ : Addr).add 9).add (k.toNat * 1)) .bool K := kb_get (pre := kPre p g B) S rfl hl hk hK
theorem kb_gb (S : Sep E w0 w (boxK kb p g B :: Rs)) (hc : B.cl.length = 4) (hl : B.bd.length = 4) (hk : 0 ≤ k ∧ k < 4) {K : Bool → Prop} (hK : K (B.b k)) : LoadS w (((⟨kb, 0, none⟩ : Addr).add 13).add (k.toNat * 1)) .bool K := by
  have S : Sep E w0 w (BoxA kb 124 ((kPre p g B ++ blv B.cl) ++ (blv B.bd ++ blv B.lk)) :: Rs) := by rw [List.append_assoc]; exact S
  exact kb_get S (by rw [List.length_append, List.length_map, hc]; rfl) hl hk hK
theorem kb_gl (S : Sep E w0 w (boxK kb p g B :: Rs)) (hc : B.cl.length = 4) (hb : B.bd.length = 4) (hl : B.lk.length = 4) (hk : 0 ≤ k ∧ k < 4) {K : Bool → Prop} (hK : K (B.l k)) : LoadS w (((⟨kb, 0, none⟩ : Addr).add 17).add (k.toNat * 1)) .bool K := by
  have S : Sep E w0 w (BoxA kb 124 ((kPre p g B ++ (blv B.cl ++ blv B.bd)) ++ (blv B.lk ++ [])) :: Rs) := by rw [List.append_nil, List.append_assoc, List.append_assoc]; exact S
  exact kb_get S (by rw [List.length_append, List.length_append, List.length_map, List.length_map, hc, hb]; rfl) hl hk hK
theorem destroy20_c (h : KI g B) (ho : B.C.ops + 2 ≤ 1000000) (hk : 0 ≤ k ∧ k < 4) (S : Sep E w0 w (kbS kb p g B Rs)) :
    CallV Try.prog 103 #[.pointer (some ⟨kb, 0, none⟩), .int .i64 k] w [.one (.int .i64)] fun r w' => r.1 = (dsK B k).2 ∧ Sep E w0 w' (kbS kb p g (dsK B k).1 Rs) := by
  apply keybox_Box_destroy.vc
  unfold keybox_Box_destroy.P
  obtain ⟨o1, o2, o3⟩ := eraC_ok h.ok k (by omega)
  refine S.ld0 (j := 0) rfl rfl ?_
  refine (Erase_h h.ok S.up1).mono ?_
  rintro ⟨(e : Int), ⟨⟩⟩ w1 ⟨h1, S⟩
  dsimp only at h1 ⊢
  subst h1
  have S := S.up1
  refine cond_eq (fun (h0 : (eraC B.C k).2 = 0) => ?_) (fun (h0 : (eraC B.C k).2 ≠ 0) => ?_)
  · have hd : dsK B k = ({ B with C := (eraC B.C k).1, cl := B.cl.set k.toNat true, lk := B.lk.set k.toNat false }, 0) := by unfold dsK; rw [if_neg (by omega), if_pos h0]
    refine S.regX (fun i => i = kb) fun D hD hkeep S T => ⟨hk, ?_⟩
    refine kb_cl (B := { B with C := (eraC B.C k).1 }) S h.cl hk fun w2 S f2 => ⟨hkeep _ f2, hk, ?_⟩
    refine kb_lk S (by rw [List.length_set]; exact h.cl) h.bd h.lk hk fun w3 S f3 => ⟨hkeep _ (f2.trans f3), ?_⟩
    refine cond_t (by rw [h0]; rfl) ?_
    rw [hd]
    exact ⟨h0, S⟩
  refine cond_ne (fun (h5 : (eraC B.C k).2 ≠ 5) => ?_) (fun (h5 : (eraC B.C k).2 = 5) => ?_)
  · have hd : dsK B k = ({ B with C := (eraC B.C k).1 }, (eraC B.C k).2) := by unfold dsK; rw [if_neg h5, if_neg h0]
    rw [hd]
    exact ⟨rfl, S⟩
  refine S.regX (fun i => i = kb) fun D hD hkeep S T => ⟨hk, ?_⟩
  refine kb_bd (B := { B with C := (eraC B.C k).1 }) S h.cl h.bd hk fun w2 S f2 => ⟨hkeep _ f2, hk, ?_⟩
  refine kb_cl S h.cl hk fun w3 S f3 => ⟨hkeep _ (f2.trans f3), ?_⟩
  refine S.ld0 (j := 0) rfl rfl ?_
  refine (Scrub_h o1 S.up1).mono ?_
  rintro ⟨(e : Int), ⟨⟩⟩ w4 ⟨h4, S⟩
  dsimp only at h4 ⊢
  subst h4
  have S := S.up1
  refine cond_eq (fun (h4 : (scrC (eraC B.C k).1 k).2 = 4) => ?_) (fun (h4 : (scrC (eraC B.C k).1 k).2 ≠ 4) => ?_)
  · have hd : dsK B k = ({ B with C := (scrC (eraC B.C k).1 k).1, bd := B.bd.set k.toNat true, cl := B.cl.set k.toNat false, hf := B.hf || (decide (mayC (eraC B.C k).1 k = 0) && (scrC (eraC B.C k).1 k).2 != 0) }, 4) := by unfold dsK; rw [if_pos h5, if_pos h4]
    rw [hd]
    exact ⟨h4, S⟩
  · have hd : dsK B k = ({ B with C := (scrC (eraC B.C k).1 k).1, bd := B.bd.set k.toNat true, cl := B.cl.set k.toNat false, lk := B.lk.set k.toNat ((scrC (eraC B.C k).1 k).2 != 0), hf := B.hf || (decide (mayC (eraC B.C k).1 k = 0) && (scrC (eraC B.C k).1 k).2 != 0) }, 5) := by unfold dsK; rw [if_pos h5, if_neg h4]
    refine ⟨hk, kb_lk (B := { B with C := (scrC (eraC B.C k).1 k).1, bd := B.bd.set k.toNat true, cl := B.cl.set k.toNat false }) S (by rw [List.length_set]; exact h.cl) (by rw [List.length_set]; exact h.bd) h.lk hk fun w5 S f5 => ?_⟩
    rw [hd]
    exact ⟨rfl, S⟩
end
end Go.Proofs.Ytlpeoaphdmfjdaa.Vc
/-! The contracts of keybox (layer 20): a record written. -/
namespace Go.Proofs.Ytlpeoaphdmfjdaa.Vc
open Go Go.Eng Go.RowKit
abbrev pgP (y : SlP (SlP Int)) (Rs : List Asr) : List Asr := OwnA 56 1 y.a y.n y.c (y.l.map slV) :: RdL y.l :: Rs
theorem comL_byt20 (g : Geo) : Byt (comL g) := by
  unfold comL
  exact (Byt.replicate (by decide) (by decide) _).append (Byt.replicate (by decide) (by decide) _)
theorem comL_len20 (g : Geo) : (comL g).length = (g.s + 80).toNat + 8 := by unfold comL; rw [List.length_append, List.length_replicate, List.length_replicate]
section
variable {E : Nat → Prop} {w0 w : World} {Rs : List Asr} {kb p : Nat} {g : Geo} {B : KB} {k : Int} {y : SlP (SlP Int)}
theorem write20_c (h : KI g B) (hy : ∀ x ∈ y.l, x.n ≤ 100000) (hyn : y.n ≤ 100) (ho : B.C.ops + y.n + 1 ≤ 1000000) (S : Sep E w0 w (kbS kb p g B (pgP y Rs))) :
    CallV Try.prog 104 #[.pointer (some ⟨kb, 0, none⟩), .int .i64 k, .slice y.a y.n y.c] w [.one (.int .i64)] fun r w' => r.1 = (wrK B.C k (y.l.map (·.l))).2 ∧ Sep E w0 w' (kbS kb p g { B with C := (wrK B.C k (y.l.map (·.l))).1 } (pgP y Rs)) := by
  apply keybox_Box_write.vc
  unfold keybox_Box_write.P
  have hR : Right g := by have := h.ok.g; rwa [h.gg] at this
  have hyl : y.l.length = y.n := by have := (S.own 2 rfl).len; simpa using this
  have hbt : ∀ x ∈ y.l, Byt x.l := fun x hx => by
    obtain ⟨G, hG, -⟩ := S.get (i := 3) rfl
    exact Ty.byt (hG x hx)
  generalize hX : wrPg k (y.l.map (·.l)) 0 B.C = X
  refine Loop1 (fun (v : Int × Unit) w' => ∃ (i : Nat) (C : CD), v.1 = (i : Int) ∧ i ≤ y.n ∧ COk C ∧ C.g = g ∧ C.pl = B.C.pl ∧ C.ops ≤ B.C.ops + i ∧ wrPg k ((y.l.drop i).map (·.l)) (i : Int) C = X ∧ Sep E w0 w' (kbS kb p g { B with C := C } (pgP y Rs))) (fun (v : Int × Unit) _ => ((y.n : Int) - v.1).toNat)
    ⟨0, B.C, rfl, by omega, h.ok, h.gg, rfl, by omega, hX, S⟩ ?_
  clear S
  rintro ⟨(v : Int), ⟨⟩⟩ w2 ⟨i, C, hv, hi, hC, hg, hpl, hops, hw, S⟩
  dsimp only at hv
  subst hv
  refine cond_d (fun hlt => ?_) (fun hge => ?_)
  · obtain ⟨q, x, hq, hx, hc, hr, -, -⟩ := TBB_nth (lst_rd (S.fro [2, 2] rfl)) (i := (i : Int)) (by omega) hlt
    have hx' : y.l[i]? = some x := by rw [Int.toNat_natCast] at hx; exact hx
    have hi' : i < y.l.length := by omega
    have hdrop : y.l.drop i = x :: y.l.drop (i + 1) := by
      rw [List.drop_eq_getElem_cons hi']
      congr 1
      exact (List.getElem?_eq_some_iff.1 hx').2
    rw [hdrop, List.map_cons] at hw
    unfold wrPg at hw
    have hm := List.mem_of_getElem? hx'
    refine ⟨⟨by omega, hlt⟩, q, hq, ldp0 hc (h := .sl) (x := ⟨x.a, x.n, x.c⟩) rfl (S.ld0 (j := 0) rfl rfl ?_)⟩
    refine (Program_hL (bl := k) (pa := (i : Int)) (dd := x) hC (hy x hm) hm (S.fro [1, 2] rfl)).mono ?_
    rintro ⟨(e : Int), ⟨⟩⟩ w3 ⟨h3, S⟩
    dsimp only at h3 ⊢
    subst h3
    have S := S.fro [2, 0, 1] rfl
    refine cond_ne (fun (hne : (progC C k (i : Int) x.l).2 ≠ 0) => ?_) (fun (h0 : (progC C k (i : Int) x.l).2 = 0) => ?_)
    · rw [if_neg hne] at hw
      have hk : wrK B.C k (y.l.map (·.l)) = progC C k (i : Int) x.l := by unfold wrK; rw [hX, ← hw, if_neg hne]
      rw [hk]
      exact ⟨rfl, S⟩
    · rw [if_pos h0] at hw
      obtain ⟨a1, a2, a3⟩ := progC_ok hC k (i : Int) (hbt x hm) (by omega)
      obtain ⟨b1, b2⟩ := progC_k C k (i : Int) x.l
      exact ⟨Rng.i64 (by omega) (by omega), ⟨i + 1, _, by push_cast; rfl, by omega, a1, b1.trans hg, b2.trans hpl, by omega, by push_cast; exact hw, S⟩, by omega⟩
  have hiy : i = y.n := by omega
  subst hiy
  rw [List.drop_eq_nil_of_le (by omega), List.map_nil] at hw
  have hw : (C, (0 : Int)) = X := hw
  refine S.lb0 (o := 1) rfl ?_
  refine (PCommit_c (g := g)).mono ?_
  rintro ⟨⟨va, vn, vc⟩, (e : Int), ⟨⟩⟩ w3 ⟨x3, h3, -⟩
  dsimp only at h3 ⊢
  obtain ⟨r3, h3⟩ := h3 hR
  subst h3
  refine cond_f rfl ?_
  have S := res_rdL S r3 (comL_byt20 g)
  have hvn : vn ≤ 100000 := by have h8 := r3.own.ints.len; have h9 := comL_len20 g; have h7 := hR.sec; dsimp only at h8; omega
  refine S.ld1 (j := 0) rfl rfl ⟨Rng.i64 (by omega) (by omega), ?_⟩
  refine (Program_h (bl := k) (pa := (y.n : Int) - 1) (dd := ⟨va, vn, vc, comL g⟩) hC hvn (S.fro [2] rfl)).mono ?_
  rintro ⟨(e : Int), ⟨⟩⟩ w4 ⟨h4, S⟩
  dsimp only at h4 S ⊢
  subst h4
  have hk : wrK B.C k (y.l.map (·.l)) = progC C k ((y.n : Int) - 1) (comL g) := by
    unfold wrK
    rw [hX, ← hw, if_pos rfl, List.length_map, hyl, h.gg]
  rw [hk]
  exact ⟨rfl, (S.fro [1] rfl).tail.fro [1] rfl⟩
theorem ty20_c (h : KI g B) (hk : 0 ≤ k ∧ k < 4) (hy : ∀ x ∈ y.l, x.n ≤ 100000) (hyn : y.n ≤ 100) (ho : B.C.ops + y.n + 5 ≤ 1000000) (S : Sep E w0 w (kbS kb p g B (pgP y Rs))) :
    CallV Try.prog 63 #[.pointer (some ⟨kb, 0, none⟩), .int .i64 k, .slice y.a y.n y.c] w [.one (.int .i64)] fun r w' => r.1 = (tyK B k (y.l.map (·.l))).2 ∧ Sep E w0 w' (kbS kb p g (tyK B k (y.l.map (·.l))).1 (pgP y Rs)) := by
  apply keybox_Box_try.vc
  unfold keybox_Box_try.P
  have hyl : y.l.length = y.n := by have := (S.own 2 rfl).len; simpa using this
  have hbt : ∀ x ∈ y.l.map (·.l), Byt x := fun z hz => by
    obtain ⟨x, hx, rfl⟩ := List.mem_map.1 hz
    obtain ⟨G, hG, -⟩ := S.get (i := 3) rfl
    exact Ty.byt (hG x hx)
  refine ⟨hk, kb_gc S h.cl hk ?_⟩
  refine cond_of (fun hc => ?_) (fun hc => ?_)
  · have hc' : B.c k = false := by simpa using hc
    refine (destroy20_c h (by omega) hk S).mono ?_
    rintro ⟨(e : Int), ⟨⟩⟩ w3 ⟨h3, S⟩
    dsimp only at h3 ⊢
    subst h3
    obtain ⟨a1, a2, a3, a4⟩ := h.ds k (by omega)
    have ht : tyK B k (y.l.map (·.l)) = if (dsK B k).2 = 0 then ty2K (dsK B k).1 k (y.l.map (·.l)) else dsK B k := by unfold tyK; rw [if_neg (by rw [hc']; simp)]
    rw [ht]
    refine cond_ne (fun (hne : (dsK B k).2 ≠ 0) => by rw [if_neg hne]; exact ⟨rfl, S⟩) (fun (h0 : (dsK B k).2 = 0) => ?_)
    rw [if_pos h0]
    generalize (dsK B k).1 = B at a1 a2 a3 S ⊢
    clear ht h0 hc hc' a3 a4
    have ho : B.C.ops + y.n + 3 ≤ 1000000 := by omega
    have h := a1
    clear a1 a2
    refine ⟨hk, kb_cl S h.cl hk fun w4 S f4 => ?_⟩
    have h1 : KI g { B with cl := B.cl.set k.toNat false } := ⟨h.ok, h.gg, h.cu, by rw [List.length_set]; exact h.cl, h.bd, h.lk⟩
    refine (write20_c (k := k) h1 hy hyn (by dsimp only; omega) S).mono ?_
    rintro ⟨(e : Int), ⟨⟩⟩ w5 ⟨h5, S⟩
    dsimp only at h5 S ⊢
    subst h5
    obtain ⟨c1, c2, c3, c4, c5⟩ := wrK_ok h.ok k hbt (by rw [List.length_map, hyl]; omega)
    rw [List.length_map, hyl] at c4
    unfold ty2K
    refine cond_eq (fun (h0 : (wrK B.C k (y.l.map (·.l))).2 = 0) => by rw [if_pos (.inl h0)]; exact ⟨rfl, S⟩) (fun (h0 : (wrK B.C k (y.l.map (·.l))).2 ≠ 0) => ?_)
    refine cond_eq (fun (h4 : (wrK B.C k (y.l.map (·.l))).2 = 4) => by rw [if_pos (.inr h4)]; exact ⟨rfl, S⟩) (fun (h4 : (wrK B.C k (y.l.map (·.l))).2 ≠ 4) => ?_)
    rw [if_neg (fun x => x.elim h0 h4)]
    refine ⟨hk, kb_bd S (by rw [List.length_set]; exact h.cl) h.bd hk fun w6 S f6 => ?_⟩
    have h2 : KI g { B with C := (wrK B.C k (y.l.map (·.l))).1, cl := B.cl.set k.toNat false, bd := B.bd.set k.toNat true } := ⟨c1, c2.trans h.gg, h.cu, by rw [List.length_set]; exact h.cl, by rw [List.length_set]; exact h.bd, h.lk⟩
    refine (destroy20_c h2 (by dsimp only; omega) hk S).mono ?_
    rintro ⟨(e : Int), ⟨⟩⟩ w7 ⟨h7, S⟩
    dsimp only at h7 S ⊢
    subst h7
    refine cond_eq (fun h4 => ?_) (fun h4 => ?_)
    · exact ⟨h4.trans (if_pos h4).symm, S⟩
    · exact ⟨(if_neg h4).symm, S⟩
  · have hc' : B.c k = true := by simpa using hc
    have ht : tyK B k (y.l.map (·.l)) = ty2K B k (y.l.map (·.l)) := by unfold tyK; rw [if_pos hc']
    rw [ht]
    have ho : B.C.ops + y.n + 3 ≤ 1000000 := by omega
    refine ⟨hk, kb_cl S h.cl hk fun w4 S f4 => ?_⟩
    have h1 : KI g { B with cl := B.cl.set k.toNat false } := ⟨h.ok, h.gg, h.cu, by rw [List.length_set]; exact h.cl, h.bd, h.lk⟩
    refine (write20_c (k := k) h1 hy hyn (by dsimp only; omega) S).mono ?_
    rintro ⟨(e : Int), ⟨⟩⟩ w5 ⟨h5, S⟩
    dsimp only at h5 S ⊢
    subst h5
    obtain ⟨c1, c2, c3, c4, c5⟩ := wrK_ok h.ok k hbt (by rw [List.length_map, hyl]; omega)
    rw [List.length_map, hyl] at c4
    unfold ty2K
    refine cond_eq (fun (h0 : (wrK B.C k (y.l.map (·.l))).2 = 0) => by rw [if_pos (.inl h0)]; exact ⟨rfl, S⟩) (fun (h0 : (wrK B.C k (y.l.map (·.l))).2 ≠ 0) => ?_)
    refine cond_eq (fun (h4 : (wrK B.C k (y.l.map (·.l))).2 = 4) => by rw [if_pos (.inr h4)]; exact ⟨rfl, S⟩) (fun (h4 : (wrK B.C k (y.l.map (·.l))).2 ≠ 4) => ?_)
    rw [if_neg (fun x => x.elim h0 h4)]
    refine ⟨hk, kb_bd S (by rw [List.length_set]; exact h.cl) h.bd hk fun w6 S f6 => ?_⟩
    have h2 : KI g { B with C := (wrK B.C k (y.l.map (·.l))).1, cl := B.cl.set k.toNat false, bd := B.bd.set k.toNat true } := ⟨c1, c2.trans h.gg, h.cu, by rw [List.length_set]; exact h.cl, by rw [List.length_set]; exact h.bd, h.lk⟩
    refine (destroy20_c h2 (by dsimp only; omega) hk S).mono ?_
    rintro ⟨(e : Int), ⟨⟩⟩ w7 ⟨h7, S⟩
    dsimp only at h7 S ⊢
    subst h7
    refine cond_eq (fun h4 => ?_) (fun h4 => ?_)
    · exact ⟨h4.trans (if_pos h4).symm, S⟩
    · exact ⟨(if_neg h4).symm, S⟩
theorem others20_c (h : KI g B) (ho : B.C.ops + 8 ≤ 1000000) (S : Sep E w0 w (kbS kb p g B Rs)) :
    CallV Try.prog 64 #[.pointer (some ⟨kb, 0, none⟩)] w [.one (.int .i64)] fun r w' => r.1 = (otK 4 B).2 ∧ Sep E w0 w' (kbS kb p g (otK 4 B).1 Rs) := by
  apply keybox_Box_others.vc
  unfold keybox_Box_others.P
  generalize hX : otK 4 B = X
  refine Loop1 (fun (v : Int × Unit) w' => ∃ (n : Nat) (B : KB), v.1 = 4 - (n : Int) ∧ n ≤ 4 ∧ KI g B ∧ B.C.ops + 2 * n ≤ 1000000 ∧ otK n B = X ∧ Sep E w0 w' (kbS kb p g B Rs)) (fun (v : Int × Unit) _ => (4 - v.1).toNat) ⟨4, B, rfl, by omega, h, by omega, hX, S⟩ ?_
  clear S h hX ho
  rintro ⟨(v : Int), ⟨⟩⟩ w2 ⟨n, B, hv, hn, h, ho, hX, S⟩
  dsimp only at hv
  subst hv
  refine cond_d (fun hlt => ?_) (fun hge => ?_)
  case refine_2 =>
    have : n = 0 := by omega
    subst this
    rw [← hX]
    exact ⟨rfl, S⟩
  obtain ⟨n, rfl⟩ : ∃ m, n = m + 1 := ⟨n - 1, by omega⟩
  have e : (4 : Int) - ((n + 1 : Nat) : Int) = 3 - n := by push_cast; omega
  rw [e]
  unfold otK at hX
  have hk : 0 ≤ (3 : Int) - n ∧ (3 : Int) - n < 4 := by omega
  have nxt : ∀ {w' : World} {B' : KB}, KI g B' → B'.C.ops ≤ B.C.ops + 2 → otK n B' = X → Sep E w0 w' (kbS kb p g B' Rs) → Rng .i64 ((3 : Int) - n + 1) ∧ (∃ (m : Nat) (B : KB), (3 : Int) - n + 1 = 4 - (m : Int) ∧ m ≤ 4 ∧ KI g B ∧ B.C.ops + 2 * m ≤ 1000000 ∧ otK m B = X ∧ Sep E w0 w' (kbS kb p g B Rs)) ∧ (4 - ((3 : Int) - n + 1)).toNat < (4 - ((3 : Int) - n)).toNat :=
    fun h1 h2 h3 S => ⟨Rng.i64 (by omega) (by omega), ⟨n, _, by omega, by omega, h1, by omega, h3, S⟩, by omega⟩
  have skip : skK B (3 - n) → Rng .i64 ((3 : Int) - n + 1) ∧ (∃ (m : Nat) (B : KB), (3 : Int) - n + 1 = 4 - (m : Int) ∧ m ≤ 4 ∧ KI g B ∧ B.C.ops + 2 * m ≤ 1000000 ∧ otK m B = X ∧ Sep E w0 w2 (kbS kb p g B Rs)) ∧ (4 - ((3 : Int) - n + 1)).toNat < (4 - ((3 : Int) - n)).toNat :=
    fun hs => nxt h (by omega) (by rw [if_pos hs] at hX; exact hX) S
  refine S.ld0 (j := 7) rfl rfl (cond_eq (fun hcu => skip (.inl hcu)) (fun hcu => ?_))
  refine ⟨hk, kb_gc S h.cl hk (cond_of (fun hc => skip (.inr (.inl hc))) (fun hc => ?_))⟩
  refine ⟨hk, kb_gb S h.cl h.bd hk (cond_of (fun hb => ?_) (fun hb => ?_))⟩
  · refine ⟨hk, kb_gl S h.cl h.bd h.lk hk (cond_of (fun hl => skip (.inr (.inr ⟨hb, by simpa using hl⟩))) (fun hl => ?_))⟩
    have hs : ¬ skK B (3 - n) := fun x => x.elim hcu fun x => x.elim (fun y => by rw [hc] at y; cases y) fun y => by rw [y.2] at hl; cases hl
    rw [if_neg hs] at hX
    refine (destroy20_c h (by omega) hk S).mono ?_
    rintro ⟨(e : Int), ⟨⟩⟩ w5 ⟨h5, S⟩
    dsimp only at h5 ⊢
    subst h5
    obtain ⟨a1, a2, a3, a4⟩ := h.ds (3 - n) (by omega)
    refine cond_eq (fun (h4 : (dsK B (3 - n)).2 = 4) => ?_) (fun (h4 : (dsK B (3 - n)).2 ≠ 4) => ?_)
    · rw [if_pos h4] at hX
      rw [← hX]
      exact ⟨rfl, S⟩
    · rw [if_neg h4] at hX
      exact nxt a1 a2 hX S
  · have hs : ¬ skK B (3 - n) := fun x => x.elim hcu fun x => x.elim (fun y => by rw [hc] at y; cases y) fun y => by rw [y.1] at hb; cases hb
    rw [if_neg hs] at hX
    refine (destroy20_c h (by omega) hk S).mono ?_
    rintro ⟨(e : Int), ⟨⟩⟩ w5 ⟨h5, S⟩
    dsimp only at h5 ⊢
    subst h5
    obtain ⟨a1, a2, a3, a4⟩ := h.ds (3 - n) (by omega)
    refine cond_eq (fun (h4 : (dsK B (3 - n)).2 = 4) => ?_) (fun (h4 : (dsK B (3 - n)).2 ≠ 4) => ?_)
    · rw [if_pos h4] at hX
      rw [← hX]
      exact ⟨rfl, S⟩
    · rw [if_neg h4] at hX
      exact nxt a1 a2 hX S
end
end Go.Proofs.Ytlpeoaphdmfjdaa.Vc
/-! The contracts of keybox (layer 20): Commit. -/
namespace Go.Proofs.Ytlpeoaphdmfjdaa.Vc
open Go Go.Eng Go.RowKit
section
variable {E : Nat → Prop} {w0 w : World} {Rs : List Asr} {kb p : Nat} {g : Geo} {B : KB} {k : Int}
theorem pgL_len20 {g : Geo} (h : Right g) {rec : List Int} (hr : rec.length = 624) {gen : Int} {i : Nat} (hi : i < (nCh g).toNat) : (pgOf g rec gen i).length = g.s.toNat + 88 := by
  have hs := h.sec
  have hc := chk_length h hr hi
  unfold pgOf mkL payL
  rw [List.length_append, endL_length _ (.inl rfl), if_neg (by omega), hc]
theorem pages_few {g : Geo} (h : Right g) {rec : List Int} (hr : rec.length = 624) {gen : Int} {y : SlP (SlP Int)} (e : y.l.map (·.l) = pagesL g rec gen) {w : World} (hy : TBB.rd w All y) : (∀ x ∈ y.l, x.n ≤ 100000) ∧ y.n = (nCh g).toNat ∧ y.n ≤ 32 := by
  have hl : y.l.length = y.n := hy.1
  have hn := (nCh_bd h)
  have e1 := congrArg List.length e
  rw [List.length_map, pagesL_length] at e1
  refine ⟨fun x hx => ?_, by omega, by omega⟩
  have hx2 := (hy.2.2.2.2 x hx).1
  have hm : x.l ∈ pagesL g rec gen := by rw [← e]; exact List.mem_map.2 ⟨x, hx, rfl⟩
  obtain ⟨i, hi, e2⟩ := List.mem_map.1 hm
  have hi := List.mem_range.1 hi
  have := pgL_len20 h hr hi (gen := gen)
  rw [e2] at this
  have h7 := h.sec
  omega
theorem Commit20_c {a : Option Addr} {n c : Nat} {gen : Int} {rec : List Int} (h : KI g B) (hx : Ints w .u8 a n c rec) (br : Byt rec) (hgen : 0 ≤ gen ∧ gen < 18446744073709551616) (ho : B.C.ops + 200 ≤ 1000000) (S : Sep E w0 w (kbS kb p g B Rs)) :
    CallV Try.prog 21 #[.pointer (some ⟨kb, 0, none⟩), .slice a n c, .int .u64 gen] w [.one (.int .i64)] fun r w' => r.1 = (coK B rec gen).2 ∧ Sep E w0 w' (kbS kb p g (coK B rec gen).1 Rs) := by
  apply keybox_Box_Commit.vc
  unfold keybox_Box_Commit.P
  have hR : Right g := by have := h.ok.g; rwa [h.gg] at this
  have hln : rec.length = n := hx.len
  refine S.ld0 (j := 0) rfl rfl ?_
  refine (On_e h.ok (chipH_E S.up1)).mono ?_
  rintro ⟨(r : Bool), ⟨⟩⟩ w1 ⟨h1, rfl⟩
  dsimp only at h1 ⊢
  subst h1
  cases hoff : B.C.off
  case true =>
    refine cond_t rfl ?_
    have e : coK B rec gen = (B, 4) := by unfold coK; rw [if_pos hoff]
    rw [e]
    exact ⟨rfl, S⟩
  refine cond_f rfl ?_
  refine S.lb0 (o := 1) rfl ?_
  refine (Pages_c (g := g) hx br hgen).mono ?_
  rintro ⟨⟨ya, yn, yc⟩, (e : Int), ⟨⟩⟩ w2 ⟨e2, hno, hyes⟩
  dsimp only at hno hyes ⊢
  by_cases h624 : n = 624
  case neg =>
    obtain ⟨-, h2⟩ := hno (fun x => h624 x.2)
    subst h2
    have e : coK B rec gen = (B, 2) := by unfold coK; rw [if_neg (by rw [hoff]; simp), if_neg (by omega)]
    rw [e]
    exact cond_t rfl ⟨rfl, S.stepE e2⟩
  obtain ⟨h0, y, hy, hl, T⟩ := hyes ⟨hR, h624⟩
  subst h0
  refine cond_f rfl ?_
  have hyy : (⟨ya, yn, yc⟩ : SlV) = ⟨y.a, y.n, y.c⟩ := hy
  rw [SlV.mk.injEq] at hyy
  obtain ⟨rfl, rfl, rfl⟩ := hyy
  obtain ⟨f1, f2, f3⟩ := pages_few hR (by omega) hl (lst_rd T)
  have S := (S.frame0 T).fro [2, 2] rfl
  clear T hno hyes hy e2 hx
  have hX : coK B rec gen = cmK (y.l.map (·.l)) gen 4 B := by unfold coK; rw [if_neg (by rw [hoff]; simp), if_pos (by omega), h.gg, hl]
  have hbt : ∀ x ∈ y.l.map (·.l), Byt x := by rw [hl]; exact pagesL_byt hR br hgen
  have hll : (y.l.map (·.l)).length = y.n := by rw [hl, pagesL_length]; omega
  rw [hX]
  generalize hXX : cmK (y.l.map (·.l)) gen 4 B = X
  refine Loop1 (fun (v : Int × Unit) w' => ∃ (n : Nat) (B : KB), v.1 = 4 - (n : Int) ∧ n ≤ 4 ∧ KI g B ∧ B.C.ops + n * (y.n + 5) + 8 ≤ 1000000 ∧ cmK (y.l.map (·.l)) gen n B = X ∧ Sep E w0 w' (kbS kb p g B (pgP y Rs))) (fun (v : Int × Unit) _ => (4 - v.1).toNat) ⟨4, B, rfl, by omega, h, by omega, hXX, S⟩ ?_
  clear S h hX hXX ho hoff
  rintro ⟨(v : Int), ⟨⟩⟩ w2 ⟨n, B, hv, hn, h, ho, hX, S⟩
  dsimp only at hv
  subst hv
  refine cond_d (fun hlt => ?_) (fun hge => ?_)
  case refine_2 =>
    have : n = 0 := by omega
    subst this
    rw [← hX]
    exact ⟨rfl, (S.fro [2, 2] rfl).tail.tail⟩
  obtain ⟨n, rfl⟩ : ∃ m, n = m + 1 := ⟨n - 1, by omega⟩
  rw [Nat.add_mul, Nat.one_mul] at ho
  have e : (4 : Int) - ((n + 1 : Nat) : Int) = 3 - n := by push_cast; omega
  rw [e]
  unfold cmK at hX
  have hcu := h.cu
  have et : Int.tmod ((B.cu + 1) + (3 - (n : Int))) 4 = (B.cu + 1 + (3 - n)) % 4 := Int.tmod_eq_emod_of_nonneg (by omega)
  have hk : 0 ≤ (B.cu + 1 + (3 - n)) % 4 ∧ (B.cu + 1 + (3 - n)) % 4 < 4 := by omega
  refine S.ld0 (j := 7) rfl rfl ⟨Rng.i64 (by omega) (by omega), Rng.i64 (by omega) (by omega), by decide, S.ld0 (j := 7) rfl rfl ?_⟩
  rw [et]
  generalize (B.cu + 1 + (3 - n)) % 4 = k at hk hX ⊢
  have nxt : ∀ {w' : World} {B' : KB}, KI g B' → B'.C.ops ≤ B.C.ops + (y.n + 5) → cmK (y.l.map (·.l)) gen n B' = X → Sep E w0 w' (kbS kb p g B' (pgP y Rs)) → Rng .i64 ((3 : Int) - n + 1) ∧ (∃ (m : Nat) (B : KB), (3 : Int) - n + 1 = 4 - (m : Int) ∧ m ≤ 4 ∧ KI g B ∧ B.C.ops + m * (y.n + 5) + 8 ≤ 1000000 ∧ cmK (y.l.map (·.l)) gen m B = X ∧ Sep E w0 w' (kbS kb p g B (pgP y Rs))) ∧ (4 - ((3 : Int) - n + 1)).toNat < (4 - ((3 : Int) - n)).toNat :=
    fun h1 h2 h3 S => ⟨Rng.i64 (by omega) (by omega), ⟨n, _, by omega, by omega, h1, by omega, h3, S⟩, by omega⟩
  refine cond_eq (fun hc => nxt h (by omega) (by rw [if_pos (.inl hc)] at hX; exact hX) S) (fun hc => ?_)
  refine ⟨hk, kb_gb S h.cl h.bd hk (cond_of (fun hb => nxt h (by omega) (by rw [if_pos (.inr hb)] at hX; exact hX) S) (fun hb => ?_))⟩
  rw [if_neg (fun x => x.elim hc fun y => by rw [hb] at y; cases y)] at hX
  obtain ⟨a1, a2, a3, a4⟩ := h.ty k hbt (by rw [hll]; omega)
  rw [hll] at a2
  refine (ty20_c h hk f1 (by omega) (by omega) S).mono ?_
  rintro ⟨(e : Int), ⟨⟩⟩ w3 ⟨h3, S⟩
  dsimp only at h3 ⊢
  subst h3
  refine cond_eq (fun h0 => ?_) (fun h0 => ?_)
  · rw [if_pos h0] at hX
    refine S.su0 (j := 7) rfl fun w4 S f4 => S.su0 (j := 8) rfl fun w5 S f5 => ?_
    have h1 : KI g ((tyK B k (y.l.map (·.l))).1.at k gen) := ⟨a1.ok, a1.gg, by show -1 ≤ k ∧ k < 4; omega, a1.cl, a1.bd, a1.lk⟩
    have S : Sep E w0 w5 (kbS kb p g ((tyK B k (y.l.map (·.l))).1.at k gen) (pgP y Rs)) := S
    refine (others20_c h1 (by show (tyK B k (y.l.map (·.l))).1.C.ops + _ ≤ _; omega) S).mono ?_
    rintro ⟨(e : Int), ⟨⟩⟩ w6 ⟨h6, S⟩
    dsimp only at h6 ⊢
    rw [← hX]
    exact ⟨h6, (S.fro [2, 2] rfl).tail.tail⟩
  rw [if_neg h0] at hX
  refine cond_eq (fun h4 => ?_) (fun h4 => ?_)
  · rw [if_pos h4] at hX
    rw [← hX]
    exact ⟨rfl, (S.fro [2, 2] rfl).tail.tail⟩
  · rw [if_neg h4] at hX
    exact nxt a1 a2 hX S
end
end Go.Proofs.Ytlpeoaphdmfjdaa.Vc
/-! The contracts of keybox (layer 20): Open. -/
namespace Go.Proofs.Ytlpeoaphdmfjdaa.Vc
open Go Go.Eng Go.RowKit
def RdY (Y : List (SlP (SlP Int))) : Asr := ⟨fun w F => ∀ y ∈ Y, TBB.rd w F y, fun h k y hy => TBB.rd_kp (fun i hi _ => k i hi) (h y hy)⟩
theorem nilY {E : Nat → Prop} {w0 w : World} {Rs : List Asr} (S : Sep E w0 w Rs) : Sep E w0 w (RdY [] :: Rs) :=
  S.push (F := NoB) (Fr.refl _ _) (fun x hx => (List.not_mem_nil hx).elim) fun _ x => x.elim
theorem own_rdY {w : World} {F1 F2 : Nat → Prop} {e : TypeId} {a : Option Addr} {n c : Nat} {L : List (SlP Int)} (h : (OwnA e 1 a n c (L.map slV)).p w F1) (h2 : (RdL L).p w F2) : TBB.rd w (fun k => F1 k ∨ F2 k) ⟨a, n, c, L⟩ := by
  obtain ⟨ho, hF⟩ := h
  have hm := maxLen_eq
  refine ⟨by have := ho.len; simpa using this, ho.cap, by have := ho.lim; show n ≤ maxLen; omega, ?_, fun x hx => TB.rd_mono (fun k hk _ => .inr hk) (h2 x hx)⟩
  rw [show (L.flatMap TB.vs) = L.map slV from flat_sl L]
  rcases ho.rd with h | ⟨p, h1, h2⟩
  · exact .inl h
  · exact .inr ⟨p, h1, h2, fun _ => .inl (hF p h1)⟩
theorem addY {E : Nat → Prop} {w0 w : World} {Rs : List Asr} {e : TypeId} {a : Option Addr} {n c : Nat} {L : List (SlP Int)} {Y : List (SlP (SlP Int))} (S : Sep E w0 w (OwnA e 1 a n c (L.map slV) :: RdL L :: RdY Y :: Rs)) : Sep E w0 w (RdY (Y ++ [⟨a, n, c, L⟩]) :: Rs) := by
  have S := S.conv2 (R' := RdY [⟨a, n, c, L⟩]) fun F1 F2 h1 h2 _ x hx => by
    rw [List.mem_singleton.1 hx]
    exact own_rdY h1 h2
  exact S.conv2 fun F1 F2 h1 h2 _ x hx => by
    rcases List.mem_append.1 hx with h | h
    · exact TBB.rd_mono (fun k hk _ => .inr hk) (h2 x h)
    · exact TBB.rd_mono (fun k hk _ => .inl hk) (h1 x h)
theorem own_rdYY {E : Nat → Prop} {w0 w : World} {Rs : List Asr} {e : TypeId} {a : Option Addr} {n c : Nat} {Y : List (SlP (SlP Int))} (S : Sep E w0 w (OwnA e 1 a n c (Y.map slV2) :: RdY Y :: Rs)) : TBBB.rd w All ⟨a, n, c, Y⟩ := by
  obtain ⟨F, h, _⟩ := S.get (i := 1) rfl
  have ho := S.own 0 rfl
  have hm := maxLen_eq
  refine ⟨by have := ho.len; simpa using this, ho.cap, by have := ho.lim; show n ≤ maxLen; omega, .of ?_, fun y hy => TBB.rd_mono (fun _ _ _ => trivial) (h y hy)⟩
  rw [show (Y.flatMap TBB.vs) = Y.map slV2 from by
    clear h ho S
    induction Y with
    | nil => rfl
    | cons x L ih => rw [List.flatMap_cons, ih]; rfl]
  exact ho.rd
def bpK (C : CD) (k : Int) (n : Nat) : List (List Int) := (List.range n).map fun (i : Nat) => pgC13 C k (i : Int)
theorem bpK_succ (C : CD) (k : Int) (n : Nat) : bpK C k (n + 1) = bpK C k n ++ [pgC13 C k (n : Int)] := by unfold bpK; rw [List.range_succ, List.map_append]; rfl
def bksK (C : CD) (m : Nat) : List (List (List Int)) := (List.range m).map fun (k : Nat) => bpK C (k : Int) (nCh C.g).toNat
theorem bksK_succ (C : CD) (m : Nat) : bksK C (m + 1) = bksK C m ++ [bpK C (m : Int) (nCh C.g).toNat] := by unfold bksK; rw [List.range_succ, List.map_append]; rfl
noncomputable def curK (C : CD) : Int × Int × List Int := curTo C.g (bksK C 4) 4
noncomputable def opKB (C : CD) (hf : Bool) : KB := ⟨C, (curK C).1, (curK C).2.1, List.replicate 4 false, List.replicate 4 false, List.replicate 4 false, hf⟩
theorem curTo_bd (g : Geo) (bs : List (List (List Int))) : ∀ n, -1 ≤ (curTo g bs n).1 ∧ (curTo g bs n).1 < n ∧ ((curTo g bs n).1 < 0 → (curTo g bs n) = (-1, 0, []))
  | 0 => ⟨by unfold curTo; decide, by unfold curTo; decide, fun _ => rfl⟩
  | n + 1 => by
    obtain ⟨h1, h2, h3⟩ := curTo_bd g bs n
    unfold curTo
    split
    · exact ⟨by dsimp only; omega, by dsimp only; omega, fun h => by dsimp only at h; omega⟩
    · exact ⟨h1, by push_cast; omega, h3⟩
theorem curK_bd (C : CD) : -1 ≤ (curK C).1 ∧ (curK C).1 < 4 ∧ ((curK C).1 < 0 → curK C = (-1, 0, [])) := curTo_bd C.g (bksK C 4) 4
theorem inC_key {C : CD} (h : COk C) {k i : Int} (hk : 0 ≤ k ∧ k < 4) (hi : 0 ≤ i ∧ i < nCh C.g) : inC C k i := by
  have hg := h.g
  unfold Right Kept at hg
  have e : nCh C.g = cei 624 C.g.s := rfl
  unfold inC
  omega
section
variable {E : Nat → Prop} {w0 w : World} {Rs : List Asr} {kb p : Nat} {g : Geo} {B : KB} {C : CD} {k : Int}
theorem pages20_c {n : Nat} (hC : COk C) (ho : C.off = false) (hk : 0 ≤ k ∧ k < 4) (hn : (n : Int) ≤ nCh C.g) (S0 : Sep E w0 w (chipE p C :: Rs)) :
    CallV Try.prog 65 #[.pointer (some ⟨p, 0, none⟩), .int .i64 k, .int .i64 (n : Int)] w [.one .sl, .one (.int .i64)] fun r w' => r.2.1 = (0 : Int) ∧ ∃ y : SlP (SlP Int), r.1 = (⟨y.a, y.n, y.c⟩ : SlV) ∧ y.l.map (·.l) = bpK C k n ∧ LstS w w' y := by
  apply keybox_pages.vc
  unfold keybox_pages.P
  have hnc := (nCh_bd hC.g).1
  have S := ((Sep.start NoB w).nilL).nilOwn 56 1
  refine Loop1 (fun (y : SlV × Int × Unit) w' => ∃ (i : Nat) (L : List (SlP Int)), y.2.1 = (i : Int) ∧ i ≤ n ∧ y.1.n = i ∧ L.map (·.l) = bpK C k i ∧ Sep NoB w w' [OwnA 56 1 y.1.a y.1.n y.1.c (L.map slV), RdL L])
    (fun (y : SlV × Int × Unit) _ => ((n : Int) - y.2.1).toNat) ⟨0, [], rfl, by omega, rfl, rfl, S⟩ ?_
  clear S
  rintro ⟨⟨ya, yn, yc⟩, (z : Int), ⟨⟩⟩ w2 ⟨i, L, hz, hi, hyn, hL, S⟩
  dsimp only at hz hyn S ⊢
  subst hz
  subst hyn
  refine cond_d (fun hlt => ?_) (fun hge => ?_)
  · have hin := inC_key hC hk (i := (yn : Int)) (by omega)
    refine (Read_e (bl := k) (pa := (yn : Int)) hC (S0.stepE S.ext)).mono ?_
    rintro ⟨⟨pa, pn, pc⟩, (e : Int), ⟨⟩⟩ w5 ⟨h1, -, h3⟩
    dsimp only at h1 h3 ⊢
    have h0 : readC C k (yn : Int) = 0 := by unfold readC; rw [if_neg (by rw [ho]; simp), if_pos hin]
    rw [h0] at h1
    subst h1
    refine cond_f rfl ?_
    have S := S.res (h3 h0)
    dsimp only at S
    refine S.newB fun b6 w7 S f7 _ => ?_
    refine AppS.of (news := [slV ⟨pa, pn, pc, pgC13 C k (yn : Int)⟩]) rfl (.inr ⟨_, rfl, S.cells 0 rfl⟩) ?_
    refine S.ap2 (by rfl) (fun u hu => by rw [List.mem_singleton.1 hu]; rfl) (by omega) (by omega) fun a13 c13 w13 S f13 => ?_
    have S := S.sel [1, 2, 1] rfl
    have S := S.addL (hC.page hin).2.2
    have S := S.sel [1, 0] rfl
    refine ⟨Rng.i64 (by omega) (by omega), ⟨yn + 1, L ++ [⟨pa, pn, pc, pgC13 C k (yn : Int)⟩], by push_cast; rfl, by omega, rfl, ?_, ?_⟩, by omega⟩
    · rw [List.map_append, hL, bpK_succ]; rfl
    · rw [List.map_append]; exact S
  · have : yn = n := by omega
    subst this
    exact ⟨rfl, ⟨ya, yn, yc, L⟩, rfl, hL, S⟩
theorem Open20_c {hf : Bool} (hC : COk C) (S : Sep E w0 w (chipH p C hf :: Rs)) :
    CallV Try.prog 26 #[.pointer (some ⟨p, 0, none⟩)] w [.one .ptr, .one .sl, .one (.int .i64)] fun r w' =>
      (C.off = true → r.1 = none ∧ r.2.1 = (⟨none, 0, 0⟩ : SlV) ∧ r.2.2.1 = (4 : Int) ∧ Sep E w0 w' (chipH p C hf :: Rs)) ∧
      (C.off = false → r.2.2.1 = (if (curK C).1 < 0 then (10 : Int) else 0) ∧ ∃ kb, r.1 = some ⟨kb, 0, none⟩ ∧ Sep E w0 w' (kbS kb p C.g (opKB C hf) (RdL [⟨r.2.1.a, r.2.1.n, r.2.1.c, (curK C).2.2⟩] :: Rs))) := by
  apply keybox_Open.vc
  unfold keybox_Open.P
  refine (Geometry_e (chipH_E S)).mono ?_
  rintro ⟨gt, ⟨⟩⟩ w1 ⟨h1, e1⟩
  dsimp only at h1 ⊢
  subst h1
  have S := S.stepE e1
  refine S.newB fun b3 w3 S f3 _ => ?_
  refine (On_e hC (chipH_E S.tail)).mono ?_
  rintro ⟨(r : Bool), ⟨⟩⟩ w4 ⟨h4, rfl⟩
  dsimp only at h4 ⊢
  subst h4
  cases hoff : C.off
  case true => exact cond_t rfl ⟨fun _ => ⟨rfl, rfl, rfl, S.tail⟩, fun x => (nomatch x)⟩
  refine cond_f rfl ?_
  have hnc := (nCh_bd hC.g).1
  generalize hN : (nCh C.g).toNat = N at *
  have S : Sep E w0 w4 (boxK b3 p C.g ⟨C, -1, 0, List.replicate 4 false, List.replicate 4 false, List.replicate 4 false, hf⟩ :: chipH p C hf :: Rs) := S
  have S := (nilY S).nilOwn 64 1
  refine Loop1 (fun (y : SlV × Int × Unit) w' => ∃ (i : Nat) (Y : List (SlP (SlP Int))), y.2.1 = (i : Int) ∧ i ≤ 4 ∧ y.1.n = i ∧ Y.map pgs = bksK C i ∧ Sep E w0 w' (OwnA 64 1 y.1.a y.1.n y.1.c (Y.map slV2) :: RdY Y :: boxK b3 p C.g ⟨C, -1, 0, List.replicate 4 false, List.replicate 4 false, List.replicate 4 false, hf⟩ :: chipH p C hf :: Rs))
    (fun (y : SlV × Int × Unit) _ => (4 - y.2.1).toNat) ⟨0, [], rfl, by omega, rfl, rfl, S⟩ ?_
  clear S
  rintro ⟨⟨ya, yn, yc⟩, (z : Int), ⟨⟩⟩ w2 ⟨i, Y, hz, hi, hyn, hY, S⟩
  dsimp only at hz hyn S ⊢
  subst hz
  subst hyn
  refine cond_d (fun hlt => ?_) (fun hge => ?_)
  · refine S.lb2 (o := 1) rfl ?_
    refine (Chunks_c (g := C.g)).mono ?_
    rintro ⟨(c : Int), ⟨⟩⟩ w5 ⟨h5, e5⟩
    dsimp only at h5 ⊢
    rw [if_pos hC.g] at h5
    have h5 : c = (N : Int) := by have : c = nCh C.g := h5; omega
    subst h5
    have S := S.stepE e5
    refine (pages20_c (k := (yn : Int)) (n := N) hC hoff (by omega) (by omega) (chipH_E (S.fro [3] rfl))).mono ?_
    rintro ⟨⟨pa, pn, pc⟩, (e : Int), ⟨⟩⟩ w6 ⟨h6, y, hy, hl, T⟩
    dsimp only at h6 hy ⊢
    subst h6
    have hy : (⟨pa, pn, pc⟩ : SlV) = ⟨y.a, y.n, y.c⟩ := hy
    rw [SlV.mk.injEq] at hy
    obtain ⟨rfl, rfl, rfl⟩ := hy
    refine cond_f rfl ?_
    have S := S.frame0 T
    dsimp only [List.cons_append, List.nil_append] at S
    refine S.newB fun b6 w7 S f7 _ => ?_
    refine AppS.of (news := [slV2 y]) rfl (.inr ⟨_, rfl, S.cells 0 rfl⟩) ?_
    refine S.ap3 (by rfl) (fun u hu => by rw [List.mem_singleton.1 hu]; rfl) (by omega) (by omega) fun a13 c13 w13 S f13 => ?_
    have S := S.tail.fro [0, 1] rfl
    have S := addY (Y := Y) (S.fro [0, 1, 1] rfl)
    have S := S.up1
    refine ⟨Rng.i64 (by omega) (by omega), ⟨yn + 1, Y ++ [y], by push_cast; rfl, by omega, rfl, ?_, ?_⟩, by omega⟩
    · rw [List.map_append, hY, bksK_succ, hN, ← hl]; rfl
    · rw [List.map_append]; exact S
  have : yn = 4 := by omega
  subst this
  refine S.lb2 (o := 1) rfl ?_
  refine (Current_c (g := C.g) (x := ⟨ya, 4, yc, Y⟩) (own_rdYY S) (by show 4 ≤ 1000; omega)).mono ?_
  rintro ⟨(at_ : Int), (gen : Int), ⟨ra, rn, rc⟩, ⟨⟩⟩ w5 ⟨h5, h6, T⟩
  dsimp only at h5 h6 T ⊢
  have ek : curTo C.g (Y.map pgs) (Y.map pgs).length = curK C := by rw [hY]; rfl
  rw [ek] at h5 h6 T
  subst h5 h6
  have S := S.frame0 T
  dsimp only [List.cons_append, List.nil_append] at S
  have S := S.fro [1, 1] rfl
  have S := S.tail.tail.up1
  refine S.su0 (j := 7) rfl fun w7 S f7 => S.su0 (j := 8) rfl fun w8 S f8 => ?_
  have S : Sep E w0 w8 (boxK b3 p C.g (opKB C hf) :: RdL [⟨ra, rn, rc, (curK C).2.2⟩] :: chipH p C hf :: Rs) := S
  have S := S.fro [0, 1] rfl
  refine cond_d (fun hneg => ?_) (fun hpos => ?_)
  · refine ⟨fun x => (nomatch x), fun _ => ⟨by rw [if_pos hneg], b3, rfl, ?_⟩⟩
    have e := (curK_bd C).2.2 hneg
    refine (S.fro [2] rfl).conv (R' := RdL [⟨none, 0, 0, (curK C).2.2⟩]) (fun F hF _ x hx => ?_) |>.fro [1, 1] rfl
    rw [List.mem_singleton.1 hx, e]
    exact ⟨rfl, Nat.le_refl _, Nat.zero_le _, .inl ⟨rfl, rfl⟩, fun y hy => (List.not_mem_nil hy).elim⟩
  · exact ⟨fun x => (nomatch x), fun _ => ⟨by rw [if_neg hpos], b3, rfl, S⟩⟩
theorem Current20_c (S : Sep E w0 w (boxK kb p g B :: Rs)) : CallV Try.prog 22 #[.pointer (some ⟨kb, 0, none⟩)] w [.one (.int .i64)] fun r w' => r.1 = B.cu ∧ w' = w := by
  apply keybox_Box_Current.vc
  unfold keybox_Box_Current.P
  exact S.ld0 (j := 7) rfl rfl ⟨rfl, rfl⟩
theorem Gen20_c (S : Sep E w0 w (boxK kb p g B :: Rs)) : CallV Try.prog 23 #[.pointer (some ⟨kb, 0, none⟩)] w [.one (.int .u64)] fun r w' => r.1 = B.ge ∧ w' = w := by
  apply keybox_Box_Gen.vc
  unfold keybox_Box_Gen.P
  exact S.ld0 (j := 8) rfl rfl ⟨rfl, rfl⟩
end
end Go.Proofs.Ytlpeoaphdmfjdaa.Vc
/-! Plain laws of layer 20 (keybox): the first record, without a fault; what an Open finds. -/
namespace Go.Proofs.Ytlpeoaphdmfjdaa.Vc
open Go Go.Eng Go.RowKit
abbrev F4 : List Bool := [false, false, false, false]
theorem bpK_eq {C : CD} (hC : COk C) {k : Int} (hk : 0 ≤ k ∧ k < C.g.b) {n : Nat} (hn : n ≤ C.g.p.toNat) : bpK C k n = (blkC C k).pg.take n := by
  have hbo := (hC.blk hk).2
  unfold bpK
  refine List.ext_getElem (by rw [List.length_take, hbo.pl, Nat.min_eq_left hn]; simp) fun i h1 h2 => ?_
  rw [List.getElem_take, List.getElem_map, List.getElem_range]
  unfold pgC13
  rw [Int.toNat_natCast, List.getD_eq_getElem?_getD, List.getElem?_eq_getElem]
  rfl
theorem bks_get (C : CD) {k : Nat} (hk : k < 4) : (bksK C 4).getD k [] = bpK C (k : Int) (nCh C.g).toNat := by
  unfold bksK
  rw [List.getD_eq_getElem?_getD, List.getElem?_map, List.getElem?_range hk]
  rfl
theorem blank_none {C : CD} (hC : COk C) {k : Int} (hk : 0 ≤ k ∧ k < C.g.b) (h : (blkC C k).pg = List.replicate C.g.p.toNat (List.replicate (szP C.g) 255)) : ¬ holds C.g (bpK C k (nCh C.g).toNat) := fun hh => by
  have hR := hC.g
  have hn := (nCh_bd hR).1
  have hnp : nCh C.g ≤ C.g.p := by unfold Right at hR; exact hR.2.1
  obtain ⟨-, -, n3, n4, n5⟩ := hC.num
  have h0 := (hh.2.2 0 (by omega)).2.1
  rw [bpK_eq hC hk (by omega), h, List.take_replicate, List.getD_eq_getElem?_getD, List.getElem?_replicate, if_pos (by omega)] at h0
  have h0 : okR (endP C.g (List.replicate (szP C.g) 255)) := h0
  rw [endP_rep] at h0
  exact blank_ok (by omega) h0
theorem cur_no {g : Geo} {bs : List (List (List Int))} {i : Nat} (h : ¬ holds g (bs.getD i [])) : curTo g bs (i + 1) = curTo g bs i :=
  curTo_no fun hh => by rw [holdS_no h] at hh; exact Bool.noConfusion hh.1
theorem cur_new {g : Geo} {pl : List FD} (hC : COk (newC g pl)) : curK (newC g pl) = (-1, 0, []) := by
  have hn := hC.num.1
  have h : ∀ k : Nat, k < 4 → ¬ holds g ((bksK (newC g pl) 4).getD k []) := fun k hk => by
    rw [bks_get _ hk]
    refine blank_none hC (k := (k : Int)) (by omega) ?_
    show ((List.replicate g.b.toNat (blankB g)).getD ((k : Int)).toNat default).pg = _
    have hg : (newC g pl).g = g := rfl
    rw [hg] at hn
    rw [List.getD_eq_getElem?_getD, List.getElem?_replicate, if_pos (by omega)]
    rfl
  unfold curK
  have hg : (newC g pl).g = g := rfl
  rw [hg, cur_no (h 3 (by omega)), cur_no (h 2 (by omega)), cur_no (h 1 (by omega)), cur_no (h 0 (by omega))]
  rfl
theorem opKB_new {g : Geo} {pl : List FD} {hf : Bool} (hC : COk (newC g pl)) : opKB (newC g pl) hf = ⟨newC g pl, -1, 0, F4, F4, F4, hf⟩ := by
  unfold opKB
  rw [cur_new hC]
  rfl
theorem ds_q {g : Geo} {B : KB} {k : Int} {m : Nat} (hk : 0 ≤ k ∧ k < B.C.g.b) (ho : B.C.off = false) (hq : QT B.C (m + 1)) : dsK B k = (⟨(eraC B.C k).1, B.cu, B.ge, B.cl.set k.toNat true, B.bd, B.lk.set k.toNat false, B.hf⟩, 0) := by
  obtain ⟨h1, -, -⟩ := era_q hk ho hq
  unfold dsK
  rw [if_neg (by omega), if_pos h1]
theorem first_q {hf : Bool} {C : CD} {ge : Int} {rec : List Int} {gen : Int} (hC : COk C) (hoff : C.off = false) (hq : QT C ((nCh C.g).toNat + 5)) (hr : rec.length = 624) (br : Byt rec) (hgen : 0 ≤ gen ∧ gen < 18446744073709551616) (hop : C.ops + 200 ≤ 1000000) :
    ∃ C' : CD, coK ⟨C, -1, ge, F4, F4, F4, hf⟩ rec gen = (⟨C', 0, gen, [false, true, true, true], F4, F4, hf⟩, 0) ∧ COk C' ∧ C'.off = false ∧ C'.g = C.g ∧ C'.pl = C.pl ∧ C'.ops = C.ops + (nCh C.g).toNat + 5 ∧
      (blkC C' 0).pg.take (nCh C.g).toNat = mkdL C.g rec gen ∧ ∀ k : Int, 1 ≤ k → k < 4 → ∃ e, blkC C' k = { blankB C.g with er := e } := by
  have hb := hC.num.1
  have hn := (nCh_bd hC.g).1
  have hlen := pagesL_length C.g rec gen
  obtain ⟨a1, a2, a3⟩ := era_q (k := 0) (by omega) hoff (hq.less (m := (nCh C.g).toNat + 5) (n := ((nCh C.g).toNat + 4) + 1) (by omega))
  obtain ⟨b1, b2, b3⟩ := eraC_ok hC 0 (by omega)
  have s1 := era_same C 0
  have z1 := era_zero hC (n := 0) (by omega) a1
  have d1 := ds_q (g := C.g) (B := ⟨C, -1, ge, F4, F4, F4, hf⟩) (k := 0) (by dsimp only; omega) hoff (hq.less (m := (nCh C.g).toNat + 5) (n := ((nCh C.g).toNat + 4) + 1) (by omega))
  have d1 : dsK ⟨C, -1, ge, F4, F4, F4, hf⟩ 0 = (⟨(eraC C 0).1, -1, ge, [true, false, false, false], F4, F4, hf⟩, 0) := d1
  have q1 : QT (eraC C 0).1 ((nCh C.g).toNat + 4) := QT.next (hq.less (n := (nCh C.g).toNat + 4 + 1) (by omega)) s1.pl a3
  generalize (eraC C 0).1 = C1 at *
  clear hq a1
  have hW : WrI C1.g (blkC C1 0) 0 := by rw [z1, s1.g]; exact .blank C.g _
  obtain ⟨w1, w2⟩ := wrK_done (k := 0) (rec := rec) (gen := gen) b1 (by rw [s1.g]; omega) hW hr br hgen a2 (by rw [s1.g]; omega)
  rw [s1.g] at w1 w2
  have e0 := w1 (q1.less (by omega))
  obtain ⟨w3, w4, w5⟩ := w2 e0
  have s2 := wrK_same C1 0 (pagesL C.g rec gen)
  obtain ⟨c1, c2, c3, c4, c5⟩ := wrK_ok b1 0 (pagesL_byt hC.g br hgen) (by rw [hlen]; omega)
  have t1 : tyK ⟨C, -1, ge, F4, F4, F4, hf⟩ 0 (pagesL C.g rec gen) = (⟨(wrK C1 0 (pagesL C.g rec gen)).1, -1, ge, F4, F4, F4, hf⟩, 0) := by
    unfold tyK
    rw [d1, if_neg (show ¬ KB.c ⟨C, -1, ge, F4, F4, F4, hf⟩ 0 = true from fun h => by cases h), if_pos rfl]
    unfold ty2K
    rw [if_pos (.inl e0), e0]
    rfl
  have q2 : QT (wrK C1 0 (pagesL C.g rec gen)).1 3 := QT.skip (n := (nCh C.g).toNat + 1) (m := 3) (q1.less (by omega)) c3 (by omega)
  generalize (wrK C1 0 (pagesL C.g rec gen)).1 = C2 at *
  clear w1 w2 e0 d1
  have g2 : C2.g = C.g := c2.trans s1.g
  have p2 : C2.pl = C.pl := c3.trans s1.pl
  have hx : ∀ {Cx : CD} {k : Int} {m : Nat}, COk Cx → Cx.off = false → Cx.g = C.g → QT Cx (m + 1) → (1 ≤ k ∧ k < 4) → Cx.ops < 1000000 →
      ∃ Cy : CD, (eraC Cx k).1 = Cy ∧ COk Cy ∧ Cy.off = false ∧ Cy.g = C.g ∧ Cy.pl = Cx.pl ∧ QT Cy m ∧ Cy.ops = Cx.ops + 1 ∧ (∃ e, blkC Cy k = { blankB C.g with er := e }) ∧ ∀ j : Int, j.toNat ≠ k.toNat → blkC Cy j = blkC Cx j := fun h1 h2 h3 h4 h5 h6 => by
    rename_i Cx k m
    obtain ⟨x1, x2, x3⟩ := era_q (k := k) (by rw [h3]; omega) h2 h4
    have s := era_same Cx k
    have z := era_zero h1 (n := k) (by rw [h3]; omega) x1
    rw [h3] at z
    exact ⟨_, rfl, (eraC_ok h1 k h6).1, x2, s.g.trans h3, s.pl, h4.next s.pl x3, x3, ⟨_, z⟩, s.oth⟩
  obtain ⟨C3, f1, f2, f3, f4, f5, f6, f7, f8, f9⟩ := hx (k := 1) (m := 2) c1 w3 g2 q2 (by omega) (by omega)
  obtain ⟨C4, g1, g2', g3, g4, g5, g6, g7, g8, g9⟩ := hx (k := 2) (m := 1) f2 f3 f4 f6 (by omega) (by omega)
  obtain ⟨C5, h1, h2, h3, h4, h5, h6, h7, h8, h9⟩ := hx (k := 3) (m := 0) g2' g3 g4 g6 (by omega) (by omega)
  refine ⟨C5, ?_, h2, h3, h4, h5.trans (g5.trans (f5.trans p2)), by omega, ?_, fun k k1 k4 => ?_⟩
  · unfold coK
    rw [if_neg (show ¬ C.off = true by rw [hoff]; simp), if_pos hr]
    show cmK (pagesL C.g rec gen) gen 4 ⟨C, -1, ge, F4, F4, F4, hf⟩ = _
    unfold cmK
    have ek : ((-1 : Int) + 1 + (3 - ((3 : Nat) : Int))) % 4 = 0 := by decide
    dsimp only
    rw [ek, t1, if_neg (show ¬ ((0 : Int) = -1 ∨ KB.b ⟨C, -1, ge, F4, F4, F4, hf⟩ 0 = true) from fun h => h.elim (fun h => by omega) fun h => by cases h), if_pos rfl]
    show otK 4 ⟨C2, 0, gen, F4, F4, F4, hf⟩ = _
    unfold otK
    rw [if_pos (show skK ⟨C2, 0, gen, F4, F4, F4, hf⟩ (3 - ((3 : Nat) : Int)) from .inl (show (3 : Int) - ((3 : Nat) : Int) = 0 from rfl))]
    unfold otK
    have dx : ∀ {Cx : CD} {k : Int} {m : Nat} {cl : List Bool}, Cx.off = false → Cx.g = C.g → QT Cx (m + 1) → (1 ≤ k ∧ k < 4) → dsK ⟨Cx, 0, gen, cl, F4, F4, hf⟩ k = (⟨(eraC Cx k).1, 0, gen, cl.set k.toNat true, F4, F4.set k.toNat false, hf⟩, 0) := fun y1 y2 y3 y4 => ds_q (g := C.g) (by dsimp only; rw [y2]; omega) y1 y3
    rw [show (3 : Int) - ((2 : Nat) : Int) = 1 from rfl, dx w3 g2 q2 (by omega), f1, if_neg (show ¬ skK ⟨C2, 0, gen, F4, F4, F4, hf⟩ 1 from by simp [skK, KB.c, KB.b, KB.l]), if_neg (fun h => absurd (show (0 : Int) = 4 from h) (by decide))]
    show otK 2 ⟨C3, 0, gen, [false, true, false, false], F4, F4, hf⟩ = _
    unfold otK
    rw [show (3 : Int) - ((1 : Nat) : Int) = 2 from rfl, dx f3 f4 f6 (by omega), g1, if_neg (show ¬ skK ⟨C3, 0, gen, [false, true, false, false], F4, F4, hf⟩ 2 from by simp [skK, KB.c, KB.b, KB.l]), if_neg (fun h => absurd (show (0 : Int) = 4 from h) (by decide))]
    show otK 1 ⟨C4, 0, gen, [false, true, true, false], F4, F4, hf⟩ = _
    unfold otK
    rw [show (3 : Int) - ((0 : Nat) : Int) = 3 from rfl, dx g3 g4 g6 (by omega), h1, if_neg (show ¬ skK ⟨C4, 0, gen, [false, true, true, false], F4, F4, hf⟩ 3 from by simp [skK, KB.c, KB.b, KB.l]), if_neg (fun h => absurd (show (0 : Int) = 4 from h) (by decide))]
    rfl
  · rw [h9 0 (by decide), g9 0 (by decide), f9 0 (by decide)]
    exact w5
  · rcases (show k = 1 ∨ k = 2 ∨ k = 3 from by omega) with rfl | rfl | rfl
    · rw [h9 1 (by decide), g9 1 (by decide)]; exact f8
    · rw [h9 2 (by decide)]; exact g8
    · exact h8
theorem cur_first {C : CD} {rec : List Int} {gen : Int} (hC : COk C) (hr : rec.length = 624) (hgen : 0 ≤ gen ∧ gen < 18446744073709551616) (h0 : (blkC C 0).pg.take (nCh C.g).toNat = mkdL C.g rec gen) (h : ∀ k : Int, 1 ≤ k → k < 4 → ∃ e, blkC C k = { blankB C.g with er := e }) : curK C = (0, gen, rec) := by
  have hR := hC.g
  have hb := hC.num.1
  have hnp : nCh C.g ≤ C.g.p := by unfold Right at hR; exact hR.2.1
  have hno : ∀ k : Nat, 1 ≤ k → k < 4 → ¬ holds C.g ((bksK C 4).getD k []) := fun k h1 h2 => by
    rw [bks_get _ h2]
    obtain ⟨e, he⟩ := h (k : Int) (by omega) (by omega)
    exact blank_none hC (by omega) (by rw [he]; rfl)
  have hy : holdS C.g ((bksK C 4).getD 0 []) = (gen, rec, true) := by
    rw [bks_get _ (by omega)]
    have : ((0 : Nat) : Int) = 0 := rfl
    rw [this, bpK_eq hC (by omega) (by omega), h0]
    exact mkd_holds hR hr hgen
  unfold curK
  rw [cur_no (hno 3 (by omega) (by omega)), cur_no (hno 2 (by omega) (by omega)), cur_no (hno 1 (by omega) (by omega)), show curTo C.g (bksK C 4) 1 = _ from curTo_yes (g := C.g) (bs := bksK C 4) (i := 0) ⟨by rw [hy], .inl (show (-1 : Int) < 0 by decide)⟩, hy]
  rfl
end Go.Proofs.Ytlpeoaphdmfjdaa.Vc
/-! The plans of functions as plain statements, printed by wip/tools/vcgen.py; the kernel holds each to the code. -/
namespace Go.Proofs.Ytlpeoaphdmfjdaa.Vc
open Go Go.Eng
def law20_light.A : Ann := .no
def law20_light.P (p0_0 p0_1 p0_2 p0_3 p0_4 p0_5 : Int) (a0_6 : Option Addr) (n0_6 c0_6 : Nat) (a0_7 : Option Addr) (n0_7 c0_7 : Nat) (w : World) (K : Bool × Unit → World → Prop) : Prop :=
  NewV #[.int .i64 p0_0, .int .i64 p0_1, .int .i64 p0_2, .int .i64 p0_3, .int .i64 p0_4, .int .i64 p0_5, .slice a0_6 n0_6 c0_6, .slice a0_7 n0_7 c0_7] 71 w fun b1 w2 =>
  LoadA w2 ⟨b1, 0, none⟩ [.int .i64, .int .i64, .int .i64, .int .i64, .int .i64, .int .i64] fun (x3 : Int × Int × Int × Int × Int × Int × Unit) =>
  CallV Try.prog 71 #[.agg #[.int .i64 x3.1, .int .i64 x3.2.1, .int .i64 x3.2.2.1, .int .i64 x3.2.2.2.1, .int .i64 x3.2.2.2.2.1, .int .i64 x3.2.2.2.2.2.1]] w2 [.one .bool] fun (r4 : Bool × Unit) w5 =>
  cond r4.1
  (LoadS w5 ⟨b1, 6, none⟩ .sl fun (x6 : SlV) =>
  CallV Try.prog 37 #[.slice x6.a x6.n x6.c] w5 [.one .bool] fun (r7 : Bool × Unit) w8 =>
  cond r7.1
  (LoadS w8 ⟨b1, 0, none⟩ (.int .i64) fun (x9 : Int) =>
  cond (decide (x9 ≤ 12))
  (LoadS w8 ⟨b1, 1, none⟩ (.int .i64) fun (x10 : Int) =>
  cond (decide (x10 ≤ 20))
  (LoadS w8 ⟨b1, 2, none⟩ (.int .i64) fun (x11 : Int) =>
  cond (decide (x11 ≤ 128))
  (LoadS w8 ⟨b1, 7, none⟩ .sl fun (x12 : SlV) =>
  K (decide (((x12.n : Nat) : Int) ≤ 8), ()) w8)
  (K (false, ()) w8))
  (K (false, ()) w8))
  (K (false, ()) w8))
  (K (false, ()) w8))
  (K (false, ()) w5)
theorem law20_light.vc (p0_0 p0_1 p0_2 p0_3 p0_4 p0_5 : Int) (a0_6 : Option Addr) (n0_6 c0_6 : Nat) (a0_7 : Option Addr) (n0_7 c0_7 : Nat) (w : World) (K : Bool × Unit → World → Prop) (h : law20_light.P p0_0 p0_1 p0_2 p0_3 p0_4 p0_5 a0_6 n0_6 c0_6 a0_7 n0_7 c0_7 w K) : CallV Try.prog 31 #[.agg #[.int .i64 p0_0, .int .i64 p0_1, .int .i64 p0_2, .int .i64 p0_3, .int .i64 p0_4, .int .i64 p0_5, .slice a0_6 n0_6 c0_6, .slice a0_7 n0_7 c0_7]] w [.one .bool] K := by
  refine vcFun.of (A := law20_light.A) (wr := false) okf_ok follows h Try.func31 ?_
  kernel_rfl
def law20_record.A : Ann := .two .no (.two .no (.two (.two .no (.one (.loop [3, 4, 6, 7, 8, 9, 10, 11, 12, 13, 14, 15, 16, 17] [(3, .one .sl), (4, .one (.int .i64))] .no))) .no))
def law20_record.P (p0 : Int) (w : World) (K : SlV × Unit → World → Prop) : Prop :=
  NewV #[] 5 w fun b1 w2 =>
  LoopV [.one .sl, .one (.int .i64)] ((⟨(some ⟨b1, 0, none⟩), 0, 0⟩ : SlV), (0 : Int), ()) w2 fun (z3 : SlV × Int × Unit) w4 (K5 : SlV × Int × Unit → World → Prop) =>
  cond (decide (z3.2.1 < 624))
  (NewV #[.int .u8 (Go.bits .xor .u8 (IntKind.u8.wrap ((IntKind.u8.wrap z3.2.1) * 7)) p0)] 5 w4 fun b6 w7 =>
  AppS w7 (some ⟨b6, 0, none⟩) 1 1 fun ns12 =>
  AppV w7 5 1 1 z3.1.a z3.1.n z3.1.c ns12 1 fun a8 n9 c10 w11 =>
  Rng .i64 (z3.2.1 + 1) ∧
  K5 ((⟨a8, n9, c10⟩ : SlV), z3.2.1 + 1, ()) w11)
  (K (z3.1, ()) w4)
theorem law20_record.vc (p0 : Int) (w : World) (K : SlV × Unit → World → Prop) (h : law20_record.P p0 w K) : CallV Try.prog 32 #[.int .u8 p0] w [.one .sl] K := by
  refine vcFun.of (A := law20_record.A) (wr := false) okf_ok follows h Try.func32 ?_
  kernel_rfl
def law20_awake.A : Ann := .no
def law20_awake.P  (w : World) (K : Bool × Unit → World → Prop) : Prop :=
  CallV Try.prog 7 #[.agg #[.int .i64 7, .int .i64 10, .int .i64 64, .int .i64 0, .int .i64 1, .int .i64 1], .slice none 0 0] w [.one .ptr, .one (.int .i64)] fun (r1 : (Option Addr) × Int × Unit) w2 =>
  CallV Try.prog 26 #[.pointer r1.1] w2 [.one .ptr, .one .sl, .one (.int .i64)] fun (r3 : (Option Addr) × SlV × Int × Unit) w4 =>
  CallV Try.prog 32 #[.int .u8 1] w4 [.one .sl] fun (r5 : SlV × Unit) w6 =>
  CallV Try.prog 21 #[.pointer r3.1, .slice r5.1.a r5.1.n r5.1.c, .int .u64 4] w6 [.one (.int .i64)] fun (r7 : Int × Unit) w8 =>
  CallV Try.prog 26 #[.pointer r1.1] w8 [.one .ptr, .one .sl, .one (.int .i64)] fun (r9 : (Option Addr) × SlV × Int × Unit) w10 =>
  cond (r3.2.2.1 == 10)
  (cond (r7.1 == 0)
  (CallV Try.prog 22 #[.pointer r3.1] w10 [.one (.int .i64)] fun (r11 : Int × Unit) w12 =>
  cond (r11.1 == 0)
  (CallV Try.prog 23 #[.pointer r3.1] w12 [.one (.int .u64)] fun (r13 : Int × Unit) w14 =>
  cond (r13.1 == 4)
  (cond (r9.2.2.1 == 0)
  (CallV Try.prog 32 #[.int .u8 1] w14 [.one .sl] fun (r15 : SlV × Unit) w16 =>
  CallV Try.prog 39 #[.slice r9.2.1.a r9.2.1.n r9.2.1.c, .slice r15.1.a r15.1.n r15.1.c] w16 [.one .bool] fun (r17 : Bool × Unit) w18 =>
  K (r17.1, ()) w18)
  (K (false, ()) w14))
  (K (false, ()) w14))
  (K (false, ()) w12))
  (K (false, ()) w10))
  (K (false, ()) w10)
theorem law20_awake.vc  (w : World) (K : Bool × Unit → World → Prop) (h : law20_awake.P  w K) : CallV Try.prog 28 #[] w [.one .bool] K := by
  refine vcFun.of (A := law20_awake.A) (wr := false) okf_ok follows h Try.func28 ?_
  kernel_rfl
def law20_half.A : Ann := .two .no (.two .no (.two (.two .no (.one (.loop [2, 4, 7, 8, 9, 10, 11, 12, 13, 14, 15, 16, 17, 18, 19, 20, 21, 22, 23, 24, 25, 26] [(4, .one (.int .i64))] .no))) .no))
def law20_half.P (p0 : Addr) (w : World) (K : Bool × Unit → World → Prop) : Prop :=
  CallV Try.prog 72 #[.pointer (some p0)] w [.one .sl] fun (r1 : SlV × Unit) w2 =>
  LoopV [.one (.int .i64)] ((0 : Int), ()) w2 fun (z3 : Int × Unit) w4 (K5 : Int × Unit → World → Prop) =>
  cond (decide (z3.1 < ((r1.1.n : Nat) : Int)))
  ((0 ≤ z3.1 ∧ z3.1 < ((r1.1.n : Nat) : Int)) ∧ ∃ q6 : Addr, r1.1.a = some q6 ∧
  LoadS w4 (q6.add (z3.1.toNat * 5)) (.int .i64) fun (x7 : Int) =>
  cond (x7 == 3)
  ((0 ≤ z3.1 ∧ z3.1 < ((r1.1.n : Nat) : Int)) ∧ ∃ q8 : Addr, r1.1.a = some q8 ∧
  LoadS w4 ((q8.add (z3.1.toNat * 5)).add 4) (.int .i64) fun (x9 : Int) =>
  cond (x9 != 0)
  (K (true, ()) w4)
  (Rng .i64 (z3.1 + 1) ∧
  K5 (z3.1 + 1, ()) w4))
  (Rng .i64 (z3.1 + 1) ∧
  K5 (z3.1 + 1, ()) w4))
  (K (false, ()) w4)
theorem law20_half.vc (p0 : Addr) (w : World) (K : Bool × Unit → World → Prop) (h : law20_half.P p0 w K) : CallV Try.prog 38 #[.pointer (some p0)] w [.one .bool] K := by
  refine vcFun.of (A := law20_half.A) (wr := false) okf_ok follows h Try.func38 ?_
  kernel_rfl
def law20_KeyboxCrashes.A : Ann := .two .no (.two .no (.two .no (.two .no (.two .no (.two (.two .no (.one (.loop [9, 10, 41, 42, 43, 44, 45, 46, 47, 48, 49, 50, 51, 52, 53, 54, 55, 56, 57, 58, 59, 60] [(9, .one .sl), (10, .one (.int .i64))] .no))) .no)))))
def law20_KeyboxCrashes.P (p0_0 p0_1 p0_2 p0_3 p0_4 p0_5 : Int) (a1 : Option Addr) (n1 c1 : Nat) (p2_0 p2_1 : Int) (w : World) (K : Bool × Unit → World → Prop) : Prop :=
  NewV #[.int .i64 p0_0, .int .i64 p0_1, .int .i64 p0_2, .int .i64 p0_3, .int .i64 p0_4, .int .i64 p0_5] 33 w fun b1 w2 =>
  NewV #[.int .u8 p2_0, .int .u8 p2_1] 83 w2 fun b3 w4 =>
  LoadA w4 ⟨b1, 0, none⟩ [.int .i64, .int .i64, .int .i64, .int .i64, .int .i64, .int .i64] fun (x5 : Int × Int × Int × Int × Int × Int × Unit) =>
  NewV #[.int .i64 0, .int .i64 0, .int .i64 0, .int .i64 0, .int .i64 0, .int .i64 0, .slice none 0 0, .slice none 0 0] 71 w4 fun b6 w7 =>
  StoreV w7 ⟨b6, 0, none⟩ [.int .i64 x5.1, .int .i64 x5.2.1, .int .i64 x5.2.2.1, .int .i64 x5.2.2.2.1, .int .i64 x5.2.2.2.2.1, .int .i64 x5.2.2.2.2.2.1, .slice none 0 0, .slice none 0 0] fun w8 =>
  LoadA w8 ⟨b6, 0, none⟩ [.int .i64, .int .i64, .int .i64, .int .i64, .int .i64, .int .i64, .sl, .sl] fun (x9 : Int × Int × Int × Int × Int × Int × SlV × SlV × Unit) =>
  CallV Try.prog 31 #[.agg #[.int .i64 x9.1, .int .i64 x9.2.1, .int .i64 x9.2.2.1, .int .i64 x9.2.2.2.1, .int .i64 x9.2.2.2.2.1, .int .i64 x9.2.2.2.2.2.1, .slice x9.2.2.2.2.2.2.1.a x9.2.2.2.2.2.2.1.n x9.2.2.2.2.2.2.1.c, .slice x9.2.2.2.2.2.2.2.1.a x9.2.2.2.2.2.2.2.1.n x9.2.2.2.2.2.2.2.1.c]] w8 [.one .bool] fun (r10 : Bool × Unit) w11 =>
  cond (!r10.1)
  (CallV Try.prog 28 #[] w11 [.one .bool] fun (r12 : Bool × Unit) w13 =>
  K (r12.1, ()) w13)
  (CallV Try.prog 37 #[.slice a1 n1 c1] w11 [.one .bool] fun (r14 : Bool × Unit) w15 =>
  cond (!r14.1)
  (CallV Try.prog 28 #[] w15 [.one .bool] fun (r16 : Bool × Unit) w17 =>
  K (r16.1, ()) w17)
  (cond (decide (((n1 : Nat) : Int) > 10))
  (CallV Try.prog 28 #[] w15 [.one .bool] fun (r18 : Bool × Unit) w19 =>
  K (r18.1, ()) w19)
  (LoadA w15 ⟨b1, 0, none⟩ [.int .i64, .int .i64, .int .i64, .int .i64, .int .i64, .int .i64] fun (x20 : Int × Int × Int × Int × Int × Int × Unit) =>
  CallV Try.prog 33 #[.agg #[.int .i64 x20.1, .int .i64 x20.2.1, .int .i64 x20.2.2.1, .int .i64 x20.2.2.2.1, .int .i64 x20.2.2.2.2.1, .int .i64 x20.2.2.2.2.2.1]] w15 [.one (.int .i64)] fun (r21 : Int × Unit) w22 =>
  Rng .i64 (r21.1 + 20) ∧
  NewV #[] 86 w22 fun b23 w24 =>
  LoopV [.one .sl, .one (.int .i64)] ((⟨(some ⟨b23, 0, none⟩), 0, 0⟩ : SlV), (0 : Int), ()) w24 fun (z25 : SlV × Int × Unit) w26 (K27 : SlV × Int × Unit → World → Prop) =>
  cond (decide (z25.2.1 < ((n1 : Nat) : Int)))
  ((0 ≤ z25.2.1 ∧ z25.2.1 < ((n1 : Nat) : Int)) ∧ ∃ q28 : Addr, a1 = some q28 ∧
  LoadS w26 (q28.add (z25.2.1.toNat * 3)) (.int .i64) fun (x29 : Int) =>
  cond (decide (x29 ≥ (r21.1 + 20)))
  ((0 ≤ z25.2.1 ∧ z25.2.1 < ((n1 : Nat) : Int)) ∧ ∃ q30 : Addr, a1 = some q30 ∧
  LoadA w26 (q30.add (z25.2.1.toNat * 3)) [.int .i64, .bool, .sl] fun (x31 : Int × Bool × SlV × Unit) =>
  NewV #[.int .i64 x31.1, .bool x31.2.1, .slice x31.2.2.1.a x31.2.2.1.n x31.2.2.1.c] 86 w26 fun b32 w33 =>
  AppS w33 (some ⟨b32, 0, none⟩) 1 3 fun ns38 =>
  AppV w33 86 3 40 z25.1.a z25.1.n z25.1.c ns38 1 fun a34 n35 c36 w37 =>
  Rng .i64 (z25.2.1 + 1) ∧
  K27 ((⟨a34, n35, c36⟩ : SlV), z25.2.1 + 1, ()) w37)
  (Rng .i64 (z25.2.1 + 1) ∧
  K27 (z25.1, z25.2.1 + 1, ()) w26))
  (LoadA w26 ⟨b1, 0, none⟩ [.int .i64, .int .i64, .int .i64, .int .i64, .int .i64, .int .i64] fun (x39 : Int × Int × Int × Int × Int × Int × Unit) =>
  CallV Try.prog 7 #[.agg #[.int .i64 x39.1, .int .i64 x39.2.1, .int .i64 x39.2.2.1, .int .i64 x39.2.2.2.1, .int .i64 x39.2.2.2.2.1, .int .i64 x39.2.2.2.2.2.1], .slice z25.1.a z25.1.n z25.1.c] w26 [.one .ptr, .one (.int .i64)] fun (r40 : (Option Addr) × Int × Unit) w41 =>
  CallV Try.prog 26 #[.pointer r40.1] w41 [.one .ptr, .one .sl, .one (.int .i64)] fun (r42 : (Option Addr) × SlV × Int × Unit) w43 =>
  (0 ≤ (0 : Int) ∧ 0 < (2 : Int)) ∧
  LoadS w43 ⟨b3, 0, none⟩ (.int .u8) fun (x44 : Int) =>
  CallV Try.prog 32 #[.int .u8 x44] w43 [.one .sl] fun (r45 : SlV × Unit) w46 =>
  CallV Try.prog 21 #[.pointer r42.1, .slice r45.1.a r45.1.n r45.1.c, .int .u64 7] w46 [.one (.int .i64)] fun (r47 : Int × Unit) w48 =>
  cond (r47.1 != 0)
  (K (false, ()) w48)
  (CallV Try.prog 27 #[.pointer r40.1] w48 [.one (.int .i64)] fun (r49 : Int × Unit) w50 =>
  cond (decide (r49.1 > (r21.1 + 20)))
  (K (false, ()) w50)
  ((0 ≤ (1 : Int) ∧ 1 < (2 : Int)) ∧
  LoadS w50 ⟨b3, 1, none⟩ (.int .u8) fun (x51 : Int) =>
  CallV Try.prog 32 #[.int .u8 x51] w50 [.one .sl] fun (r52 : SlV × Unit) w53 =>
  CallV Try.prog 21 #[.pointer r42.1, .slice r52.1.a r52.1.n r52.1.c, .int .u64 8] w53 [.one (.int .i64)] fun (r54 : Int × Unit) w55 =>
  (0 ≤ (1 : Int) ∧ 1 < (2 : Int)) ∧
  LoadS w55 ⟨b3, 1, none⟩ (.int .u8) fun (x56 : Int) =>
  CallV Try.prog 32 #[.int .u8 x56] w55 [.one .sl] fun (r57 : SlV × Unit) w58 =>
  CallV Try.prog 21 #[.pointer r42.1, .slice r57.1.a r57.1.n r57.1.c, .int .u64 9] w58 [.one (.int .i64)] fun (r59 : Int × Unit) w60 =>
  CallV Try.prog 34 #[.pointer r40.1, .bool false] w60 [] fun (r61 : Unit) w62 =>
  CallV Try.prog 34 #[.pointer r40.1, .bool true] w62 [] fun (r63 : Unit) w64 =>
  CallV Try.prog 38 #[.pointer r40.1] w64 [.one .bool] fun (r65 : Bool × Unit) w66 =>
  cond r65.1
  (CallV Try.prog 28 #[] w66 [.one .bool] fun (r67 : Bool × Unit) w68 =>
  K (r67.1, ()) w68)
  (CallV Try.prog 26 #[.pointer r40.1] w66 [.one .ptr, .one .sl, .one (.int .i64)] fun (r69 : (Option Addr) × SlV × Int × Unit) w70 =>
  cond (r69.2.2.1 != 0)
  (K (false, ()) w70)
  (cond (r54.1 == 0)
  ((0 ≤ (1 : Int) ∧ 1 < (2 : Int)) ∧
  LoadS w70 ⟨b3, 1, none⟩ (.int .u8) fun (x71 : Int) =>
  CallV Try.prog 32 #[.int .u8 x71] w70 [.one .sl] fun (r72 : SlV × Unit) w73 =>
  CallV Try.prog 39 #[.slice r69.2.1.a r69.2.1.n r69.2.1.c, .slice r72.1.a r72.1.n r72.1.c] w73 [.one .bool] fun (r74 : Bool × Unit) w75 =>
  cond r74.1
  (CallV Try.prog 28 #[] w75 [.one .bool] fun (r76 : Bool × Unit) w77 =>
  K (r76.1, ()) w77)
  (K (false, ()) w75))
  (cond (r59.1 == 0)
  ((0 ≤ (1 : Int) ∧ 1 < (2 : Int)) ∧
  LoadS w70 ⟨b3, 1, none⟩ (.int .u8) fun (x78 : Int) =>
  CallV Try.prog 32 #[.int .u8 x78] w70 [.one .sl] fun (r79 : SlV × Unit) w80 =>
  CallV Try.prog 39 #[.slice r69.2.1.a r69.2.1.n r69.2.1.c, .slice r79.1.a r79.1.n r79.1.c] w80 [.one .bool] fun (r81 : Bool × Unit) w82 =>
  cond r81.1
  (CallV Try.prog 28 #[] w82 [.one .bool] fun (r83 : Bool × Unit) w84 =>
  K (r83.1, ()) w84)
  (K (false, ()) w82))
  ((0 ≤ (0 : Int) ∧ 0 < (2 : Int)) ∧
  LoadS w70 ⟨b3, 0, none⟩ (.int .u8) fun (x85 : Int) =>
  CallV Try.prog 32 #[.int .u8 x85] w70 [.one .sl] fun (r86 : SlV × Unit) w87 =>
  CallV Try.prog 39 #[.slice r69.2.1.a r69.2.1.n r69.2.1.c, .slice r86.1.a r86.1.n r86.1.c] w87 [.one .bool] fun (r88 : Bool × Unit) w89 =>
  cond r88.1
  (CallV Try.prog 28 #[] w89 [.one .bool] fun (r90 : Bool × Unit) w91 =>
  K (r90.1, ()) w91)
  ((0 ≤ (1 : Int) ∧ 1 < (2 : Int)) ∧
  LoadS w89 ⟨b3, 1, none⟩ (.int .u8) fun (x92 : Int) =>
  CallV Try.prog 32 #[.int .u8 x92] w89 [.one .sl] fun (r93 : SlV × Unit) w94 =>
  CallV Try.prog 39 #[.slice r69.2.1.a r69.2.1.n r69.2.1.c, .slice r93.1.a r93.1.n r93.1.c] w94 [.one .bool] fun (r95 : Bool × Unit) w96 =>
  cond r95.1
  (CallV Try.prog 28 #[] w96 [.one .bool] fun (r97 : Bool × Unit) w98 =>
  K (r97.1, ()) w98)
  (K (false, ()) w96))))))))))))
theorem law20_KeyboxCrashes.vc (p0_0 p0_1 p0_2 p0_3 p0_4 p0_5 : Int) (a1 : Option Addr) (n1 c1 : Nat) (p2_0 p2_1 : Int) (w : World) (K : Bool × Unit → World → Prop) (h : law20_KeyboxCrashes.P p0_0 p0_1 p0_2 p0_3 p0_4 p0_5 a1 n1 c1 p2_0 p2_1 w K) : CallV Try.prog 6 #[.agg #[.int .i64 p0_0, .int .i64 p0_1, .int .i64 p0_2, .int .i64 p0_3, .int .i64 p0_4, .int .i64 p0_5], .slice a1 n1 c1, .agg #[.int .u8 p2_0, .int .u8 p2_1]] w [.one .bool] K := by
  refine vcFun.of (A := law20_KeyboxCrashes.A) (wr := false) okf_ok follows h Try.func6 ?_
  kernel_rfl
end Go.Proofs.Ytlpeoaphdmfjdaa.Vc
/-! What the laws of layer 24 share: a step keeps a pool right; does the program answer at all? -/
namespace Go.Proofs.Ytlpeoaphdmfjdaa.Vc
open Go Go.Eng Go.RowKit
abbrev fA24 : SlP TF.T := ⟨none, 0, 0, []⟩
theorem LF_nil {w : World} : LF.rd w All fA24 := ⟨rfl, Nat.le_refl _, Nat.zero_le _, .inl ⟨rfl, rfl⟩, fun y hy => (List.not_mem_nil hy).elim⟩
end Go.Proofs.Ytlpeoaphdmfjdaa.Vc
/-! The contracts of keybox (layer 20): does a block leak; what the laws share. -/
namespace Go.Proofs.Ytlpeoaphdmfjdaa.Vc
open Go Go.Eng Go.RowKit
def rec20 (n : Nat) (sd : Int) : List Int := (List.range n).map fun (i : Nat) => Go.bits .xor .u8 (IntKind.u8.wrap (IntKind.u8.wrap (i : Int) * 7)) sd
theorem rec20_len (n : Nat) (sd : Int) : (rec20 n sd).length = n := by simp [rec20]
theorem rec20_byt (n : Nat) (sd : Int) : Byt (rec20 n sd) := fun v hv => by
  obtain ⟨i, -, rfl⟩ := List.mem_map.1 hv
  exact bits8_byt _ _ _
theorem record20_c {w : World} {sd : Int} : CallV Try.prog 32 #[.int .u8 sd] w [.one .sl] fun r w' => Res w w' r.1 (rec20 624 sd) := by
  apply law20_record.vc
  unfold law20_record.P
  generalize hX : rec20 624 sd = X
  generalize hN : (624 : Int) = N
  have S := Sep.start NoB w
  refine S.newB fun b1 w1 S f1 _ => ?_
  have S := S.asOwn (sz := 1) (n := 0) rfl (by omega) oneAll.nil
  refine Loop1 (fun (v : SlV × Int × Unit) w' => ∃ i : Nat, v.2.1 = (i : Int) ∧ (i : Int) ≤ N ∧ v.1.n = i ∧ Sep NoB w w' [OwnA 5 1 v.1.a v.1.n v.1.c ((rec20 i sd).map (Value.int .u8))]) (fun (v : SlV × Int × Unit) _ => (N - v.2.1).toNat) ⟨0, rfl, by omega, rfl, S⟩ ?_
  rintro ⟨⟨a, m, c⟩, (v : Int), ⟨⟩⟩ w4 ⟨i, hv, hi, hm, S⟩
  dsimp only at hv hm S ⊢
  subst hv
  subst hm
  refine cond_d (fun hlt => ?_) (fun hge => ?_)
  · refine S.newB fun b6 w5 S f5 _ => ?_
    refine AppS.of (news := [.int .u8 (Go.bits .xor .u8 (IntKind.u8.wrap (IntKind.u8.wrap (m : Int) * 7)) sd)]) rfl (.inr ⟨_, rfl, S.cells 0 rfl⟩) ?_
    refine S.ap1 rfl (fun u hu => by rw [List.mem_singleton.1 hu]; rfl) (by omega) (by omega) fun a' c' w6 S f6 => ⟨Rng.i64 (by omega) (by omega), ⟨m + 1, by push_cast; rfl, by omega, rfl, ?_⟩, by omega⟩
    have e : (rec20 (m + 1) sd).map (Value.int .u8) = (rec20 m sd).map (Value.int .u8) ++ [.int .u8 (Go.bits .xor .u8 (IntKind.u8.wrap (IntKind.u8.wrap (m : Int) * 7)) sd)] := by
      unfold rec20
      rw [List.range_succ, List.map_append, List.map_append]
      rfl
    rw [e]
    exact S.sel [1] rfl
  · have : m = 624 := by omega
    subst this
    rw [hX] at S
    exact S.out
abbrev g20 : Geo := ⟨7, 10, 64, 0, 1, 1⟩
abbrev C20 : CD := newC g20 []
theorem C20_ok : COk C20 := newC_ok (by decide) (by decide) (fun f hf => (List.not_mem_nil hf).elim)
theorem C20_q (m : Nat) : QT C20 m := fun o _ => rfl
theorem new20_c {w : World} : CallV Try.prog 7 #[g20.val, .slice none 0 0] w [.one .ptr, .one (.int .i64)] fun r w' => ∃ p, r.1 = some (⟨p, 0, none⟩ : Addr) ∧ Sep NoB w w' [chipH p C20 false] := by
  have hFR : FRight (fds fA24) := ⟨fun f hf => (List.not_mem_nil hf).elim, by decide⟩
  refine (New13_c (g := g20) (x := fA24) (G := All) LF_nil (fun f hf => (List.not_mem_nil hf).elim)).mono ?_
  rintro ⟨_, (e : Int), ⟨⟩⟩ w2 ⟨x2, -, hg⟩
  obtain ⟨-, p, y, hp, hyF, S⟩ := hg ⟨by decide, hFR⟩
  exact ⟨p, hp, chipH_new (C := C20) (Rs := []) hyF (by rw [List.append_nil]; exact S)⟩
theorem rdL1 {E : Nat → Prop} {w0 w : World} {Rs : List Asr} (S : Sep E w0 w Rs) (i : Nat) {x : SlP Int} (hi : Rs[i]? = some (RdL [x])) : Ints w .u8 x.a x.n x.c x.l := by
  obtain ⟨G, hG, -⟩ := S.get hi
  exact Ty.ints (hG x (List.mem_singleton.2 rfl))
theorem awake20_c {w : World} : CallV Try.prog 28 #[] w [.one .bool] fun r w' => r.1 = true ∧ Ext w w' := by
  apply law20_awake.vc
  unfold law20_awake.P
  have h4 : (0 : Int) ≤ 4 ∧ (4 : Int) < 18446744073709551616 := by omega
  refine new20_c.mono ?_
  rintro ⟨_, (e : Int), ⟨⟩⟩ w1 ⟨p, hp, S⟩
  dsimp only at hp
  subst hp
  refine (Open20_c C20_ok S).mono ?_
  rintro ⟨_, ⟨xa, xn, xc⟩, (e3 : Int), ⟨⟩⟩ w2 ⟨-, hgood⟩
  obtain ⟨h3, kb, hkb, S⟩ := hgood rfl
  dsimp only at h3 hkb S
  subst hkb
  rw [cur_new C20_ok] at h3
  have h3 : e3 = 10 := h3
  subst h3
  rw [opKB_new C20_ok] at S
  refine record20_c.mono ?_
  rintro ⟨⟨ra, rn, rc⟩, ⟨⟩⟩ w3 R
  dsimp only at R ⊢
  have hrl := rec20_len 624 1
  have hrb := rec20_byt 624 1
  obtain ⟨rr, hrr⟩ : ∃ rr, rr = rec20 624 1 := ⟨_, rfl⟩
  rw [← hrr] at R hrl hrb
  have S := S.stepE R.ext
  obtain ⟨C', c1, c2, c3, c4, c5, c6, c7, c8⟩ := first_q (hf := false) (ge := 0) (gen := 4) C20_ok rfl (C20_q _) hrl hrb h4 (by decide)
  have hKI : KI g20 ⟨C20, -1, 0, F4, F4, F4, false⟩ := ⟨C20_ok, rfl, ⟨by decide, by decide⟩, rfl, rfl, rfl⟩
  refine (Commit20_c hKI R.ints hrb h4 (by decide) S).mono ?_
  rintro ⟨(e4 : Int), ⟨⟩⟩ w4 ⟨h4', S⟩
  dsimp only at h4'
  rw [c1] at h4' S
  have h4' : e4 = 0 := h4'
  subst h4'
  refine (Open20_c c2 S.up1).mono ?_
  rintro ⟨_, ⟨ya, yn, yc⟩, (e5 : Int), ⟨⟩⟩ w5 ⟨-, hgood⟩
  obtain ⟨h5, kb2, hkb, S⟩ := hgood c3
  rw [c4] at S
  rw [← c4] at c7 c8
  have hcf := cur_first c2 hrl h4 c7 c8
  rw [hcf] at h5 S
  have h5 : e5 = 0 := h5
  subst h5
  refine cond_t rfl (cond_t rfl ?_)
  refine (Current20_c (S.fro [3] rfl)).mono ?_
  rintro ⟨(r : Int), ⟨⟩⟩ w6 ⟨h6, rfl⟩
  have h6 : r = 0 := h6
  subst h6
  refine cond_t rfl ?_
  refine (Gen20_c (S.fro [3] rfl)).mono ?_
  rintro ⟨(r : Int), ⟨⟩⟩ w6 ⟨h6, rfl⟩
  have h6 : r = 4 := h6
  subst h6
  refine cond_t rfl (cond_t rfl ?_)
  refine record20_c.mono ?_
  rintro ⟨⟨sa, sn, sc⟩, ⟨⟩⟩ w7 R2
  dsimp only at R2 ⊢
  rw [← hrr] at R2
  have i1 := (rdL1 S 2 rfl).ext R2.ext
  refine (SameBytes_c i1 R2.ints).mono ?_
  rintro ⟨(r : Bool), ⟨⟩⟩ w8 ⟨h8, x8⟩
  dsimp only at h8 ⊢
  exact ⟨by rw [h8]; exact decide_eq_true rfl, (S.stepE R2.ext).ext.trans x8⟩
end Go.Proofs.Ytlpeoaphdmfjdaa.Vc
/-! The contracts of layer 20 (keybox): is a block gone; may a case be played. -/
namespace Go.Proofs.Ytlpeoaphdmfjdaa.Vc
open Go Go.Eng Go.RowKit
def Li20 (g : Geo) (f : SlP TF.T) (n : Nat) : Prop := Right g ∧ FRight (fds f) ∧ g.b ≤ 12 ∧ g.p ≤ 20 ∧ g.s ≤ 128 ∧ (n : Int) ≤ 8
theorem light20_c {w : World} {g : Geo} {f : SlP TF.T} {s : SlV} (hf : LF.rd w All f) : CallV Try.prog 31 #[.agg (casV24 g f s).toArray] w [.one .bool] fun r w' => (r.1 = true ↔ Li20 g f s.n) ∧ Ext w w' := by
  apply law20_light.vc
  unfold law20_light.P
  have S := Sep.start NoB w
  refine S.newB fun b1 w1 S f1 _ => S.lb0 (o := 0) rfl ?_
  have no : ∀ {w' : World}, ¬ Li20 g f s.n → Ext w w' → ((false = true ↔ Li20 g f s.n) ∧ Ext w w') := fun h e => ⟨Iff.intro (fun x => by cases x) (fun x => absurd x h), e⟩
  refine (Right_c (g := g)).mono ?_
  rintro ⟨(r : Bool), ⟨⟩⟩ w4 ⟨h4, x4⟩
  dsimp only at h4 ⊢
  subst h4
  have S := S.stepE x4
  by_cases h1 : Right g
  case neg => exact cond_f (decide_eq_false h1) (no (fun h => h1 h.1) S.ext)
  refine cond_t (decide_eq_true h1) (S.ld0 (j := 6) rfl rfl ?_)
  refine (rRight12_c (Ty.rd_ext S.ext _ hf)).mono ?_
  rintro ⟨(r : Bool), ⟨⟩⟩ w5 ⟨h5, rfl⟩
  dsimp only at h5 ⊢
  subst h5
  by_cases h2 : FRight (fds f)
  case neg => exact cond_f (decide_eq_false h2) (no (fun h => h2 h.2.1) S.ext)
  refine cond_t (decide_eq_true h2) (S.ld0 (j := 0) rfl rfl (cond_d (fun h3 => ?_) fun h3 => no (fun h => h3 h.2.2.1) S.ext))
  refine S.ld0 (j := 1) rfl rfl (cond_d (fun h4 => ?_) fun h4 => no (fun h => h4 h.2.2.2.1) S.ext)
  refine S.ld0 (j := 2) rfl rfl (cond_d (fun h5 => ?_) fun h5 => no (fun h => h5 h.2.2.2.2.1) S.ext)
  refine S.ld0 (j := 7) rfl rfl ⟨?_, S.ext⟩
  exact Iff.intro (fun h => ⟨h1, h2, h3, h4, h5, of_decide_eq_true h⟩) (fun h => decide_eq_true h.2.2.2.2.2)
theorem Li20.new {g : Geo} {f : SlP TF.T} {w : World} (hR : Right g) (hFR : FRight (fds f)) (h : g.b ≤ 12 ∧ g.p ≤ 20 ∧ g.s ≤ 128) (hf : LF.rd w All f) : COk (newC g (fds f)) :=
  newC_ok hR ⟨by omega, h.2.1, h.2.2⟩ fun F hF => ⟨fds_byt hf F hF, hFR.fit F hF⟩
end Go.Proofs.Ytlpeoaphdmfjdaa.Vc
/-! The contract of layer 20's half: was a scrub of an array done half? -/
namespace Go.Proofs.Ytlpeoaphdmfjdaa.Vc
open Go Go.Eng Go.RowKit
theorem half20_c {E : Nat → Prop} {w0 w : World} {Rs : List Asr} {p : Nat} {C : CD} {hf : Bool} (hC : COk C) (S : Sep E w0 w (chipH p C hf :: Rs)) :
    CallV Try.prog 38 #[.pointer (some ⟨p, 0, none⟩)] w [.one .bool] fun r w' => (r.1 = false → hf = false) ∧ Ext w w' := by
  apply law20_half.vc
  unfold law20_half.P
  obtain ⟨y, L, hF, hh, hl, S⟩ := chipH_out S
  refine (Trace_c hC.ops (fun o ho => hl _ (List.mem_map.2 ⟨o, ho, rfl⟩)) S).mono ?_
  rintro ⟨⟨ta, tn, tc⟩, ⟨⟩⟩ w2 ⟨L', hL, hn, T⟩
  dsimp only at hn T ⊢
  have hlm : L'.length = L.length := by have := congrArg List.length hL; rwa [List.length_map, List.length_map] at this
  refine Loop1 (fun (v : Int × Unit) w' => ∃ i : Nat, v.1 = (i : Int) ∧ i ≤ tn ∧ (∀ (j : Nat) (o : TOp), j < i → L'[j]? = some o → ¬ (o.k = 3 ∧ o.e ≠ 0)) ∧ w' = w2) (fun (v : Int × Unit) _ => ((tn : Int) - v.1).toNat) ⟨0, rfl, by omega, fun j o h => absurd h (Nat.not_lt_zero _), rfl⟩ ?_
  rintro ⟨(v : Int), ⟨⟩⟩ w3 ⟨i, hv, hi, hno, rfl⟩
  dsimp only at hv
  subst hv
  have hmx : (tn : Int) ≤ 9223372036854775807 := by have := (T.own 0 rfl).lim; omega
  refine cond_d (fun hlt => ?_) (fun hge => ?_)
  · obtain ⟨q, o, hq, ho, hc⟩ := T.nthF (f := TOp.vs) (m := 5) 0 rfl TOp_len (by decide) (j := (i : Int)) (by omega) hlt
    rw [Int.toNat_natCast] at ho
    have nxt : ¬ (o.k = 3 ∧ o.e ≠ 0) → Rng .i64 ((i : Int) + 1) ∧ (∃ j : Nat, (i : Int) + 1 = (j : Int) ∧ j ≤ tn ∧ (∀ (m : Nat) (o : TOp), m < j → L'[m]? = some o → ¬ (o.k = 3 ∧ o.e ≠ 0)) ∧ w3 = w3) ∧ ((tn : Int) - ((i : Int) + 1)).toNat < ((tn : Int) - (i : Int)).toNat := fun hx =>
      ⟨Rng.i64 (by omega) (by omega), ⟨i + 1, by push_cast; rfl, by omega, fun m u hm hu => by
        by_cases hmi : m = i
        · subst hmi
          rw [ho] at hu
          cases hu
          exact hx
        · exact hno m u (by omega) hu, rfl⟩, by omega⟩
    refine ⟨⟨by omega, hlt⟩, q, hq, ldp0 hc (h := .int .i64) (x := o.k) rfl (cond_eq (fun h3 => ?_) (fun h3 => nxt fun x => h3 x.1))⟩
    refine ⟨⟨by omega, hlt⟩, q, hq, ldp hc 4 (h := .int .i64) (x := o.e) rfl (cond_ne (fun he => ⟨fun x => (nomatch x), T.ext⟩) (fun he => nxt fun x => x.2 he))⟩
  · refine ⟨fun _ => ?_, T.ext⟩
    cases hf
    · rfl
    · exfalso
      obtain ⟨d, hd, hd1, hd2⟩ := hh rfl
      rw [← hL] at hd
      obtain ⟨o, ho, rfl⟩ := List.mem_map.1 hd
      obtain ⟨j, hj⟩ := List.getElem?_of_mem ho
      have hjl := (List.getElem?_eq_some_iff.1 hj).1
      exact hno j o (by omega) hj ⟨hd1, hd2⟩
end Go.Proofs.Ytlpeoaphdmfjdaa.Vc
/-! Plain laws of layer 20 (keybox): what bits that are set, or left, leave of a record. -/
namespace Go.Proofs.Ytlpeoaphdmfjdaa.Vc
open Go Go.Eng Go.RowKit
theorem hasL_drop {xs : List Int} {n i : Nat} : hasL (xs.drop n) i = hasL xs (8 * n + i) := by
  unfold hasL
  rw [show (8 * n + i) / 8 = n + i / 8 from by omega, show (8 * n + i) % 8 = i % 8 from by omega, List.getD_eq_getElem?_getD, List.getD_eq_getElem?_getD, List.getElem?_drop]
theorem hasL_take {xs : List Int} {n i : Nat} (h : i < 8 * n) : hasL (xs.take n) i = hasL xs i := by
  unfold hasL
  rw [List.getD_eq_getElem?_getD, List.getD_eq_getElem?_getD, List.getElem?_take_of_lt (by omega)]
theorem hasL_part {xs : List Int} {a b i : Nat} (h : i < 8 * (b - a)) : hasL (part xs a b) i = hasL xs (8 * a + i) := by
  unfold part
  rw [hasL_take h, hasL_drop]
theorem part_in {xs : List Int} {i j k : Nat} (h : j ≤ k) : part (part xs 0 k) i j = part xs i j := by
  unfold part
  rw [List.drop_zero, Nat.sub_zero, List.drop_take, List.take_take, Nat.min_eq_left (by omega)]
theorem getD_part {xs : List Int} {i k : Nat} (h : i < k) : (part xs 0 k).getD i 0 = xs.getD i 0 := by
  unfold part
  rw [List.drop_zero, Nat.sub_zero, List.getD_eq_getElem?_getD, List.getElem?_take_of_lt h, ← List.getD_eq_getElem?_getD]
theorem hdOf_part {xs ys : List Int} (h : part xs 0 24 = part ys 0 24) : hdOf xs = hdOf ys := by
  have e : ∀ zs : List Int, hdOf zs = hdOf (part zs 0 24) := fun zs => by
    unfold hdOf
    rw [getD_part (by omega), getD_part (by omega), getD_part (by omega), part_in (by omega), part_in (by omega), part_in (by omega)]
  rw [e xs, e ys, h]
theorem head_up {xs ys : List Int} (bx : Byt xs) (by' : Byt ys) (hx : 48 ≤ xs.length) (hy : 48 ≤ ys.length) (hs : ∀ i, i < 384 → hasL xs i = true → hasL ys i = true) (okx : okR xs) (oky : okR ys) : hdOf ys = hdOf xs := by
  have hbit : ∀ {zs : List Int}, Byt zs → 48 ≤ zs.length → okR zs → ∀ i, i < 192 → hasL zs (192 + i) = !hasL zs i := fun {zs} bz hz ok i hi => by
    have h1 : hasL (part zs 24 48) i = hasL zs (192 + i) := hasL_part (a := 24) (b := 48) (by omega)
    have h2 : hasL (part zs 0 24) i = hasL zs (8 * 0 + i) := hasL_part (a := 0) (b := 24) (by omega)
    rw [← h1, ← ok.2.2, hasL_inv (part_byt bz 0 24) (by rw [part_length (by omega) (by omega)]; omega), h2, Nat.mul_zero, Nat.zero_add]
  refine hdOf_part (bits_ext (part_byt by' _ _) (part_byt bx _ _) (by rw [part_length (by omega) (by omega), part_length (by omega) (by omega)]) fun i hi => ?_)
  rw [part_length (by omega) (by omega)] at hi
  rw [hasL_part (by omega), hasL_part (by omega), Nat.mul_zero, Nat.zero_add]
  have a := hbit bx hx okx i (by omega)
  have b := hbit by' hy oky i (by omega)
  have c := hs i (by omega)
  have d := hs (192 + i) (by omega)
  cases h1 : hasL xs i <;> cases h2 : hasL ys i
  · rfl
  · rw [h1] at a
    rw [h2] at b
    rw [d a] at b
    cases b
  · rw [c h1] at h2
    cases h2
  · rfl
def Up (z : Nat) (P P' : List (List Int)) : Prop := P'.length = P.length ∧ (∀ q ∈ P', q.length = z ∧ Byt q) ∧ ∀ j i, j < P.length → i < 8 * z → hasL (P.getD j []) i = true → hasL (P'.getD j []) i = true
theorem hasL_flat {z : Nat} {P : List (List Int)} (hP : ∀ q ∈ P, q.length = z) {j i : Nat} (hj : j < P.length) (hi : i < 8 * z) : hasL (P.getD j []) i = hasL P.flatten (8 * (j * z) + i) := by
  unfold hasL
  have h := fl_get (f := id) (m := z) hP (some_getD (d := []) hj) (j := i / 8) (by omega)
  rw [show (8 * (j * z) + i) / 8 = j * z + i / 8 from by omega, show (8 * (j * z) + i) % 8 = i % 8 from by omega, List.getD_eq_getElem?_getD (l := P.flatten), ← List.flatMap_id, h]
  rfl
theorem up_era {z p : Nat} {P : List (List Int)} {ms : List Int} (hp : 0 < p) (hl : P.length = p) (hP : ∀ q ∈ P, q.length = z ∧ Byt q) : Up z P (cutL (eraL P.flatten ms) p) := by
  have hfl : P.flatten.length = p * z := by rw [← List.flatMap_id, fl_len (f := id) fun q hq => (hP q hq).1, hl]
  have hfb : Byt P.flatten := fun v hv => by
    obtain ⟨q, hq, hv⟩ := List.mem_flatten.1 hv
    exact (hP q hq).2 v hv
  have hel : (eraL P.flatten ms).length = p * z := by unfold eraL; rw [turn_length, hfl]
  obtain ⟨c1, c2, c3⟩ := cutL_flat (z := z) hp hel
  have hcb := cutL_byt (all := eraL P.flatten ms) (p := p) (turn_byt hfb _ _)
  refine ⟨c2.trans hl.symm, fun q hq => ⟨c3 q hq, hcb q hq⟩, fun j i hj hi h => ?_⟩
  have hlt : 8 * (j * z) + i < 8 * (p * z) := by
    have : (j + 1) * z ≤ p * z := Nat.mul_le_mul_right _ (by omega)
    rw [Nat.add_mul, Nat.one_mul] at this
    omega
  rw [hasL_flat (fun q hq => (hP q hq).1) hj hi] at h
  rw [hasL_flat c3 (by omega) hi, c1]
  unfold eraL
  rw [hasL_turn hfb _ (by omega) _ (Nat.le_refl _), if_neg (fun hh => ?_)]
  · exact h
  · have := hh.2
    unfold erF at this
    rw [h] at this
    cases this
def Dead (g : Geo) (P : List (List Int)) : Prop := ∃ i, 8 * (g.s.toNat + 80) ≤ i ∧ i < 8 * (g.s.toNat + 88) ∧ hasL (P.getD ((nCh g).toNat - 1) []) i = true
theorem Dead.up {g : Geo} {z : Nat} {P P' : List (List Int)} (hR : Right g) (h : Dead g P) (u : Up z P P') (hz : z = g.s.toNat + 88) (hl : (nCh g).toNat ≤ P.length) : Dead g P' := by
  obtain ⟨i, h1, h2, h3⟩ := h
  have := (nCh_bd hR).1
  exact ⟨i, h1, h2, u.2.2 _ i (by omega) (by omega) h3⟩
theorem Dead.no {g : Geo} {P : List (List Int)} (hR : Right g) (h : Dead g P) : ¬ holds g (P.take (nCh g).toNat) := fun hh => by
  obtain ⟨i, h1, h2, h3⟩ := h
  have hn := (nCh_bd hR).1
  have hp := (hh.2.2 ((nCh g).toNat - 1) (by omega)).2.2.2 (by omega)
  have hg : (P.take (nCh g).toNat).getD ((nCh g).toNat - 1) [] = P.getD ((nCh g).toNat - 1) [] := by
    rw [List.getD_eq_getElem?_getD, List.getElem?_take_of_lt (by omega), ← List.getD_eq_getElem?_getD]
  rw [hg] at hp
  unfold comm endP at hp
  have hp := of_decide_eq_true hp
  have hz : hasL (((P.getD ((nCh g).toNat - 1) []).drop g.s.toNat).drop 80) (i - 8 * (g.s.toNat + 80)) = true := by
    rw [hasL_drop, hasL_drop]
    rw [show 8 * g.s.toNat + (8 * 80 + (i - 8 * (g.s.toNat + 80))) = i from by omega]
    exact h3
  rw [hp.2] at hz
  unfold hasL at hz
  rw [List.getD_eq_getElem?_getD, List.getElem?_replicate] at hz
  have b0 : ∀ j : Fin 8, bitB 0 j.val = false := by decide
  have b1 := b0 ⟨(i - 8 * (g.s.toNat + 80)) % 8, Nat.mod_lt _ (by decide)⟩
  split at hz
  · exact absurd (hz.symm.trans b1) (by decide)
  · exact absurd (hz.symm.trans b1) (by decide)
end Go.Proofs.Ytlpeoaphdmfjdaa.Vc
/-! Plain laws of layer 20 (keybox): what a write leaves that was not done. -/
namespace Go.Proofs.Ytlpeoaphdmfjdaa.Vc
open Go Go.Eng Go.RowKit
def mkR (g : Geo) (i : Nat) : Prop := 8 * (g.s.toNat + 80) ≤ i ∧ i < 8 * (g.s.toNat + 88)
def MkOn (g : Geo) (P : List (List Int)) : Prop := ∀ i, mkR g i → hasL (P.getD ((nCh g).toNat - 1) []) i = true
theorem MkOn.dead {g : Geo} {P : List (List Int)} (h : MkOn g P) : Dead g P := ⟨8 * (g.s.toNat + 80), by omega, by omega, h _ ⟨by omega, by omega⟩⟩
theorem hasL_rep {n i : Nat} (h : i < 8 * n) : hasL (List.replicate n 255) i = true := by
  unfold hasL
  rw [List.getD_eq_getElem?_getD, List.getElem?_replicate, if_pos (by omega)]
  exact bit255 ⟨i % 8, Nat.mod_lt _ (by decide)⟩
theorem hasL_rep0 {n i : Nat} : hasL (List.replicate n 0) i = false := by
  unfold hasL
  have b0 : ∀ j : Fin 8, bitB 0 j.val = false := by decide
  have b1 := b0 ⟨i % 8, Nat.mod_lt _ (by decide)⟩
  rw [List.getD_eq_getElem?_getD, List.getElem?_replicate]
  split
  · exact b1
  · exact b1
theorem hasL_right {xs ys : List Int} {i : Nat} (h : 8 * xs.length ≤ i) : hasL (xs ++ ys) i = hasL ys (i - 8 * xs.length) := by
  unfold hasL
  rw [List.getD_eq_getElem?_getD, List.getD_eq_getElem?_getD, List.getElem?_append_right (by omega), show (i - 8 * xs.length) / 8 = i / 8 - xs.length from by omega, show (i - 8 * xs.length) % 8 = i % 8 from by omega]
theorem hasL_left {xs ys : List Int} {i : Nat} (h : i < 8 * xs.length) : hasL (xs ++ ys) i = hasL xs i := by
  unfold hasL
  rw [List.getD_eq_getElem?_getD, List.getD_eq_getElem?_getD, List.getElem?_append_left (by omega)]
theorem mark_pg {g : Geo} (hR : Right g) {rec : List Int} (hr : rec.length = 624) {gen : Int} {j : Nat} (hj : j < (nCh g).toNat) {i : Nat} (hi : mkR g i) : hasL (pgOf g rec gen j) i = true := by
  obtain ⟨h1, h2⟩ := hi
  have hc := chk_length hR hr hj
  have hs := hR.sec
  have hel := endL_length (ownH g j gen) (tg := []) (.inl rfl)
  unfold pgOf mkL payL
  rw [if_neg (by omega), hasL_right (by omega), hc]
  unfold endL at hel ⊢
  rw [List.length_append, List.length_replicate] at hel
  rw [hasL_right (by omega)]
  exact hasL_rep (by omega)
theorem com_left {g : Geo} (hR : Right g) {i : Nat} (h : i < 8 * (g.s.toNat + 80)) : hasL (comL g) i = true := by
  have hs := hR.sec
  unfold comL
  rw [hasL_left (by rw [List.length_replicate]; omega)]
  exact hasL_rep (by omega)
theorem com_right {g : Geo} (hR : Right g) {i : Nat} (h : 8 * (g.s.toNat + 80) ≤ i) : hasL (comL g) i = false := by
  have hs := hR.sec
  unfold comL
  rw [hasL_right (by rw [List.length_replicate]; omega)]
  exact hasL_rep0
theorem progL_bit {was b ms : List Int} {f : Bool} (bw : Byt was) {i : Nat} (hi : i < 8 * was.length) (h : hasL b i = true) : hasL (progL was b ms f) i = hasL was i := by
  unfold progL
  rw [hasL_turn bw _ hi _ (Nat.le_refl _), if_neg]
  intro hh
  have := hh.2
  unfold prF prC at this
  rw [h] at this
  simp at this
theorem progL_len (was b ms : List Int) (f : Bool) : (progL was b ms f).length = was.length := by unfold progL; rw [turn_length]
theorem progL_byt {was b ms : List Int} {f : Bool} (bw : Byt was) : Byt (progL was b ms f) := turn_byt bw _ _
theorem set_at {P : List (List Int)} {a j : Nat} {q : List Int} (ha : a < P.length) : (P.set a q).getD j [] = if j = a then q else P.getD j [] := by
  rw [List.getD_eq_getElem?_getD]
  split
  · rename_i e
    subst e
    rw [List.getElem?_set_self ha]
    rfl
  · rename_i e
    rw [List.getElem?_set_ne (fun x => e x.symm), ← List.getD_eq_getElem?_getD]
theorem prog_mark {C : CD} {k pi : Int} {b : List Int} (hC : COk C) (bb : Byt b) (hm : pi.toNat = (nCh C.g).toNat - 1 → ∀ i, mkR C.g i → hasL b i = true) (h : MkOn C.g (blkC C k).pg) : MkOn C.g (blkC (progC C k pi b).1 k).pg := by
  unfold progC
  by_cases hr : refC C k pi b.length = 0
  case neg => rw [if_neg hr]; exact h
  rw [if_pos hr]
  obtain ⟨hin, hbl, -⟩ := ref_in hr
  obtain ⟨-, ⟨n3, n4⟩, -, n7, n8⟩ := hC.num
  have hbo := (hC.blk hin.1).2
  obtain ⟨-, pl, pb⟩ := hC.page hin
  have hpi : pi.toNat < (blkC C k).pg.length := by rw [hbo.pl]; have := hin.2; omega
  have hbk : (blkC (progX C k pi b) k).pg = (blkC C k).pg.set pi.toNat (if (codeC C).1 = 0 then andL (pgC13 C k pi) b else progL (pgC13 C k pi) b (codeC C).2.1 (!(codeC C).2.2)) := by
    rw [blk_set (C' := progX C k pi b) hC hin.1 rfl]
  intro i hi
  rw [hbk, set_at hpi]
  split
  · rename_i e
    have hb := hm e.symm i hi
    have hw : hasL (pgC13 C k pi) i = true := by
      have := h i hi
      rw [e] at this
      exact this
    obtain ⟨m1, m2⟩ := hi
    split
    · rw [hasL_and pb bb (by rw [pl]; omega), hw, hb]; rfl
    · rw [progL_bit pb (by rw [pl]; omega) hb]; exact hw
  · exact h i hi
theorem wrPg_mark {k : Int} : ∀ {l : List (List Int)} {i : Nat} {C : CD}, COk C → (∀ x ∈ l, Byt x) → C.ops + l.length ≤ 1000000 → (∀ (j : Nat) (x : List Int), l[j]? = some x → i + j = (nCh C.g).toNat - 1 → ∀ t, mkR C.g t → hasL x t = true) → MkOn C.g (blkC C k).pg → MkOn C.g (blkC (wrPg k l (i : Int) C).1 k).pg
  | [], i, C, hC, _, _, _, h => h
  | p :: ps, i, C, hC, hb, ho, hl, h => by
    rw [List.length_cons] at ho
    have hbp := hb p List.mem_cons_self
    obtain ⟨a1, a2, a3⟩ := progC_ok hC k (i : Int) hbp (by omega)
    obtain ⟨g1, g2⟩ := progC_k C k (i : Int) p
    have h1 := prog_mark (k := k) (pi := (i : Int)) hC hbp (fun e t ht => hl 0 p rfl (by rw [Int.toNat_natCast] at e; omega) t ht) h
    unfold wrPg
    split
    · rw [← g1] at h1
      have := wrPg_mark (k := k) (l := ps) (i := i + 1) a1 (fun x hx => hb x (List.mem_cons_of_mem _ hx)) (by omega) (fun j x hj e t ht => by rw [g1] at e ht; exact hl (j + 1) x hj (by omega) t ht) h1
      rw [g1] at this
      rw [show (i : Int) + 1 = ((i + 1 : Nat) : Int) from by push_cast; rfl]
      exact this
    · exact h1
theorem wrK_fail {C : CD} {k : Int} {rec : List Int} {gen : Int} (hC : COk C) (hk : 0 ≤ k ∧ k < C.g.b) (hW : WrI C.g (blkC C k) 0) (hr : rec.length = 624) (br : Byt rec) (hgen : 0 ≤ gen ∧ gen < 18446744073709551616) (ho : C.ops + (nCh C.g).toNat + 1 ≤ 1000000) (h : (wrK C k (pagesL C.g rec gen)).2 ≠ 0) :
    Dead C.g (blkC (wrK C k (pagesL C.g rec gen)).1 k).pg ∨ ((wrK C k (pagesL C.g rec gen)).2 = 4 ∧ (blkC (wrK C k (pagesL C.g rec gen)).1 k).pg.take (nCh C.g).toNat = mkdL C.g rec gen) := by
  have hR := hC.g
  have hn := (nCh_bd hR).1
  have hll := pagesL_length C.g rec gen
  obtain ⟨n1, n2, n3, n4, n5⟩ := hC.num
  have hnp : nCh C.g ≤ C.g.p := by unfold Right at hR; exact hR.2.1
  have hbt := pagesL_byt hR br hgen
  have hl : ∀ x ∈ pagesL C.g rec gen, x.length = szP C.g ∧ Byt x := fun x hx => by
    refine ⟨?_, hbt x hx⟩
    obtain ⟨i, hi, rfl⟩ := List.mem_map.1 hx
    have hi := List.mem_range.1 hi
    have hc := chk_length hR hr hi
    unfold pgOf mkL payL
    rw [List.length_append, endL_length _ (.inl rfl), if_neg (by omega), hc, n4]
  have hm0 : MkOn C.g (blkC C k).pg := fun i hi => by
    rw [hW.pg ((nCh C.g).toNat - 1) (by omega) (by omega)]
    exact hasL_rep (by have := hi.2; omega)
  have hm1 : MkOn C.g (blkC (wrPg k (pagesL C.g rec gen) ((0 : Nat) : Int) C).1 k).pg := wrPg_mark hC hbt (by rw [hll]; omega) (fun j x hj e t ht => by
    have hjn : j < (nCh C.g).toNat := by omega
    rw [pagesL_get hjn] at hj
    cases hj
    exact mark_pg hR hr hjn ht) hm0
  obtain ⟨w1, w2⟩ := wrPg_done (k := k) (l := pagesL C.g rec gen) (i := 0) hC hk hW (by rw [hll]; omega) hl (by rw [hll]; omega)
  rw [hll] at w1 w2
  rw [Nat.zero_add] at w2
  rw [show ((0 : Nat) : Int) = 0 from rfl] at w1 w2 hm1
  obtain ⟨o1, o2, o3, o4, o5⟩ := wrPg_ok k (l := pagesL C.g rec gen) (i := 0) hC hbt (by rw [hll]; omega)
  have hsm := wrPg_same k (pagesL C.g rec gen) 0 C
  have e1 : (((nCh C.g).toNat : Nat) : Int) - 1 = (((nCh C.g).toNat - 1 : Nat) : Int) := by omega
  unfold wrK at h ⊢
  rw [hll, e1] at h ⊢
  by_cases h0 : (wrPg k (pagesL C.g rec gen) 0 C).2 = 0
  case neg => rw [if_neg h0]; exact .inl hm1.dead
  rw [if_pos h0] at h ⊢
  by_cases hoff : C.off = true
  · -- without power nothing is programmed
    exfalso
    obtain ⟨p, ps, hps⟩ : ∃ p ps, pagesL C.g rec gen = p :: ps := by
      cases hq : pagesL C.g rec gen with
      | nil => rw [hq] at hll; simp at hll; omega
      | cons p ps => exact ⟨p, ps, rfl⟩
    rw [hps] at h0
    unfold wrPg progC refC at h0
    rw [if_pos hoff] at h0
    simp at h0
  have hoff : C.off = false := by simpa using hoff
  obtain ⟨b1, b2, b3, b4, b5, b6⟩ := w2 h0 hoff
  have b4 : (blkC (wrPg k (pagesL C.g rec gen) 0 C).1 k).pg = [] ++ (pagesL C.g rec gen ++ (blkC C k).pg.drop (nCh C.g).toNat) := b4
  rw [List.nil_append] at b4
  generalize (wrPg k (pagesL C.g rec gen) 0 C).1 = C1 at *
  unfold progC at h ⊢
  by_cases hrf : refC C1 k (((nCh C.g).toNat - 1 : Nat) : Int) (comL C.g).length = 0
  case neg => rw [if_neg hrf]; exact .inl hm1.dead
  rw [if_pos hrf] at h ⊢
  have h : (codeC C1).1 ≠ 0 := h
  obtain ⟨hin, hcl, -⟩ := ref_in hrf
  obtain ⟨-, pl, pb⟩ := o1.page hin
  have hlen : (blkC C1 k).pg.length = C.g.p.toNat := by have := (o1.blk hin.1).2.pl; rw [o2] at this; exact this
  have hpp : pgC13 C1 k (((nCh C.g).toNat - 1 : Nat) : Int) = pgOf C.g rec gen ((nCh C.g).toNat - 1) := by
    unfold pgC13
    rw [b4, Int.toNat_natCast, List.getD_eq_getElem?_getD, List.getElem?_append_left (by rw [hll]; omega), pagesL_get (by omega)]
    rfl
  have hbk : (blkC (progX C1 k (((nCh C.g).toNat - 1 : Nat) : Int) (comL C.g)) k).pg = (blkC C1 k).pg.set ((nCh C.g).toNat - 1) (progL (pgC13 C1 k (((nCh C.g).toNat - 1 : Nat) : Int)) (comL C.g) (codeC C1).2.1 (!(codeC C1).2.2)) := by
    rw [blk_set (C' := progX C1 k (((nCh C.g).toNat - 1 : Nat) : Int) (comL C.g)) o1 hin.1 rfl]
    dsimp only
    rw [if_neg h, Int.toNat_natCast]
  show Dead C.g (blkC (progX C1 k (((nCh C.g).toNat - 1 : Nat) : Int) (comL C.g)) k).pg ∨ ((codeC C1).1 = 4 ∧ (blkC (progX C1 k (((nCh C.g).toNat - 1 : Nat) : Int) (comL C.g)) k).pg.take (nCh C.g).toNat = mkdL C.g rec gen)
  rw [hbk]
  rw [hpp] at pl pb ⊢
  rw [o2] at pl
  have hwm : ∀ i, mkR C.g i → hasL (pgOf C.g rec gen ((nCh C.g).toNat - 1)) i = true := fun i hi => mark_pg hR hr (by omega) hi
  have hcb := comL_byt20 C.g
  generalize hwas : pgOf C.g rec gen ((nCh C.g).toNat - 1) = was at *
  generalize (codeC C1).2.1 = ms
  by_cases hd : ∃ i, mkR C.g i ∧ hasL (progL was (comL C.g) ms (!(codeC C1).2.2)) i = true
  · obtain ⟨i, hi, hi2⟩ := hd
    refine .inl ⟨i, hi.1, hi.2, ?_⟩
    rw [set_at (by omega), if_pos rfl]
    exact hi2
  · have hall : progL was (comL C.g) ms (!(codeC C1).2.2) = andL was (comL C.g) := by
      refine bits_ext (progL_byt pb) (andL_byt _ _) (by rw [progL_len, andL_length]) fun i hi => ?_
      rw [progL_len] at hi
      rw [hasL_and pb hcb hi]
      by_cases him : mkR C.g i
      · rw [com_right hR him.1, Bool.and_false]
        cases hq : hasL (progL was (comL C.g) ms (!(codeC C1).2.2)) i
        · rfl
        · exact absurd ⟨i, him, hq⟩ hd
      · have hlt : i < 8 * (C.g.s.toNat + 80) := by
          unfold mkR at him
          omega
        rw [com_left hR hlt, Bool.and_true, progL_bit pb hi (com_left hR hlt)]
    have h4 : (codeC C1).1 = 4 := by
      rcases code_cases C1 with x | x | x
      · exact absurd x h
      · exact x
      · exfalso
        have hcr : (codeC C1).2.2 = false := by
          cases hq : (codeC C1).2.2
          · rfl
          · have := (code_off C1).2 hq
            omega
        rw [hcr] at hall
        have hfw := (fail_whole (ms := ms) pb hcb rfl).1 hall
        have hbit := hwm (8 * (C.g.s.toNat + 80)) ⟨by omega, by omega⟩
        rw [hfw, hasL_and pb hcb (by rw [pl]; omega), com_right hR (by omega), Bool.and_false] at hbit
        cases hbit
    refine .inr ⟨h4, ?_⟩
    rw [hall, b4, List.set_append_left _ _ (by rw [hll]; omega), List.take_append_of_le_length (by rw [List.length_set, hll]; omega), List.take_of_length_le (by rw [List.length_set, hll]; omega)]
    unfold mkdL lastM
    rw [← hwas]
    unfold pgOf
    congr 1
    exact and_mk hR.sec (chk_len2 hR hr (by omega)) (ownH_right (by omega)) (chk_byt br _) Byt.nil (.inl rfl)
end Go.Proofs.Ytlpeoaphdmfjdaa.Vc
/-! Plain laws of layer 20 (keybox): what is gone behind a Commit. -/
namespace Go.Proofs.Ytlpeoaphdmfjdaa.Vc
open Go Go.Eng Go.RowKit
def zB (g : Geo) : Nat := g.p.toNat * szP g
structure KSame (B B' : KB) (k : Int) : Prop where
  C : Same B.C B'.C k
  c : ∀ j : Int, j.toNat ≠ k.toNat → B'.c j = B.c j
  b : ∀ j : Int, j.toNat ≠ k.toNat → B'.b j = B.b j
  l : ∀ j : Int, j.toNat ≠ k.toNat → B'.l j = B.l j
theorem getD_set_ne {l : List Bool} {i j : Nat} {v : Bool} (h : j ≠ i) : (l.set i v).getD j false = l.getD j false := by
  rw [List.getD_eq_getElem?_getD, List.getElem?_set_ne (fun e => h e.symm), ← List.getD_eq_getElem?_getD]
theorem getD_set_eq {l : List Bool} {i : Nat} {v : Bool} (h : i < l.length) : (l.set i v).getD i false = v := by
  rw [List.getD_eq_getElem?_getD, List.getElem?_set_self h]
  rfl
theorem KSame.trans {B B' B'' : KB} {k : Int} (h : KSame B B' k) (h' : KSame B' B'' k) : KSame B B'' k :=
  ⟨h.C.trans h'.C, fun j hj => (h'.c j hj).trans (h.c j hj), fun j hj => (h'.b j hj).trans (h.b j hj), fun j hj => (h'.l j hj).trans (h.l j hj)⟩
theorem ds_same (B : KB) (k : Int) : KSame B (dsK B k).1 k := by
  have e1 := era_same B.C k
  have e2 := scr_same (eraC B.C k).1 k
  have fx : ∀ {l : List Bool} {v : Bool} (j : Int), j.toNat ≠ k.toNat → (l.set k.toNat v).getD j.toNat false = l.getD j.toNat false := fun j hj => getD_set_ne hj
  unfold dsK
  split
  · split
    · exact ⟨e1.trans e2, fun j hj => fx j hj, fun j hj => fx j hj, fun j hj => rfl⟩
    · exact ⟨e1.trans e2, fun j hj => fx j hj, fun j hj => fx j hj, fun j hj => fx j hj⟩
  · split
    · exact ⟨e1, fun j hj => fx j hj, fun j hj => rfl, fun j hj => fx j hj⟩
    · exact ⟨e1, fun j hj => rfl, fun j hj => rfl, fun j hj => rfl⟩
end Go.Proofs.Ytlpeoaphdmfjdaa.Vc
/-! Plain laws of layer 20 (keybox): what a key store keeps, whatever fails, if no scrub is done half. -/
namespace Go.Proofs.Ytlpeoaphdmfjdaa.Vc
open Go Go.Eng Go.RowKit
abbrev pgK (C : CD) (j : Int) : List (List Int) := (blkC C j).pg
abbrev nK (g : Geo) : Nat := (nCh g).toNat
def Old (g : Geo) (G : Int) (P : List (List Int)) : Prop := ∃ (r : List Int) (e : Int), r.length = 624 ∧ (0 ≤ e ∧ e < 18446744073709551616) ∧ e < G ∧ P.take (nK g) = mkdL g r e
def Zer (g : Geo) (P : List (List Int)) : Prop := P.flatten = List.replicate (zB g) 0
def Low (g : Geo) (G : Int) (P : List (List Int)) : Prop := holds g (P.take (nK g)) → gen0 g (P.take (nK g)) < G
def Oth (g : Geo) (B : KB) (G : Int) (j : Int) : Prop := Dead g (pgK B.C j) ∨ (Zer g (pgK B.C j) ∧ B.b j = true) ∨ Old g G (pgK B.C j)
theorem nK_eq (g : Geo) : nK g = (nCh g).toNat := rfl
theorem szP_eq {g : Geo} (hR : Right g) : szP g = g.s.toNat + 88 := by have := hR.sec; show (g.s + 88).toNat = _; omega
theorem Old.mono {g : Geo} {G G' : Int} {P : List (List Int)} (h : Old g G P) (hG : G ≤ G') : Old g G' P := by
  obtain ⟨r, e, h1, h2, h3, h4⟩ := h
  exact ⟨r, e, h1, h2, by omega, h4⟩
theorem Dead.low {g : Geo} {G : Int} {P : List (List Int)} (hR : Right g) (h : Dead g P) : Low g G P := fun x => absurd x (h.no hR)
theorem take_getD2 {P : List (List Int)} {n i : Nat} (h : i < n) : (P.take n).getD i [] = P.getD i [] := by
  rw [List.getD_eq_getElem?_getD, List.getElem?_take_of_lt h, ← List.getD_eq_getElem?_getD]
theorem Old.low {g : Geo} {G : Int} {P : List (List Int)} (hR : Right g) (h : Old g G P) : Low g G P := fun x => by
  obtain ⟨r, e, h1, h2, h3, h4⟩ := h
  have hn := (nCh_bd hR).1
  have hnk := nK_eq g
  unfold gen0
  rw [h4, (mkd_facts hR h1 h2 (i := 0) (by omega)).2.2.1]
  exact h3
theorem Zer.low {g : Geo} {G : Int} {P : List (List Int)} (hR : Right g) (h : Zer g P) (hP : ∀ q ∈ P, q.length = szP g) (hl : P.length = g.p.toNat) : Low g G P := fun x => by
  have hn := (nCh_bd hR).1
  have hnk := nK_eq g
  have hsz := szP_eq hR
  have hk := hR.1
  unfold Kept at hk
  have h0 := (x.2.2 0 (by omega)).2.1.1.1
  rw [take_getD2 (by omega)] at h0
  have hz : (P.getD 0 []).getD g.s.toNat 0 = 0 := by
    have h5 := fl_get (f := id) (m := szP g) hP (some_getD (l := P) (i := 0) (d := []) (by omega)) (j := g.s.toNat) (by omega)
    rw [List.flatMap_id, h, List.getElem?_replicate] at h5
    rw [List.getD_eq_getElem?_getD]
    rw [show (id (P.getD 0 []))[g.s.toNat]? = (P.getD 0 [])[g.s.toNat]? from rfl] at h5
    rw [← h5]
    split <;> rfl
  have h6 : (endP g (P.getD 0 [])).getD 0 0 = (P.getD 0 []).getD g.s.toNat 0 := by
    unfold endP
    rw [List.getD_eq_getElem?_getD, List.getElem?_drop, Nat.add_zero, ← List.getD_eq_getElem?_getD]
  rw [h6, hz] at h0
  omega
theorem torn_low {g : Geo} {G : Int} {P P' : List (List Int)} (hR : Right g) (hP : ∀ q ∈ P, q.length = szP g ∧ Byt q) (hl : P.length = g.p.toNat) (u : Up (szP g) P P') (h : Dead g P ∨ Old g G P) : Low g G P' := by
  have hn := (nCh_bd hR).1
  have hnk := nK_eq g
  have hsz := szP_eq hR
  have hk := hR.1
  have hnp : nCh g ≤ g.p := by unfold Right at hR; exact hR.2.1
  unfold Kept at hk
  rcases h with h | h
  · exact Dead.low hR (h.up hR u (by omega) (by omega))
  · obtain ⟨r, e, h1, h2, h3, h4⟩ := h
    intro x
    have hx0 : P.getD 0 [] = (mkdL g r e).getD 0 [] := by rw [← h4, take_getD2 (by omega)]
    obtain ⟨f1, f2, f3, -, -⟩ := mkd_facts hR h1 h2 (i := 0) (by omega)
    rw [← hx0] at f1 f2 f3
    have hy := (x.2.2 0 (by omega)).2.1
    rw [take_getD2 (by omega)] at hy
    have hpl : 0 < P.length := by omega
    have hm : P.getD 0 [] ∈ P := List.mem_of_getElem? (some_getD (d := []) hpl)
    have hm' : P'.getD 0 [] ∈ P' := List.mem_of_getElem? (some_getD (d := []) (by rw [u.1]; omega))
    obtain ⟨l1, b1⟩ := hP _ hm
    obtain ⟨l2, b2⟩ := u.2.1 _ hm'
    have hh : hdOf (endP g (P'.getD 0 [])) = hdOf (endP g (P.getD 0 [])) := by
      refine head_up (b1.drop _) (b2.drop _) ?_ ?_ (fun i hi h => ?_) f2 hy
      · unfold endP; rw [List.length_drop, l1]; omega
      · unfold endP; rw [List.length_drop, l2]; omega
      · unfold endP at h ⊢
        rw [hasL_drop] at h ⊢
        exact u.2.2 0 _ hpl (by omega) h
    unfold gen0
    rw [take_getD2 (by omega), hh, f3]
    exact h3
def FIN (g : Geo) (C : CD) (G : Int) (r : List Int) : Prop := ∃ c : Int, (0 ≤ c ∧ c < 4) ∧ (pgK C c).take (nK g) = mkdL g r G ∧ ∀ j : Int, 0 ≤ j → j < 4 → j ≠ c → Low g G (pgK C j)
structure IN (g : Geo) (B : KB) (G : Int) (r : List Int) : Prop where
  ki : KI g B
  off : B.C.off = false
  hcu : 0 ≤ B.cu
  hG : 0 ≤ G ∧ G < 18446744073709551616
  hr : r.length = 624
  cur : (pgK B.C B.cu).take (nK g) = mkdL g r G
  oth : ∀ j : Int, 0 ≤ j → j < 4 → j ≠ B.cu → Oth g B G j
  cln : ∀ j : Int, 0 ≤ j → j < 4 → B.c j = true → WrI g (blkC B.C j) 0
  lk : ∀ j : Int, 0 ≤ j → j < 4 → B.l j = false
theorem pg_ok {g : Geo} {B : KB} (h : KI g B) {j : Int} (hj : 0 ≤ j ∧ j < 4) : (∀ q ∈ pgK B.C j, q.length = szP g ∧ Byt q) ∧ (pgK B.C j).length = g.p.toNat := by
  have hb := h.ok.num.1
  have hbo := (h.ok.blk (bl := j) (by omega)).2
  rw [h.gg] at hbo
  exact ⟨hbo.pb, hbo.pl⟩
theorem Oth.low {g : Geo} {B : KB} {G : Int} {j : Int} (h : KI g B) (hj : 0 ≤ j ∧ j < 4) (ho : Oth g B G j) : Low g G (pgK B.C j) := by
  have hR : Right g := by have := h.ok.g; rwa [h.gg] at this
  obtain ⟨p1, p2⟩ := pg_ok h hj
  rcases ho with x | x | x
  · exact x.low hR
  · exact x.1.low hR (fun q hq => (p1 q hq).1) p2
  · exact x.low hR
theorem Oth.mono {g : Geo} {B : KB} {G G' : Int} {j : Int} (h : Oth g B G j) (hG : G ≤ G') : Oth g B G' j := h.imp id (Or.imp id fun x => x.mono hG)
theorem IN.fin {g : Geo} {B : KB} {G : Int} {r : List Int} (h : IN g B G r) : FIN g B.C G r :=
  ⟨B.cu, ⟨h.hcu, h.ki.cu.2⟩, h.cur, fun j h1 h2 h3 => (h.oth j h1 h2 h3).low h.ki ⟨h1, h2⟩⟩
theorem blank_dead {g : Geo} (hR : Right g) (e : Int) : Dead g ({ blankB g with er := e } : BD).pg := by
  have hn := (nCh_bd hR).1
  have hk := hR.1
  have hnp : nCh g ≤ g.p := by unfold Right at hR; exact hR.2.1
  unfold Kept at hk
  refine MkOn.dead fun i hi => ?_
  show hasL ((List.replicate g.p.toNat (List.replicate (szP g) (255 : Int))).getD ((nCh g).toNat - 1) []) i = true
  rw [List.getD_eq_getElem?_getD, List.getElem?_replicate, if_pos (by omega)]
  exact hasL_rep (by have := hi.2; show i < 8 * (g.s + 88).toNat; omega)
theorem ds_in {g : Geo} {B : KB} {k G : Int} (h : KI g B) (hoff : B.C.off = false) (hk : 0 ≤ k ∧ k < 4) (ho : B.C.ops + 2 ≤ 1000000) (hl : B.l k = false) (hD : Dead g (pgK B.C k) ∨ Old g G (pgK B.C k)) (hh : (dsK B k).1.hf = false) :
    ((dsK B k).2 = 4 ∧ Low g G (pgK (dsK B k).1.C k)) ∨
    (((dsK B k).2 = 0 ∨ (dsK B k).2 = 5) ∧ (dsK B k).1.C.off = false ∧ Oth g (dsK B k).1 G k ∧ ((dsK B k).1.c k = true → WrI g (blkC (dsK B k).1.C k) 0) ∧ (dsK B k).1.l k = false ∧ ((dsK B k).2 = 0 → (dsK B k).1.c k = true ∧ (dsK B k).1.b k = B.b k ∧ Dead g (pgK (dsK B k).1.C k))) := by
  have hR : Right g := by have := h.ok.g; rwa [h.gg] at this
  have hb := h.ok.num.1
  obtain ⟨p1, p2⟩ := pg_ok h hk
  have hn := h.ok.num.2.1
  have hin : 0 ≤ k ∧ k < B.C.g.b := by omega
  have hm : mayC B.C k = 0 := by unfold mayC; rw [if_neg (by rw [hoff]; simp), if_neg (fun x => x hin)]
  have hcl : k.toNat < B.cl.length := by rw [h.cl]; omega
  have hbd : k.toNat < B.bd.length := by rw [h.bd]; omega
  have hlk : k.toNat < B.lk.length := by rw [h.lk]; omega
  have e1 : eraC B.C k = (eraX B.C k, (codeC B.C).1) := by unfold eraC; rw [if_pos hm]
  obtain ⟨a1, -, -⟩ := eraC_ok h.ok k (by omega)
  have hofx : (eraX B.C k).off = (codeC B.C).2.2 := rfl
  rw [e1] at a1
  unfold dsK at hh ⊢
  rw [e1] at hh ⊢
  dsimp only at hh ⊢ a1
  rcases code_cases B.C with hc | hc | hc
  · rw [if_neg (by omega), if_pos hc]
    have hz := era_zero h.ok hin (by rw [e1]; exact hc)
    rw [e1, h.gg] at hz
    dsimp only at hz
    have hd := blank_dead hR ((blkC B.C k).er + 1)
    rw [← hz] at hd
    refine .inr ⟨.inl rfl, hofx.trans ((code_off B.C).1 hc).1, .inl hd, fun _ => ?_, getD_set_eq hlk, fun _ => ⟨getD_set_eq hcl, rfl, hd⟩⟩
    rw [hz]
    exact WrI.blank g _
  · have hne : ¬ (codeC B.C).1 = 0 := by omega
    rw [if_neg (by omega), if_neg hne]
    refine .inl ⟨hc, ?_⟩
    have hbk : blkC (eraX B.C k) k = { blkC B.C k with pg := cutL (eraL (blkC B.C k).pg.flatten (codeC B.C).2.1) B.C.g.p.toNat, er := (blkC B.C k).er + 1 } := by
      refine blk_set (C' := eraX B.C k) h.ok hin ?_
      show B.C.bs.set k.toNat (if (codeC B.C).1 = 0 then _ else _) = _
      rw [if_neg hne]
    show Low g G (blkC (eraX B.C k) k).pg
    rw [hbk]
    refine torn_low hR p1 p2 ?_ hD
    rw [h.gg]
    exact up_era (by rw [h.gg] at hn; omega) p2 p1
  · rw [if_pos hc] at hh ⊢
    have hof : (eraX B.C k).off = false := by
      rw [hofx]
      cases hq : (codeC B.C).2.2
      · rfl
      · have := (code_off B.C).2 hq; omega
    have hg1 : (eraX B.C k).g = B.C.g := rfl
    have hm2 : mayC (eraX B.C k) k = 0 := by unfold mayC; rw [if_neg (by rw [hof]; simp), if_neg (fun x => x (by rw [hg1]; exact hin))]
    have hs0 : (scrC (eraX B.C k) k).2 = 0 := by
      split at hh
      · dsimp only at hh
        rw [hm2] at hh
        simp at hh
        exact hh.2
      · dsimp only at hh
        rw [hm2] at hh
        simp at hh
        exact hh.2
    rw [if_neg (by omega)]
    have hz := scr_zero a1 (by rw [hg1]; exact hin) hs0
    have hofs : (scrC (eraX B.C k) k).1.off = false := by
      unfold scrC at hs0 ⊢
      rw [if_pos hm2] at hs0 ⊢
      have hs0 : (codeC (eraX B.C k)).1 = 0 := hs0
      exact ((code_off (eraX B.C k)).1 hs0).1
    refine .inr ⟨.inr rfl, hofs, .inr (.inl ⟨?_, getD_set_eq hbd⟩), fun hcc => ?_, ?_, fun x => by omega⟩
    · show allC (scrC (eraX B.C k) k).1 k = _
      rw [hz]
      unfold bszC zB
      rw [hg1, h.gg]
    · have hcc : (B.cl.set k.toNat false).getD k.toNat false = true := hcc
      rw [getD_set_eq hcl] at hcc
      cases hcc
    · show (B.lk.set k.toNat ((scrC (eraX B.C k) k).2 != 0)).getD k.toNat false = false
      rw [getD_set_eq hlk, hs0]
      rfl
end Go.Proofs.Ytlpeoaphdmfjdaa.Vc
