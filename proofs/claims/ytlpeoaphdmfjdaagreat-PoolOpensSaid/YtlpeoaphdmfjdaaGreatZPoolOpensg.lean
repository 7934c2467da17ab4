/- Texts in one: The plans of functions as plain statements, printed by wip/tools/vcgen.py; the kernel holds each to the code. The contracts of layer 24: what the laws share: payloads, cases, and a new pool by both. The contracts of layer 24: a new pool by both. The contracts of layer 24: a page written, or copied, by both pools. The contracts of layer 24: a step by both pools. The law HeadMarks of layer 14: each call gives true, and what it read stays. The law PageBack of layer 15: each call gives true, and what it read stays. Plain laws of layer 13: what a trace tells of programs. Plain laws of layer 13: what only clears. Plain laws of layer 24 (pool): what a block has that was destroyed, or opened. What the laws of layer 24 share: a step keeps a pool right; does the program answer at all? The law PoolDestroys of layer 24: each call gives true, and what it read stays. -/
import Derived.Test.YtlpeoaphdmfjdaaGreatZPoolOpensf

set_option linter.unusedVariables false
set_option linter.unusedSimpArgs false
/-! The plans of functions as plain statements, printed by wip/tools/vcgen.py; the kernel holds each to the code. -/
namespace Go.Proofs.YtlpeoaphdmfjdaaGreat.Vc
open Go Go.Eng
def law24_light.A : Ann := .no
def law24_light.P (p0_0 p0_1 p0_2 p0_3 p0_4 p0_5 : Int) (a0_6 : Option Addr) (n0_6 c0_6 : Nat) (a0_7 : Option Addr) (n0_7 c0_7 : Nat) (w : World) (K : Bool × Unit → World → Prop) : Prop :=
  NewV #[.int .i64 p0_0, .int .i64 p0_1, .int .i64 p0_2, .int .i64 p0_3, .int .i64 p0_4, .int .i64 p0_5, .slice a0_6 n0_6 c0_6, .slice a0_7 n0_7 c0_7] 27 w fun b1 w2 =>
  LoadA w2 ⟨b1, 0, none⟩ [.int .i64, .int .i64, .int .i64, .int .i64, .int .i64, .int .i64] fun (x3 : Int × Int × Int × Int × Int × Int × Unit) =>
  CallV Tryz.prog 30 #[.agg #[.int .i64 x3.1, .int .i64 x3.2.1, .int .i64 x3.2.2.1, .int .i64 x3.2.2.2.1, .int .i64 x3.2.2.2.2.1, .int .i64 x3.2.2.2.2.2.1]] w2 [.one .bool] fun (r4 : Bool × Unit) w5 =>
  cond r4.1
  (LoadS w5 ⟨b1, 6, none⟩ .sl fun (x6 : SlV) =>
  CallV Tryz.prog 31 #[.slice x6.a x6.n x6.c] w5 [.one .bool] fun (r7 : Bool × Unit) w8 =>
  cond r7.1
  (LoadS w8 ⟨b1, 0, none⟩ (.int .i64) fun (x9 : Int) =>
  cond (decide (x9 ≤ 12))
  (LoadS w8 ⟨b1, 1, none⟩ (.int .i64) fun (x10 : Int) =>
  cond (decide (x10 ≤ 20))
  (LoadS w8 ⟨b1, 2, none⟩ (.int .i64) fun (x11 : Int) =>
  cond (decide (x11 ≤ 128))
  (LoadS w8 ⟨b1, 7, none⟩ .sl fun (x12 : SlV) =>
  K (decide (((x12.n : Nat) : Int) ≤ 25), ()) w8)
  (K (false, ()) w8))
  (K (false, ()) w8))
  (K (false, ()) w8))
  (K (false, ()) w8))
  (K (false, ()) w5)
theorem law24_light.vc (p0_0 p0_1 p0_2 p0_3 p0_4 p0_5 : Int) (a0_6 : Option Addr) (n0_6 c0_6 : Nat) (a0_7 : Option Addr) (n0_7 c0_7 : Nat) (w : World) (K : Bool × Unit → World → Prop) (h : law24_light.P p0_0 p0_1 p0_2 p0_3 p0_4 p0_5 a0_6 n0_6 c0_6 a0_7 n0_7 c0_7 w K) : CallV Tryz.prog 6 #[.agg #[.int .i64 p0_0, .int .i64 p0_1, .int .i64 p0_2, .int .i64 p0_3, .int .i64 p0_4, .int .i64 p0_5, .slice a0_6 n0_6 c0_6, .slice a0_7 n0_7 c0_7]] w [.one .bool] K := by
  refine vcFun.of (A := law24_light.A) (wr := false) okf_ok follows h Tryz.func6 ?_
  kernel_rfl
def law24_made.A : Ann := .two .no (.two .no (.two .no (.two .no (.two .no (.join [2, 3, 37, 38, 39, 40, 41, 42, 43, 44, 45, 46, 47, 48] [(2, .one .ptr), (3, .one .ptr)] (.draw (.take 0 (.take 1 (.take 2 (.take 3 (.take 4 (.take 5 (.take 7 (.take 9 (.both 6 (.both 8 (.take 12 (.take 13 (.eff 10 (.take 11 (.eff 14 (.done)))))) 10 (.eff 8 (.take 11 (.take 12 (.take 13 (.eff 14 (.done))))))) 10 (.eff 6 (.eff 8 (.take 11 (.take 12 (.take 13 (.eff 14 (.done))))))))))))))))) .no)))))
def law24_made.P (p0_0 p0_1 p0_2 p0_3 p0_4 p0_5 : Int) (a0_6 : Option Addr) (n0_6 c0_6 : Nat) (a0_7 : Option Addr) (n0_7 c0_7 : Nat) (w : World) (K : (Option Addr) × (Option Addr) × (Int × Int × Int × Int × Int × Int × SlV × SlV × Bool × Int × SlV × SlV × Unit) × Unit → World → Prop) : Prop :=
  NewV #[.int .i64 p0_0, .int .i64 p0_1, .int .i64 p0_2, .int .i64 p0_3, .int .i64 p0_4, .int .i64 p0_5, .slice a0_6 n0_6 c0_6, .slice a0_7 n0_7 c0_7] 27 w fun b1 w2 =>
  NewV #[.int .i64 0, .int .i64 0, .int .i64 0, .int .i64 0, .int .i64 0, .int .i64 0, .slice none 0 0, .slice none 0 0, .bool false, .int .i64 0, .slice none 0 0, .slice none 0 0] 38 w2 fun b3 w4 =>
  LoadA w4 ⟨b1, 0, none⟩ [.int .i64, .int .i64, .int .i64, .int .i64, .int .i64, .int .i64] fun (x5 : Int × Int × Int × Int × Int × Int × Unit) =>
  LoadS w4 ⟨b1, 6, none⟩ .sl fun (x6 : SlV) =>
  CallV Tryz.prog 19 #[.agg #[.int .i64 x5.1, .int .i64 x5.2.1, .int .i64 x5.2.2.1, .int .i64 x5.2.2.2.1, .int .i64 x5.2.2.2.2.1, .int .i64 x5.2.2.2.2.2.1], .slice x6.a x6.n x6.c] w4 [.one .ptr, .one (.int .i64)] fun (r7 : (Option Addr) × Int × Unit) w8 =>
  LoadS w8 ⟨b1, 0, none⟩ (.int .i64) fun (x9 : Int) =>
  Rng .i64 (x9 - 4) ∧
  CallV Tryz.prog 33 #[.int .i64 (x9 - 4)] w8 [.one .ptr, .one (.int .i64)] fun (r10 : (Option Addr) × Int × Unit) w11 =>
  ((0 : Int) ≤ (x9 - 4 : Int) ∧ (x9 - 4 : Int) ≤ (x9 - 4 : Int) ∧ (x9 - 4 : Int) ≤ 9223372036854775807 ∧ ((48 : Nat) : Int) * (x9 - 4 : Int) ≤ 140737488355328) ∧
  NewV (List.replicate ((x9 - 4).toNat) [.int .i64 0, .int .i64 0, .int .i64 0, .int .u32 0, .int .u64 0, .int .u64 0]).flatten.toArray 46 w11 fun b12 w13 =>
  CallV Tryz.prog 34 #[.pointer r7.1, .pointer r10.1, .slice (some ⟨b12, 0, none⟩) ((x9 - 4).toNat) ((x9 - 4).toNat)] w13 [.one .ptr, .one (.int .i64)] fun (r14 : (Option Addr) × Int × Unit) w15 =>
  JoinV [.one .ptr, .one .ptr] (fun (v17 : (Option Addr) × (Option Addr) × Unit) w18 =>
  LoadA w18 ⟨b3, 0, none⟩ [.int .i64, .int .i64, .int .i64, .int .i64, .int .i64, .int .i64, .sl, .sl, .bool, .int .i64, .sl, .sl] fun (x19 : Int × Int × Int × Int × Int × Int × SlV × SlV × Bool × Int × SlV × SlV × Unit) =>
  K (v17.1, v17.2.1, (x19.1, x19.2.1, x19.2.2.1, x19.2.2.2.1, x19.2.2.2.2.1, x19.2.2.2.2.2.1, x19.2.2.2.2.2.2.1, x19.2.2.2.2.2.2.2.1, x19.2.2.2.2.2.2.2.2.1, x19.2.2.2.2.2.2.2.2.2.1, x19.2.2.2.2.2.2.2.2.2.2.1, x19.2.2.2.2.2.2.2.2.2.2.2.1, ()), ()) w18) fun (J16 : (Option Addr) × (Option Addr) × Unit → World → Prop) =>
  DrawV fun D20 =>
  (D20 b1 ∧ LoadA w15.drew ⟨b1, 0, none⟩ [.int .i64, .int .i64, .int .i64, .int .i64, .int .i64, .int .i64] fun (x21 : Int × Int × Int × Int × Int × Int × Unit) =>
  (D20 b1 ∧ LoadS w15.drew ⟨b1, 6, none⟩ .sl fun (x22 : SlV) =>
  ((CallV Tryz.prog 22 #[.agg #[.int .i64 x21.1, .int .i64 x21.2.1, .int .i64 x21.2.2.1, .int .i64 x21.2.2.2.1, .int .i64 x21.2.2.2.2.1, .int .i64 x21.2.2.2.2.2.1], .slice x22.a x22.n x22.c] w15.drew [.agg [.int .i64, .int .i64, .int .i64, .int .i64, .int .i64, .int .i64, .sl, .sl, .bool, .int .i64]] fun (r23 : (Int × Int × Int × Int × Int × Int × SlV × SlV × Bool × Int × Unit) × Unit) w24 =>
  KeepOn D20 w15.drew w24 ∧
  ((CallV Tryz.prog 35 #[.int .i64 (x9 - 4)] w24 [.one .sl] fun (r25 : SlV × Unit) w26 =>
  KeepOn D20 w15.drew w26 ∧
  ((0 : Int) ≤ (x9 - 4 : Int) ∧ (x9 - 4 : Int) ≤ (x9 - 4 : Int) ∧ (x9 - 4 : Int) ≤ 9223372036854775807 ∧ ((48 : Nat) : Int) * (x9 - 4 : Int) ≤ 140737488355328) ∧
  NewV (List.replicate ((x9 - 4).toNat) [.int .i64 0, .int .i64 0, .int .i64 0, .int .u32 0, .int .u64 0, .int .u64 0]).flatten.toArray 46 w26 fun b27 w28 =>
  KeepOn D20 w15.drew w28 ∧
  StoreV w28 ⟨b3, 0, none⟩ [.int .i64 r23.1.1, .int .i64 r23.1.2.1, .int .i64 r23.1.2.2.1, .int .i64 r23.1.2.2.2.1, .int .i64 r23.1.2.2.2.2.1, .int .i64 r23.1.2.2.2.2.2.1, .slice r23.1.2.2.2.2.2.2.1.a r23.1.2.2.2.2.2.2.1.n r23.1.2.2.2.2.2.2.1.c, .slice r23.1.2.2.2.2.2.2.2.1.a r23.1.2.2.2.2.2.2.2.1.n r23.1.2.2.2.2.2.2.2.1.c, .bool r23.1.2.2.2.2.2.2.2.2.1, .int .i64 r23.1.2.2.2.2.2.2.2.2.2.1, .slice r25.1.a r25.1.n r25.1.c, .slice (some ⟨b27, 0, none⟩) ((x9 - 4).toNat) ((x9 - 4).toNat)] fun w29 =>
  KeepOn D20 w15.drew w29 ∧
  J16 (r14.1, r7.1, ()) w29) ∧
  (((0 : Int) ≤ (x9 - 4 : Int) ∧ (x9 - 4 : Int) ≤ (x9 - 4 : Int) ∧ (x9 - 4 : Int) ≤ 9223372036854775807 ∧ ((48 : Nat) : Int) * (x9 - 4 : Int) ≤ 140737488355328) ∧
  NewV (List.replicate ((x9 - 4).toNat) [.int .i64 0, .int .i64 0, .int .i64 0, .int .u32 0, .int .u64 0, .int .u64 0]).flatten.toArray 46 w24 fun b30 w31 =>
  KeepOn D20 w15.drew w31 ∧
  CallV Tryz.prog 35 #[.int .i64 (x9 - 4)] w31 [.one .sl] fun (r32 : SlV × Unit) w33 =>
  KeepOn D20 w15.drew w33 ∧
  StoreV w33 ⟨b3, 0, none⟩ [.int .i64 r23.1.1, .int .i64 r23.1.2.1, .int .i64 r23.1.2.2.1, .int .i64 r23.1.2.2.2.1, .int .i64 r23.1.2.2.2.2.1, .int .i64 r23.1.2.2.2.2.2.1, .slice r23.1.2.2.2.2.2.2.1.a r23.1.2.2.2.2.2.2.1.n r23.1.2.2.2.2.2.2.1.c, .slice r23.1.2.2.2.2.2.2.2.1.a r23.1.2.2.2.2.2.2.2.1.n r23.1.2.2.2.2.2.2.2.1.c, .bool r23.1.2.2.2.2.2.2.2.2.1, .int .i64 r23.1.2.2.2.2.2.2.2.2.2.1, .slice r32.1.a r32.1.n r32.1.c, .slice (some ⟨b30, 0, none⟩) ((x9 - 4).toNat) ((x9 - 4).toNat)] fun w34 =>
  KeepOn D20 w15.drew w34 ∧
  J16 (r14.1, r7.1, ()) w34))) ∧
  (((0 : Int) ≤ (x9 - 4 : Int) ∧ (x9 - 4 : Int) ≤ (x9 - 4 : Int) ∧ (x9 - 4 : Int) ≤ 9223372036854775807 ∧ ((48 : Nat) : Int) * (x9 - 4 : Int) ≤ 140737488355328) ∧
  NewV (List.replicate ((x9 - 4).toNat) [.int .i64 0, .int .i64 0, .int .i64 0, .int .u32 0, .int .u64 0, .int .u64 0]).flatten.toArray 46 w15.drew fun b35 w36 =>
  KeepOn D20 w15.drew w36 ∧
  CallV Tryz.prog 22 #[.agg #[.int .i64 x21.1, .int .i64 x21.2.1, .int .i64 x21.2.2.1, .int .i64 x21.2.2.2.1, .int .i64 x21.2.2.2.2.1, .int .i64 x21.2.2.2.2.2.1], .slice x22.a x22.n x22.c] w36 [.agg [.int .i64, .int .i64, .int .i64, .int .i64, .int .i64, .int .i64, .sl, .sl, .bool, .int .i64]] fun (r37 : (Int × Int × Int × Int × Int × Int × SlV × SlV × Bool × Int × Unit) × Unit) w38 =>
  KeepOn D20 w15.drew w38 ∧
  CallV Tryz.prog 35 #[.int .i64 (x9 - 4)] w38 [.one .sl] fun (r39 : SlV × Unit) w40 =>
  KeepOn D20 w15.drew w40 ∧
  StoreV w40 ⟨b3, 0, none⟩ [.int .i64 r37.1.1, .int .i64 r37.1.2.1, .int .i64 r37.1.2.2.1, .int .i64 r37.1.2.2.2.1, .int .i64 r37.1.2.2.2.2.1, .int .i64 r37.1.2.2.2.2.2.1, .slice r37.1.2.2.2.2.2.2.1.a r37.1.2.2.2.2.2.2.1.n r37.1.2.2.2.2.2.2.1.c, .slice r37.1.2.2.2.2.2.2.2.1.a r37.1.2.2.2.2.2.2.2.1.n r37.1.2.2.2.2.2.2.2.1.c, .bool r37.1.2.2.2.2.2.2.2.2.1, .int .i64 r37.1.2.2.2.2.2.2.2.2.2.1, .slice r39.1.a r39.1.n r39.1.c, .slice (some ⟨b35, 0, none⟩) ((x9 - 4).toNat) ((x9 - 4).toNat)] fun w41 =>
  KeepOn D20 w15.drew w41 ∧
  J16 (r14.1, r7.1, ()) w41))))
theorem law24_made.vc (p0_0 p0_1 p0_2 p0_3 p0_4 p0_5 : Int) (a0_6 : Option Addr) (n0_6 c0_6 : Nat) (a0_7 : Option Addr) (n0_7 c0_7 : Nat) (w : World) (K : (Option Addr) × (Option Addr) × (Int × Int × Int × Int × Int × Int × SlV × SlV × Bool × Int × SlV × SlV × Unit) × Unit → World → Prop) (h : law24_made.P p0_0 p0_1 p0_2 p0_3 p0_4 p0_5 a0_6 n0_6 c0_6 a0_7 n0_7 c0_7 w K) : CallV Tryz.prog 8 #[.agg #[.int .i64 p0_0, .int .i64 p0_1, .int .i64 p0_2, .int .i64 p0_3, .int .i64 p0_4, .int .i64 p0_5, .slice a0_6 n0_6 c0_6, .slice a0_7 n0_7 c0_7]] w [.one .ptr, .one .ptr, .agg [.int .i64, .int .i64, .int .i64, .int .i64, .int .i64, .int .i64, .sl, .sl, .bool, .int .i64, .sl, .sl]] K := by
  refine vcFun.of (A := law24_made.A) (wr := false) okf_ok follows h Tryz.func8 ?_
  kernel_rfl
def law24_awake.A : Ann := .no
def law24_awake.P  (w : World) (K : Bool × Unit → World → Prop) : Prop :=
  CallV Tryz.prog 8 #[.agg #[.int .i64 7, .int .i64 10, .int .i64 64, .int .i64 0, .int .i64 1, .int .i64 1, .slice none 0 0, .slice none 0 0]] w [.one .ptr, .one .ptr, .agg [.int .i64, .int .i64, .int .i64, .int .i64, .int .i64, .int .i64, .sl, .sl, .bool, .int .i64, .sl, .sl]] fun (r1 : (Option Addr) × (Option Addr) × (Int × Int × Int × Int × Int × Int × SlV × SlV × Bool × Int × SlV × SlV × Unit) × Unit) w2 =>
  NewV #[.int .i64 0, .int .i64 0, .int .i64 0, .int .i64 0, .int .i64 0, .int .i64 0, .slice none 0 0, .slice none 0 0, .bool false, .int .i64 0, .slice none 0 0, .slice none 0 0] 38 w2 fun b3 w4 =>
  StoreV w4 ⟨b3, 0, none⟩ [.int .i64 r1.2.2.1.1, .int .i64 r1.2.2.1.2.1, .int .i64 r1.2.2.1.2.2.1, .int .i64 r1.2.2.1.2.2.2.1, .int .i64 r1.2.2.1.2.2.2.2.1, .int .i64 r1.2.2.1.2.2.2.2.2.1, .slice r1.2.2.1.2.2.2.2.2.2.1.a r1.2.2.1.2.2.2.2.2.2.1.n r1.2.2.1.2.2.2.2.2.2.1.c, .slice r1.2.2.1.2.2.2.2.2.2.2.1.a r1.2.2.1.2.2.2.2.2.2.2.1.n r1.2.2.1.2.2.2.2.2.2.2.1.c, .bool r1.2.2.1.2.2.2.2.2.2.2.2.1, .int .i64 r1.2.2.1.2.2.2.2.2.2.2.2.2.1, .slice r1.2.2.1.2.2.2.2.2.2.2.2.2.2.1.a r1.2.2.1.2.2.2.2.2.2.2.2.2.2.1.n r1.2.2.1.2.2.2.2.2.2.2.2.2.2.1.c, .slice r1.2.2.1.2.2.2.2.2.2.2.2.2.2.2.1.a r1.2.2.1.2.2.2.2.2.2.2.2.2.2.2.1.n r1.2.2.1.2.2.2.2.2.2.2.2.2.2.2.1.c] fun w5 =>
  CallV Tryz.prog 12 #[.pointer r1.1, .int .i64 1, .agg #[.int .i64 0, .int .i64 0, .int .i64 0, .int .u32 0, .int .u64 2, .int .u64 0]] w5 [.one (.int .i64), .one (.int .i64)] fun (r6 : Int × Int × Unit) w7 =>
  cond (r6.2.1 == 0)
  (cond (r6.1 == 0)
  (CallV Tryz.prog 32 #[.pointer r1.2.1] w7 [.one (.int .i64)] fun (r8 : Int × Unit) w9 =>
  cond (r8.1 == 3)
  (CallV Tryz.prog 16 #[.pointer r1.1, .int .i64 0] w9 [.agg [.int .i64, .int .i64, .int .i64, .int .u32, .int .u64, .int .u64]] fun (r10 : (Int × Int × Int × Int × Int × Int × Unit) × Unit) w11 =>
  K ((r10.1.2.2.2.2.1 == 2), ()) w11)
  (K (false, ()) w9))
  (K (false, ()) w7))
  (K (false, ()) w7)
theorem law24_awake.vc  (w : World) (K : Bool × Unit → World → Prop) (h : law24_awake.P  w K) : CallV Tryz.prog 7 #[] w [.one .bool] K := by
  refine vcFun.of (A := law24_awake.A) (wr := false) okf_ok follows h Tryz.func7 ?_
  kernel_rfl
def law24_payload.A : Ann := .two .no (.two .no (.two (.two .no (.one (.loop [5, 6, 8, 9, 10, 11, 12, 13, 14, 15, 16, 17, 18, 19, 20] [(5, .one .sl), (6, .one (.int .i64))] .no))) .no))
def law24_payload.P (p0 p1 : Int) (w : World) (K : SlV × Unit → World → Prop) : Prop :=
  NewV #[] 5 w fun b1 w2 =>
  LoopV [.one .sl, .one (.int .i64)] ((⟨(some ⟨b1, 0, none⟩), 0, 0⟩ : SlV), (0 : Int), ()) w2 fun (z3 : SlV × Int × Unit) w4 (K5 : SlV × Int × Unit → World → Prop) =>
  cond (decide (z3.2.1 < p0))
  (NewV #[.int .u8 (Go.bits .xor .u8 (IntKind.u8.wrap ((IntKind.u8.wrap z3.2.1) * 3)) p1)] 5 w4 fun b6 w7 =>
  AppS w7 (some ⟨b6, 0, none⟩) 1 1 fun ns12 =>
  AppV w7 5 1 1 z3.1.a z3.1.n z3.1.c ns12 1 fun a8 n9 c10 w11 =>
  Rng .i64 (z3.2.1 + 1) ∧
  K5 ((⟨a8, n9, c10⟩ : SlV), z3.2.1 + 1, ()) w11)
  (K (z3.1, ()) w4)
theorem law24_payload.vc (p0 p1 : Int) (w : World) (K : SlV × Unit → World → Prop) (h : law24_payload.P p0 p1 w K) : CallV Tryz.prog 85 #[.int .i64 p0, .int .u8 p1] w [.one .sl] K := by
  refine vcFun.of (A := law24_payload.A) (wr := false) okf_ok follows h Tryz.func85 ?_
  kernel_rfl
def law24_write.A : Ann := .two .no (.two (.draw (.take 0 (.take 1 (.take 2 (.take 3 (.take 4 (.take 5 (.take 6 (.take 7 (.take 8 (.take 9 (.take 10 (.take 11 (.take 12 (.eff 13 (.eff 14 (.take 15 (.done)))))))))))))))))) (.two .no (.join [9, 10, 46, 47, 48, 49, 50, 51, 52, 53, 54, 55, 56, 57, 58, 59, 60, 61, 62, 63, 64, 65, 66, 67, 68, 69] [(9, .one .ptr), (10, .one (.int .i64))] (.draw (.take 0 (.take 1 (.take 2 (.take 3 (.take 4 (.take 5 (.take 6 (.take 7 (.take 8 (.take 9 (.take 10 (.take 11 (.take 12 (.take 13 (.take 14 (.take 15 (.take 16 (.take 17 (.both 18 (.both 19 (.both 20 (.take 21 (.take 22 (.take 23 (.eff 24 (.eff 25 (.take 26 (.done))))))) 24 (.eff 20 (.take 21 (.take 22 (.take 23 (.eff 25 (.take 26 (.done)))))))) 24 (.eff 19 (.eff 20 (.take 21 (.take 22 (.take 23 (.eff 25 (.take 26 (.done))))))))) 24 (.eff 18 (.eff 19 (.eff 20 (.take 21 (.take 22 (.take 23 (.eff 25 (.take 26 (.done))))))))))))))))))))))))))))) .no)))
def law24_write.P (p0 : Addr) (p1_0 p1_1 p1_2 p1_3 p1_4 p1_5 : Int) (a1_6 : Option Addr) (n1_6 c1_6 : Nat) (a1_7 : Option Addr) (n1_7 c1_7 : Nat) (p1_8 : Bool) (p1_9 : Int) (a1_10 : Option Addr) (n1_10 c1_10 : Nat) (a1_11 : Option Addr) (n1_11 c1_11 : Nat) (p2_0 p2_1 p2_2 p2_3 p2_4 p2_5 p2_6 p2_7 p2_8 p2_9 : Int) (w : World) (K : (Int × Int × Int × Int × Int × Int × SlV × SlV × Bool × Int × SlV × SlV × Unit) × Bool × Unit → World → Prop) : Prop :=
  NewV #[.int .i64 p1_0, .int .i64 p1_1, .int .i64 p1_2, .int .i64 p1_3, .int .i64 p1_4, .int .i64 p1_5, .slice a1_6 n1_6 c1_6, .slice a1_7 n1_7 c1_7, .bool p1_8, .int .i64 p1_9, .slice a1_10 n1_10 c1_10, .slice a1_11 n1_11 c1_11] 38 w fun b1 w2 =>
  NewV #[.int .i64 p2_0, .int .i64 p2_1, .int .i64 p2_2, .int .i64 p2_3, .int .i64 p2_4, .int .i64 p2_5, .int .u32 p2_6, .int .u64 p2_7, .int .u64 p2_8, .int .u8 p2_9] 48 w2 fun b3 w4 =>
  NewV #[.int .i64 0, .int .i64 0, .int .i64 0, .int .i64 0, .int .i64 0, .int .i64 0, .slice none 0 0, .slice none 0 0, .bool false, .int .i64 0, .slice none 0 0, .slice none 0 0] 38 w4 fun b5 w6 =>
  DrawV fun D7 =>
  (D7 b3 ∧ LoadS w6.drew ⟨b3, 1, none⟩ (.int .i64) fun (x8 : Int) =>
  (D7 b3 ∧ LoadS w6.drew ⟨b3, 2, none⟩ (.int .i64) fun (x9 : Int) =>
  (D7 b3 ∧ LoadA w6.drew ⟨b3, 3, none⟩ [.int .i64, .int .i64, .int .i64, .int .u32, .int .u64, .int .u64] fun (x10 : Int × Int × Int × Int × Int × Int × Unit) =>
  (D7 b1 ∧ LoadS w6.drew ⟨b1, 2, none⟩ (.int .i64) fun (x11 : Int) =>
  (D7 b3 ∧ LoadS w6.drew ⟨b3, 9, none⟩ (.int .u8) fun (x12 : Int) =>
  CallV Tryz.prog 85 #[.int .i64 x11, .int .u8 x12] w6.drew [.one .sl] fun (r13 : SlV × Unit) w14 =>
  KeepOn D7 w6.drew w14 ∧
  CallV Tryz.prog 84 #[.pointer (some p0), .int .i64 x8, .int .i64 x9, .agg #[.int .i64 x10.1, .int .i64 x10.2.1, .int .i64 x10.2.2.1, .int .u32 x10.2.2.2.1, .int .u64 x10.2.2.2.2.1, .int .u64 x10.2.2.2.2.2.1], .slice r13.1.a r13.1.n r13.1.c, .slice none 0 0] w14 [.one (.int .i64)] fun (r15 : Int × Unit) w16 =>
  KeepOn D7 w6.drew w16 ∧
  LoadS w16 ⟨b3, 1, none⟩ (.int .i64) fun (x17 : Int) =>
  cond (decide (x17 < 0))
  (LoadA w16 ⟨b1, 0, none⟩ [.int .i64, .int .i64, .int .i64, .int .i64, .int .i64, .int .i64, .sl, .sl, .bool, .int .i64, .sl, .sl] fun (x18 : Int × Int × Int × Int × Int × Int × SlV × SlV × Bool × Int × SlV × SlV × Unit) =>
  StoreV w16 ⟨b5, 0, none⟩ [.int .i64 x18.1, .int .i64 x18.2.1, .int .i64 x18.2.2.1, .int .i64 x18.2.2.2.1, .int .i64 x18.2.2.2.2.1, .int .i64 x18.2.2.2.2.2.1, .slice x18.2.2.2.2.2.2.1.a x18.2.2.2.2.2.2.1.n x18.2.2.2.2.2.2.1.c, .slice x18.2.2.2.2.2.2.2.1.a x18.2.2.2.2.2.2.2.1.n x18.2.2.2.2.2.2.2.1.c, .bool x18.2.2.2.2.2.2.2.2.1, .int .i64 x18.2.2.2.2.2.2.2.2.2.1, .slice x18.2.2.2.2.2.2.2.2.2.2.1.a x18.2.2.2.2.2.2.2.2.2.2.1.n x18.2.2.2.2.2.2.2.2.2.2.1.c, .slice x18.2.2.2.2.2.2.2.2.2.2.2.1.a x18.2.2.2.2.2.2.2.2.2.2.2.1.n x18.2.2.2.2.2.2.2.2.2.2.2.1.c] fun w19 =>
  LoadA w19 ⟨b5, 0, none⟩ [.int .i64, .int .i64, .int .i64, .int .i64, .int .i64, .int .i64, .sl, .sl, .bool, .int .i64, .sl, .sl] fun (x20 : Int × Int × Int × Int × Int × Int × SlV × SlV × Bool × Int × SlV × SlV × Unit) =>
  K ((x20.1, x20.2.1, x20.2.2.1, x20.2.2.2.1, x20.2.2.2.2.1, x20.2.2.2.2.2.1, x20.2.2.2.2.2.2.1, x20.2.2.2.2.2.2.2.1, x20.2.2.2.2.2.2.2.2.1, x20.2.2.2.2.2.2.2.2.2.1, x20.2.2.2.2.2.2.2.2.2.2.1, x20.2.2.2.2.2.2.2.2.2.2.2.1, ()), (r15.1 == 2), ()) w19)
  (LoadS w16 ⟨b3, 1, none⟩ (.int .i64) fun (x21 : Int) =>
  LoadS w16 ⟨b1, 10, none⟩ .sl fun (x22 : SlV) =>
  cond (decide (x21 ≥ ((x22.n : Nat) : Int)))
  (LoadA w16 ⟨b1, 0, none⟩ [.int .i64, .int .i64, .int .i64, .int .i64, .int .i64, .int .i64, .sl, .sl, .bool, .int .i64, .sl, .sl] fun (x23 : Int × Int × Int × Int × Int × Int × SlV × SlV × Bool × Int × SlV × SlV × Unit) =>
  StoreV w16 ⟨b5, 0, none⟩ [.int .i64 x23.1, .int .i64 x23.2.1, .int .i64 x23.2.2.1, .int .i64 x23.2.2.2.1, .int .i64 x23.2.2.2.2.1, .int .i64 x23.2.2.2.2.2.1, .slice x23.2.2.2.2.2.2.1.a x23.2.2.2.2.2.2.1.n x23.2.2.2.2.2.2.1.c, .slice x23.2.2.2.2.2.2.2.1.a x23.2.2.2.2.2.2.2.1.n x23.2.2.2.2.2.2.2.1.c, .bool x23.2.2.2.2.2.2.2.2.1, .int .i64 x23.2.2.2.2.2.2.2.2.2.1, .slice x23.2.2.2.2.2.2.2.2.2.2.1.a x23.2.2.2.2.2.2.2.2.2.2.1.n x23.2.2.2.2.2.2.2.2.2.2.1.c, .slice x23.2.2.2.2.2.2.2.2.2.2.2.1.a x23.2.2.2.2.2.2.2.2.2.2.2.1.n x23.2.2.2.2.2.2.2.2.2.2.2.1.c] fun w24 =>
  LoadA w24 ⟨b5, 0, none⟩ [.int .i64, .int .i64, .int .i64, .int .i64, .int .i64, .int .i64, .sl, .sl, .bool, .int .i64, .sl, .sl] fun (x25 : Int × Int × Int × Int × Int × Int × SlV × SlV × Bool × Int × SlV × SlV × Unit) =>
  K ((x25.1, x25.2.1, x25.2.2.1, x25.2.2.2.1, x25.2.2.2.2.1, x25.2.2.2.2.2.1, x25.2.2.2.2.2.2.1, x25.2.2.2.2.2.2.2.1, x25.2.2.2.2.2.2.2.2.1, x25.2.2.2.2.2.2.2.2.2.1, x25.2.2.2.2.2.2.2.2.2.2.1, x25.2.2.2.2.2.2.2.2.2.2.2.1, ()), (r15.1 == 2), ()) w24)
  (LoadA w16 ⟨b3, 3, none⟩ [.int .i64, .int .i64, .int .i64, .int .u32, .int .u64, .int .u64] fun (x26 : Int × Int × Int × Int × Int × Int × Unit) =>
  CallV Tryz.prog 86 #[.agg #[.int .i64 x26.1, .int .i64 x26.2.1, .int .i64 x26.2.2.1, .int .u32 x26.2.2.2.1, .int .u64 x26.2.2.2.2.1, .int .u64 x26.2.2.2.2.2.1]] w16 [.one .bool] fun (r27 : Bool × Unit) w28 =>
  cond (!r27.1)
  (LoadA w28 ⟨b1, 0, none⟩ [.int .i64, .int .i64, .int .i64, .int .i64, .int .i64, .int .i64, .sl, .sl, .bool, .int .i64, .sl, .sl] fun (x29 : Int × Int × Int × Int × Int × Int × SlV × SlV × Bool × Int × SlV × SlV × Unit) =>
  StoreV w28 ⟨b5, 0, none⟩ [.int .i64 x29.1, .int .i64 x29.2.1, .int .i64 x29.2.2.1, .int .i64 x29.2.2.2.1, .int .i64 x29.2.2.2.2.1, .int .i64 x29.2.2.2.2.2.1, .slice x29.2.2.2.2.2.2.1.a x29.2.2.2.2.2.2.1.n x29.2.2.2.2.2.2.1.c, .slice x29.2.2.2.2.2.2.2.1.a x29.2.2.2.2.2.2.2.1.n x29.2.2.2.2.2.2.2.1.c, .bool x29.2.2.2.2.2.2.2.2.1, .int .i64 x29.2.2.2.2.2.2.2.2.2.1, .slice x29.2.2.2.2.2.2.2.2.2.2.1.a x29.2.2.2.2.2.2.2.2.2.2.1.n x29.2.2.2.2.2.2.2.2.2.2.1.c, .slice x29.2.2.2.2.2.2.2.2.2.2.2.1.a x29.2.2.2.2.2.2.2.2.2.2.2.1.n x29.2.2.2.2.2.2.2.2.2.2.2.1.c] fun w30 =>
  LoadA w30 ⟨b5, 0, none⟩ [.int .i64, .int .i64, .int .i64, .int .i64, .int .i64, .int .i64, .sl, .sl, .bool, .int .i64, .sl, .sl] fun (x31 : Int × Int × Int × Int × Int × Int × SlV × SlV × Bool × Int × SlV × SlV × Unit) =>
  K ((x31.1, x31.2.1, x31.2.2.1, x31.2.2.2.1, x31.2.2.2.2.1, x31.2.2.2.2.2.1, x31.2.2.2.2.2.2.1, x31.2.2.2.2.2.2.2.1, x31.2.2.2.2.2.2.2.2.1, x31.2.2.2.2.2.2.2.2.2.1, x31.2.2.2.2.2.2.2.2.2.2.1, x31.2.2.2.2.2.2.2.2.2.2.2.1, ()), (r15.1 == 2), ()) w30)
  (JoinV [.one .ptr, .one (.int .i64)] (fun (v33 : (Option Addr) × Int × Unit) w34 =>
  PtrK v33.1 fun q35 =>
  LoadA w34 q35 [.int .i64, .int .i64, .int .i64, .int .i64, .int .i64, .int .i64, .sl, .sl, .bool, .int .i64, .sl, .sl] fun (x36 : Int × Int × Int × Int × Int × Int × SlV × SlV × Bool × Int × SlV × SlV × Unit) =>
  StoreV w34 ⟨b5, 0, none⟩ [.int .i64 x36.1, .int .i64 x36.2.1, .int .i64 x36.2.2.1, .int .i64 x36.2.2.2.1, .int .i64 x36.2.2.2.2.1, .int .i64 x36.2.2.2.2.2.1, .slice x36.2.2.2.2.2.2.1.a x36.2.2.2.2.2.2.1.n x36.2.2.2.2.2.2.1.c, .slice x36.2.2.2.2.2.2.2.1.a x36.2.2.2.2.2.2.2.1.n x36.2.2.2.2.2.2.2.1.c, .bool x36.2.2.2.2.2.2.2.2.1, .int .i64 x36.2.2.2.2.2.2.2.2.2.1, .slice x36.2.2.2.2.2.2.2.2.2.2.1.a x36.2.2.2.2.2.2.2.2.2.2.1.n x36.2.2.2.2.2.2.2.2.2.2.1.c, .slice x36.2.2.2.2.2.2.2.2.2.2.2.1.a x36.2.2.2.2.2.2.2.2.2.2.2.1.n x36.2.2.2.2.2.2.2.2.2.2.2.1.c] fun w37 =>
  LoadA w37 ⟨b5, 0, none⟩ [.int .i64, .int .i64, .int .i64, .int .i64, .int .i64, .int .i64, .sl, .sl, .bool, .int .i64, .sl, .sl] fun (x38 : Int × Int × Int × Int × Int × Int × SlV × SlV × Bool × Int × SlV × SlV × Unit) =>
  K ((x38.1, x38.2.1, x38.2.2.1, x38.2.2.2.1, x38.2.2.2.2.1, x38.2.2.2.2.2.1, x38.2.2.2.2.2.2.1, x38.2.2.2.2.2.2.2.1, x38.2.2.2.2.2.2.2.2.1, x38.2.2.2.2.2.2.2.2.2.1, x38.2.2.2.2.2.2.2.2.2.2.1, x38.2.2.2.2.2.2.2.2.2.2.2.1, ()), (r15.1 == v33.2.1), ()) w37) fun (J32 : (Option Addr) × Int × Unit → World → Prop) =>
  DrawV fun D39 =>
  (D39 b1 ∧ LoadA w28.drew ⟨b1, 0, none⟩ [.int .i64, .int .i64, .int .i64, .int .i64, .int .i64, .int .i64, .sl, .sl, .bool, .int .i64, .sl, .sl] fun (x40 : Int × Int × Int × Int × Int × Int × SlV × SlV × Bool × Int × SlV × SlV × Unit) =>
  (D39 b3 ∧ LoadS w28.drew ⟨b3, 1, none⟩ (.int .i64) fun (x41 : Int) =>
  Rng .i64 ((4 : Int) + x41) ∧
  (D39 b3 ∧ LoadS w28.drew ⟨b3, 2, none⟩ (.int .i64) fun (x42 : Int) =>
  (D39 b1 ∧ LoadA w28.drew ⟨b1, 0, none⟩ [.int .i64, .int .i64, .int .i64, .int .i64, .int .i64, .int .i64] fun (x43 : Int × Int × Int × Int × Int × Int × Unit) =>
  (D39 b3 ∧ LoadA w28.drew ⟨b3, 3, none⟩ [.int .i64, .int .i64, .int .i64, .int .u32, .int .u64, .int .u64] fun (x44 : Int × Int × Int × Int × Int × Int × Unit) =>
  (D39 b1 ∧ LoadS w28.drew ⟨b1, 2, none⟩ (.int .i64) fun (x45 : Int) =>
  (D39 b3 ∧ LoadS w28.drew ⟨b3, 9, none⟩ (.int .u8) fun (x46 : Int) =>
  ((CallV Tryz.prog 85 #[.int .i64 x45, .int .u8 x46] w28.drew [.one .sl] fun (r47 : SlV × Unit) w48 =>
  KeepOn D39 w28.drew w48 ∧
  ((CallV Tryz.prog 88 #[.agg #[.int .i64 x43.1, .int .i64 x43.2.1, .int .i64 x43.2.2.1, .int .i64 x43.2.2.2.1, .int .i64 x43.2.2.2.2.1, .int .i64 x43.2.2.2.2.2.1], .agg #[.int .i64 x44.1, .int .i64 x44.2.1, .int .i64 x44.2.2.1, .int .u32 x44.2.2.2.1, .int .u64 x44.2.2.2.2.1, .int .u64 x44.2.2.2.2.2.1], .slice r47.1.a r47.1.n r47.1.c, .slice none 0 0] w48 [.one .sl] fun (r49 : SlV × Unit) w50 =>
  KeepOn D39 w28.drew w50 ∧
  ((CallV Tryz.prog 87 #[.agg #[.int .i64 x40.1, .int .i64 x40.2.1, .int .i64 x40.2.2.1, .int .i64 x40.2.2.2.1, .int .i64 x40.2.2.2.2.1, .int .i64 x40.2.2.2.2.2.1, .slice x40.2.2.2.2.2.2.1.a x40.2.2.2.2.2.2.1.n x40.2.2.2.2.2.2.1.c, .slice x40.2.2.2.2.2.2.2.1.a x40.2.2.2.2.2.2.2.1.n x40.2.2.2.2.2.2.2.1.c, .bool x40.2.2.2.2.2.2.2.2.1, .int .i64 x40.2.2.2.2.2.2.2.2.2.1, .slice x40.2.2.2.2.2.2.2.2.2.2.1.a x40.2.2.2.2.2.2.2.2.2.2.1.n x40.2.2.2.2.2.2.2.2.2.2.1.c, .slice x40.2.2.2.2.2.2.2.2.2.2.2.1.a x40.2.2.2.2.2.2.2.2.2.2.2.1.n x40.2.2.2.2.2.2.2.2.2.2.2.1.c], .agg #[.int .i64 ((4 : Int) + x41), .int .i64 x42], .slice r49.1.a r49.1.n r49.1.c] w50 [.agg [.int .i64, .int .i64, .int .i64, .int .i64, .int .i64, .int .i64, .sl, .sl, .bool, .int .i64, .sl, .sl], .one (.int .i64)] fun (r51 : (Int × Int × Int × Int × Int × Int × SlV × SlV × Bool × Int × SlV × SlV × Unit) × Int × Unit) w52 =>
  KeepOn D39 w28.drew w52 ∧
  NewV #[.int .i64 0, .int .i64 0, .int .i64 0, .int .i64 0, .int .i64 0, .int .i64 0, .slice none 0 0, .slice none 0 0, .bool false, .int .i64 0, .slice none 0 0, .slice none 0 0] 38 w52 fun b53 w54 =>
  KeepOn D39 w28.drew w54 ∧
  StoreV w54 ⟨b53, 0, none⟩ [.int .i64 r51.1.1, .int .i64 r51.1.2.1, .int .i64 r51.1.2.2.1, .int .i64 r51.1.2.2.2.1, .int .i64 r51.1.2.2.2.2.1, .int .i64 r51.1.2.2.2.2.2.1, .slice r51.1.2.2.2.2.2.2.1.a r51.1.2.2.2.2.2.2.1.n r51.1.2.2.2.2.2.2.1.c, .slice r51.1.2.2.2.2.2.2.2.1.a r51.1.2.2.2.2.2.2.2.1.n r51.1.2.2.2.2.2.2.2.1.c, .bool r51.1.2.2.2.2.2.2.2.2.1, .int .i64 r51.1.2.2.2.2.2.2.2.2.2.1, .slice r51.1.2.2.2.2.2.2.2.2.2.2.1.a r51.1.2.2.2.2.2.2.2.2.2.2.1.n r51.1.2.2.2.2.2.2.2.2.2.2.1.c, .slice r51.1.2.2.2.2.2.2.2.2.2.2.2.1.a r51.1.2.2.2.2.2.2.2.2.2.2.2.1.n r51.1.2.2.2.2.2.2.2.2.2.2.2.1.c] fun w55 =>
  KeepOn D39 w28.drew w55 ∧
  J32 ((some ⟨b53, 0, none⟩), r51.2.1, ()) w55) ∧
  (NewV #[.int .i64 0, .int .i64 0, .int .i64 0, .int .i64 0, .int .i64 0, .int .i64 0, .slice none 0 0, .slice none 0 0, .bool false, .int .i64 0, .slice none 0 0, .slice none 0 0] 38 w50 fun b56 w57 =>
  KeepOn D39 w28.drew w57 ∧
  CallV Tryz.prog 87 #[.agg #[.int .i64 x40.1, .int .i64 x40.2.1, .int .i64 x40.2.2.1, .int .i64 x40.2.2.2.1, .int .i64 x40.2.2.2.2.1, .int .i64 x40.2.2.2.2.2.1, .slice x40.2.2.2.2.2.2.1.a x40.2.2.2.2.2.2.1.n x40.2.2.2.2.2.2.1.c, .slice x40.2.2.2.2.2.2.2.1.a x40.2.2.2.2.2.2.2.1.n x40.2.2.2.2.2.2.2.1.c, .bool x40.2.2.2.2.2.2.2.2.1, .int .i64 x40.2.2.2.2.2.2.2.2.2.1, .slice x40.2.2.2.2.2.2.2.2.2.2.1.a x40.2.2.2.2.2.2.2.2.2.2.1.n x40.2.2.2.2.2.2.2.2.2.2.1.c, .slice x40.2.2.2.2.2.2.2.2.2.2.2.1.a x40.2.2.2.2.2.2.2.2.2.2.2.1.n x40.2.2.2.2.2.2.2.2.2.2.2.1.c], .agg #[.int .i64 ((4 : Int) + x41), .int .i64 x42], .slice r49.1.a r49.1.n r49.1.c] w57 [.agg [.int .i64, .int .i64, .int .i64, .int .i64, .int .i64, .int .i64, .sl, .sl, .bool, .int .i64, .sl, .sl], .one (.int .i64)] fun (r58 : (Int × Int × Int × Int × Int × Int × SlV × SlV × Bool × Int × SlV × SlV × Unit) × Int × Unit) w59 =>
  KeepOn D39 w28.drew w59 ∧
  StoreV w59 ⟨b56, 0, none⟩ [.int .i64 r58.1.1, .int .i64 r58.1.2.1, .int .i64 r58.1.2.2.1, .int .i64 r58.1.2.2.2.1, .int .i64 r58.1.2.2.2.2.1, .int .i64 r58.1.2.2.2.2.2.1, .slice r58.1.2.2.2.2.2.2.1.a r58.1.2.2.2.2.2.2.1.n r58.1.2.2.2.2.2.2.1.c, .slice r58.1.2.2.2.2.2.2.2.1.a r58.1.2.2.2.2.2.2.2.1.n r58.1.2.2.2.2.2.2.2.1.c, .bool r58.1.2.2.2.2.2.2.2.2.1, .int .i64 r58.1.2.2.2.2.2.2.2.2.2.1, .slice r58.1.2.2.2.2.2.2.2.2.2.2.1.a r58.1.2.2.2.2.2.2.2.2.2.2.1.n r58.1.2.2.2.2.2.2.2.2.2.2.1.c, .slice r58.1.2.2.2.2.2.2.2.2.2.2.2.1.a r58.1.2.2.2.2.2.2.2.2.2.2.2.1.n r58.1.2.2.2.2.2.2.2.2.2.2.2.1.c] fun w60 =>
  KeepOn D39 w28.drew w60 ∧
  J32 ((some ⟨b56, 0, none⟩), r58.2.1, ()) w60))) ∧
  (NewV #[.int .i64 0, .int .i64 0, .int .i64 0, .int .i64 0, .int .i64 0, .int .i64 0, .slice none 0 0, .slice none 0 0, .bool false, .int .i64 0, .slice none 0 0, .slice none 0 0] 38 w48 fun b61 w62 =>
  KeepOn D39 w28.drew w62 ∧
  CallV Tryz.prog 88 #[.agg #[.int .i64 x43.1, .int .i64 x43.2.1, .int .i64 x43.2.2.1, .int .i64 x43.2.2.2.1, .int .i64 x43.2.2.2.2.1, .int .i64 x43.2.2.2.2.2.1], .agg #[.int .i64 x44.1, .int .i64 x44.2.1, .int .i64 x44.2.2.1, .int .u32 x44.2.2.2.1, .int .u64 x44.2.2.2.2.1, .int .u64 x44.2.2.2.2.2.1], .slice r47.1.a r47.1.n r47.1.c, .slice none 0 0] w62 [.one .sl] fun (r63 : SlV × Unit) w64 =>
  KeepOn D39 w28.drew w64 ∧
  CallV Tryz.prog 87 #[.agg #[.int .i64 x40.1, .int .i64 x40.2.1, .int .i64 x40.2.2.1, .int .i64 x40.2.2.2.1, .int .i64 x40.2.2.2.2.1, .int .i64 x40.2.2.2.2.2.1, .slice x40.2.2.2.2.2.2.1.a x40.2.2.2.2.2.2.1.n x40.2.2.2.2.2.2.1.c, .slice x40.2.2.2.2.2.2.2.1.a x40.2.2.2.2.2.2.2.1.n x40.2.2.2.2.2.2.2.1.c, .bool x40.2.2.2.2.2.2.2.2.1, .int .i64 x40.2.2.2.2.2.2.2.2.2.1, .slice x40.2.2.2.2.2.2.2.2.2.2.1.a x40.2.2.2.2.2.2.2.2.2.2.1.n x40.2.2.2.2.2.2.2.2.2.2.1.c, .slice x40.2.2.2.2.2.2.2.2.2.2.2.1.a x40.2.2.2.2.2.2.2.2.2.2.2.1.n x40.2.2.2.2.2.2.2.2.2.2.2.1.c], .agg #[.int .i64 ((4 : Int) + x41), .int .i64 x42], .slice r63.1.a r63.1.n r63.1.c] w64 [.agg [.int .i64, .int .i64, .int .i64, .int .i64, .int .i64, .int .i64, .sl, .sl, .bool, .int .i64, .sl, .sl], .one (.int .i64)] fun (r65 : (Int × Int × Int × Int × Int × Int × SlV × SlV × Bool × Int × SlV × SlV × Unit) × Int × Unit) w66 =>
  KeepOn D39 w28.drew w66 ∧
  StoreV w66 ⟨b61, 0, none⟩ [.int .i64 r65.1.1, .int .i64 r65.1.2.1, .int .i64 r65.1.2.2.1, .int .i64 r65.1.2.2.2.1, .int .i64 r65.1.2.2.2.2.1, .int .i64 r65.1.2.2.2.2.2.1, .slice r65.1.2.2.2.2.2.2.1.a r65.1.2.2.2.2.2.2.1.n r65.1.2.2.2.2.2.2.1.c, .slice r65.1.2.2.2.2.2.2.2.1.a r65.1.2.2.2.2.2.2.2.1.n r65.1.2.2.2.2.2.2.2.1.c, .bool r65.1.2.2.2.2.2.2.2.2.1, .int .i64 r65.1.2.2.2.2.2.2.2.2.2.1, .slice r65.1.2.2.2.2.2.2.2.2.2.2.1.a r65.1.2.2.2.2.2.2.2.2.2.2.1.n r65.1.2.2.2.2.2.2.2.2.2.2.1.c, .slice r65.1.2.2.2.2.2.2.2.2.2.2.2.1.a r65.1.2.2.2.2.2.2.2.2.2.2.2.1.n r65.1.2.2.2.2.2.2.2.2.2.2.2.1.c] fun w67 =>
  KeepOn D39 w28.drew w67 ∧
  J32 ((some ⟨b61, 0, none⟩), r65.2.1, ()) w67))) ∧
  (NewV #[.int .i64 0, .int .i64 0, .int .i64 0, .int .i64 0, .int .i64 0, .int .i64 0, .slice none 0 0, .slice none 0 0, .bool false, .int .i64 0, .slice none 0 0, .slice none 0 0] 38 w28.drew fun b68 w69 =>
  KeepOn D39 w28.drew w69 ∧
  CallV Tryz.prog 85 #[.int .i64 x45, .int .u8 x46] w69 [.one .sl] fun (r70 : SlV × Unit) w71 =>
  KeepOn D39 w28.drew w71 ∧
  CallV Tryz.prog 88 #[.agg #[.int .i64 x43.1, .int .i64 x43.2.1, .int .i64 x43.2.2.1, .int .i64 x43.2.2.2.1, .int .i64 x43.2.2.2.2.1, .int .i64 x43.2.2.2.2.2.1], .agg #[.int .i64 x44.1, .int .i64 x44.2.1, .int .i64 x44.2.2.1, .int .u32 x44.2.2.2.1, .int .u64 x44.2.2.2.2.1, .int .u64 x44.2.2.2.2.2.1], .slice r70.1.a r70.1.n r70.1.c, .slice none 0 0] w71 [.one .sl] fun (r72 : SlV × Unit) w73 =>
  KeepOn D39 w28.drew w73 ∧
  CallV Tryz.prog 87 #[.agg #[.int .i64 x40.1, .int .i64 x40.2.1, .int .i64 x40.2.2.1, .int .i64 x40.2.2.2.1, .int .i64 x40.2.2.2.2.1, .int .i64 x40.2.2.2.2.2.1, .slice x40.2.2.2.2.2.2.1.a x40.2.2.2.2.2.2.1.n x40.2.2.2.2.2.2.1.c, .slice x40.2.2.2.2.2.2.2.1.a x40.2.2.2.2.2.2.2.1.n x40.2.2.2.2.2.2.2.1.c, .bool x40.2.2.2.2.2.2.2.2.1, .int .i64 x40.2.2.2.2.2.2.2.2.2.1, .slice x40.2.2.2.2.2.2.2.2.2.2.1.a x40.2.2.2.2.2.2.2.2.2.2.1.n x40.2.2.2.2.2.2.2.2.2.2.1.c, .slice x40.2.2.2.2.2.2.2.2.2.2.2.1.a x40.2.2.2.2.2.2.2.2.2.2.2.1.n x40.2.2.2.2.2.2.2.2.2.2.2.1.c], .agg #[.int .i64 ((4 : Int) + x41), .int .i64 x42], .slice r72.1.a r72.1.n r72.1.c] w73 [.agg [.int .i64, .int .i64, .int .i64, .int .i64, .int .i64, .int .i64, .sl, .sl, .bool, .int .i64, .sl, .sl], .one (.int .i64)] fun (r74 : (Int × Int × Int × Int × Int × Int × SlV × SlV × Bool × Int × SlV × SlV × Unit) × Int × Unit) w75 =>
  KeepOn D39 w28.drew w75 ∧
  StoreV w75 ⟨b68, 0, none⟩ [.int .i64 r74.1.1, .int .i64 r74.1.2.1, .int .i64 r74.1.2.2.1, .int .i64 r74.1.2.2.2.1, .int .i64 r74.1.2.2.2.2.1, .int .i64 r74.1.2.2.2.2.2.1, .slice r74.1.2.2.2.2.2.2.1.a r74.1.2.2.2.2.2.2.1.n r74.1.2.2.2.2.2.2.1.c, .slice r74.1.2.2.2.2.2.2.2.1.a r74.1.2.2.2.2.2.2.2.1.n r74.1.2.2.2.2.2.2.2.1.c, .bool r74.1.2.2.2.2.2.2.2.2.1, .int .i64 r74.1.2.2.2.2.2.2.2.2.2.1, .slice r74.1.2.2.2.2.2.2.2.2.2.2.1.a r74.1.2.2.2.2.2.2.2.2.2.2.1.n r74.1.2.2.2.2.2.2.2.2.2.2.1.c, .slice r74.1.2.2.2.2.2.2.2.2.2.2.2.1.a r74.1.2.2.2.2.2.2.2.2.2.2.2.1.n r74.1.2.2.2.2.2.2.2.2.2.2.2.1.c] fun w76 =>
  KeepOn D39 w28.drew w76 ∧
  J32 ((some ⟨b68, 0, none⟩), r74.2.1, ()) w76)))))))))))))))))
theorem law24_write.vc (p0 : Addr) (p1_0 p1_1 p1_2 p1_3 p1_4 p1_5 : Int) (a1_6 : Option Addr) (n1_6 c1_6 : Nat) (a1_7 : Option Addr) (n1_7 c1_7 : Nat) (p1_8 : Bool) (p1_9 : Int) (a1_10 : Option Addr) (n1_10 c1_10 : Nat) (a1_11 : Option Addr) (n1_11 c1_11 : Nat) (p2_0 p2_1 p2_2 p2_3 p2_4 p2_5 p2_6 p2_7 p2_8 p2_9 : Int) (w : World) (K : (Int × Int × Int × Int × Int × Int × SlV × SlV × Bool × Int × SlV × SlV × Unit) × Bool × Unit → World → Prop) (h : law24_write.P p0 p1_0 p1_1 p1_2 p1_3 p1_4 p1_5 a1_6 n1_6 c1_6 a1_7 n1_7 c1_7 p1_8 p1_9 a1_10 n1_10 c1_10 a1_11 n1_11 c1_11 p2_0 p2_1 p2_2 p2_3 p2_4 p2_5 p2_6 p2_7 p2_8 p2_9 w K) : CallV Tryz.prog 38 #[.pointer (some p0), .agg #[.int .i64 p1_0, .int .i64 p1_1, .int .i64 p1_2, .int .i64 p1_3, .int .i64 p1_4, .int .i64 p1_5, .slice a1_6 n1_6 c1_6, .slice a1_7 n1_7 c1_7, .bool p1_8, .int .i64 p1_9, .slice a1_10 n1_10 c1_10, .slice a1_11 n1_11 c1_11], .agg #[.int .i64 p2_0, .int .i64 p2_1, .int .i64 p2_2, .int .i64 p2_3, .int .i64 p2_4, .int .i64 p2_5, .int .u32 p2_6, .int .u64 p2_7, .int .u64 p2_8, .int .u8 p2_9]] w [.agg [.int .i64, .int .i64, .int .i64, .int .i64, .int .i64, .int .i64, .sl, .sl, .bool, .int .i64, .sl, .sl], .one .bool] K := by
  refine vcFun.of (A := law24_write.A) (wr := false) okf_ok follows h Tryz.func38 ?_
  kernel_rfl
def law24_copied.A : Ann := .two .no (.two .no (.two .no (.two .no (.two .no (.join [10, 11, 48, 49, 50, 51, 52, 53, 54, 55, 56, 57, 58, 59, 60, 61, 62, 63, 64, 65, 66, 67, 68, 69] [(10, .one .ptr), (11, .one (.int .i64))] (.draw (.take 0 (.take 1 (.take 2 (.take 3 (.take 4 (.take 5 (.take 6 (.take 7 (.take 8 (.take 9 (.take 10 (.take 11 (.take 12 (.take 13 (.take 14 (.take 15 (.take 16 (.both 17 (.both 18 (.take 19 (.take 20 (.take 21 (.eff 22 (.eff 23 (.take 24 (.done))))))) 22 (.eff 18 (.take 19 (.take 20 (.take 21 (.eff 23 (.take 24 (.done)))))))) 22 (.eff 17 (.eff 18 (.take 19 (.take 20 (.take 21 (.eff 23 (.take 24 (.done))))))))))))))))))))))))))) .no)))))
def law24_copied.P (p0 : Addr) (p1_0 p1_1 p1_2 p1_3 p1_4 p1_5 : Int) (a1_6 : Option Addr) (n1_6 c1_6 : Nat) (a1_7 : Option Addr) (n1_7 c1_7 : Nat) (p1_8 : Bool) (p1_9 : Int) (a1_10 : Option Addr) (n1_10 c1_10 : Nat) (a1_11 : Option Addr) (n1_11 c1_11 : Nat) (p2_0 p2_1 p2_2 p2_3 p2_4 p2_5 p2_6 p2_7 p2_8 p2_9 : Int) (w : World) (K : (Int × Int × Int × Int × Int × Int × SlV × SlV × Bool × Int × SlV × SlV × Unit) × Bool × Unit → World → Prop) : Prop :=
  NewV #[.int .i64 p1_0, .int .i64 p1_1, .int .i64 p1_2, .int .i64 p1_3, .int .i64 p1_4, .int .i64 p1_5, .slice a1_6 n1_6 c1_6, .slice a1_7 n1_7 c1_7, .bool p1_8, .int .i64 p1_9, .slice a1_10 n1_10 c1_10, .slice a1_11 n1_11 c1_11] 38 w fun b1 w2 =>
  NewV #[.int .i64 p2_0, .int .i64 p2_1, .int .i64 p2_2, .int .i64 p2_3, .int .i64 p2_4, .int .i64 p2_5, .int .u32 p2_6, .int .u64 p2_7, .int .u64 p2_8, .int .u8 p2_9] 48 w2 fun b3 w4 =>
  NewV #[.int .i64 0, .int .i64 0, .int .i64 0, .int .i64 0, .int .i64 0, .int .i64 0, .slice none 0 0, .slice none 0 0, .bool false, .int .i64 0, .slice none 0 0, .slice none 0 0] 38 w4 fun b5 w6 =>
  LoadS w6 ⟨b3, 9, none⟩ (.int .u8) fun (x7 : Int) =>
  LoadS w6 ⟨b1, 0, none⟩ (.int .i64) fun (x8 : Int) =>
  x8 ≠ (0 : Int) ∧
  NewV #[.int .i64 0, .int .i64 0] 160 w6 fun b9 w10 =>
  StoreV w10 ⟨b9, 0, none⟩ [.int .i64 (Int.tmod (IntKind.i64.wrap x7) x8), .int .i64 0] fun w11 =>
  LoadS w11 ⟨b3, 1, none⟩ (.int .i64) fun (x12 : Int) =>
  LoadS w11 ⟨b3, 2, none⟩ (.int .i64) fun (x13 : Int) =>
  LoadA w11 ⟨b9, 0, none⟩ [.int .i64, .int .i64] fun (x14 : Int × Int × Unit) =>
  CallV Tryz.prog 89 #[.pointer (some p0), .int .i64 x12, .int .i64 x13, .agg #[.int .i64 x14.1, .int .i64 x14.2.1]] w11 [.one (.int .i64)] fun (r15 : Int × Unit) w16 =>
  LoadS w16 ⟨b3, 1, none⟩ (.int .i64) fun (x17 : Int) =>
  cond (decide (x17 < 0))
  (LoadA w16 ⟨b1, 0, none⟩ [.int .i64, .int .i64, .int .i64, .int .i64, .int .i64, .int .i64, .sl, .sl, .bool, .int .i64, .sl, .sl] fun (x18 : Int × Int × Int × Int × Int × Int × SlV × SlV × Bool × Int × SlV × SlV × Unit) =>
  StoreV w16 ⟨b5, 0, none⟩ [.int .i64 x18.1, .int .i64 x18.2.1, .int .i64 x18.2.2.1, .int .i64 x18.2.2.2.1, .int .i64 x18.2.2.2.2.1, .int .i64 x18.2.2.2.2.2.1, .slice x18.2.2.2.2.2.2.1.a x18.2.2.2.2.2.2.1.n x18.2.2.2.2.2.2.1.c, .slice x18.2.2.2.2.2.2.2.1.a x18.2.2.2.2.2.2.2.1.n x18.2.2.2.2.2.2.2.1.c, .bool x18.2.2.2.2.2.2.2.2.1, .int .i64 x18.2.2.2.2.2.2.2.2.2.1, .slice x18.2.2.2.2.2.2.2.2.2.2.1.a x18.2.2.2.2.2.2.2.2.2.2.1.n x18.2.2.2.2.2.2.2.2.2.2.1.c, .slice x18.2.2.2.2.2.2.2.2.2.2.2.1.a x18.2.2.2.2.2.2.2.2.2.2.2.1.n x18.2.2.2.2.2.2.2.2.2.2.2.1.c] fun w19 =>
  LoadA w19 ⟨b5, 0, none⟩ [.int .i64, .int .i64, .int .i64, .int .i64, .int .i64, .int .i64, .sl, .sl, .bool, .int .i64, .sl, .sl] fun (x20 : Int × Int × Int × Int × Int × Int × SlV × SlV × Bool × Int × SlV × SlV × Unit) =>
  K ((x20.1, x20.2.1, x20.2.2.1, x20.2.2.2.1, x20.2.2.2.2.1, x20.2.2.2.2.2.1, x20.2.2.2.2.2.2.1, x20.2.2.2.2.2.2.2.1, x20.2.2.2.2.2.2.2.2.1, x20.2.2.2.2.2.2.2.2.2.1, x20.2.2.2.2.2.2.2.2.2.2.1, x20.2.2.2.2.2.2.2.2.2.2.2.1, ()), (r15.1 == 2), ()) w19)
  (LoadS w16 ⟨b3, 1, none⟩ (.int .i64) fun (x21 : Int) =>
  LoadS w16 ⟨b1, 10, none⟩ .sl fun (x22 : SlV) =>
  cond (decide (x21 ≥ ((x22.n : Nat) : Int)))
  (LoadA w16 ⟨b1, 0, none⟩ [.int .i64, .int .i64, .int .i64, .int .i64, .int .i64, .int .i64, .sl, .sl, .bool, .int .i64, .sl, .sl] fun (x23 : Int × Int × Int × Int × Int × Int × SlV × SlV × Bool × Int × SlV × SlV × Unit) =>
  StoreV w16 ⟨b5, 0, none⟩ [.int .i64 x23.1, .int .i64 x23.2.1, .int .i64 x23.2.2.1, .int .i64 x23.2.2.2.1, .int .i64 x23.2.2.2.2.1, .int .i64 x23.2.2.2.2.2.1, .slice x23.2.2.2.2.2.2.1.a x23.2.2.2.2.2.2.1.n x23.2.2.2.2.2.2.1.c, .slice x23.2.2.2.2.2.2.2.1.a x23.2.2.2.2.2.2.2.1.n x23.2.2.2.2.2.2.2.1.c, .bool x23.2.2.2.2.2.2.2.2.1, .int .i64 x23.2.2.2.2.2.2.2.2.2.1, .slice x23.2.2.2.2.2.2.2.2.2.2.1.a x23.2.2.2.2.2.2.2.2.2.2.1.n x23.2.2.2.2.2.2.2.2.2.2.1.c, .slice x23.2.2.2.2.2.2.2.2.2.2.2.1.a x23.2.2.2.2.2.2.2.2.2.2.2.1.n x23.2.2.2.2.2.2.2.2.2.2.2.1.c] fun w24 =>
  LoadA w24 ⟨b5, 0, none⟩ [.int .i64, .int .i64, .int .i64, .int .i64, .int .i64, .int .i64, .sl, .sl, .bool, .int .i64, .sl, .sl] fun (x25 : Int × Int × Int × Int × Int × Int × SlV × SlV × Bool × Int × SlV × SlV × Unit) =>
  K ((x25.1, x25.2.1, x25.2.2.1, x25.2.2.2.1, x25.2.2.2.2.1, x25.2.2.2.2.2.1, x25.2.2.2.2.2.2.1, x25.2.2.2.2.2.2.2.1, x25.2.2.2.2.2.2.2.2.1, x25.2.2.2.2.2.2.2.2.2.1, x25.2.2.2.2.2.2.2.2.2.2.1, x25.2.2.2.2.2.2.2.2.2.2.2.1, ()), (r15.1 == 2), ()) w24)
  (LoadS w16 ⟨b1, 8, none⟩ .bool fun (x26 : Bool) =>
  cond x26
  (LoadA w16 ⟨b1, 0, none⟩ [.int .i64, .int .i64, .int .i64, .int .i64, .int .i64, .int .i64, .sl, .sl, .bool, .int .i64, .sl, .sl] fun (x27 : Int × Int × Int × Int × Int × Int × SlV × SlV × Bool × Int × SlV × SlV × Unit) =>
  StoreV w16 ⟨b5, 0, none⟩ [.int .i64 x27.1, .int .i64 x27.2.1, .int .i64 x27.2.2.1, .int .i64 x27.2.2.2.1, .int .i64 x27.2.2.2.2.1, .int .i64 x27.2.2.2.2.2.1, .slice x27.2.2.2.2.2.2.1.a x27.2.2.2.2.2.2.1.n x27.2.2.2.2.2.2.1.c, .slice x27.2.2.2.2.2.2.2.1.a x27.2.2.2.2.2.2.2.1.n x27.2.2.2.2.2.2.2.1.c, .bool x27.2.2.2.2.2.2.2.2.1, .int .i64 x27.2.2.2.2.2.2.2.2.2.1, .slice x27.2.2.2.2.2.2.2.2.2.2.1.a x27.2.2.2.2.2.2.2.2.2.2.1.n x27.2.2.2.2.2.2.2.2.2.2.1.c, .slice x27.2.2.2.2.2.2.2.2.2.2.2.1.a x27.2.2.2.2.2.2.2.2.2.2.2.1.n x27.2.2.2.2.2.2.2.2.2.2.2.1.c] fun w28 =>
  LoadA w28 ⟨b5, 0, none⟩ [.int .i64, .int .i64, .int .i64, .int .i64, .int .i64, .int .i64, .sl, .sl, .bool, .int .i64, .sl, .sl] fun (x29 : Int × Int × Int × Int × Int × Int × SlV × SlV × Bool × Int × SlV × SlV × Unit) =>
  K ((x29.1, x29.2.1, x29.2.2.1, x29.2.2.2.1, x29.2.2.2.2.1, x29.2.2.2.2.2.1, x29.2.2.2.2.2.2.1, x29.2.2.2.2.2.2.2.1, x29.2.2.2.2.2.2.2.2.1, x29.2.2.2.2.2.2.2.2.2.1, x29.2.2.2.2.2.2.2.2.2.2.1, x29.2.2.2.2.2.2.2.2.2.2.2.1, ()), (r15.1 == 4), ()) w28)
  (JoinV [.one .ptr, .one (.int .i64)] (fun (v31 : (Option Addr) × Int × Unit) w32 =>
  PtrK v31.1 fun q33 =>
  LoadA w32 q33 [.int .i64, .int .i64, .int .i64, .int .i64, .int .i64, .int .i64, .sl, .sl, .bool, .int .i64, .sl, .sl] fun (x34 : Int × Int × Int × Int × Int × Int × SlV × SlV × Bool × Int × SlV × SlV × Unit) =>
  StoreV w32 ⟨b5, 0, none⟩ [.int .i64 x34.1, .int .i64 x34.2.1, .int .i64 x34.2.2.1, .int .i64 x34.2.2.2.1, .int .i64 x34.2.2.2.2.1, .int .i64 x34.2.2.2.2.2.1, .slice x34.2.2.2.2.2.2.1.a x34.2.2.2.2.2.2.1.n x34.2.2.2.2.2.2.1.c, .slice x34.2.2.2.2.2.2.2.1.a x34.2.2.2.2.2.2.2.1.n x34.2.2.2.2.2.2.2.1.c, .bool x34.2.2.2.2.2.2.2.2.1, .int .i64 x34.2.2.2.2.2.2.2.2.2.1, .slice x34.2.2.2.2.2.2.2.2.2.2.1.a x34.2.2.2.2.2.2.2.2.2.2.1.n x34.2.2.2.2.2.2.2.2.2.2.1.c, .slice x34.2.2.2.2.2.2.2.2.2.2.2.1.a x34.2.2.2.2.2.2.2.2.2.2.2.1.n x34.2.2.2.2.2.2.2.2.2.2.2.1.c] fun w35 =>
  LoadA w35 ⟨b5, 0, none⟩ [.int .i64, .int .i64, .int .i64, .int .i64, .int .i64, .int .i64, .sl, .sl, .bool, .int .i64, .sl, .sl] fun (x36 : Int × Int × Int × Int × Int × Int × SlV × SlV × Bool × Int × SlV × SlV × Unit) =>
  K ((x36.1, x36.2.1, x36.2.2.1, x36.2.2.2.1, x36.2.2.2.2.1, x36.2.2.2.2.2.1, x36.2.2.2.2.2.2.1, x36.2.2.2.2.2.2.2.1, x36.2.2.2.2.2.2.2.2.1, x36.2.2.2.2.2.2.2.2.2.1, x36.2.2.2.2.2.2.2.2.2.2.1, x36.2.2.2.2.2.2.2.2.2.2.2.1, ()), (r15.1 == v31.2.1), ()) w35) fun (J30 : (Option Addr) × Int × Unit → World → Prop) =>
  DrawV fun D37 =>
  (D37 b1 ∧ LoadA w16.drew ⟨b1, 0, none⟩ [.int .i64, .int .i64, .int .i64, .int .i64, .int .i64, .int .i64, .sl, .sl, .bool, .int .i64, .sl, .sl] fun (x38 : Int × Int × Int × Int × Int × Int × SlV × SlV × Bool × Int × SlV × SlV × Unit) =>
  (D37 b3 ∧ LoadS w16.drew ⟨b3, 1, none⟩ (.int .i64) fun (x39 : Int) =>
  Rng .i64 ((4 : Int) + x39) ∧
  (D37 b3 ∧ LoadS w16.drew ⟨b3, 2, none⟩ (.int .i64) fun (x40 : Int) =>
  (D37 b1 ∧ LoadS w16.drew ⟨b1, 6, none⟩ .sl fun (x41 : SlV) =>
  (D37 b9 ∧ LoadS w16.drew ⟨b9, 0, none⟩ (.int .i64) fun (x42 : Int) =>
  (0 ≤ x42 ∧ x42 < ((x41.n : Nat) : Int)) ∧ ∃ q43 : Addr, x41.a = some q43 ∧
  (D37 (q43.add (x42.toNat * 5)).block ∧ LoadS w16.drew (q43.add (x42.toNat * 5)) .sl fun (x44 : SlV) =>
  (0 ≤ (0 : Int) ∧ 0 < ((x44.n : Nat) : Int)) ∧ ∃ q45 : Addr, x44.a = some q45 ∧
  (D37 (q45.add (0 * 1)).block ∧ LoadS w16.drew (q45.add (0 * 1)) .sl fun (x46 : SlV) =>
  ((CallV Tryz.prog 90 #[.slice x46.a x46.n x46.c] w16.drew [.one .sl] fun (r47 : SlV × Unit) w48 =>
  KeepOn D37 w16.drew w48 ∧
  ((CallV Tryz.prog 87 #[.agg #[.int .i64 x38.1, .int .i64 x38.2.1, .int .i64 x38.2.2.1, .int .i64 x38.2.2.2.1, .int .i64 x38.2.2.2.2.1, .int .i64 x38.2.2.2.2.2.1, .slice x38.2.2.2.2.2.2.1.a x38.2.2.2.2.2.2.1.n x38.2.2.2.2.2.2.1.c, .slice x38.2.2.2.2.2.2.2.1.a x38.2.2.2.2.2.2.2.1.n x38.2.2.2.2.2.2.2.1.c, .bool x38.2.2.2.2.2.2.2.2.1, .int .i64 x38.2.2.2.2.2.2.2.2.2.1, .slice x38.2.2.2.2.2.2.2.2.2.2.1.a x38.2.2.2.2.2.2.2.2.2.2.1.n x38.2.2.2.2.2.2.2.2.2.2.1.c, .slice x38.2.2.2.2.2.2.2.2.2.2.2.1.a x38.2.2.2.2.2.2.2.2.2.2.2.1.n x38.2.2.2.2.2.2.2.2.2.2.2.1.c], .agg #[.int .i64 ((4 : Int) + x39), .int .i64 x40], .slice r47.1.a r47.1.n r47.1.c] w48 [.agg [.int .i64, .int .i64, .int .i64, .int .i64, .int .i64, .int .i64, .sl, .sl, .bool, .int .i64, .sl, .sl], .one (.int .i64)] fun (r49 : (Int × Int × Int × Int × Int × Int × SlV × SlV × Bool × Int × SlV × SlV × Unit) × Int × Unit) w50 =>
  KeepOn D37 w16.drew w50 ∧
  NewV #[.int .i64 0, .int .i64 0, .int .i64 0, .int .i64 0, .int .i64 0, .int .i64 0, .slice none 0 0, .slice none 0 0, .bool false, .int .i64 0, .slice none 0 0, .slice none 0 0] 38 w50 fun b51 w52 =>
  KeepOn D37 w16.drew w52 ∧
  StoreV w52 ⟨b51, 0, none⟩ [.int .i64 r49.1.1, .int .i64 r49.1.2.1, .int .i64 r49.1.2.2.1, .int .i64 r49.1.2.2.2.1, .int .i64 r49.1.2.2.2.2.1, .int .i64 r49.1.2.2.2.2.2.1, .slice r49.1.2.2.2.2.2.2.1.a r49.1.2.2.2.2.2.2.1.n r49.1.2.2.2.2.2.2.1.c, .slice r49.1.2.2.2.2.2.2.2.1.a r49.1.2.2.2.2.2.2.2.1.n r49.1.2.2.2.2.2.2.2.1.c, .bool r49.1.2.2.2.2.2.2.2.2.1, .int .i64 r49.1.2.2.2.2.2.2.2.2.2.1, .slice r49.1.2.2.2.2.2.2.2.2.2.2.1.a r49.1.2.2.2.2.2.2.2.2.2.2.1.n r49.1.2.2.2.2.2.2.2.2.2.2.1.c, .slice r49.1.2.2.2.2.2.2.2.2.2.2.2.1.a r49.1.2.2.2.2.2.2.2.2.2.2.2.1.n r49.1.2.2.2.2.2.2.2.2.2.2.2.1.c] fun w53 =>
  KeepOn D37 w16.drew w53 ∧
  J30 ((some ⟨b51, 0, none⟩), r49.2.1, ()) w53) ∧
  (NewV #[.int .i64 0, .int .i64 0, .int .i64 0, .int .i64 0, .int .i64 0, .int .i64 0, .slice none 0 0, .slice none 0 0, .bool false, .int .i64 0, .slice none 0 0, .slice none 0 0] 38 w48 fun b54 w55 =>
  KeepOn D37 w16.drew w55 ∧
  CallV Tryz.prog 87 #[.agg #[.int .i64 x38.1, .int .i64 x38.2.1, .int .i64 x38.2.2.1, .int .i64 x38.2.2.2.1, .int .i64 x38.2.2.2.2.1, .int .i64 x38.2.2.2.2.2.1, .slice x38.2.2.2.2.2.2.1.a x38.2.2.2.2.2.2.1.n x38.2.2.2.2.2.2.1.c, .slice x38.2.2.2.2.2.2.2.1.a x38.2.2.2.2.2.2.2.1.n x38.2.2.2.2.2.2.2.1.c, .bool x38.2.2.2.2.2.2.2.2.1, .int .i64 x38.2.2.2.2.2.2.2.2.2.1, .slice x38.2.2.2.2.2.2.2.2.2.2.1.a x38.2.2.2.2.2.2.2.2.2.2.1.n x38.2.2.2.2.2.2.2.2.2.2.1.c, .slice x38.2.2.2.2.2.2.2.2.2.2.2.1.a x38.2.2.2.2.2.2.2.2.2.2.2.1.n x38.2.2.2.2.2.2.2.2.2.2.2.1.c], .agg #[.int .i64 ((4 : Int) + x39), .int .i64 x40], .slice r47.1.a r47.1.n r47.1.c] w55 [.agg [.int .i64, .int .i64, .int .i64, .int .i64, .int .i64, .int .i64, .sl, .sl, .bool, .int .i64, .sl, .sl], .one (.int .i64)] fun (r56 : (Int × Int × Int × Int × Int × Int × SlV × SlV × Bool × Int × SlV × SlV × Unit) × Int × Unit) w57 =>
  KeepOn D37 w16.drew w57 ∧
  StoreV w57 ⟨b54, 0, none⟩ [.int .i64 r56.1.1, .int .i64 r56.1.2.1, .int .i64 r56.1.2.2.1, .int .i64 r56.1.2.2.2.1, .int .i64 r56.1.2.2.2.2.1, .int .i64 r56.1.2.2.2.2.2.1, .slice r56.1.2.2.2.2.2.2.1.a r56.1.2.2.2.2.2.2.1.n r56.1.2.2.2.2.2.2.1.c, .slice r56.1.2.2.2.2.2.2.2.1.a r56.1.2.2.2.2.2.2.2.1.n r56.1.2.2.2.2.2.2.2.1.c, .bool r56.1.2.2.2.2.2.2.2.2.1, .int .i64 r56.1.2.2.2.2.2.2.2.2.2.1, .slice r56.1.2.2.2.2.2.2.2.2.2.2.1.a r56.1.2.2.2.2.2.2.2.2.2.2.1.n r56.1.2.2.2.2.2.2.2.2.2.2.1.c, .slice r56.1.2.2.2.2.2.2.2.2.2.2.2.1.a r56.1.2.2.2.2.2.2.2.2.2.2.2.1.n r56.1.2.2.2.2.2.2.2.2.2.2.2.1.c] fun w58 =>
  KeepOn D37 w16.drew w58 ∧
  J30 ((some ⟨b54, 0, none⟩), r56.2.1, ()) w58))) ∧
  (NewV #[.int .i64 0, .int .i64 0, .int .i64 0, .int .i64 0, .int .i64 0, .int .i64 0, .slice none 0 0, .slice none 0 0, .bool false, .int .i64 0, .slice none 0 0, .slice none 0 0] 38 w16.drew fun b59 w60 =>
  KeepOn D37 w16.drew w60 ∧
  CallV Tryz.prog 90 #[.slice x46.a x46.n x46.c] w60 [.one .sl] fun (r61 : SlV × Unit) w62 =>
  KeepOn D37 w16.drew w62 ∧
  CallV Tryz.prog 87 #[.agg #[.int .i64 x38.1, .int .i64 x38.2.1, .int .i64 x38.2.2.1, .int .i64 x38.2.2.2.1, .int .i64 x38.2.2.2.2.1, .int .i64 x38.2.2.2.2.2.1, .slice x38.2.2.2.2.2.2.1.a x38.2.2.2.2.2.2.1.n x38.2.2.2.2.2.2.1.c, .slice x38.2.2.2.2.2.2.2.1.a x38.2.2.2.2.2.2.2.1.n x38.2.2.2.2.2.2.2.1.c, .bool x38.2.2.2.2.2.2.2.2.1, .int .i64 x38.2.2.2.2.2.2.2.2.2.1, .slice x38.2.2.2.2.2.2.2.2.2.2.1.a x38.2.2.2.2.2.2.2.2.2.2.1.n x38.2.2.2.2.2.2.2.2.2.2.1.c, .slice x38.2.2.2.2.2.2.2.2.2.2.2.1.a x38.2.2.2.2.2.2.2.2.2.2.2.1.n x38.2.2.2.2.2.2.2.2.2.2.2.1.c], .agg #[.int .i64 ((4 : Int) + x39), .int .i64 x40], .slice r61.1.a r61.1.n r61.1.c] w62 [.agg [.int .i64, .int .i64, .int .i64, .int .i64, .int .i64, .int .i64, .sl, .sl, .bool, .int .i64, .sl, .sl], .one (.int .i64)] fun (r63 : (Int × Int × Int × Int × Int × Int × SlV × SlV × Bool × Int × SlV × SlV × Unit) × Int × Unit) w64 =>
  KeepOn D37 w16.drew w64 ∧
  StoreV w64 ⟨b59, 0, none⟩ [.int .i64 r63.1.1, .int .i64 r63.1.2.1, .int .i64 r63.1.2.2.1, .int .i64 r63.1.2.2.2.1, .int .i64 r63.1.2.2.2.2.1, .int .i64 r63.1.2.2.2.2.2.1, .slice r63.1.2.2.2.2.2.2.1.a r63.1.2.2.2.2.2.2.1.n r63.1.2.2.2.2.2.2.1.c, .slice r63.1.2.2.2.2.2.2.2.1.a r63.1.2.2.2.2.2.2.2.1.n r63.1.2.2.2.2.2.2.2.1.c, .bool r63.1.2.2.2.2.2.2.2.2.1, .int .i64 r63.1.2.2.2.2.2.2.2.2.2.1, .slice r63.1.2.2.2.2.2.2.2.2.2.2.1.a r63.1.2.2.2.2.2.2.2.2.2.2.1.n r63.1.2.2.2.2.2.2.2.2.2.2.1.c, .slice r63.1.2.2.2.2.2.2.2.2.2.2.2.1.a r63.1.2.2.2.2.2.2.2.2.2.2.2.1.n r63.1.2.2.2.2.2.2.2.2.2.2.2.1.c] fun w65 =>
  KeepOn D37 w16.drew w65 ∧
  J30 ((some ⟨b59, 0, none⟩), r63.2.1, ()) w65))))))))))))
theorem law24_copied.vc (p0 : Addr) (p1_0 p1_1 p1_2 p1_3 p1_4 p1_5 : Int) (a1_6 : Option Addr) (n1_6 c1_6 : Nat) (a1_7 : Option Addr) (n1_7 c1_7 : Nat) (p1_8 : Bool) (p1_9 : Int) (a1_10 : Option Addr) (n1_10 c1_10 : Nat) (a1_11 : Option Addr) (n1_11 c1_11 : Nat) (p2_0 p2_1 p2_2 p2_3 p2_4 p2_5 p2_6 p2_7 p2_8 p2_9 : Int) (w : World) (K : (Int × Int × Int × Int × Int × Int × SlV × SlV × Bool × Int × SlV × SlV × Unit) × Bool × Unit → World → Prop) (h : law24_copied.P p0 p1_0 p1_1 p1_2 p1_3 p1_4 p1_5 a1_6 n1_6 c1_6 a1_7 n1_7 c1_7 p1_8 p1_9 a1_10 n1_10 c1_10 a1_11 n1_11 c1_11 p2_0 p2_1 p2_2 p2_3 p2_4 p2_5 p2_6 p2_7 p2_8 p2_9 w K) : CallV Tryz.prog 39 #[.pointer (some p0), .agg #[.int .i64 p1_0, .int .i64 p1_1, .int .i64 p1_2, .int .i64 p1_3, .int .i64 p1_4, .int .i64 p1_5, .slice a1_6 n1_6 c1_6, .slice a1_7 n1_7 c1_7, .bool p1_8, .int .i64 p1_9, .slice a1_10 n1_10 c1_10, .slice a1_11 n1_11 c1_11], .agg #[.int .i64 p2_0, .int .i64 p2_1, .int .i64 p2_2, .int .i64 p2_3, .int .i64 p2_4, .int .i64 p2_5, .int .u32 p2_6, .int .u64 p2_7, .int .u64 p2_8, .int .u8 p2_9]] w [.agg [.int .i64, .int .i64, .int .i64, .int .i64, .int .i64, .int .i64, .sl, .sl, .bool, .int .i64, .sl, .sl], .one .bool] K := by
  refine vcFun.of (A := law24_copied.A) (wr := false) okf_ok follows h Tryz.func39 ?_
  kernel_rfl
def law24_open.A : Ann := .two .no (.two .no (.two .no (.two .no (.two .no (.two .no (.two (.draw (.take 0 (.take 1 (.take 2 (.take 3 (.take 4 (.take 5 (.take 6 (.take 7 (.take 8 (.take 9 (.take 10 (.take 11 (.eff 12 (.take 13 (.done)))))))))))))))) .no))))))
def law24_open.P (p0 : Addr) (p1_0 p1_1 p1_2 p1_3 p1_4 p1_5 : Int) (a1_6 : Option Addr) (n1_6 c1_6 : Nat) (a1_7 : Option Addr) (n1_7 c1_7 : Nat) (p1_8 : Bool) (p1_9 : Int) (a1_10 : Option Addr) (n1_10 c1_10 : Nat) (a1_11 : Option Addr) (n1_11 c1_11 : Nat) (p2_0 p2_1 p2_2 p2_3 p2_4 p2_5 p2_6 p2_7 p2_8 p2_9 : Int) (p3 : Bool) (w : World) (K : (Int × Int × Int × Int × Int × Int × SlV × SlV × Bool × Int × SlV × SlV × Unit) × Bool × Unit → World → Prop) : Prop :=
  NewV #[.int .i64 p1_0, .int .i64 p1_1, .int .i64 p1_2, .int .i64 p1_3, .int .i64 p1_4, .int .i64 p1_5, .slice a1_6 n1_6 c1_6, .slice a1_7 n1_7 c1_7, .bool p1_8, .int .i64 p1_9, .slice a1_10 n1_10 c1_10, .slice a1_11 n1_11 c1_11] 38 w fun b1 w2 =>
  NewV #[.int .i64 p2_0, .int .i64 p2_1, .int .i64 p2_2, .int .i64 p2_3, .int .i64 p2_4, .int .i64 p2_5, .int .u32 p2_6, .int .u64 p2_7, .int .u64 p2_8, .int .u8 p2_9] 48 w2 fun b3 w4 =>
  NewV #[.int .i64 0, .int .i64 0, .int .i64 0, .int .i64 0, .int .i64 0, .int .i64 0, .slice none 0 0, .slice none 0 0, .bool false, .int .i64 0, .slice none 0 0, .slice none 0 0] 38 w4 fun b5 w6 =>
  cond p3
  (LoadS w6 ⟨b3, 1, none⟩ (.int .i64) fun (x7 : Int) =>
  LoadA w6 ⟨b3, 3, none⟩ [.int .i64, .int .i64, .int .i64, .int .u32, .int .u64, .int .u64] fun (x8 : Int × Int × Int × Int × Int × Int × Unit) =>
  CallV Tryz.prog 12 #[.pointer (some p0), .int .i64 x7, .agg #[.int .i64 x8.1, .int .i64 x8.2.1, .int .i64 x8.2.2.1, .int .u32 x8.2.2.2.1, .int .u64 x8.2.2.2.2.1, .int .u64 x8.2.2.2.2.2.1]] w6 [.one (.int .i64), .one (.int .i64)] fun (r9 : Int × Int × Unit) w10 =>
  LoadS w10 ⟨b3, 1, none⟩ (.int .i64) fun (x11 : Int) =>
  cond (decide (x11 < 0))
  (LoadA w10 ⟨b1, 0, none⟩ [.int .i64, .int .i64, .int .i64, .int .i64, .int .i64, .int .i64, .sl, .sl, .bool, .int .i64, .sl, .sl] fun (x12 : Int × Int × Int × Int × Int × Int × SlV × SlV × Bool × Int × SlV × SlV × Unit) =>
  cond (r9.2.1 == 2)
  (StoreV w10 ⟨b5, 0, none⟩ [.int .i64 x12.1, .int .i64 x12.2.1, .int .i64 x12.2.2.1, .int .i64 x12.2.2.2.1, .int .i64 x12.2.2.2.2.1, .int .i64 x12.2.2.2.2.2.1, .slice x12.2.2.2.2.2.2.1.a x12.2.2.2.2.2.2.1.n x12.2.2.2.2.2.2.1.c, .slice x12.2.2.2.2.2.2.2.1.a x12.2.2.2.2.2.2.2.1.n x12.2.2.2.2.2.2.2.1.c, .bool x12.2.2.2.2.2.2.2.2.1, .int .i64 x12.2.2.2.2.2.2.2.2.2.1, .slice x12.2.2.2.2.2.2.2.2.2.2.1.a x12.2.2.2.2.2.2.2.2.2.2.1.n x12.2.2.2.2.2.2.2.2.2.2.1.c, .slice x12.2.2.2.2.2.2.2.2.2.2.2.1.a x12.2.2.2.2.2.2.2.2.2.2.2.1.n x12.2.2.2.2.2.2.2.2.2.2.2.1.c] fun w13 =>
  LoadA w13 ⟨b5, 0, none⟩ [.int .i64, .int .i64, .int .i64, .int .i64, .int .i64, .int .i64, .sl, .sl, .bool, .int .i64, .sl, .sl] fun (x14 : Int × Int × Int × Int × Int × Int × SlV × SlV × Bool × Int × SlV × SlV × Unit) =>
  K ((x14.1, x14.2.1, x14.2.2.1, x14.2.2.2.1, x14.2.2.2.2.1, x14.2.2.2.2.2.1, x14.2.2.2.2.2.2.1, x14.2.2.2.2.2.2.2.1, x14.2.2.2.2.2.2.2.2.1, x14.2.2.2.2.2.2.2.2.2.1, x14.2.2.2.2.2.2.2.2.2.2.1, x14.2.2.2.2.2.2.2.2.2.2.2.1, ()), (r9.1 == 0), ()) w13)
  (StoreV w10 ⟨b5, 0, none⟩ [.int .i64 x12.1, .int .i64 x12.2.1, .int .i64 x12.2.2.1, .int .i64 x12.2.2.2.1, .int .i64 x12.2.2.2.2.1, .int .i64 x12.2.2.2.2.2.1, .slice x12.2.2.2.2.2.2.1.a x12.2.2.2.2.2.2.1.n x12.2.2.2.2.2.2.1.c, .slice x12.2.2.2.2.2.2.2.1.a x12.2.2.2.2.2.2.2.1.n x12.2.2.2.2.2.2.2.1.c, .bool x12.2.2.2.2.2.2.2.2.1, .int .i64 x12.2.2.2.2.2.2.2.2.2.1, .slice x12.2.2.2.2.2.2.2.2.2.2.1.a x12.2.2.2.2.2.2.2.2.2.2.1.n x12.2.2.2.2.2.2.2.2.2.2.1.c, .slice x12.2.2.2.2.2.2.2.2.2.2.2.1.a x12.2.2.2.2.2.2.2.2.2.2.2.1.n x12.2.2.2.2.2.2.2.2.2.2.2.1.c] fun w15 =>
  LoadA w15 ⟨b5, 0, none⟩ [.int .i64, .int .i64, .int .i64, .int .i64, .int .i64, .int .i64, .sl, .sl, .bool, .int .i64, .sl, .sl] fun (x16 : Int × Int × Int × Int × Int × Int × SlV × SlV × Bool × Int × SlV × SlV × Unit) =>
  K ((x16.1, x16.2.1, x16.2.2.1, x16.2.2.2.1, x16.2.2.2.2.1, x16.2.2.2.2.2.1, x16.2.2.2.2.2.2.1, x16.2.2.2.2.2.2.2.1, x16.2.2.2.2.2.2.2.2.1, x16.2.2.2.2.2.2.2.2.2.1, x16.2.2.2.2.2.2.2.2.2.2.1, x16.2.2.2.2.2.2.2.2.2.2.2.1, ()), false, ()) w15))
  (LoadS w10 ⟨b3, 1, none⟩ (.int .i64) fun (x17 : Int) =>
  cond (decide (x17 > 3))
  (LoadA w10 ⟨b1, 0, none⟩ [.int .i64, .int .i64, .int .i64, .int .i64, .int .i64, .int .i64, .sl, .sl, .bool, .int .i64, .sl, .sl] fun (x18 : Int × Int × Int × Int × Int × Int × SlV × SlV × Bool × Int × SlV × SlV × Unit) =>
  cond (r9.2.1 == 2)
  (StoreV w10 ⟨b5, 0, none⟩ [.int .i64 x18.1, .int .i64 x18.2.1, .int .i64 x18.2.2.1, .int .i64 x18.2.2.2.1, .int .i64 x18.2.2.2.2.1, .int .i64 x18.2.2.2.2.2.1, .slice x18.2.2.2.2.2.2.1.a x18.2.2.2.2.2.2.1.n x18.2.2.2.2.2.2.1.c, .slice x18.2.2.2.2.2.2.2.1.a x18.2.2.2.2.2.2.2.1.n x18.2.2.2.2.2.2.2.1.c, .bool x18.2.2.2.2.2.2.2.2.1, .int .i64 x18.2.2.2.2.2.2.2.2.2.1, .slice x18.2.2.2.2.2.2.2.2.2.2.1.a x18.2.2.2.2.2.2.2.2.2.2.1.n x18.2.2.2.2.2.2.2.2.2.2.1.c, .slice x18.2.2.2.2.2.2.2.2.2.2.2.1.a x18.2.2.2.2.2.2.2.2.2.2.2.1.n x18.2.2.2.2.2.2.2.2.2.2.2.1.c] fun w19 =>
  LoadA w19 ⟨b5, 0, none⟩ [.int .i64, .int .i64, .int .i64, .int .i64, .int .i64, .int .i64, .sl, .sl, .bool, .int .i64, .sl, .sl] fun (x20 : Int × Int × Int × Int × Int × Int × SlV × SlV × Bool × Int × SlV × SlV × Unit) =>
  K ((x20.1, x20.2.1, x20.2.2.1, x20.2.2.2.1, x20.2.2.2.2.1, x20.2.2.2.2.2.1, x20.2.2.2.2.2.2.1, x20.2.2.2.2.2.2.2.1, x20.2.2.2.2.2.2.2.2.1, x20.2.2.2.2.2.2.2.2.2.1, x20.2.2.2.2.2.2.2.2.2.2.1, x20.2.2.2.2.2.2.2.2.2.2.2.1, ()), (r9.1 == 0), ()) w19)
  (StoreV w10 ⟨b5, 0, none⟩ [.int .i64 x18.1, .int .i64 x18.2.1, .int .i64 x18.2.2.1, .int .i64 x18.2.2.2.1, .int .i64 x18.2.2.2.2.1, .int .i64 x18.2.2.2.2.2.1, .slice x18.2.2.2.2.2.2.1.a x18.2.2.2.2.2.2.1.n x18.2.2.2.2.2.2.1.c, .slice x18.2.2.2.2.2.2.2.1.a x18.2.2.2.2.2.2.2.1.n x18.2.2.2.2.2.2.2.1.c, .bool x18.2.2.2.2.2.2.2.2.1, .int .i64 x18.2.2.2.2.2.2.2.2.2.1, .slice x18.2.2.2.2.2.2.2.2.2.2.1.a x18.2.2.2.2.2.2.2.2.2.2.1.n x18.2.2.2.2.2.2.2.2.2.2.1.c, .slice x18.2.2.2.2.2.2.2.2.2.2.2.1.a x18.2.2.2.2.2.2.2.2.2.2.2.1.n x18.2.2.2.2.2.2.2.2.2.2.2.1.c] fun w21 =>
  LoadA w21 ⟨b5, 0, none⟩ [.int .i64, .int .i64, .int .i64, .int .i64, .int .i64, .int .i64, .sl, .sl, .bool, .int .i64, .sl, .sl] fun (x22 : Int × Int × Int × Int × Int × Int × SlV × SlV × Bool × Int × SlV × SlV × Unit) =>
  K ((x22.1, x22.2.1, x22.2.2.1, x22.2.2.2.1, x22.2.2.2.2.1, x22.2.2.2.2.2.1, x22.2.2.2.2.2.2.1, x22.2.2.2.2.2.2.2.1, x22.2.2.2.2.2.2.2.2.1, x22.2.2.2.2.2.2.2.2.2.1, x22.2.2.2.2.2.2.2.2.2.2.1, x22.2.2.2.2.2.2.2.2.2.2.2.1, ()), false, ()) w21))
  (LoadA w10 ⟨b1, 0, none⟩ [.int .i64, .int .i64, .int .i64, .int .i64, .int .i64, .int .i64, .sl, .sl, .bool, .int .i64, .sl, .sl] fun (x23 : Int × Int × Int × Int × Int × Int × SlV × SlV × Bool × Int × SlV × SlV × Unit) =>
  LoadS w10 ⟨b3, 1, none⟩ (.int .i64) fun (x24 : Int) =>
  LoadA w10 ⟨b3, 3, none⟩ [.int .i64, .int .i64, .int .i64, .int .u32, .int .u64, .int .u64] fun (x25 : Int × Int × Int × Int × Int × Int × Unit) =>
  CallV Tryz.prog 83 #[.agg #[.int .i64 x23.1, .int .i64 x23.2.1, .int .i64 x23.2.2.1, .int .i64 x23.2.2.2.1, .int .i64 x23.2.2.2.2.1, .int .i64 x23.2.2.2.2.2.1, .slice x23.2.2.2.2.2.2.1.a x23.2.2.2.2.2.2.1.n x23.2.2.2.2.2.2.1.c, .slice x23.2.2.2.2.2.2.2.1.a x23.2.2.2.2.2.2.2.1.n x23.2.2.2.2.2.2.2.1.c, .bool x23.2.2.2.2.2.2.2.2.1, .int .i64 x23.2.2.2.2.2.2.2.2.2.1, .slice x23.2.2.2.2.2.2.2.2.2.2.1.a x23.2.2.2.2.2.2.2.2.2.2.1.n x23.2.2.2.2.2.2.2.2.2.2.1.c, .slice x23.2.2.2.2.2.2.2.2.2.2.2.1.a x23.2.2.2.2.2.2.2.2.2.2.2.1.n x23.2.2.2.2.2.2.2.2.2.2.2.1.c], .int .i64 x24, .agg #[.int .i64 x25.1, .int .i64 x25.2.1, .int .i64 x25.2.2.1, .int .u32 x25.2.2.2.1, .int .u64 x25.2.2.2.2.1, .int .u64 x25.2.2.2.2.2.1], .bool p3] w10 [.agg [.int .i64, .int .i64, .int .i64, .int .i64, .int .i64, .int .i64, .sl, .sl, .bool, .int .i64, .sl, .sl, .int .i64, .int .i64]] fun (r26 : (Int × Int × Int × Int × Int × Int × SlV × SlV × Bool × Int × SlV × SlV × Int × Int × Unit) × Unit) w27 =>
  NewV #[.int .i64 0, .int .i64 0, .int .i64 0, .int .i64 0, .int .i64 0, .int .i64 0, .slice none 0 0, .slice none 0 0, .bool false, .int .i64 0, .slice none 0 0, .slice none 0 0, .int .i64 0, .int .i64 0] 153 w27 fun b28 w29 =>
  StoreV w29 ⟨b28, 0, none⟩ [.int .i64 r26.1.1, .int .i64 r26.1.2.1, .int .i64 r26.1.2.2.1, .int .i64 r26.1.2.2.2.1, .int .i64 r26.1.2.2.2.2.1, .int .i64 r26.1.2.2.2.2.2.1, .slice r26.1.2.2.2.2.2.2.1.a r26.1.2.2.2.2.2.2.1.n r26.1.2.2.2.2.2.2.1.c, .slice r26.1.2.2.2.2.2.2.2.1.a r26.1.2.2.2.2.2.2.2.1.n r26.1.2.2.2.2.2.2.2.1.c, .bool r26.1.2.2.2.2.2.2.2.2.1, .int .i64 r26.1.2.2.2.2.2.2.2.2.2.1, .slice r26.1.2.2.2.2.2.2.2.2.2.2.1.a r26.1.2.2.2.2.2.2.2.2.2.2.1.n r26.1.2.2.2.2.2.2.2.2.2.2.1.c, .slice r26.1.2.2.2.2.2.2.2.2.2.2.2.1.a r26.1.2.2.2.2.2.2.2.2.2.2.2.1.n r26.1.2.2.2.2.2.2.2.2.2.2.2.1.c, .int .i64 r26.1.2.2.2.2.2.2.2.2.2.2.2.2.1, .int .i64 r26.1.2.2.2.2.2.2.2.2.2.2.2.2.2.1] fun w30 =>
  DrawV fun D31 =>
  (D31 b28 ∧ LoadA w30.drew ⟨b28, 0, none⟩ [.int .i64, .int .i64, .int .i64, .int .i64, .int .i64, .int .i64, .sl, .sl, .bool, .int .i64, .sl, .sl] fun (x32 : Int × Int × Int × Int × Int × Int × SlV × SlV × Bool × Int × SlV × SlV × Unit) =>
  (D31 b28 ∧ LoadS w30.drew ⟨b28, 12, none⟩ (.int .i64) fun (x33 : Int) =>
  cond (r9.1 == x33)
  ((D31 b28 ∧ LoadS w30.drew ⟨b28, 13, none⟩ (.int .i64) fun (x34 : Int) =>
  StoreV w30.drew ⟨b5, 0, none⟩ [.int .i64 x32.1, .int .i64 x32.2.1, .int .i64 x32.2.2.1, .int .i64 x32.2.2.2.1, .int .i64 x32.2.2.2.2.1, .int .i64 x32.2.2.2.2.2.1, .slice x32.2.2.2.2.2.2.1.a x32.2.2.2.2.2.2.1.n x32.2.2.2.2.2.2.1.c, .slice x32.2.2.2.2.2.2.2.1.a x32.2.2.2.2.2.2.2.1.n x32.2.2.2.2.2.2.2.1.c, .bool x32.2.2.2.2.2.2.2.2.1, .int .i64 x32.2.2.2.2.2.2.2.2.2.1, .slice x32.2.2.2.2.2.2.2.2.2.2.1.a x32.2.2.2.2.2.2.2.2.2.2.1.n x32.2.2.2.2.2.2.2.2.2.2.1.c, .slice x32.2.2.2.2.2.2.2.2.2.2.2.1.a x32.2.2.2.2.2.2.2.2.2.2.2.1.n x32.2.2.2.2.2.2.2.2.2.2.2.1.c] fun w35 =>
  KeepOn D31 w30.drew w35 ∧
  LoadA w35 ⟨b5, 0, none⟩ [.int .i64, .int .i64, .int .i64, .int .i64, .int .i64, .int .i64, .sl, .sl, .bool, .int .i64, .sl, .sl] fun (x36 : Int × Int × Int × Int × Int × Int × SlV × SlV × Bool × Int × SlV × SlV × Unit) =>
  K ((x36.1, x36.2.1, x36.2.2.1, x36.2.2.2.1, x36.2.2.2.2.1, x36.2.2.2.2.2.1, x36.2.2.2.2.2.2.1, x36.2.2.2.2.2.2.2.1, x36.2.2.2.2.2.2.2.2.1, x36.2.2.2.2.2.2.2.2.2.1, x36.2.2.2.2.2.2.2.2.2.2.1, x36.2.2.2.2.2.2.2.2.2.2.2.1, ()), (r9.2.1 == x34), ()) w35))
  (StoreV w30.drew ⟨b5, 0, none⟩ [.int .i64 x32.1, .int .i64 x32.2.1, .int .i64 x32.2.2.1, .int .i64 x32.2.2.2.1, .int .i64 x32.2.2.2.2.1, .int .i64 x32.2.2.2.2.2.1, .slice x32.2.2.2.2.2.2.1.a x32.2.2.2.2.2.2.1.n x32.2.2.2.2.2.2.1.c, .slice x32.2.2.2.2.2.2.2.1.a x32.2.2.2.2.2.2.2.1.n x32.2.2.2.2.2.2.2.1.c, .bool x32.2.2.2.2.2.2.2.2.1, .int .i64 x32.2.2.2.2.2.2.2.2.2.1, .slice x32.2.2.2.2.2.2.2.2.2.2.1.a x32.2.2.2.2.2.2.2.2.2.2.1.n x32.2.2.2.2.2.2.2.2.2.2.1.c, .slice x32.2.2.2.2.2.2.2.2.2.2.2.1.a x32.2.2.2.2.2.2.2.2.2.2.2.1.n x32.2.2.2.2.2.2.2.2.2.2.2.1.c] fun w37 =>
  KeepOn D31 w30.drew w37 ∧
  LoadA w37 ⟨b5, 0, none⟩ [.int .i64, .int .i64, .int .i64, .int .i64, .int .i64, .int .i64, .sl, .sl, .bool, .int .i64, .sl, .sl] fun (x38 : Int × Int × Int × Int × Int × Int × SlV × SlV × Bool × Int × SlV × SlV × Unit) =>
  K ((x38.1, x38.2.1, x38.2.2.1, x38.2.2.2.1, x38.2.2.2.2.1, x38.2.2.2.2.2.1, x38.2.2.2.2.2.2.1, x38.2.2.2.2.2.2.2.1, x38.2.2.2.2.2.2.2.2.1, x38.2.2.2.2.2.2.2.2.2.1, x38.2.2.2.2.2.2.2.2.2.2.1, x38.2.2.2.2.2.2.2.2.2.2.2.1, ()), false, ()) w37))))))
  (LoadS w6 ⟨b3, 1, none⟩ (.int .i64) fun (x39 : Int) =>
  LoadA w6 ⟨b3, 3, none⟩ [.int .i64, .int .i64, .int .i64, .int .u32, .int .u64, .int .u64] fun (x40 : Int × Int × Int × Int × Int × Int × Unit) =>
  CallV Tryz.prog 82 #[.pointer (some p0), .int .i64 x39, .agg #[.int .i64 x40.1, .int .i64 x40.2.1, .int .i64 x40.2.2.1, .int .u32 x40.2.2.2.1, .int .u64 x40.2.2.2.2.1, .int .u64 x40.2.2.2.2.2.1]] w6 [.one (.int .i64), .one (.int .i64)] fun (r41 : Int × Int × Unit) w42 =>
  LoadS w42 ⟨b3, 1, none⟩ (.int .i64) fun (x43 : Int) =>
  cond (decide (x43 < 0))
  (LoadA w42 ⟨b1, 0, none⟩ [.int .i64, .int .i64, .int .i64, .int .i64, .int .i64, .int .i64, .sl, .sl, .bool, .int .i64, .sl, .sl] fun (x44 : Int × Int × Int × Int × Int × Int × SlV × SlV × Bool × Int × SlV × SlV × Unit) =>
  cond (r41.2.1 == 2)
  (StoreV w42 ⟨b5, 0, none⟩ [.int .i64 x44.1, .int .i64 x44.2.1, .int .i64 x44.2.2.1, .int .i64 x44.2.2.2.1, .int .i64 x44.2.2.2.2.1, .int .i64 x44.2.2.2.2.2.1, .slice x44.2.2.2.2.2.2.1.a x44.2.2.2.2.2.2.1.n x44.2.2.2.2.2.2.1.c, .slice x44.2.2.2.2.2.2.2.1.a x44.2.2.2.2.2.2.2.1.n x44.2.2.2.2.2.2.2.1.c, .bool x44.2.2.2.2.2.2.2.2.1, .int .i64 x44.2.2.2.2.2.2.2.2.2.1, .slice x44.2.2.2.2.2.2.2.2.2.2.1.a x44.2.2.2.2.2.2.2.2.2.2.1.n x44.2.2.2.2.2.2.2.2.2.2.1.c, .slice x44.2.2.2.2.2.2.2.2.2.2.2.1.a x44.2.2.2.2.2.2.2.2.2.2.2.1.n x44.2.2.2.2.2.2.2.2.2.2.2.1.c] fun w45 =>
  LoadA w45 ⟨b5, 0, none⟩ [.int .i64, .int .i64, .int .i64, .int .i64, .int .i64, .int .i64, .sl, .sl, .bool, .int .i64, .sl, .sl] fun (x46 : Int × Int × Int × Int × Int × Int × SlV × SlV × Bool × Int × SlV × SlV × Unit) =>
  K ((x46.1, x46.2.1, x46.2.2.1, x46.2.2.2.1, x46.2.2.2.2.1, x46.2.2.2.2.2.1, x46.2.2.2.2.2.2.1, x46.2.2.2.2.2.2.2.1, x46.2.2.2.2.2.2.2.2.1, x46.2.2.2.2.2.2.2.2.2.1, x46.2.2.2.2.2.2.2.2.2.2.1, x46.2.2.2.2.2.2.2.2.2.2.2.1, ()), (r41.1 == 0), ()) w45)
  (StoreV w42 ⟨b5, 0, none⟩ [.int .i64 x44.1, .int .i64 x44.2.1, .int .i64 x44.2.2.1, .int .i64 x44.2.2.2.1, .int .i64 x44.2.2.2.2.1, .int .i64 x44.2.2.2.2.2.1, .slice x44.2.2.2.2.2.2.1.a x44.2.2.2.2.2.2.1.n x44.2.2.2.2.2.2.1.c, .slice x44.2.2.2.2.2.2.2.1.a x44.2.2.2.2.2.2.2.1.n x44.2.2.2.2.2.2.2.1.c, .bool x44.2.2.2.2.2.2.2.2.1, .int .i64 x44.2.2.2.2.2.2.2.2.2.1, .slice x44.2.2.2.2.2.2.2.2.2.2.1.a x44.2.2.2.2.2.2.2.2.2.2.1.n x44.2.2.2.2.2.2.2.2.2.2.1.c, .slice x44.2.2.2.2.2.2.2.2.2.2.2.1.a x44.2.2.2.2.2.2.2.2.2.2.2.1.n x44.2.2.2.2.2.2.2.2.2.2.2.1.c] fun w47 =>
  LoadA w47 ⟨b5, 0, none⟩ [.int .i64, .int .i64, .int .i64, .int .i64, .int .i64, .int .i64, .sl, .sl, .bool, .int .i64, .sl, .sl] fun (x48 : Int × Int × Int × Int × Int × Int × SlV × SlV × Bool × Int × SlV × SlV × Unit) =>
  K ((x48.1, x48.2.1, x48.2.2.1, x48.2.2.2.1, x48.2.2.2.2.1, x48.2.2.2.2.2.1, x48.2.2.2.2.2.2.1, x48.2.2.2.2.2.2.2.1, x48.2.2.2.2.2.2.2.2.1, x48.2.2.2.2.2.2.2.2.2.1, x48.2.2.2.2.2.2.2.2.2.2.1, x48.2.2.2.2.2.2.2.2.2.2.2.1, ()), false, ()) w47))
  (LoadS w42 ⟨b3, 1, none⟩ (.int .i64) fun (x49 : Int) =>
  cond (decide (x49 > 3))
  (LoadA w42 ⟨b1, 0, none⟩ [.int .i64, .int .i64, .int .i64, .int .i64, .int .i64, .int .i64, .sl, .sl, .bool, .int .i64, .sl, .sl] fun (x50 : Int × Int × Int × Int × Int × Int × SlV × SlV × Bool × Int × SlV × SlV × Unit) =>
  cond (r41.2.1 == 2)
  (StoreV w42 ⟨b5, 0, none⟩ [.int .i64 x50.1, .int .i64 x50.2.1, .int .i64 x50.2.2.1, .int .i64 x50.2.2.2.1, .int .i64 x50.2.2.2.2.1, .int .i64 x50.2.2.2.2.2.1, .slice x50.2.2.2.2.2.2.1.a x50.2.2.2.2.2.2.1.n x50.2.2.2.2.2.2.1.c, .slice x50.2.2.2.2.2.2.2.1.a x50.2.2.2.2.2.2.2.1.n x50.2.2.2.2.2.2.2.1.c, .bool x50.2.2.2.2.2.2.2.2.1, .int .i64 x50.2.2.2.2.2.2.2.2.2.1, .slice x50.2.2.2.2.2.2.2.2.2.2.1.a x50.2.2.2.2.2.2.2.2.2.2.1.n x50.2.2.2.2.2.2.2.2.2.2.1.c, .slice x50.2.2.2.2.2.2.2.2.2.2.2.1.a x50.2.2.2.2.2.2.2.2.2.2.2.1.n x50.2.2.2.2.2.2.2.2.2.2.2.1.c] fun w51 =>
  LoadA w51 ⟨b5, 0, none⟩ [.int .i64, .int .i64, .int .i64, .int .i64, .int .i64, .int .i64, .sl, .sl, .bool, .int .i64, .sl, .sl] fun (x52 : Int × Int × Int × Int × Int × Int × SlV × SlV × Bool × Int × SlV × SlV × Unit) =>
  K ((x52.1, x52.2.1, x52.2.2.1, x52.2.2.2.1, x52.2.2.2.2.1, x52.2.2.2.2.2.1, x52.2.2.2.2.2.2.1, x52.2.2.2.2.2.2.2.1, x52.2.2.2.2.2.2.2.2.1, x52.2.2.2.2.2.2.2.2.2.1, x52.2.2.2.2.2.2.2.2.2.2.1, x52.2.2.2.2.2.2.2.2.2.2.2.1, ()), (r41.1 == 0), ()) w51)
  (StoreV w42 ⟨b5, 0, none⟩ [.int .i64 x50.1, .int .i64 x50.2.1, .int .i64 x50.2.2.1, .int .i64 x50.2.2.2.1, .int .i64 x50.2.2.2.2.1, .int .i64 x50.2.2.2.2.2.1, .slice x50.2.2.2.2.2.2.1.a x50.2.2.2.2.2.2.1.n x50.2.2.2.2.2.2.1.c, .slice x50.2.2.2.2.2.2.2.1.a x50.2.2.2.2.2.2.2.1.n x50.2.2.2.2.2.2.2.1.c, .bool x50.2.2.2.2.2.2.2.2.1, .int .i64 x50.2.2.2.2.2.2.2.2.2.1, .slice x50.2.2.2.2.2.2.2.2.2.2.1.a x50.2.2.2.2.2.2.2.2.2.2.1.n x50.2.2.2.2.2.2.2.2.2.2.1.c, .slice x50.2.2.2.2.2.2.2.2.2.2.2.1.a x50.2.2.2.2.2.2.2.2.2.2.2.1.n x50.2.2.2.2.2.2.2.2.2.2.2.1.c] fun w53 =>
  LoadA w53 ⟨b5, 0, none⟩ [.int .i64, .int .i64, .int .i64, .int .i64, .int .i64, .int .i64, .sl, .sl, .bool, .int .i64, .sl, .sl] fun (x54 : Int × Int × Int × Int × Int × Int × SlV × SlV × Bool × Int × SlV × SlV × Unit) =>
  K ((x54.1, x54.2.1, x54.2.2.1, x54.2.2.2.1, x54.2.2.2.2.1, x54.2.2.2.2.2.1, x54.2.2.2.2.2.2.1, x54.2.2.2.2.2.2.2.1, x54.2.2.2.2.2.2.2.2.1, x54.2.2.2.2.2.2.2.2.2.1, x54.2.2.2.2.2.2.2.2.2.2.1, x54.2.2.2.2.2.2.2.2.2.2.2.1, ()), false, ()) w53))
  (LoadA w42 ⟨b1, 0, none⟩ [.int .i64, .int .i64, .int .i64, .int .i64, .int .i64, .int .i64, .sl, .sl, .bool, .int .i64, .sl, .sl] fun (x55 : Int × Int × Int × Int × Int × Int × SlV × SlV × Bool × Int × SlV × SlV × Unit) =>
  LoadS w42 ⟨b3, 1, none⟩ (.int .i64) fun (x56 : Int) =>
  LoadA w42 ⟨b3, 3, none⟩ [.int .i64, .int .i64, .int .i64, .int .u32, .int .u64, .int .u64] fun (x57 : Int × Int × Int × Int × Int × Int × Unit) =>
  CallV Tryz.prog 83 #[.agg #[.int .i64 x55.1, .int .i64 x55.2.1, .int .i64 x55.2.2.1, .int .i64 x55.2.2.2.1, .int .i64 x55.2.2.2.2.1, .int .i64 x55.2.2.2.2.2.1, .slice x55.2.2.2.2.2.2.1.a x55.2.2.2.2.2.2.1.n x55.2.2.2.2.2.2.1.c, .slice x55.2.2.2.2.2.2.2.1.a x55.2.2.2.2.2.2.2.1.n x55.2.2.2.2.2.2.2.1.c, .bool x55.2.2.2.2.2.2.2.2.1, .int .i64 x55.2.2.2.2.2.2.2.2.2.1, .slice x55.2.2.2.2.2.2.2.2.2.2.1.a x55.2.2.2.2.2.2.2.2.2.2.1.n x55.2.2.2.2.2.2.2.2.2.2.1.c, .slice x55.2.2.2.2.2.2.2.2.2.2.2.1.a x55.2.2.2.2.2.2.2.2.2.2.2.1.n x55.2.2.2.2.2.2.2.2.2.2.2.1.c], .int .i64 x56, .agg #[.int .i64 x57.1, .int .i64 x57.2.1, .int .i64 x57.2.2.1, .int .u32 x57.2.2.2.1, .int .u64 x57.2.2.2.2.1, .int .u64 x57.2.2.2.2.2.1], .bool p3] w42 [.agg [.int .i64, .int .i64, .int .i64, .int .i64, .int .i64, .int .i64, .sl, .sl, .bool, .int .i64, .sl, .sl, .int .i64, .int .i64]] fun (r58 : (Int × Int × Int × Int × Int × Int × SlV × SlV × Bool × Int × SlV × SlV × Int × Int × Unit) × Unit) w59 =>
  NewV #[.int .i64 0, .int .i64 0, .int .i64 0, .int .i64 0, .int .i64 0, .int .i64 0, .slice none 0 0, .slice none 0 0, .bool false, .int .i64 0, .slice none 0 0, .slice none 0 0, .int .i64 0, .int .i64 0] 153 w59 fun b60 w61 =>
  StoreV w61 ⟨b60, 0, none⟩ [.int .i64 r58.1.1, .int .i64 r58.1.2.1, .int .i64 r58.1.2.2.1, .int .i64 r58.1.2.2.2.1, .int .i64 r58.1.2.2.2.2.1, .int .i64 r58.1.2.2.2.2.2.1, .slice r58.1.2.2.2.2.2.2.1.a r58.1.2.2.2.2.2.2.1.n r58.1.2.2.2.2.2.2.1.c, .slice r58.1.2.2.2.2.2.2.2.1.a r58.1.2.2.2.2.2.2.2.1.n r58.1.2.2.2.2.2.2.2.1.c, .bool r58.1.2.2.2.2.2.2.2.2.1, .int .i64 r58.1.2.2.2.2.2.2.2.2.2.1, .slice r58.1.2.2.2.2.2.2.2.2.2.2.1.a r58.1.2.2.2.2.2.2.2.2.2.2.1.n r58.1.2.2.2.2.2.2.2.2.2.2.1.c, .slice r58.1.2.2.2.2.2.2.2.2.2.2.2.1.a r58.1.2.2.2.2.2.2.2.2.2.2.2.1.n r58.1.2.2.2.2.2.2.2.2.2.2.2.1.c, .int .i64 r58.1.2.2.2.2.2.2.2.2.2.2.2.2.1, .int .i64 r58.1.2.2.2.2.2.2.2.2.2.2.2.2.2.1] fun w62 =>
  DrawV fun D63 =>
  (D63 b60 ∧ LoadA w62.drew ⟨b60, 0, none⟩ [.int .i64, .int .i64, .int .i64, .int .i64, .int .i64, .int .i64, .sl, .sl, .bool, .int .i64, .sl, .sl] fun (x64 : Int × Int × Int × Int × Int × Int × SlV × SlV × Bool × Int × SlV × SlV × Unit) =>
  (D63 b60 ∧ LoadS w62.drew ⟨b60, 12, none⟩ (.int .i64) fun (x65 : Int) =>
  cond (r41.1 == x65)
  ((D63 b60 ∧ LoadS w62.drew ⟨b60, 13, none⟩ (.int .i64) fun (x66 : Int) =>
  StoreV w62.drew ⟨b5, 0, none⟩ [.int .i64 x64.1, .int .i64 x64.2.1, .int .i64 x64.2.2.1, .int .i64 x64.2.2.2.1, .int .i64 x64.2.2.2.2.1, .int .i64 x64.2.2.2.2.2.1, .slice x64.2.2.2.2.2.2.1.a x64.2.2.2.2.2.2.1.n x64.2.2.2.2.2.2.1.c, .slice x64.2.2.2.2.2.2.2.1.a x64.2.2.2.2.2.2.2.1.n x64.2.2.2.2.2.2.2.1.c, .bool x64.2.2.2.2.2.2.2.2.1, .int .i64 x64.2.2.2.2.2.2.2.2.2.1, .slice x64.2.2.2.2.2.2.2.2.2.2.1.a x64.2.2.2.2.2.2.2.2.2.2.1.n x64.2.2.2.2.2.2.2.2.2.2.1.c, .slice x64.2.2.2.2.2.2.2.2.2.2.2.1.a x64.2.2.2.2.2.2.2.2.2.2.2.1.n x64.2.2.2.2.2.2.2.2.2.2.2.1.c] fun w67 =>
  KeepOn D63 w62.drew w67 ∧
  LoadA w67 ⟨b5, 0, none⟩ [.int .i64, .int .i64, .int .i64, .int .i64, .int .i64, .int .i64, .sl, .sl, .bool, .int .i64, .sl, .sl] fun (x68 : Int × Int × Int × Int × Int × Int × SlV × SlV × Bool × Int × SlV × SlV × Unit) =>
  K ((x68.1, x68.2.1, x68.2.2.1, x68.2.2.2.1, x68.2.2.2.2.1, x68.2.2.2.2.2.1, x68.2.2.2.2.2.2.1, x68.2.2.2.2.2.2.2.1, x68.2.2.2.2.2.2.2.2.1, x68.2.2.2.2.2.2.2.2.2.1, x68.2.2.2.2.2.2.2.2.2.2.1, x68.2.2.2.2.2.2.2.2.2.2.2.1, ()), (r41.2.1 == x66), ()) w67))
  (StoreV w62.drew ⟨b5, 0, none⟩ [.int .i64 x64.1, .int .i64 x64.2.1, .int .i64 x64.2.2.1, .int .i64 x64.2.2.2.1, .int .i64 x64.2.2.2.2.1, .int .i64 x64.2.2.2.2.2.1, .slice x64.2.2.2.2.2.2.1.a x64.2.2.2.2.2.2.1.n x64.2.2.2.2.2.2.1.c, .slice x64.2.2.2.2.2.2.2.1.a x64.2.2.2.2.2.2.2.1.n x64.2.2.2.2.2.2.2.1.c, .bool x64.2.2.2.2.2.2.2.2.1, .int .i64 x64.2.2.2.2.2.2.2.2.2.1, .slice x64.2.2.2.2.2.2.2.2.2.2.1.a x64.2.2.2.2.2.2.2.2.2.2.1.n x64.2.2.2.2.2.2.2.2.2.2.1.c, .slice x64.2.2.2.2.2.2.2.2.2.2.2.1.a x64.2.2.2.2.2.2.2.2.2.2.2.1.n x64.2.2.2.2.2.2.2.2.2.2.2.1.c] fun w69 =>
  KeepOn D63 w62.drew w69 ∧
  LoadA w69 ⟨b5, 0, none⟩ [.int .i64, .int .i64, .int .i64, .int .i64, .int .i64, .int .i64, .sl, .sl, .bool, .int .i64, .sl, .sl] fun (x70 : Int × Int × Int × Int × Int × Int × SlV × SlV × Bool × Int × SlV × SlV × Unit) =>
  K ((x70.1, x70.2.1, x70.2.2.1, x70.2.2.2.1, x70.2.2.2.2.1, x70.2.2.2.2.2.1, x70.2.2.2.2.2.2.1, x70.2.2.2.2.2.2.2.1, x70.2.2.2.2.2.2.2.2.1, x70.2.2.2.2.2.2.2.2.2.1, x70.2.2.2.2.2.2.2.2.2.2.1, x70.2.2.2.2.2.2.2.2.2.2.2.1, ()), false, ()) w69))))))
theorem law24_open.vc (p0 : Addr) (p1_0 p1_1 p1_2 p1_3 p1_4 p1_5 : Int) (a1_6 : Option Addr) (n1_6 c1_6 : Nat) (a1_7 : Option Addr) (n1_7 c1_7 : Nat) (p1_8 : Bool) (p1_9 : Int) (a1_10 : Option Addr) (n1_10 c1_10 : Nat) (a1_11 : Option Addr) (n1_11 c1_11 : Nat) (p2_0 p2_1 p2_2 p2_3 p2_4 p2_5 p2_6 p2_7 p2_8 p2_9 : Int) (p3 : Bool) (w : World) (K : (Int × Int × Int × Int × Int × Int × SlV × SlV × Bool × Int × SlV × SlV × Unit) × Bool × Unit → World → Prop) (h : law24_open.P p0 p1_0 p1_1 p1_2 p1_3 p1_4 p1_5 a1_6 n1_6 c1_6 a1_7 n1_7 c1_7 p1_8 p1_9 a1_10 n1_10 c1_10 a1_11 n1_11 c1_11 p2_0 p2_1 p2_2 p2_3 p2_4 p2_5 p2_6 p2_7 p2_8 p2_9 p3 w K) : CallV Tryz.prog 37 #[.pointer (some p0), .agg #[.int .i64 p1_0, .int .i64 p1_1, .int .i64 p1_2, .int .i64 p1_3, .int .i64 p1_4, .int .i64 p1_5, .slice a1_6 n1_6 c1_6, .slice a1_7 n1_7 c1_7, .bool p1_8, .int .i64 p1_9, .slice a1_10 n1_10 c1_10, .slice a1_11 n1_11 c1_11], .agg #[.int .i64 p2_0, .int .i64 p2_1, .int .i64 p2_2, .int .i64 p2_3, .int .i64 p2_4, .int .i64 p2_5, .int .u32 p2_6, .int .u64 p2_7, .int .u64 p2_8, .int .u8 p2_9], .bool p3] w [.agg [.int .i64, .int .i64, .int .i64, .int .i64, .int .i64, .int .i64, .sl, .sl, .bool, .int .i64, .sl, .sl], .one .bool] K := by
  refine vcFun.of (A := law24_open.A) (wr := false) okf_ok follows h Tryz.func37 ?_
  kernel_rfl
def law24_step.A : Ann := .two .no (.two (.two .no (.one (.two .no (.two .no (.two .no (.two .no (.two .no (.two .no (.two .no (.two .no (.two .no (.two .no (.two .no (.two .no (.two .no (.two .no (.two .no (.two (.two (.draw (.take 0 (.take 2 (.take 3 (.eff 1 (.eff 4 (.done))))))) (.two .no (.two (.draw (.take 0 (.take 2 (.take 3 (.take 4 (.take 6 (.take 7 (.both 1 (.eff 5 (.take 8 (.eff 9 (.eff 10 (.take 11 (.eff 12 (.done))))))) 5 (.take 8 (.both 1 (.eff 9 (.eff 10 (.take 11 (.eff 12 (.done))))) 9 (.both 1 (.eff 10 (.take 11 (.eff 12 (.done)))) 10 (.eff 1 (.take 11 (.eff 12 (.done))))))))))))))) .no))) .no)))))))))))))))))) .no)
def law24_step.P (p0 p1 : Addr) (p2_0 p2_1 p2_2 p2_3 p2_4 p2_5 : Int) (a2_6 : Option Addr) (n2_6 c2_6 : Nat) (a2_7 : Option Addr) (n2_7 c2_7 : Nat) (p2_8 : Bool) (p2_9 : Int) (a2_10 : Option Addr) (n2_10 c2_10 : Nat) (a2_11 : Option Addr) (n2_11 c2_11 : Nat) (p3_0 p3_1 p3_2 p3_3 p3_4 p3_5 p3_6 p3_7 p3_8 p3_9 : Int) (w : World) (K : (Int × Int × Int × Int × Int × Int × SlV × SlV × Bool × Int × SlV × SlV × Unit) × Bool × Unit → World → Prop) : Prop :=
  NewV #[.int .i64 p2_0, .int .i64 p2_1, .int .i64 p2_2, .int .i64 p2_3, .int .i64 p2_4, .int .i64 p2_5, .slice a2_6 n2_6 c2_6, .slice a2_7 n2_7 c2_7, .bool p2_8, .int .i64 p2_9, .slice a2_10 n2_10 c2_10, .slice a2_11 n2_11 c2_11] 38 w fun b1 w2 =>
  NewV #[.int .i64 p3_0, .int .i64 p3_1, .int .i64 p3_2, .int .i64 p3_3, .int .i64 p3_4, .int .i64 p3_5, .int .u32 p3_6, .int .u64 p3_7, .int .u64 p3_8, .int .u8 p3_9] 48 w2 fun b3 w4 =>
  NewV #[.int .i64 0, .int .i64 0, .int .i64 0, .int .i64 0, .int .i64 0, .int .i64 0, .slice none 0 0, .slice none 0 0, .bool false, .int .i64 0, .slice none 0 0, .slice none 0 0] 38 w4 fun b5 w6 =>
  LoadS w6 ⟨b3, 0, none⟩ (.int .i64) fun (x7 : Int) =>
  cond (x7 == 1)
  (LoadS w6 ⟨b3, 1, none⟩ (.int .i64) fun (x8 : Int) =>
  CallV Tryz.prog 10 #[.pointer (some p0), .int .i64 x8] w6 [.one (.int .i64)] fun (r9 : Int × Unit) w10 =>
  LoadS w10 ⟨b3, 1, none⟩ (.int .i64) fun (x11 : Int) =>
  cond (decide (x11 < 0))
  (LoadA w10 ⟨b1, 0, none⟩ [.int .i64, .int .i64, .int .i64, .int .i64, .int .i64, .int .i64, .sl, .sl, .bool, .int .i64, .sl, .sl] fun (x12 : Int × Int × Int × Int × Int × Int × SlV × SlV × Bool × Int × SlV × SlV × Unit) =>
  StoreV w10 ⟨b5, 0, none⟩ [.int .i64 x12.1, .int .i64 x12.2.1, .int .i64 x12.2.2.1, .int .i64 x12.2.2.2.1, .int .i64 x12.2.2.2.2.1, .int .i64 x12.2.2.2.2.2.1, .slice x12.2.2.2.2.2.2.1.a x12.2.2.2.2.2.2.1.n x12.2.2.2.2.2.2.1.c, .slice x12.2.2.2.2.2.2.2.1.a x12.2.2.2.2.2.2.2.1.n x12.2.2.2.2.2.2.2.1.c, .bool x12.2.2.2.2.2.2.2.2.1, .int .i64 x12.2.2.2.2.2.2.2.2.2.1, .slice x12.2.2.2.2.2.2.2.2.2.2.1.a x12.2.2.2.2.2.2.2.2.2.2.1.n x12.2.2.2.2.2.2.2.2.2.2.1.c, .slice x12.2.2.2.2.2.2.2.2.2.2.2.1.a x12.2.2.2.2.2.2.2.2.2.2.2.1.n x12.2.2.2.2.2.2.2.2.2.2.2.1.c] fun w13 =>
  LoadA w13 ⟨b5, 0, none⟩ [.int .i64, .int .i64, .int .i64, .int .i64, .int .i64, .int .i64, .sl, .sl, .bool, .int .i64, .sl, .sl] fun (x14 : Int × Int × Int × Int × Int × Int × SlV × SlV × Bool × Int × SlV × SlV × Unit) =>
  K ((x14.1, x14.2.1, x14.2.2.1, x14.2.2.2.1, x14.2.2.2.2.1, x14.2.2.2.2.2.1, x14.2.2.2.2.2.2.1, x14.2.2.2.2.2.2.2.1, x14.2.2.2.2.2.2.2.2.1, x14.2.2.2.2.2.2.2.2.2.1, x14.2.2.2.2.2.2.2.2.2.2.1, x14.2.2.2.2.2.2.2.2.2.2.2.1, ()), (r9.1 == 2), ()) w13)
  (LoadS w10 ⟨b3, 1, none⟩ (.int .i64) fun (x15 : Int) =>
  LoadS w10 ⟨b1, 10, none⟩ .sl fun (x16 : SlV) =>
  cond (decide (x15 ≥ ((x16.n : Nat) : Int)))
  (LoadA w10 ⟨b1, 0, none⟩ [.int .i64, .int .i64, .int .i64, .int .i64, .int .i64, .int .i64, .sl, .sl, .bool, .int .i64, .sl, .sl] fun (x17 : Int × Int × Int × Int × Int × Int × SlV × SlV × Bool × Int × SlV × SlV × Unit) =>
  StoreV w10 ⟨b5, 0, none⟩ [.int .i64 x17.1, .int .i64 x17.2.1, .int .i64 x17.2.2.1, .int .i64 x17.2.2.2.1, .int .i64 x17.2.2.2.2.1, .int .i64 x17.2.2.2.2.2.1, .slice x17.2.2.2.2.2.2.1.a x17.2.2.2.2.2.2.1.n x17.2.2.2.2.2.2.1.c, .slice x17.2.2.2.2.2.2.2.1.a x17.2.2.2.2.2.2.2.1.n x17.2.2.2.2.2.2.2.1.c, .bool x17.2.2.2.2.2.2.2.2.1, .int .i64 x17.2.2.2.2.2.2.2.2.2.1, .slice x17.2.2.2.2.2.2.2.2.2.2.1.a x17.2.2.2.2.2.2.2.2.2.2.1.n x17.2.2.2.2.2.2.2.2.2.2.1.c, .slice x17.2.2.2.2.2.2.2.2.2.2.2.1.a x17.2.2.2.2.2.2.2.2.2.2.2.1.n x17.2.2.2.2.2.2.2.2.2.2.2.1.c] fun w18 =>
  LoadA w18 ⟨b5, 0, none⟩ [.int .i64, .int .i64, .int .i64, .int .i64, .int .i64, .int .i64, .sl, .sl, .bool, .int .i64, .sl, .sl] fun (x19 : Int × Int × Int × Int × Int × Int × SlV × SlV × Bool × Int × SlV × SlV × Unit) =>
  K ((x19.1, x19.2.1, x19.2.2.1, x19.2.2.2.1, x19.2.2.2.2.1, x19.2.2.2.2.2.1, x19.2.2.2.2.2.2.1, x19.2.2.2.2.2.2.2.1, x19.2.2.2.2.2.2.2.2.1, x19.2.2.2.2.2.2.2.2.2.1, x19.2.2.2.2.2.2.2.2.2.2.1, x19.2.2.2.2.2.2.2.2.2.2.2.1, ()), (r9.1 == 2), ()) w18)
  (LoadA w10 ⟨b1, 0, none⟩ [.int .i64, .int .i64, .int .i64, .int .i64, .int .i64, .int .i64, .sl, .sl, .bool, .int .i64, .sl, .sl] fun (x20 : Int × Int × Int × Int × Int × Int × SlV × SlV × Bool × Int × SlV × SlV × Unit) =>
  LoadS w10 ⟨b3, 1, none⟩ (.int .i64) fun (x21 : Int) =>
  CallV Tryz.prog 36 #[.agg #[.int .i64 x20.1, .int .i64 x20.2.1, .int .i64 x20.2.2.1, .int .i64 x20.2.2.2.1, .int .i64 x20.2.2.2.2.1, .int .i64 x20.2.2.2.2.2.1, .slice x20.2.2.2.2.2.2.1.a x20.2.2.2.2.2.2.1.n x20.2.2.2.2.2.2.1.c, .slice x20.2.2.2.2.2.2.2.1.a x20.2.2.2.2.2.2.2.1.n x20.2.2.2.2.2.2.2.1.c, .bool x20.2.2.2.2.2.2.2.2.1, .int .i64 x20.2.2.2.2.2.2.2.2.2.1, .slice x20.2.2.2.2.2.2.2.2.2.2.1.a x20.2.2.2.2.2.2.2.2.2.2.1.n x20.2.2.2.2.2.2.2.2.2.2.1.c, .slice x20.2.2.2.2.2.2.2.2.2.2.2.1.a x20.2.2.2.2.2.2.2.2.2.2.2.1.n x20.2.2.2.2.2.2.2.2.2.2.2.1.c], .int .i64 x21] w10 [.agg [.int .i64, .int .i64, .int .i64, .int .i64, .int .i64, .int .i64, .sl, .sl, .bool, .int .i64, .sl, .sl], .one (.int .i64)] fun (r22 : (Int × Int × Int × Int × Int × Int × SlV × SlV × Bool × Int × SlV × SlV × Unit) × Int × Unit) w23 =>
  NewV #[.int .i64 0, .int .i64 0, .int .i64 0, .int .i64 0, .int .i64 0, .int .i64 0, .slice none 0 0, .slice none 0 0, .bool false, .int .i64 0, .slice none 0 0, .slice none 0 0] 38 w23 fun b24 w25 =>
  StoreV w25 ⟨b24, 0, none⟩ [.int .i64 r22.1.1, .int .i64 r22.1.2.1, .int .i64 r22.1.2.2.1, .int .i64 r22.1.2.2.2.1, .int .i64 r22.1.2.2.2.2.1, .int .i64 r22.1.2.2.2.2.2.1, .slice r22.1.2.2.2.2.2.2.1.a r22.1.2.2.2.2.2.2.1.n r22.1.2.2.2.2.2.2.1.c, .slice r22.1.2.2.2.2.2.2.2.1.a r22.1.2.2.2.2.2.2.2.1.n r22.1.2.2.2.2.2.2.2.1.c, .bool r22.1.2.2.2.2.2.2.2.2.1, .int .i64 r22.1.2.2.2.2.2.2.2.2.2.1, .slice r22.1.2.2.2.2.2.2.2.2.2.2.1.a r22.1.2.2.2.2.2.2.2.2.2.2.1.n r22.1.2.2.2.2.2.2.2.2.2.2.1.c, .slice r22.1.2.2.2.2.2.2.2.2.2.2.2.1.a r22.1.2.2.2.2.2.2.2.2.2.2.2.1.n r22.1.2.2.2.2.2.2.2.2.2.2.2.1.c] fun w26 =>
  LoadA w26 ⟨b24, 0, none⟩ [.int .i64, .int .i64, .int .i64, .int .i64, .int .i64, .int .i64, .sl, .sl, .bool, .int .i64, .sl, .sl] fun (x27 : Int × Int × Int × Int × Int × Int × SlV × SlV × Bool × Int × SlV × SlV × Unit) =>
  StoreV w26 ⟨b5, 0, none⟩ [.int .i64 x27.1, .int .i64 x27.2.1, .int .i64 x27.2.2.1, .int .i64 x27.2.2.2.1, .int .i64 x27.2.2.2.2.1, .int .i64 x27.2.2.2.2.2.1, .slice x27.2.2.2.2.2.2.1.a x27.2.2.2.2.2.2.1.n x27.2.2.2.2.2.2.1.c, .slice x27.2.2.2.2.2.2.2.1.a x27.2.2.2.2.2.2.2.1.n x27.2.2.2.2.2.2.2.1.c, .bool x27.2.2.2.2.2.2.2.2.1, .int .i64 x27.2.2.2.2.2.2.2.2.2.1, .slice x27.2.2.2.2.2.2.2.2.2.2.1.a x27.2.2.2.2.2.2.2.2.2.2.1.n x27.2.2.2.2.2.2.2.2.2.2.1.c, .slice x27.2.2.2.2.2.2.2.2.2.2.2.1.a x27.2.2.2.2.2.2.2.2.2.2.2.1.n x27.2.2.2.2.2.2.2.2.2.2.2.1.c] fun w28 =>
  LoadA w28 ⟨b5, 0, none⟩ [.int .i64, .int .i64, .int .i64, .int .i64, .int .i64, .int .i64, .sl, .sl, .bool, .int .i64, .sl, .sl] fun (x29 : Int × Int × Int × Int × Int × Int × SlV × SlV × Bool × Int × SlV × SlV × Unit) =>
  K ((x29.1, x29.2.1, x29.2.2.1, x29.2.2.2.1, x29.2.2.2.2.1, x29.2.2.2.2.2.1, x29.2.2.2.2.2.2.1, x29.2.2.2.2.2.2.2.1, x29.2.2.2.2.2.2.2.2.1, x29.2.2.2.2.2.2.2.2.2.1, x29.2.2.2.2.2.2.2.2.2.2.1, x29.2.2.2.2.2.2.2.2.2.2.2.1, ()), (r9.1 == r22.2.1), ()) w28)))
  (cond (x7 == 2)
  (LoadA w6 ⟨b1, 0, none⟩ [.int .i64, .int .i64, .int .i64, .int .i64, .int .i64, .int .i64, .sl, .sl, .bool, .int .i64, .sl, .sl] fun (x30 : Int × Int × Int × Int × Int × Int × SlV × SlV × Bool × Int × SlV × SlV × Unit) =>
  LoadA w6 ⟨b3, 0, none⟩ [.int .i64, .int .i64, .int .i64, .int .i64, .int .i64, .int .i64, .int .u32, .int .u64, .int .u64, .int .u8] fun (x31 : Int × Int × Int × Int × Int × Int × Int × Int × Int × Int × Unit) =>
  CallV Tryz.prog 37 #[.pointer (some p0), .agg #[.int .i64 x30.1, .int .i64 x30.2.1, .int .i64 x30.2.2.1, .int .i64 x30.2.2.2.1, .int .i64 x30.2.2.2.2.1, .int .i64 x30.2.2.2.2.2.1, .slice x30.2.2.2.2.2.2.1.a x30.2.2.2.2.2.2.1.n x30.2.2.2.2.2.2.1.c, .slice x30.2.2.2.2.2.2.2.1.a x30.2.2.2.2.2.2.2.1.n x30.2.2.2.2.2.2.2.1.c, .bool x30.2.2.2.2.2.2.2.2.1, .int .i64 x30.2.2.2.2.2.2.2.2.2.1, .slice x30.2.2.2.2.2.2.2.2.2.2.1.a x30.2.2.2.2.2.2.2.2.2.2.1.n x30.2.2.2.2.2.2.2.2.2.2.1.c, .slice x30.2.2.2.2.2.2.2.2.2.2.2.1.a x30.2.2.2.2.2.2.2.2.2.2.2.1.n x30.2.2.2.2.2.2.2.2.2.2.2.1.c], .agg #[.int .i64 x31.1, .int .i64 x31.2.1, .int .i64 x31.2.2.1, .int .i64 x31.2.2.2.1, .int .i64 x31.2.2.2.2.1, .int .i64 x31.2.2.2.2.2.1, .int .u32 x31.2.2.2.2.2.2.1, .int .u64 x31.2.2.2.2.2.2.2.1, .int .u64 x31.2.2.2.2.2.2.2.2.1, .int .u8 x31.2.2.2.2.2.2.2.2.2.1], .bool true] w6 [.agg [.int .i64, .int .i64, .int .i64, .int .i64, .int .i64, .int .i64, .sl, .sl, .bool, .int .i64, .sl, .sl], .one .bool] fun (r32 : (Int × Int × Int × Int × Int × Int × SlV × SlV × Bool × Int × SlV × SlV × Unit) × Bool × Unit) w33 =>
  StoreV w33 ⟨b5, 0, none⟩ [.int .i64 r32.1.1, .int .i64 r32.1.2.1, .int .i64 r32.1.2.2.1, .int .i64 r32.1.2.2.2.1, .int .i64 r32.1.2.2.2.2.1, .int .i64 r32.1.2.2.2.2.2.1, .slice r32.1.2.2.2.2.2.2.1.a r32.1.2.2.2.2.2.2.1.n r32.1.2.2.2.2.2.2.1.c, .slice r32.1.2.2.2.2.2.2.2.1.a r32.1.2.2.2.2.2.2.2.1.n r32.1.2.2.2.2.2.2.2.1.c, .bool r32.1.2.2.2.2.2.2.2.2.1, .int .i64 r32.1.2.2.2.2.2.2.2.2.2.1, .slice r32.1.2.2.2.2.2.2.2.2.2.2.1.a r32.1.2.2.2.2.2.2.2.2.2.2.1.n r32.1.2.2.2.2.2.2.2.2.2.2.1.c, .slice r32.1.2.2.2.2.2.2.2.2.2.2.2.1.a r32.1.2.2.2.2.2.2.2.2.2.2.2.1.n r32.1.2.2.2.2.2.2.2.2.2.2.2.1.c] fun w34 =>
  LoadA w34 ⟨b5, 0, none⟩ [.int .i64, .int .i64, .int .i64, .int .i64, .int .i64, .int .i64, .sl, .sl, .bool, .int .i64, .sl, .sl] fun (x35 : Int × Int × Int × Int × Int × Int × SlV × SlV × Bool × Int × SlV × SlV × Unit) =>
  K ((x35.1, x35.2.1, x35.2.2.1, x35.2.2.2.1, x35.2.2.2.2.1, x35.2.2.2.2.2.1, x35.2.2.2.2.2.2.1, x35.2.2.2.2.2.2.2.1, x35.2.2.2.2.2.2.2.2.1, x35.2.2.2.2.2.2.2.2.2.1, x35.2.2.2.2.2.2.2.2.2.2.1, x35.2.2.2.2.2.2.2.2.2.2.2.1, ()), r32.2.1, ()) w34)
  (cond (x7 == 3)
  (LoadA w6 ⟨b1, 0, none⟩ [.int .i64, .int .i64, .int .i64, .int .i64, .int .i64, .int .i64, .sl, .sl, .bool, .int .i64, .sl, .sl] fun (x36 : Int × Int × Int × Int × Int × Int × SlV × SlV × Bool × Int × SlV × SlV × Unit) =>
  LoadA w6 ⟨b3, 0, none⟩ [.int .i64, .int .i64, .int .i64, .int .i64, .int .i64, .int .i64, .int .u32, .int .u64, .int .u64, .int .u8] fun (x37 : Int × Int × Int × Int × Int × Int × Int × Int × Int × Int × Unit) =>
  CallV Tryz.prog 38 #[.pointer (some p0), .agg #[.int .i64 x36.1, .int .i64 x36.2.1, .int .i64 x36.2.2.1, .int .i64 x36.2.2.2.1, .int .i64 x36.2.2.2.2.1, .int .i64 x36.2.2.2.2.2.1, .slice x36.2.2.2.2.2.2.1.a x36.2.2.2.2.2.2.1.n x36.2.2.2.2.2.2.1.c, .slice x36.2.2.2.2.2.2.2.1.a x36.2.2.2.2.2.2.2.1.n x36.2.2.2.2.2.2.2.1.c, .bool x36.2.2.2.2.2.2.2.2.1, .int .i64 x36.2.2.2.2.2.2.2.2.2.1, .slice x36.2.2.2.2.2.2.2.2.2.2.1.a x36.2.2.2.2.2.2.2.2.2.2.1.n x36.2.2.2.2.2.2.2.2.2.2.1.c, .slice x36.2.2.2.2.2.2.2.2.2.2.2.1.a x36.2.2.2.2.2.2.2.2.2.2.2.1.n x36.2.2.2.2.2.2.2.2.2.2.2.1.c], .agg #[.int .i64 x37.1, .int .i64 x37.2.1, .int .i64 x37.2.2.1, .int .i64 x37.2.2.2.1, .int .i64 x37.2.2.2.2.1, .int .i64 x37.2.2.2.2.2.1, .int .u32 x37.2.2.2.2.2.2.1, .int .u64 x37.2.2.2.2.2.2.2.1, .int .u64 x37.2.2.2.2.2.2.2.2.1, .int .u8 x37.2.2.2.2.2.2.2.2.2.1]] w6 [.agg [.int .i64, .int .i64, .int .i64, .int .i64, .int .i64, .int .i64, .sl, .sl, .bool, .int .i64, .sl, .sl], .one .bool] fun (r38 : (Int × Int × Int × Int × Int × Int × SlV × SlV × Bool × Int × SlV × SlV × Unit) × Bool × Unit) w39 =>
  StoreV w39 ⟨b5, 0, none⟩ [.int .i64 r38.1.1, .int .i64 r38.1.2.1, .int .i64 r38.1.2.2.1, .int .i64 r38.1.2.2.2.1, .int .i64 r38.1.2.2.2.2.1, .int .i64 r38.1.2.2.2.2.2.1, .slice r38.1.2.2.2.2.2.2.1.a r38.1.2.2.2.2.2.2.1.n r38.1.2.2.2.2.2.2.1.c, .slice r38.1.2.2.2.2.2.2.2.1.a r38.1.2.2.2.2.2.2.2.1.n r38.1.2.2.2.2.2.2.2.1.c, .bool r38.1.2.2.2.2.2.2.2.2.1, .int .i64 r38.1.2.2.2.2.2.2.2.2.2.1, .slice r38.1.2.2.2.2.2.2.2.2.2.2.1.a r38.1.2.2.2.2.2.2.2.2.2.2.1.n r38.1.2.2.2.2.2.2.2.2.2.2.1.c, .slice r38.1.2.2.2.2.2.2.2.2.2.2.2.1.a r38.1.2.2.2.2.2.2.2.2.2.2.2.1.n r38.1.2.2.2.2.2.2.2.2.2.2.2.1.c] fun w40 =>
  LoadA w40 ⟨b5, 0, none⟩ [.int .i64, .int .i64, .int .i64, .int .i64, .int .i64, .int .i64, .sl, .sl, .bool, .int .i64, .sl, .sl] fun (x41 : Int × Int × Int × Int × Int × Int × SlV × SlV × Bool × Int × SlV × SlV × Unit) =>
  K ((x41.1, x41.2.1, x41.2.2.1, x41.2.2.2.1, x41.2.2.2.2.1, x41.2.2.2.2.2.1, x41.2.2.2.2.2.2.1, x41.2.2.2.2.2.2.2.1, x41.2.2.2.2.2.2.2.2.1, x41.2.2.2.2.2.2.2.2.2.1, x41.2.2.2.2.2.2.2.2.2.2.1, x41.2.2.2.2.2.2.2.2.2.2.2.1, ()), r38.2.1, ()) w40)
  (cond (x7 == 4)
  (LoadA w6 ⟨b1, 0, none⟩ [.int .i64, .int .i64, .int .i64, .int .i64, .int .i64, .int .i64, .sl, .sl, .bool, .int .i64, .sl, .sl] fun (x42 : Int × Int × Int × Int × Int × Int × SlV × SlV × Bool × Int × SlV × SlV × Unit) =>
  LoadA w6 ⟨b3, 0, none⟩ [.int .i64, .int .i64, .int .i64, .int .i64, .int .i64, .int .i64, .int .u32, .int .u64, .int .u64, .int .u8] fun (x43 : Int × Int × Int × Int × Int × Int × Int × Int × Int × Int × Unit) =>
  CallV Tryz.prog 39 #[.pointer (some p0), .agg #[.int .i64 x42.1, .int .i64 x42.2.1, .int .i64 x42.2.2.1, .int .i64 x42.2.2.2.1, .int .i64 x42.2.2.2.2.1, .int .i64 x42.2.2.2.2.2.1, .slice x42.2.2.2.2.2.2.1.a x42.2.2.2.2.2.2.1.n x42.2.2.2.2.2.2.1.c, .slice x42.2.2.2.2.2.2.2.1.a x42.2.2.2.2.2.2.2.1.n x42.2.2.2.2.2.2.2.1.c, .bool x42.2.2.2.2.2.2.2.2.1, .int .i64 x42.2.2.2.2.2.2.2.2.2.1, .slice x42.2.2.2.2.2.2.2.2.2.2.1.a x42.2.2.2.2.2.2.2.2.2.2.1.n x42.2.2.2.2.2.2.2.2.2.2.1.c, .slice x42.2.2.2.2.2.2.2.2.2.2.2.1.a x42.2.2.2.2.2.2.2.2.2.2.2.1.n x42.2.2.2.2.2.2.2.2.2.2.2.1.c], .agg #[.int .i64 x43.1, .int .i64 x43.2.1, .int .i64 x43.2.2.1, .int .i64 x43.2.2.2.1, .int .i64 x43.2.2.2.2.1, .int .i64 x43.2.2.2.2.2.1, .int .u32 x43.2.2.2.2.2.2.1, .int .u64 x43.2.2.2.2.2.2.2.1, .int .u64 x43.2.2.2.2.2.2.2.2.1, .int .u8 x43.2.2.2.2.2.2.2.2.2.1]] w6 [.agg [.int .i64, .int .i64, .int .i64, .int .i64, .int .i64, .int .i64, .sl, .sl, .bool, .int .i64, .sl, .sl], .one .bool] fun (r44 : (Int × Int × Int × Int × Int × Int × SlV × SlV × Bool × Int × SlV × SlV × Unit) × Bool × Unit) w45 =>
  StoreV w45 ⟨b5, 0, none⟩ [.int .i64 r44.1.1, .int .i64 r44.1.2.1, .int .i64 r44.1.2.2.1, .int .i64 r44.1.2.2.2.1, .int .i64 r44.1.2.2.2.2.1, .int .i64 r44.1.2.2.2.2.2.1, .slice r44.1.2.2.2.2.2.2.1.a r44.1.2.2.2.2.2.2.1.n r44.1.2.2.2.2.2.2.1.c, .slice r44.1.2.2.2.2.2.2.2.1.a r44.1.2.2.2.2.2.2.2.1.n r44.1.2.2.2.2.2.2.2.1.c, .bool r44.1.2.2.2.2.2.2.2.2.1, .int .i64 r44.1.2.2.2.2.2.2.2.2.2.1, .slice r44.1.2.2.2.2.2.2.2.2.2.2.1.a r44.1.2.2.2.2.2.2.2.2.2.2.1.n r44.1.2.2.2.2.2.2.2.2.2.2.1.c, .slice r44.1.2.2.2.2.2.2.2.2.2.2.2.1.a r44.1.2.2.2.2.2.2.2.2.2.2.2.1.n r44.1.2.2.2.2.2.2.2.2.2.2.2.1.c] fun w46 =>
  LoadA w46 ⟨b5, 0, none⟩ [.int .i64, .int .i64, .int .i64, .int .i64, .int .i64, .int .i64, .sl, .sl, .bool, .int .i64, .sl, .sl] fun (x47 : Int × Int × Int × Int × Int × Int × SlV × SlV × Bool × Int × SlV × SlV × Unit) =>
  K ((x47.1, x47.2.1, x47.2.2.1, x47.2.2.2.1, x47.2.2.2.2.1, x47.2.2.2.2.2.1, x47.2.2.2.2.2.2.1, x47.2.2.2.2.2.2.2.1, x47.2.2.2.2.2.2.2.2.1, x47.2.2.2.2.2.2.2.2.2.1, x47.2.2.2.2.2.2.2.2.2.2.1, x47.2.2.2.2.2.2.2.2.2.2.2.1, ()), r44.2.1, ()) w46)
  (cond (x7 == 5)
  (CallV Tryz.prog 24 #[.pointer (some p1), .bool true] w6 [] fun (r48 : Unit) w49 =>
  StoreV w49 ⟨b1, 8, none⟩ [.bool false] fun w50 =>
  LoadA w50 ⟨b1, 0, none⟩ [.int .i64, .int .i64, .int .i64, .int .i64, .int .i64, .int .i64, .sl, .sl, .bool, .int .i64, .sl, .sl] fun (x51 : Int × Int × Int × Int × Int × Int × SlV × SlV × Bool × Int × SlV × SlV × Unit) =>
  StoreV w50 ⟨b5, 0, none⟩ [.int .i64 x51.1, .int .i64 x51.2.1, .int .i64 x51.2.2.1, .int .i64 x51.2.2.2.1, .int .i64 x51.2.2.2.2.1, .int .i64 x51.2.2.2.2.2.1, .slice x51.2.2.2.2.2.2.1.a x51.2.2.2.2.2.2.1.n x51.2.2.2.2.2.2.1.c, .slice x51.2.2.2.2.2.2.2.1.a x51.2.2.2.2.2.2.2.1.n x51.2.2.2.2.2.2.2.1.c, .bool x51.2.2.2.2.2.2.2.2.1, .int .i64 x51.2.2.2.2.2.2.2.2.2.1, .slice x51.2.2.2.2.2.2.2.2.2.2.1.a x51.2.2.2.2.2.2.2.2.2.2.1.n x51.2.2.2.2.2.2.2.2.2.2.1.c, .slice x51.2.2.2.2.2.2.2.2.2.2.2.1.a x51.2.2.2.2.2.2.2.2.2.2.2.1.n x51.2.2.2.2.2.2.2.2.2.2.2.1.c] fun w52 =>
  LoadA w52 ⟨b5, 0, none⟩ [.int .i64, .int .i64, .int .i64, .int .i64, .int .i64, .int .i64, .sl, .sl, .bool, .int .i64, .sl, .sl] fun (x53 : Int × Int × Int × Int × Int × Int × SlV × SlV × Bool × Int × SlV × SlV × Unit) =>
  K ((x53.1, x53.2.1, x53.2.2.1, x53.2.2.2.1, x53.2.2.2.2.1, x53.2.2.2.2.2.1, x53.2.2.2.2.2.2.1, x53.2.2.2.2.2.2.2.1, x53.2.2.2.2.2.2.2.2.1, x53.2.2.2.2.2.2.2.2.2.1, x53.2.2.2.2.2.2.2.2.2.2.1, x53.2.2.2.2.2.2.2.2.2.2.2.1, ()), true, ()) w52)
  (cond (x7 == 7)
  (LoadA w6 ⟨b1, 0, none⟩ [.int .i64, .int .i64, .int .i64, .int .i64, .int .i64, .int .i64, .sl, .sl, .bool, .int .i64, .sl, .sl] fun (x54 : Int × Int × Int × Int × Int × Int × SlV × SlV × Bool × Int × SlV × SlV × Unit) =>
  LoadA w6 ⟨b3, 0, none⟩ [.int .i64, .int .i64, .int .i64, .int .i64, .int .i64, .int .i64, .int .u32, .int .u64, .int .u64, .int .u8] fun (x55 : Int × Int × Int × Int × Int × Int × Int × Int × Int × Int × Unit) =>
  CallV Tryz.prog 37 #[.pointer (some p0), .agg #[.int .i64 x54.1, .int .i64 x54.2.1, .int .i64 x54.2.2.1, .int .i64 x54.2.2.2.1, .int .i64 x54.2.2.2.2.1, .int .i64 x54.2.2.2.2.2.1, .slice x54.2.2.2.2.2.2.1.a x54.2.2.2.2.2.2.1.n x54.2.2.2.2.2.2.1.c, .slice x54.2.2.2.2.2.2.2.1.a x54.2.2.2.2.2.2.2.1.n x54.2.2.2.2.2.2.2.1.c, .bool x54.2.2.2.2.2.2.2.2.1, .int .i64 x54.2.2.2.2.2.2.2.2.2.1, .slice x54.2.2.2.2.2.2.2.2.2.2.1.a x54.2.2.2.2.2.2.2.2.2.2.1.n x54.2.2.2.2.2.2.2.2.2.2.1.c, .slice x54.2.2.2.2.2.2.2.2.2.2.2.1.a x54.2.2.2.2.2.2.2.2.2.2.2.1.n x54.2.2.2.2.2.2.2.2.2.2.2.1.c], .agg #[.int .i64 x55.1, .int .i64 x55.2.1, .int .i64 x55.2.2.1, .int .i64 x55.2.2.2.1, .int .i64 x55.2.2.2.2.1, .int .i64 x55.2.2.2.2.2.1, .int .u32 x55.2.2.2.2.2.2.1, .int .u64 x55.2.2.2.2.2.2.2.1, .int .u64 x55.2.2.2.2.2.2.2.2.1, .int .u8 x55.2.2.2.2.2.2.2.2.2.1], .bool false] w6 [.agg [.int .i64, .int .i64, .int .i64, .int .i64, .int .i64, .int .i64, .sl, .sl, .bool, .int .i64, .sl, .sl], .one .bool] fun (r56 : (Int × Int × Int × Int × Int × Int × SlV × SlV × Bool × Int × SlV × SlV × Unit) × Bool × Unit) w57 =>
  StoreV w57 ⟨b5, 0, none⟩ [.int .i64 r56.1.1, .int .i64 r56.1.2.1, .int .i64 r56.1.2.2.1, .int .i64 r56.1.2.2.2.1, .int .i64 r56.1.2.2.2.2.1, .int .i64 r56.1.2.2.2.2.2.1, .slice r56.1.2.2.2.2.2.2.1.a r56.1.2.2.2.2.2.2.1.n r56.1.2.2.2.2.2.2.1.c, .slice r56.1.2.2.2.2.2.2.2.1.a r56.1.2.2.2.2.2.2.2.1.n r56.1.2.2.2.2.2.2.2.1.c, .bool r56.1.2.2.2.2.2.2.2.2.1, .int .i64 r56.1.2.2.2.2.2.2.2.2.2.1, .slice r56.1.2.2.2.2.2.2.2.2.2.2.1.a r56.1.2.2.2.2.2.2.2.2.2.2.1.n r56.1.2.2.2.2.2.2.2.2.2.2.1.c, .slice r56.1.2.2.2.2.2.2.2.2.2.2.2.1.a r56.1.2.2.2.2.2.2.2.2.2.2.2.1.n r56.1.2.2.2.2.2.2.2.2.2.2.2.1.c] fun w58 =>
  LoadA w58 ⟨b5, 0, none⟩ [.int .i64, .int .i64, .int .i64, .int .i64, .int .i64, .int .i64, .sl, .sl, .bool, .int .i64, .sl, .sl] fun (x59 : Int × Int × Int × Int × Int × Int × SlV × SlV × Bool × Int × SlV × SlV × Unit) =>
  K ((x59.1, x59.2.1, x59.2.2.1, x59.2.2.2.1, x59.2.2.2.2.1, x59.2.2.2.2.2.1, x59.2.2.2.2.2.2.1, x59.2.2.2.2.2.2.2.1, x59.2.2.2.2.2.2.2.2.1, x59.2.2.2.2.2.2.2.2.2.1, x59.2.2.2.2.2.2.2.2.2.2.1, x59.2.2.2.2.2.2.2.2.2.2.2.1, ()), r56.2.1, ()) w58)
  (cond (x7 == 8)
  (LoadS w6 ⟨b3, 1, none⟩ (.int .i64) fun (x60 : Int) =>
  CallV Tryz.prog 40 #[.pointer (some p0), .int .i64 x60] w6 [.one (.int .i64)] fun (r61 : Int × Unit) w62 =>
  LoadS w62 ⟨b3, 1, none⟩ (.int .i64) fun (x63 : Int) =>
  cond (decide (x63 < 0))
  (LoadA w62 ⟨b1, 0, none⟩ [.int .i64, .int .i64, .int .i64, .int .i64, .int .i64, .int .i64, .sl, .sl, .bool, .int .i64, .sl, .sl] fun (x64 : Int × Int × Int × Int × Int × Int × SlV × SlV × Bool × Int × SlV × SlV × Unit) =>
  StoreV w62 ⟨b5, 0, none⟩ [.int .i64 x64.1, .int .i64 x64.2.1, .int .i64 x64.2.2.1, .int .i64 x64.2.2.2.1, .int .i64 x64.2.2.2.2.1, .int .i64 x64.2.2.2.2.2.1, .slice x64.2.2.2.2.2.2.1.a x64.2.2.2.2.2.2.1.n x64.2.2.2.2.2.2.1.c, .slice x64.2.2.2.2.2.2.2.1.a x64.2.2.2.2.2.2.2.1.n x64.2.2.2.2.2.2.2.1.c, .bool x64.2.2.2.2.2.2.2.2.1, .int .i64 x64.2.2.2.2.2.2.2.2.2.1, .slice x64.2.2.2.2.2.2.2.2.2.2.1.a x64.2.2.2.2.2.2.2.2.2.2.1.n x64.2.2.2.2.2.2.2.2.2.2.1.c, .slice x64.2.2.2.2.2.2.2.2.2.2.2.1.a x64.2.2.2.2.2.2.2.2.2.2.2.1.n x64.2.2.2.2.2.2.2.2.2.2.2.1.c] fun w65 =>
  LoadA w65 ⟨b5, 0, none⟩ [.int .i64, .int .i64, .int .i64, .int .i64, .int .i64, .int .i64, .sl, .sl, .bool, .int .i64, .sl, .sl] fun (x66 : Int × Int × Int × Int × Int × Int × SlV × SlV × Bool × Int × SlV × SlV × Unit) =>
  K ((x66.1, x66.2.1, x66.2.2.1, x66.2.2.2.1, x66.2.2.2.2.1, x66.2.2.2.2.2.1, x66.2.2.2.2.2.2.1, x66.2.2.2.2.2.2.2.1, x66.2.2.2.2.2.2.2.2.1, x66.2.2.2.2.2.2.2.2.2.1, x66.2.2.2.2.2.2.2.2.2.2.1, x66.2.2.2.2.2.2.2.2.2.2.2.1, ()), (r61.1 == 2), ()) w65)
  (LoadS w62 ⟨b3, 1, none⟩ (.int .i64) fun (x67 : Int) =>
  LoadS w62 ⟨b1, 10, none⟩ .sl fun (x68 : SlV) =>
  cond (decide (x67 ≥ ((x68.n : Nat) : Int)))
  (LoadA w62 ⟨b1, 0, none⟩ [.int .i64, .int .i64, .int .i64, .int .i64, .int .i64, .int .i64, .sl, .sl, .bool, .int .i64, .sl, .sl] fun (x69 : Int × Int × Int × Int × Int × Int × SlV × SlV × Bool × Int × SlV × SlV × Unit) =>
  StoreV w62 ⟨b5, 0, none⟩ [.int .i64 x69.1, .int .i64 x69.2.1, .int .i64 x69.2.2.1, .int .i64 x69.2.2.2.1, .int .i64 x69.2.2.2.2.1, .int .i64 x69.2.2.2.2.2.1, .slice x69.2.2.2.2.2.2.1.a x69.2.2.2.2.2.2.1.n x69.2.2.2.2.2.2.1.c, .slice x69.2.2.2.2.2.2.2.1.a x69.2.2.2.2.2.2.2.1.n x69.2.2.2.2.2.2.2.1.c, .bool x69.2.2.2.2.2.2.2.2.1, .int .i64 x69.2.2.2.2.2.2.2.2.2.1, .slice x69.2.2.2.2.2.2.2.2.2.2.1.a x69.2.2.2.2.2.2.2.2.2.2.1.n x69.2.2.2.2.2.2.2.2.2.2.1.c, .slice x69.2.2.2.2.2.2.2.2.2.2.2.1.a x69.2.2.2.2.2.2.2.2.2.2.2.1.n x69.2.2.2.2.2.2.2.2.2.2.2.1.c] fun w70 =>
  LoadA w70 ⟨b5, 0, none⟩ [.int .i64, .int .i64, .int .i64, .int .i64, .int .i64, .int .i64, .sl, .sl, .bool, .int .i64, .sl, .sl] fun (x71 : Int × Int × Int × Int × Int × Int × SlV × SlV × Bool × Int × SlV × SlV × Unit) =>
  K ((x71.1, x71.2.1, x71.2.2.1, x71.2.2.2.1, x71.2.2.2.2.1, x71.2.2.2.2.2.1, x71.2.2.2.2.2.2.1, x71.2.2.2.2.2.2.2.1, x71.2.2.2.2.2.2.2.2.1, x71.2.2.2.2.2.2.2.2.2.1, x71.2.2.2.2.2.2.2.2.2.2.1, x71.2.2.2.2.2.2.2.2.2.2.2.1, ()), (r61.1 == 2), ()) w70)
  (LoadA w62 ⟨b1, 0, none⟩ [.int .i64, .int .i64, .int .i64, .int .i64, .int .i64, .int .i64, .sl, .sl, .bool, .int .i64, .sl, .sl] fun (x72 : Int × Int × Int × Int × Int × Int × SlV × SlV × Bool × Int × SlV × SlV × Unit) =>
  LoadS w62 ⟨b3, 1, none⟩ (.int .i64) fun (x73 : Int) =>
  CallV Tryz.prog 41 #[.agg #[.int .i64 x72.1, .int .i64 x72.2.1, .int .i64 x72.2.2.1, .int .i64 x72.2.2.2.1, .int .i64 x72.2.2.2.2.1, .int .i64 x72.2.2.2.2.2.1, .slice x72.2.2.2.2.2.2.1.a x72.2.2.2.2.2.2.1.n x72.2.2.2.2.2.2.1.c, .slice x72.2.2.2.2.2.2.2.1.a x72.2.2.2.2.2.2.2.1.n x72.2.2.2.2.2.2.2.1.c, .bool x72.2.2.2.2.2.2.2.2.1, .int .i64 x72.2.2.2.2.2.2.2.2.2.1, .slice x72.2.2.2.2.2.2.2.2.2.2.1.a x72.2.2.2.2.2.2.2.2.2.2.1.n x72.2.2.2.2.2.2.2.2.2.2.1.c, .slice x72.2.2.2.2.2.2.2.2.2.2.2.1.a x72.2.2.2.2.2.2.2.2.2.2.2.1.n x72.2.2.2.2.2.2.2.2.2.2.2.1.c], .int .i64 x73] w62 [.agg [.int .i64, .int .i64, .int .i64, .int .i64, .int .i64, .int .i64, .sl, .sl, .bool, .int .i64, .sl, .sl], .one (.int .i64)] fun (r74 : (Int × Int × Int × Int × Int × Int × SlV × SlV × Bool × Int × SlV × SlV × Unit) × Int × Unit) w75 =>
  NewV #[.int .i64 0, .int .i64 0, .int .i64 0, .int .i64 0, .int .i64 0, .int .i64 0, .slice none 0 0, .slice none 0 0, .bool false, .int .i64 0, .slice none 0 0, .slice none 0 0] 38 w75 fun b76 w77 =>
  StoreV w77 ⟨b76, 0, none⟩ [.int .i64 r74.1.1, .int .i64 r74.1.2.1, .int .i64 r74.1.2.2.1, .int .i64 r74.1.2.2.2.1, .int .i64 r74.1.2.2.2.2.1, .int .i64 r74.1.2.2.2.2.2.1, .slice r74.1.2.2.2.2.2.2.1.a r74.1.2.2.2.2.2.2.1.n r74.1.2.2.2.2.2.2.1.c, .slice r74.1.2.2.2.2.2.2.2.1.a r74.1.2.2.2.2.2.2.2.1.n r74.1.2.2.2.2.2.2.2.1.c, .bool r74.1.2.2.2.2.2.2.2.2.1, .int .i64 r74.1.2.2.2.2.2.2.2.2.2.1, .slice r74.1.2.2.2.2.2.2.2.2.2.2.1.a r74.1.2.2.2.2.2.2.2.2.2.2.1.n r74.1.2.2.2.2.2.2.2.2.2.2.1.c, .slice r74.1.2.2.2.2.2.2.2.2.2.2.2.1.a r74.1.2.2.2.2.2.2.2.2.2.2.2.1.n r74.1.2.2.2.2.2.2.2.2.2.2.2.1.c] fun w78 =>
  LoadA w78 ⟨b76, 0, none⟩ [.int .i64, .int .i64, .int .i64, .int .i64, .int .i64, .int .i64, .sl, .sl, .bool, .int .i64, .sl, .sl] fun (x79 : Int × Int × Int × Int × Int × Int × SlV × SlV × Bool × Int × SlV × SlV × Unit) =>
  StoreV w78 ⟨b5, 0, none⟩ [.int .i64 x79.1, .int .i64 x79.2.1, .int .i64 x79.2.2.1, .int .i64 x79.2.2.2.1, .int .i64 x79.2.2.2.2.1, .int .i64 x79.2.2.2.2.2.1, .slice x79.2.2.2.2.2.2.1.a x79.2.2.2.2.2.2.1.n x79.2.2.2.2.2.2.1.c, .slice x79.2.2.2.2.2.2.2.1.a x79.2.2.2.2.2.2.2.1.n x79.2.2.2.2.2.2.2.1.c, .bool x79.2.2.2.2.2.2.2.2.1, .int .i64 x79.2.2.2.2.2.2.2.2.2.1, .slice x79.2.2.2.2.2.2.2.2.2.2.1.a x79.2.2.2.2.2.2.2.2.2.2.1.n x79.2.2.2.2.2.2.2.2.2.2.1.c, .slice x79.2.2.2.2.2.2.2.2.2.2.2.1.a x79.2.2.2.2.2.2.2.2.2.2.2.1.n x79.2.2.2.2.2.2.2.2.2.2.2.1.c] fun w80 =>
  LoadA w80 ⟨b5, 0, none⟩ [.int .i64, .int .i64, .int .i64, .int .i64, .int .i64, .int .i64, .sl, .sl, .bool, .int .i64, .sl, .sl] fun (x81 : Int × Int × Int × Int × Int × Int × SlV × SlV × Bool × Int × SlV × SlV × Unit) =>
  K ((x81.1, x81.2.1, x81.2.2.1, x81.2.2.2.1, x81.2.2.2.2.1, x81.2.2.2.2.2.1, x81.2.2.2.2.2.2.1, x81.2.2.2.2.2.2.2.1, x81.2.2.2.2.2.2.2.2.1, x81.2.2.2.2.2.2.2.2.2.1, x81.2.2.2.2.2.2.2.2.2.2.1, x81.2.2.2.2.2.2.2.2.2.2.2.1, ()), (r61.1 == r74.2.1), ()) w80)))
  (cond (x7 == 6)
  (DrawV fun D82 =>
  (D82 b3 ∧ LoadS w6.drew ⟨b3, 1, none⟩ (.int .i64) fun (x83 : Int) =>
  CallV Tryz.prog 14 #[.pointer (some p0)] w6.drew [.one .ptr] fun (r84 : (Option Addr) × Unit) w85 =>
  KeepOn D82 w6.drew w85 ∧
  CallV Tryz.prog 42 #[.pointer r84.1, .int .i64 x83] w85 [.one (.int .i64)] fun (r86 : Int × Unit) w87 =>
  KeepOn D82 w6.drew w87 ∧
  LoadS w87 ⟨b3, 1, none⟩ (.int .i64) fun (x88 : Int) =>
  cond (decide (x88 ≥ 0))
  (LoadS w87 ⟨b3, 1, none⟩ (.int .i64) fun (x89 : Int) =>
  LoadS w87 ⟨b1, 10, none⟩ .sl fun (x90 : SlV) =>
  cond (decide (x89 < ((x90.n : Nat) : Int)))
  (DrawV fun D91 =>
  (D91 b3 ∧ LoadS w87.drew ⟨b3, 1, none⟩ (.int .i64) fun (x92 : Int) =>
  (D91 b3 ∧ LoadS w87.drew ⟨b3, 1, none⟩ (.int .i64) fun (x93 : Int) =>
  ((LoadS w87.drew ⟨b1, 10, none⟩ .sl fun (x94 : SlV) =>
  KeepOn D91 w87.drew w87.drew ∧
  LoadS w87.drew ⟨b1, 10, none⟩ .sl fun (x95 : SlV) =>
  KeepOn D91 w87.drew w87.drew ∧
  (0 ≤ x93 ∧ x93 < ((x95.n : Nat) : Int)) ∧ ∃ q96 : Addr, x95.a = some q96 ∧
  LoadA w87.drew (q96.add (x93.toNat * 9)) [.int .i64, .int .i64, .int .i64, .int .i64, .bool, .bool, .bool, .bool, .bool] fun (x97 : Int × Int × Int × Int × Bool × Bool × Bool × Bool × Bool × Unit) =>
  KeepOn D91 w87.drew w87.drew ∧
  CallV Tryz.prog 43 #[.agg #[.int .i64 x97.1, .int .i64 x97.2.1, .int .i64 x97.2.2.1, .int .i64 x97.2.2.2.1, .bool x97.2.2.2.2.1, .bool x97.2.2.2.2.2.1, .bool x97.2.2.2.2.2.2.1, .bool x97.2.2.2.2.2.2.2.1, .bool x97.2.2.2.2.2.2.2.2.1], .int .i64 2, .int .i64 0] w87.drew [.agg [.int .i64, .int .i64, .int .i64, .int .i64, .bool, .bool, .bool, .bool, .bool]] fun (r98 : (Int × Int × Int × Int × Bool × Bool × Bool × Bool × Bool × Unit) × Unit) w99 =>
  KeepOn D91 w87.drew w99 ∧
  (0 ≤ x92 ∧ x92 < ((x94.n : Nat) : Int)) ∧ ∃ q100 : Addr, x94.a = some q100 ∧
  StoreV w99 (q100.add (x92.toNat * 9)) [.int .i64 r98.1.1, .int .i64 r98.1.2.1, .int .i64 r98.1.2.2.1, .int .i64 r98.1.2.2.2.1, .bool r98.1.2.2.2.2.1, .bool r98.1.2.2.2.2.2.1, .bool r98.1.2.2.2.2.2.2.1, .bool r98.1.2.2.2.2.2.2.2.1, .bool r98.1.2.2.2.2.2.2.2.2.1] fun w101 =>
  KeepOn D91 w87.drew w101 ∧
  LoadA w101 ⟨b1, 0, none⟩ [.int .i64, .int .i64, .int .i64, .int .i64, .int .i64, .int .i64, .sl, .sl, .bool, .int .i64, .sl, .sl] fun (x102 : Int × Int × Int × Int × Int × Int × SlV × SlV × Bool × Int × SlV × SlV × Unit) =>
  StoreV w101 ⟨b5, 0, none⟩ [.int .i64 x102.1, .int .i64 x102.2.1, .int .i64 x102.2.2.1, .int .i64 x102.2.2.2.1, .int .i64 x102.2.2.2.2.1, .int .i64 x102.2.2.2.2.2.1, .slice x102.2.2.2.2.2.2.1.a x102.2.2.2.2.2.2.1.n x102.2.2.2.2.2.2.1.c, .slice x102.2.2.2.2.2.2.2.1.a x102.2.2.2.2.2.2.2.1.n x102.2.2.2.2.2.2.2.1.c, .bool x102.2.2.2.2.2.2.2.2.1, .int .i64 x102.2.2.2.2.2.2.2.2.2.1, .slice x102.2.2.2.2.2.2.2.2.2.2.1.a x102.2.2.2.2.2.2.2.2.2.2.1.n x102.2.2.2.2.2.2.2.2.2.2.1.c, .slice x102.2.2.2.2.2.2.2.2.2.2.2.1.a x102.2.2.2.2.2.2.2.2.2.2.2.1.n x102.2.2.2.2.2.2.2.2.2.2.2.1.c] fun w103 =>
  LoadA w103 ⟨b5, 0, none⟩ [.int .i64, .int .i64, .int .i64, .int .i64, .int .i64, .int .i64, .sl, .sl, .bool, .int .i64, .sl, .sl] fun (x104 : Int × Int × Int × Int × Int × Int × SlV × SlV × Bool × Int × SlV × SlV × Unit) =>
  K ((x104.1, x104.2.1, x104.2.2.1, x104.2.2.2.1, x104.2.2.2.2.1, x104.2.2.2.2.2.1, x104.2.2.2.2.2.2.1, x104.2.2.2.2.2.2.2.1, x104.2.2.2.2.2.2.2.2.1, x104.2.2.2.2.2.2.2.2.2.1, x104.2.2.2.2.2.2.2.2.2.2.1, x104.2.2.2.2.2.2.2.2.2.2.2.1, ()), true, ()) w103) ∧
  (LoadS w87.drew ⟨b1, 10, none⟩ .sl fun (x105 : SlV) =>
  KeepOn D91 w87.drew w87.drew ∧
  (0 ≤ x93 ∧ x93 < ((x105.n : Nat) : Int)) ∧ ∃ q106 : Addr, x105.a = some q106 ∧
  ((LoadS w87.drew ⟨b1, 10, none⟩ .sl fun (x107 : SlV) =>
  KeepOn D91 w87.drew w87.drew ∧
  LoadA w87.drew (q106.add (x93.toNat * 9)) [.int .i64, .int .i64, .int .i64, .int .i64, .bool, .bool, .bool, .bool, .bool] fun (x108 : Int × Int × Int × Int × Bool × Bool × Bool × Bool × Bool × Unit) =>
  KeepOn D91 w87.drew w87.drew ∧
  CallV Tryz.prog 43 #[.agg #[.int .i64 x108.1, .int .i64 x108.2.1, .int .i64 x108.2.2.1, .int .i64 x108.2.2.2.1, .bool x108.2.2.2.2.1, .bool x108.2.2.2.2.2.1, .bool x108.2.2.2.2.2.2.1, .bool x108.2.2.2.2.2.2.2.1, .bool x108.2.2.2.2.2.2.2.2.1], .int .i64 2, .int .i64 0] w87.drew [.agg [.int .i64, .int .i64, .int .i64, .int .i64, .bool, .bool, .bool, .bool, .bool]] fun (r109 : (Int × Int × Int × Int × Bool × Bool × Bool × Bool × Bool × Unit) × Unit) w110 =>
  KeepOn D91 w87.drew w110 ∧
  (0 ≤ x92 ∧ x92 < ((x107.n : Nat) : Int)) ∧ ∃ q111 : Addr, x107.a = some q111 ∧
  StoreV w110 (q111.add (x92.toNat * 9)) [.int .i64 r109.1.1, .int .i64 r109.1.2.1, .int .i64 r109.1.2.2.1, .int .i64 r109.1.2.2.2.1, .bool r109.1.2.2.2.2.1, .bool r109.1.2.2.2.2.2.1, .bool r109.1.2.2.2.2.2.2.1, .bool r109.1.2.2.2.2.2.2.2.1, .bool r109.1.2.2.2.2.2.2.2.2.1] fun w112 =>
  KeepOn D91 w87.drew w112 ∧
  LoadA w112 ⟨b1, 0, none⟩ [.int .i64, .int .i64, .int .i64, .int .i64, .int .i64, .int .i64, .sl, .sl, .bool, .int .i64, .sl, .sl] fun (x113 : Int × Int × Int × Int × Int × Int × SlV × SlV × Bool × Int × SlV × SlV × Unit) =>
  StoreV w112 ⟨b5, 0, none⟩ [.int .i64 x113.1, .int .i64 x113.2.1, .int .i64 x113.2.2.1, .int .i64 x113.2.2.2.1, .int .i64 x113.2.2.2.2.1, .int .i64 x113.2.2.2.2.2.1, .slice x113.2.2.2.2.2.2.1.a x113.2.2.2.2.2.2.1.n x113.2.2.2.2.2.2.1.c, .slice x113.2.2.2.2.2.2.2.1.a x113.2.2.2.2.2.2.2.1.n x113.2.2.2.2.2.2.2.1.c, .bool x113.2.2.2.2.2.2.2.2.1, .int .i64 x113.2.2.2.2.2.2.2.2.2.1, .slice x113.2.2.2.2.2.2.2.2.2.2.1.a x113.2.2.2.2.2.2.2.2.2.2.1.n x113.2.2.2.2.2.2.2.2.2.2.1.c, .slice x113.2.2.2.2.2.2.2.2.2.2.2.1.a x113.2.2.2.2.2.2.2.2.2.2.2.1.n x113.2.2.2.2.2.2.2.2.2.2.2.1.c] fun w114 =>
  LoadA w114 ⟨b5, 0, none⟩ [.int .i64, .int .i64, .int .i64, .int .i64, .int .i64, .int .i64, .sl, .sl, .bool, .int .i64, .sl, .sl] fun (x115 : Int × Int × Int × Int × Int × Int × SlV × SlV × Bool × Int × SlV × SlV × Unit) =>
  K ((x115.1, x115.2.1, x115.2.2.1, x115.2.2.2.1, x115.2.2.2.2.1, x115.2.2.2.2.2.1, x115.2.2.2.2.2.2.1, x115.2.2.2.2.2.2.2.1, x115.2.2.2.2.2.2.2.2.1, x115.2.2.2.2.2.2.2.2.2.1, x115.2.2.2.2.2.2.2.2.2.2.1, x115.2.2.2.2.2.2.2.2.2.2.2.1, ()), true, ()) w114) ∧
  (LoadA w87.drew (q106.add (x93.toNat * 9)) [.int .i64, .int .i64, .int .i64, .int .i64, .bool, .bool, .bool, .bool, .bool] fun (x116 : Int × Int × Int × Int × Bool × Bool × Bool × Bool × Bool × Unit) =>
  KeepOn D91 w87.drew w87.drew ∧
  ((LoadS w87.drew ⟨b1, 10, none⟩ .sl fun (x117 : SlV) =>
  KeepOn D91 w87.drew w87.drew ∧
  CallV Tryz.prog 43 #[.agg #[.int .i64 x116.1, .int .i64 x116.2.1, .int .i64 x116.2.2.1, .int .i64 x116.2.2.2.1, .bool x116.2.2.2.2.1, .bool x116.2.2.2.2.2.1, .bool x116.2.2.2.2.2.2.1, .bool x116.2.2.2.2.2.2.2.1, .bool x116.2.2.2.2.2.2.2.2.1], .int .i64 2, .int .i64 0] w87.drew [.agg [.int .i64, .int .i64, .int .i64, .int .i64, .bool, .bool, .bool, .bool, .bool]] fun (r118 : (Int × Int × Int × Int × Bool × Bool × Bool × Bool × Bool × Unit) × Unit) w119 =>
  KeepOn D91 w87.drew w119 ∧
  (0 ≤ x92 ∧ x92 < ((x117.n : Nat) : Int)) ∧ ∃ q120 : Addr, x117.a = some q120 ∧
  StoreV w119 (q120.add (x92.toNat * 9)) [.int .i64 r118.1.1, .int .i64 r118.1.2.1, .int .i64 r118.1.2.2.1, .int .i64 r118.1.2.2.2.1, .bool r118.1.2.2.2.2.1, .bool r118.1.2.2.2.2.2.1, .bool r118.1.2.2.2.2.2.2.1, .bool r118.1.2.2.2.2.2.2.2.1, .bool r118.1.2.2.2.2.2.2.2.2.1] fun w121 =>
  KeepOn D91 w87.drew w121 ∧
  LoadA w121 ⟨b1, 0, none⟩ [.int .i64, .int .i64, .int .i64, .int .i64, .int .i64, .int .i64, .sl, .sl, .bool, .int .i64, .sl, .sl] fun (x122 : Int × Int × Int × Int × Int × Int × SlV × SlV × Bool × Int × SlV × SlV × Unit) =>
  StoreV w121 ⟨b5, 0, none⟩ [.int .i64 x122.1, .int .i64 x122.2.1, .int .i64 x122.2.2.1, .int .i64 x122.2.2.2.1, .int .i64 x122.2.2.2.2.1, .int .i64 x122.2.2.2.2.2.1, .slice x122.2.2.2.2.2.2.1.a x122.2.2.2.2.2.2.1.n x122.2.2.2.2.2.2.1.c, .slice x122.2.2.2.2.2.2.2.1.a x122.2.2.2.2.2.2.2.1.n x122.2.2.2.2.2.2.2.1.c, .bool x122.2.2.2.2.2.2.2.2.1, .int .i64 x122.2.2.2.2.2.2.2.2.2.1, .slice x122.2.2.2.2.2.2.2.2.2.2.1.a x122.2.2.2.2.2.2.2.2.2.2.1.n x122.2.2.2.2.2.2.2.2.2.2.1.c, .slice x122.2.2.2.2.2.2.2.2.2.2.2.1.a x122.2.2.2.2.2.2.2.2.2.2.2.1.n x122.2.2.2.2.2.2.2.2.2.2.2.1.c] fun w123 =>
  LoadA w123 ⟨b5, 0, none⟩ [.int .i64, .int .i64, .int .i64, .int .i64, .int .i64, .int .i64, .sl, .sl, .bool, .int .i64, .sl, .sl] fun (x124 : Int × Int × Int × Int × Int × Int × SlV × SlV × Bool × Int × SlV × SlV × Unit) =>
  K ((x124.1, x124.2.1, x124.2.2.1, x124.2.2.2.1, x124.2.2.2.2.1, x124.2.2.2.2.2.1, x124.2.2.2.2.2.2.1, x124.2.2.2.2.2.2.2.1, x124.2.2.2.2.2.2.2.2.1, x124.2.2.2.2.2.2.2.2.2.1, x124.2.2.2.2.2.2.2.2.2.2.1, x124.2.2.2.2.2.2.2.2.2.2.2.1, ()), true, ()) w123) ∧
  (CallV Tryz.prog 43 #[.agg #[.int .i64 x116.1, .int .i64 x116.2.1, .int .i64 x116.2.2.1, .int .i64 x116.2.2.2.1, .bool x116.2.2.2.2.1, .bool x116.2.2.2.2.2.1, .bool x116.2.2.2.2.2.2.1, .bool x116.2.2.2.2.2.2.2.1, .bool x116.2.2.2.2.2.2.2.2.1], .int .i64 2, .int .i64 0] w87.drew [.agg [.int .i64, .int .i64, .int .i64, .int .i64, .bool, .bool, .bool, .bool, .bool]] fun (r125 : (Int × Int × Int × Int × Bool × Bool × Bool × Bool × Bool × Unit) × Unit) w126 =>
  KeepOn D91 w87.drew w126 ∧
  LoadS w126 ⟨b1, 10, none⟩ .sl fun (x127 : SlV) =>
  KeepOn D91 w87.drew w126 ∧
  (0 ≤ x92 ∧ x92 < ((x127.n : Nat) : Int)) ∧ ∃ q128 : Addr, x127.a = some q128 ∧
  StoreV w126 (q128.add (x92.toNat * 9)) [.int .i64 r125.1.1, .int .i64 r125.1.2.1, .int .i64 r125.1.2.2.1, .int .i64 r125.1.2.2.2.1, .bool r125.1.2.2.2.2.1, .bool r125.1.2.2.2.2.2.1, .bool r125.1.2.2.2.2.2.2.1, .bool r125.1.2.2.2.2.2.2.2.1, .bool r125.1.2.2.2.2.2.2.2.2.1] fun w129 =>
  KeepOn D91 w87.drew w129 ∧
  LoadA w129 ⟨b1, 0, none⟩ [.int .i64, .int .i64, .int .i64, .int .i64, .int .i64, .int .i64, .sl, .sl, .bool, .int .i64, .sl, .sl] fun (x130 : Int × Int × Int × Int × Int × Int × SlV × SlV × Bool × Int × SlV × SlV × Unit) =>
  StoreV w129 ⟨b5, 0, none⟩ [.int .i64 x130.1, .int .i64 x130.2.1, .int .i64 x130.2.2.1, .int .i64 x130.2.2.2.1, .int .i64 x130.2.2.2.2.1, .int .i64 x130.2.2.2.2.2.1, .slice x130.2.2.2.2.2.2.1.a x130.2.2.2.2.2.2.1.n x130.2.2.2.2.2.2.1.c, .slice x130.2.2.2.2.2.2.2.1.a x130.2.2.2.2.2.2.2.1.n x130.2.2.2.2.2.2.2.1.c, .bool x130.2.2.2.2.2.2.2.2.1, .int .i64 x130.2.2.2.2.2.2.2.2.2.1, .slice x130.2.2.2.2.2.2.2.2.2.2.1.a x130.2.2.2.2.2.2.2.2.2.2.1.n x130.2.2.2.2.2.2.2.2.2.2.1.c, .slice x130.2.2.2.2.2.2.2.2.2.2.2.1.a x130.2.2.2.2.2.2.2.2.2.2.2.1.n x130.2.2.2.2.2.2.2.2.2.2.2.1.c] fun w131 =>
  LoadA w131 ⟨b5, 0, none⟩ [.int .i64, .int .i64, .int .i64, .int .i64, .int .i64, .int .i64, .sl, .sl, .bool, .int .i64, .sl, .sl] fun (x132 : Int × Int × Int × Int × Int × Int × SlV × SlV × Bool × Int × SlV × SlV × Unit) =>
  K ((x132.1, x132.2.1, x132.2.2.1, x132.2.2.2.1, x132.2.2.2.2.1, x132.2.2.2.2.2.1, x132.2.2.2.2.2.2.1, x132.2.2.2.2.2.2.2.1, x132.2.2.2.2.2.2.2.2.1, x132.2.2.2.2.2.2.2.2.2.1, x132.2.2.2.2.2.2.2.2.2.2.1, x132.2.2.2.2.2.2.2.2.2.2.2.1, ()), true, ()) w131)))))))))
  (LoadA w87 ⟨b1, 0, none⟩ [.int .i64, .int .i64, .int .i64, .int .i64, .int .i64, .int .i64, .sl, .sl, .bool, .int .i64, .sl, .sl] fun (x133 : Int × Int × Int × Int × Int × Int × SlV × SlV × Bool × Int × SlV × SlV × Unit) =>
  StoreV w87 ⟨b5, 0, none⟩ [.int .i64 x133.1, .int .i64 x133.2.1, .int .i64 x133.2.2.1, .int .i64 x133.2.2.2.1, .int .i64 x133.2.2.2.2.1, .int .i64 x133.2.2.2.2.2.1, .slice x133.2.2.2.2.2.2.1.a x133.2.2.2.2.2.2.1.n x133.2.2.2.2.2.2.1.c, .slice x133.2.2.2.2.2.2.2.1.a x133.2.2.2.2.2.2.2.1.n x133.2.2.2.2.2.2.2.1.c, .bool x133.2.2.2.2.2.2.2.2.1, .int .i64 x133.2.2.2.2.2.2.2.2.2.1, .slice x133.2.2.2.2.2.2.2.2.2.2.1.a x133.2.2.2.2.2.2.2.2.2.2.1.n x133.2.2.2.2.2.2.2.2.2.2.1.c, .slice x133.2.2.2.2.2.2.2.2.2.2.2.1.a x133.2.2.2.2.2.2.2.2.2.2.2.1.n x133.2.2.2.2.2.2.2.2.2.2.2.1.c] fun w134 =>
  LoadA w134 ⟨b5, 0, none⟩ [.int .i64, .int .i64, .int .i64, .int .i64, .int .i64, .int .i64, .sl, .sl, .bool, .int .i64, .sl, .sl] fun (x135 : Int × Int × Int × Int × Int × Int × SlV × SlV × Bool × Int × SlV × SlV × Unit) =>
  K ((x135.1, x135.2.1, x135.2.2.1, x135.2.2.2.1, x135.2.2.2.2.1, x135.2.2.2.2.2.1, x135.2.2.2.2.2.2.1, x135.2.2.2.2.2.2.2.1, x135.2.2.2.2.2.2.2.2.1, x135.2.2.2.2.2.2.2.2.2.1, x135.2.2.2.2.2.2.2.2.2.2.1, x135.2.2.2.2.2.2.2.2.2.2.2.1, ()), true, ()) w134))
  (LoadA w87 ⟨b1, 0, none⟩ [.int .i64, .int .i64, .int .i64, .int .i64, .int .i64, .int .i64, .sl, .sl, .bool, .int .i64, .sl, .sl] fun (x136 : Int × Int × Int × Int × Int × Int × SlV × SlV × Bool × Int × SlV × SlV × Unit) =>
  StoreV w87 ⟨b5, 0, none⟩ [.int .i64 x136.1, .int .i64 x136.2.1, .int .i64 x136.2.2.1, .int .i64 x136.2.2.2.1, .int .i64 x136.2.2.2.2.1, .int .i64 x136.2.2.2.2.2.1, .slice x136.2.2.2.2.2.2.1.a x136.2.2.2.2.2.2.1.n x136.2.2.2.2.2.2.1.c, .slice x136.2.2.2.2.2.2.2.1.a x136.2.2.2.2.2.2.2.1.n x136.2.2.2.2.2.2.2.1.c, .bool x136.2.2.2.2.2.2.2.2.1, .int .i64 x136.2.2.2.2.2.2.2.2.2.1, .slice x136.2.2.2.2.2.2.2.2.2.2.1.a x136.2.2.2.2.2.2.2.2.2.2.1.n x136.2.2.2.2.2.2.2.2.2.2.1.c, .slice x136.2.2.2.2.2.2.2.2.2.2.2.1.a x136.2.2.2.2.2.2.2.2.2.2.2.1.n x136.2.2.2.2.2.2.2.2.2.2.2.1.c] fun w137 =>
  LoadA w137 ⟨b5, 0, none⟩ [.int .i64, .int .i64, .int .i64, .int .i64, .int .i64, .int .i64, .sl, .sl, .bool, .int .i64, .sl, .sl] fun (x138 : Int × Int × Int × Int × Int × Int × SlV × SlV × Bool × Int × SlV × SlV × Unit) =>
  K ((x138.1, x138.2.1, x138.2.2.1, x138.2.2.2.1, x138.2.2.2.2.1, x138.2.2.2.2.2.1, x138.2.2.2.2.2.2.1, x138.2.2.2.2.2.2.2.1, x138.2.2.2.2.2.2.2.2.1, x138.2.2.2.2.2.2.2.2.2.1, x138.2.2.2.2.2.2.2.2.2.2.1, x138.2.2.2.2.2.2.2.2.2.2.2.1, ()), true, ()) w137)))
  (LoadA w6 ⟨b1, 0, none⟩ [.int .i64, .int .i64, .int .i64, .int .i64, .int .i64, .int .i64, .sl, .sl, .bool, .int .i64, .sl, .sl] fun (x139 : Int × Int × Int × Int × Int × Int × SlV × SlV × Bool × Int × SlV × SlV × Unit) =>
  StoreV w6 ⟨b5, 0, none⟩ [.int .i64 x139.1, .int .i64 x139.2.1, .int .i64 x139.2.2.1, .int .i64 x139.2.2.2.1, .int .i64 x139.2.2.2.2.1, .int .i64 x139.2.2.2.2.2.1, .slice x139.2.2.2.2.2.2.1.a x139.2.2.2.2.2.2.1.n x139.2.2.2.2.2.2.1.c, .slice x139.2.2.2.2.2.2.2.1.a x139.2.2.2.2.2.2.2.1.n x139.2.2.2.2.2.2.2.1.c, .bool x139.2.2.2.2.2.2.2.2.1, .int .i64 x139.2.2.2.2.2.2.2.2.2.1, .slice x139.2.2.2.2.2.2.2.2.2.2.1.a x139.2.2.2.2.2.2.2.2.2.2.1.n x139.2.2.2.2.2.2.2.2.2.2.1.c, .slice x139.2.2.2.2.2.2.2.2.2.2.2.1.a x139.2.2.2.2.2.2.2.2.2.2.2.1.n x139.2.2.2.2.2.2.2.2.2.2.2.1.c] fun w140 =>
  LoadA w140 ⟨b5, 0, none⟩ [.int .i64, .int .i64, .int .i64, .int .i64, .int .i64, .int .i64, .sl, .sl, .bool, .int .i64, .sl, .sl] fun (x141 : Int × Int × Int × Int × Int × Int × SlV × SlV × Bool × Int × SlV × SlV × Unit) =>
  K ((x141.1, x141.2.1, x141.2.2.1, x141.2.2.2.1, x141.2.2.2.2.1, x141.2.2.2.2.2.1, x141.2.2.2.2.2.2.1, x141.2.2.2.2.2.2.2.1, x141.2.2.2.2.2.2.2.2.1, x141.2.2.2.2.2.2.2.2.2.1, x141.2.2.2.2.2.2.2.2.2.2.1, x141.2.2.2.2.2.2.2.2.2.2.2.1, ()), true, ()) w140))))))))
theorem law24_step.vc (p0 p1 : Addr) (p2_0 p2_1 p2_2 p2_3 p2_4 p2_5 : Int) (a2_6 : Option Addr) (n2_6 c2_6 : Nat) (a2_7 : Option Addr) (n2_7 c2_7 : Nat) (p2_8 : Bool) (p2_9 : Int) (a2_10 : Option Addr) (n2_10 c2_10 : Nat) (a2_11 : Option Addr) (n2_11 c2_11 : Nat) (p3_0 p3_1 p3_2 p3_3 p3_4 p3_5 p3_6 p3_7 p3_8 p3_9 : Int) (w : World) (K : (Int × Int × Int × Int × Int × Int × SlV × SlV × Bool × Int × SlV × SlV × Unit) × Bool × Unit → World → Prop) (h : law24_step.P p0 p1 p2_0 p2_1 p2_2 p2_3 p2_4 p2_5 a2_6 n2_6 c2_6 a2_7 n2_7 c2_7 p2_8 p2_9 a2_10 n2_10 c2_10 a2_11 n2_11 c2_11 p3_0 p3_1 p3_2 p3_3 p3_4 p3_5 p3_6 p3_7 p3_8 p3_9 w K) : CallV Tryz.prog 9 #[.pointer (some p0), .pointer (some p1), .agg #[.int .i64 p2_0, .int .i64 p2_1, .int .i64 p2_2, .int .i64 p2_3, .int .i64 p2_4, .int .i64 p2_5, .slice a2_6 n2_6 c2_6, .slice a2_7 n2_7 c2_7, .bool p2_8, .int .i64 p2_9, .slice a2_10 n2_10 c2_10, .slice a2_11 n2_11 c2_11], .agg #[.int .i64 p3_0, .int .i64 p3_1, .int .i64 p3_2, .int .i64 p3_3, .int .i64 p3_4, .int .i64 p3_5, .int .u32 p3_6, .int .u64 p3_7, .int .u64 p3_8, .int .u8 p3_9]] w [.agg [.int .i64, .int .i64, .int .i64, .int .i64, .int .i64, .int .i64, .sl, .sl, .bool, .int .i64, .sl, .sl], .one .bool] K := by
  refine vcFun.of (A := law24_step.A) (wr := false) okf_ok follows h Tryz.func9 ?_
  kernel_rfl
def law24_PoolOpens.A : Ann := .two .no (.two .no (.two .no (.two (.two .no (.one (.loop [10, 29, 30, 31, 32, 33, 34, 35, 36, 37, 38, 39, 40, 41, 42, 43, 44, 45, 46, 47] [(10, .one (.int .i64))] (.two .no (.two (.one (.draw (.take 0 (.take 1 (.take 3 (.take 4 (.take 5 (.take 6 (.take 7 (.eff 2 (.eff 8 (.take 9 (.take 10 (.take 11 (.eff 12 (.done)))))))))))))))) .no))))) (.two .no (.two .no (.two .no (.two .no (.two .no (.two .no (.join [16, 99, 100, 101, 102, 103, 104, 105, 106, 107] [(16, .one .ptr)] (.draw (.take 0 (.take 1 (.take 2 (.take 3 (.take 4 (.take 5 (.take 6 (.take 7 (.both 8 (.eff 9 (.eff 10 (.done))) 9 (.eff 8 (.eff 10 (.done))))))))))))) (.two (.two (.draw (.take 0 (.take 1 (.take 2 (.take 3 (.take 4 (.take 5 (.take 6 (.take 7 (.take 8 (.take 9 (.take 10 (.take 11 (.take 12 (.take 13 (.take 14 (.take 15 (.take 16 (.take 17 (.take 18 (.take 19 (.take 20 (.take 21 (.take 22 (.take 23 (.take 24 (.take 25 (.take 26 (.take 27 (.take 28 (.take 29 (.take 30 (.take 31 (.take 33 (.eff 32 (.eff 34 (.take 35 (.take 36 (.take 37 (.take 38 (.take 39 (.take 40 (.take 42 (.take 43 (.eff 41 (.take 44 (.take 45 (.done)))))))))))))))))))))))))))))))))))))))))))))))) .no) (.two (.two .no (.one (.loop [6, 17, 155, 156, 157, 158, 159, 160, 161, 162, 163, 164, 165, 166, 167, 168, 169, 170] [(17, .one (.int .i64))] .no))) .no))))))))))))
def law24_PoolOpens.P (p0_0 p0_1 p0_2 p0_3 p0_4 p0_5 : Int) (a0_6 : Option Addr) (n0_6 c0_6 : Nat) (a0_7 : Option Addr) (n0_7 c0_7 : Nat) (p1 p2_0 p2_1 p2_2 p2_3 p2_4 p2_5 : Int) (w : World) (K : Bool × Unit → World → Prop) : Prop :=
  NewV #[.int .i64 p0_0, .int .i64 p0_1, .int .i64 p0_2, .int .i64 p0_3, .int .i64 p0_4, .int .i64 p0_5, .slice a0_6 n0_6 c0_6, .slice a0_7 n0_7 c0_7] 27 w fun b1 w2 =>
  NewV #[.int .i64 p2_0, .int .i64 p2_1, .int .i64 p2_2, .int .u32 p2_3, .int .u64 p2_4, .int .u64 p2_5] 46 w2 fun b3 w4 =>
  LoadA w4 ⟨b1, 0, none⟩ [.int .i64, .int .i64, .int .i64, .int .i64, .int .i64, .int .i64, .sl, .sl] fun (x5 : Int × Int × Int × Int × Int × Int × SlV × SlV × Unit) =>
  CallV Tryz.prog 6 #[.agg #[.int .i64 x5.1, .int .i64 x5.2.1, .int .i64 x5.2.2.1, .int .i64 x5.2.2.2.1, .int .i64 x5.2.2.2.2.1, .int .i64 x5.2.2.2.2.2.1, .slice x5.2.2.2.2.2.2.1.a x5.2.2.2.2.2.2.1.n x5.2.2.2.2.2.2.1.c, .slice x5.2.2.2.2.2.2.2.1.a x5.2.2.2.2.2.2.2.1.n x5.2.2.2.2.2.2.2.1.c]] w4 [.one .bool] fun (r6 : Bool × Unit) w7 =>
  cond (!r6.1)
  (CallV Tryz.prog 7 #[] w7 [.one .bool] fun (r8 : Bool × Unit) w9 =>
  K (r8.1, ()) w9)
  (LoadA w7 ⟨b1, 0, none⟩ [.int .i64, .int .i64, .int .i64, .int .i64, .int .i64, .int .i64, .sl, .sl] fun (x10 : Int × Int × Int × Int × Int × Int × SlV × SlV × Unit) =>
  CallV Tryz.prog 8 #[.agg #[.int .i64 x10.1, .int .i64 x10.2.1, .int .i64 x10.2.2.1, .int .i64 x10.2.2.2.1, .int .i64 x10.2.2.2.2.1, .int .i64 x10.2.2.2.2.2.1, .slice x10.2.2.2.2.2.2.1.a x10.2.2.2.2.2.2.1.n x10.2.2.2.2.2.2.1.c, .slice x10.2.2.2.2.2.2.2.1.a x10.2.2.2.2.2.2.2.1.n x10.2.2.2.2.2.2.2.1.c]] w7 [.one .ptr, .one .ptr, .agg [.int .i64, .int .i64, .int .i64, .int .i64, .int .i64, .int .i64, .sl, .sl, .bool, .int .i64, .sl, .sl]] fun (r11 : (Option Addr) × (Option Addr) × (Int × Int × Int × Int × Int × Int × SlV × SlV × Bool × Int × SlV × SlV × Unit) × Unit) w12 =>
  NewV #[.int .i64 0, .int .i64 0, .int .i64 0, .int .i64 0, .int .i64 0, .int .i64 0, .slice none 0 0, .slice none 0 0, .bool false, .int .i64 0, .slice none 0 0, .slice none 0 0] 38 w12 fun b13 w14 =>
  StoreV w14 ⟨b13, 0, none⟩ [.int .i64 r11.2.2.1.1, .int .i64 r11.2.2.1.2.1, .int .i64 r11.2.2.1.2.2.1, .int .i64 r11.2.2.1.2.2.2.1, .int .i64 r11.2.2.1.2.2.2.2.1, .int .i64 r11.2.2.1.2.2.2.2.2.1, .slice r11.2.2.1.2.2.2.2.2.2.1.a r11.2.2.1.2.2.2.2.2.2.1.n r11.2.2.1.2.2.2.2.2.2.1.c, .slice r11.2.2.1.2.2.2.2.2.2.2.1.a r11.2.2.1.2.2.2.2.2.2.2.1.n r11.2.2.1.2.2.2.2.2.2.2.1.c, .bool r11.2.2.1.2.2.2.2.2.2.2.2.1, .int .i64 r11.2.2.1.2.2.2.2.2.2.2.2.2.1, .slice r11.2.2.1.2.2.2.2.2.2.2.2.2.2.1.a r11.2.2.1.2.2.2.2.2.2.2.2.2.2.1.n r11.2.2.1.2.2.2.2.2.2.2.2.2.2.1.c, .slice r11.2.2.1.2.2.2.2.2.2.2.2.2.2.2.1.a r11.2.2.1.2.2.2.2.2.2.2.2.2.2.2.1.n r11.2.2.1.2.2.2.2.2.2.2.2.2.2.2.1.c] fun w15 =>
  LoopV [.one (.int .i64)] ((0 : Int), ()) w15 fun (z16 : Int × Unit) w17 (K18 : Int × Unit → World → Prop) =>
  LoadS w17 ⟨b1, 7, none⟩ .sl fun (x19 : SlV) =>
  cond (decide (z16.1 < ((x19.n : Nat) : Int)))
  (DrawV fun D20 =>
  (D20 b1 ∧ LoadS w17.drew ⟨b1, 7, none⟩ .sl fun (x21 : SlV) =>
  (0 ≤ z16.1 ∧ z16.1 < ((x21.n : Nat) : Int)) ∧ ∃ q22 : Addr, x21.a = some q22 ∧
  (D20 (q22.add (z16.1.toNat * 10)).block ∧ LoadA w17.drew (q22.add (z16.1.toNat * 10)) [.int .i64, .int .i64, .int .i64, .int .i64, .int .i64, .int .i64, .int .u32, .int .u64, .int .u64, .int .u8] fun (x23 : Int × Int × Int × Int × Int × Int × Int × Int × Int × Int × Unit) =>
  LoadA w17.drew ⟨b13, 0, none⟩ [.int .i64, .int .i64, .int .i64, .int .i64, .int .i64, .int .i64, .sl, .sl, .bool, .int .i64, .sl, .sl] fun (x24 : Int × Int × Int × Int × Int × Int × SlV × SlV × Bool × Int × SlV × SlV × Unit) =>
  KeepOn D20 w17.drew w17.drew ∧
  CallV Tryz.prog 9 #[.pointer r11.1, .pointer r11.2.1, .agg #[.int .i64 x24.1, .int .i64 x24.2.1, .int .i64 x24.2.2.1, .int .i64 x24.2.2.2.1, .int .i64 x24.2.2.2.2.1, .int .i64 x24.2.2.2.2.2.1, .slice x24.2.2.2.2.2.2.1.a x24.2.2.2.2.2.2.1.n x24.2.2.2.2.2.2.1.c, .slice x24.2.2.2.2.2.2.2.1.a x24.2.2.2.2.2.2.2.1.n x24.2.2.2.2.2.2.2.1.c, .bool x24.2.2.2.2.2.2.2.2.1, .int .i64 x24.2.2.2.2.2.2.2.2.2.1, .slice x24.2.2.2.2.2.2.2.2.2.2.1.a x24.2.2.2.2.2.2.2.2.2.2.1.n x24.2.2.2.2.2.2.2.2.2.2.1.c, .slice x24.2.2.2.2.2.2.2.2.2.2.2.1.a x24.2.2.2.2.2.2.2.2.2.2.2.1.n x24.2.2.2.2.2.2.2.2.2.2.2.1.c], .agg #[.int .i64 x23.1, .int .i64 x23.2.1, .int .i64 x23.2.2.1, .int .i64 x23.2.2.2.1, .int .i64 x23.2.2.2.2.1, .int .i64 x23.2.2.2.2.2.1, .int .u32 x23.2.2.2.2.2.2.1, .int .u64 x23.2.2.2.2.2.2.2.1, .int .u64 x23.2.2.2.2.2.2.2.2.1, .int .u8 x23.2.2.2.2.2.2.2.2.2.1]] w17.drew [.agg [.int .i64, .int .i64, .int .i64, .int .i64, .int .i64, .int .i64, .sl, .sl, .bool, .int .i64, .sl, .sl], .one .bool] fun (r25 : (Int × Int × Int × Int × Int × Int × SlV × SlV × Bool × Int × SlV × SlV × Unit) × Bool × Unit) w26 =>
  KeepOn D20 w17.drew w26 ∧
  StoreV w26 ⟨b13, 0, none⟩ [.int .i64 r25.1.1, .int .i64 r25.1.2.1, .int .i64 r25.1.2.2.1, .int .i64 r25.1.2.2.2.1, .int .i64 r25.1.2.2.2.2.1, .int .i64 r25.1.2.2.2.2.2.1, .slice r25.1.2.2.2.2.2.2.1.a r25.1.2.2.2.2.2.2.1.n r25.1.2.2.2.2.2.2.1.c, .slice r25.1.2.2.2.2.2.2.2.1.a r25.1.2.2.2.2.2.2.2.1.n r25.1.2.2.2.2.2.2.2.1.c, .bool r25.1.2.2.2.2.2.2.2.2.1, .int .i64 r25.1.2.2.2.2.2.2.2.2.2.1, .slice r25.1.2.2.2.2.2.2.2.2.2.2.1.a r25.1.2.2.2.2.2.2.2.2.2.2.1.n r25.1.2.2.2.2.2.2.2.2.2.2.1.c, .slice r25.1.2.2.2.2.2.2.2.2.2.2.2.1.a r25.1.2.2.2.2.2.2.2.2.2.2.2.1.n r25.1.2.2.2.2.2.2.2.2.2.2.2.1.c] fun w27 =>
  KeepOn D20 w17.drew w27 ∧
  Rng .i64 (z16.1 + 1) ∧
  K18 (z16.1 + 1, ()) w27)))
  (LoadA w17 ⟨b3, 0, none⟩ [.int .i64, .int .i64, .int .i64, .int .u32, .int .u64, .int .u64] fun (x28 : Int × Int × Int × Int × Int × Int × Unit) =>
  CallV Tryz.prog 12 #[.pointer r11.1, .int .i64 p1, .agg #[.int .i64 x28.1, .int .i64 x28.2.1, .int .i64 x28.2.2.1, .int .u32 x28.2.2.2.1, .int .u64 x28.2.2.2.2.1, .int .u64 x28.2.2.2.2.2.1]] w17 [.one (.int .i64), .one (.int .i64)] fun (r29 : Int × Int × Unit) w30 =>
  cond (r29.2.1 != 0)
  (cond (r29.1 == 0)
  (CallV Tryz.prog 7 #[] w30 [.one .bool] fun (r31 : Bool × Unit) w32 =>
  K (r31.1, ()) w32)
  (K (false, ()) w30))
  (LoadS w30 ⟨b1, 2, none⟩ (.int .i64) fun (x33 : Int) =>
  Rng .i64 (x33 + 88) ∧
  CallV Tryz.prog 11 #[.pointer r11.2.1] w30 [.one .sl] fun (r34 : SlV × Unit) w35 =>
  cond (decide (r29.1 < 0))
  (K (false, ()) w35)
  (LoadS w35 ⟨b13, 10, none⟩ .sl fun (x36 : SlV) =>
  cond (decide (r29.1 ≥ ((x36.n : Nat) : Int)))
  (K (false, ()) w35)
  (LoadS w35 ⟨b1, 1, none⟩ (.int .i64) fun (x37 : Int) =>
  Rng .i64 ((x33 + 88) * x37) ∧
  LoadS w35 ⟨b1, 0, none⟩ (.int .i64) fun (x38 : Int) =>
  Rng .i64 (((x33 + 88) * x37) * x38) ∧
  cond (((r34.1.n : Nat) : Int) != (((x33 + 88) * x37) * x38))
  (K (false, ()) w35)
  (Rng .i64 ((4 : Int) + r29.1) ∧
  Rng .i64 (((4 : Int) + r29.1) * (x33 + 88)) ∧
  LoadS w35 ⟨b1, 1, none⟩ (.int .i64) fun (x39 : Int) =>
  Rng .i64 ((((4 : Int) + r29.1) * (x33 + 88)) * x39) ∧
  JoinV [.one .ptr] (fun (v41 : (Option Addr) × Unit) w42 =>
  DrawV fun D43 =>
  PtrK v41.1 fun q44 =>
  (D43 (q44.add 9).block ∧ LoadS w42.drew (q44.add 9) .bool fun (x45 : Bool) =>
  cond (!x45)
  (K (false, ()) w42.drew)
  (PtrK v41.1 fun q46 =>
  (D43 (q46.add 1).block ∧ LoadS w42.drew (q46.add 1) (.int .i64) fun (x47 : Int) =>
  cond (x47 != p1)
  (K (false, ()) w42.drew)
  (PtrK v41.1 fun q48 =>
  (D43 (q48.add 4).block ∧ LoadS w42.drew (q48.add 4) (.int .u64) fun (x49 : Int) =>
  (D43 b3 ∧ LoadS w42.drew ⟨b3, 4, none⟩ (.int .u64) fun (x50 : Int) =>
  cond (x49 != x50)
  (K (false, ()) w42.drew)
  (PtrK v41.1 fun q51 =>
  (D43 (q51.add 5).block ∧ LoadS w42.drew (q51.add 5) (.int .u64) fun (x52 : Int) =>
  (D43 b3 ∧ LoadS w42.drew ⟨b3, 5, none⟩ (.int .u64) fun (x53 : Int) =>
  cond (x52 != x53)
  (K (false, ()) w42.drew)
  (PtrK v41.1 fun q54 =>
  (D43 (q54.add 3).block ∧ LoadS w42.drew (q54.add 3) (.int .u32) fun (x55 : Int) =>
  CallV Tryz.prog 14 #[.pointer r11.1] w42.drew [.one .ptr] fun (r56 : (Option Addr) × Unit) w57 =>
  KeepOn D43 w42.drew w57 ∧
  CallV Tryz.prog 15 #[.pointer r56.1, .int .i64 r29.1] w57 [.agg [.int .i64, .int .i64, .int .i64, .int .i64, .bool, .bool, .bool, .bool, .bool]] fun (r58 : (Int × Int × Int × Int × Bool × Bool × Bool × Bool × Bool × Unit) × Unit) w59 =>
  KeepOn D43 w42.drew w59 ∧
  cond ((IntKind.i64.wrap x55) != r58.1.2.2.2.1)
  (K (false, ()) w59)
  (PtrK v41.1 fun q60 =>
  (D43 q60.block ∧ LoadA w42.drew q60 [.int .i64, .int .i64, .int .i64, .int .u32, .int .u64, .int .u64] fun (x61 : Int × Int × Int × Int × Int × Int × Unit) =>
  CallV Tryz.prog 16 #[.pointer r11.1, .int .i64 r29.1] w59 [.agg [.int .i64, .int .i64, .int .i64, .int .u32, .int .u64, .int .u64]] fun (r62 : (Int × Int × Int × Int × Int × Int × Unit) × Unit) w63 =>
  KeepOn D43 w42.drew w63 ∧
  AggEq Tryz.prog 46 #[.int .i64 r62.1.1, .int .i64 r62.1.2.1, .int .i64 r62.1.2.2.1, .int .u32 r62.1.2.2.2.1, .int .u64 r62.1.2.2.2.2.1, .int .u64 r62.1.2.2.2.2.2.1] #[.int .i64 x61.1, .int .i64 x61.2.1, .int .i64 x61.2.2.1, .int .u32 x61.2.2.2.1, .int .u64 x61.2.2.2.2.1, .int .u64 x61.2.2.2.2.2.1] fun e64 =>
  cond (!e64)
  (K (false, ()) w63)
  (LoopV [.one (.int .i64)] (x33 + 88, ()) w63 fun (z65 : Int × Unit) w66 (K67 : Int × Unit → World → Prop) =>
  LoadS w66 ⟨b1, 1, none⟩ (.int .i64) fun (x68 : Int) =>
  Rng .i64 ((x33 + 88) * x68) ∧
  cond (decide (z65.1 < ((x33 + 88) * x68)))
  (Rng .i64 (((((4 : Int) + r29.1) * (x33 + 88)) * x39) + z65.1) ∧
  (0 ≤ (((((4 : Int) + r29.1) * (x33 + 88)) * x39) + z65.1) ∧ (((((4 : Int) + r29.1) * (x33 + 88)) * x39) + z65.1) < ((r34.1.n : Nat) : Int)) ∧ ∃ q69 : Addr, r34.1.a = some q69 ∧
  LoadS w66 (q69.add ((((((4 : Int) + r29.1) * (x33 + 88)) * x39) + z65.1).toNat * 1)) (.int .u8) fun (x70 : Int) =>
  cond (x70 != 255)
  (K (false, ()) w66)
  (Rng .i64 (z65.1 + 1) ∧
  K67 (z65.1 + 1, ()) w66))
  (CallV Tryz.prog 14 #[.pointer r11.1] w66 [.one .ptr] fun (r71 : (Option Addr) × Unit) w72 =>
  CallV Tryz.prog 15 #[.pointer r71.1, .int .i64 r29.1] w72 [.agg [.int .i64, .int .i64, .int .i64, .int .i64, .bool, .bool, .bool, .bool, .bool]] fun (r73 : (Int × Int × Int × Int × Bool × Bool × Bool × Bool × Bool × Unit) × Unit) w74 =>
  NewV #[.int .i64 0, .int .i64 0, .int .i64 0, .int .i64 0, .bool false, .bool false, .bool false, .bool false, .bool false] 60 w74 fun b75 w76 =>
  StoreV w76 ⟨b75, 0, none⟩ [.int .i64 r73.1.1, .int .i64 r73.1.2.1, .int .i64 r73.1.2.2.1, .int .i64 r73.1.2.2.2.1, .bool r73.1.2.2.2.2.1, .bool r73.1.2.2.2.2.2.1, .bool r73.1.2.2.2.2.2.2.1, .bool r73.1.2.2.2.2.2.2.2.1, .bool r73.1.2.2.2.2.2.2.2.2.1] fun w77 =>
  LoadS w77 ⟨b75, 4, none⟩ .bool fun (x78 : Bool) =>
  cond x78
  (LoadS w77 ⟨b75, 0, none⟩ (.int .i64) fun (x79 : Int) =>
  cond (x79 == p1)
  (LoadS w77 ⟨b75, 1, none⟩ (.int .i64) fun (x80 : Int) =>
  cond (x80 == 0)
  (LoadS w77 ⟨b75, 2, none⟩ (.int .i64) fun (x81 : Int) =>
  cond (x81 == 0)
  (LoadS w77 ⟨b75, 6, none⟩ .bool fun (x82 : Bool) =>
  cond (!x82)
  (CallV Tryz.prog 7 #[] w77 [.one .bool] fun (r83 : Bool × Unit) w84 =>
  K (r83.1, ()) w84)
  (K (false, ()) w77))
  (K (false, ()) w77))
  (K (false, ()) w77))
  (K (false, ()) w77))
  (K (false, ()) w77))))))))))))))))) fun (J40 : (Option Addr) × Unit → World → Prop) =>
  DrawV fun D85 =>
  (D85 b1 ∧ LoadA w35.drew ⟨b1, 0, none⟩ [.int .i64, .int .i64, .int .i64, .int .i64, .int .i64, .int .i64] fun (x86 : Int × Int × Int × Int × Int × Int × Unit) =>
  Rng .i64 (((((4 : Int) + r29.1) * (x33 + 88)) * x39) + (x33 + 88)) ∧
  ((0 : Int) ≤ ((((4 : Int) + r29.1) * (x33 + 88)) * x39) ∧ ((((4 : Int) + r29.1) * (x33 + 88)) * x39) ≤ (((((4 : Int) + r29.1) * (x33 + 88)) * x39) + (x33 + 88)) ∧ (((((4 : Int) + r29.1) * (x33 + 88)) * x39) + (x33 + 88)) ≤ ((r34.1.c : Nat) : Int)) ∧
  SubK r34.1.a (((((4 : Int) + r29.1) * (x33 + 88)) * x39).toNat) r34.1.c 1 fun a87 =>
  ((CallV Tryz.prog 13 #[.agg #[.int .i64 x86.1, .int .i64 x86.2.1, .int .i64 x86.2.2.1, .int .i64 x86.2.2.2.1, .int .i64 x86.2.2.2.2.1, .int .i64 x86.2.2.2.2.2.1], .slice a87 (((((((4 : Int) + r29.1) * (x33 + 88)) * x39) + (x33 + 88)).toNat) - (((((4 : Int) + r29.1) * (x33 + 88)) * x39).toNat)) (r34.1.c - (((((4 : Int) + r29.1) * (x33 + 88)) * x39).toNat)), .int .i64 3] w35.drew [.agg [.int .i64, .int .i64, .int .i64, .int .u32, .int .u64, .int .u64, .sl, .sl, .bool, .bool]] fun (r88 : (Int × Int × Int × Int × Int × Int × SlV × SlV × Bool × Bool × Unit) × Unit) w89 =>
  KeepOn D85 w35.drew w89 ∧
  NewV #[.int .i64 0, .int .i64 0, .int .i64 0, .int .u32 0, .int .u64 0, .int .u64 0, .slice none 0 0, .slice none 0 0, .bool false, .bool false] 57 w89 fun b90 w91 =>
  KeepOn D85 w35.drew w91 ∧
  StoreV w91 ⟨b90, 0, none⟩ [.int .i64 r88.1.1, .int .i64 r88.1.2.1, .int .i64 r88.1.2.2.1, .int .u32 r88.1.2.2.2.1, .int .u64 r88.1.2.2.2.2.1, .int .u64 r88.1.2.2.2.2.2.1, .slice r88.1.2.2.2.2.2.2.1.a r88.1.2.2.2.2.2.2.1.n r88.1.2.2.2.2.2.2.1.c, .slice r88.1.2.2.2.2.2.2.2.1.a r88.1.2.2.2.2.2.2.2.1.n r88.1.2.2.2.2.2.2.2.1.c, .bool r88.1.2.2.2.2.2.2.2.2.1, .bool r88.1.2.2.2.2.2.2.2.2.2.1] fun w92 =>
  KeepOn D85 w35.drew w92 ∧
  J40 ((some ⟨b90, 0, none⟩), ()) w92) ∧
  (NewV #[.int .i64 0, .int .i64 0, .int .i64 0, .int .u32 0, .int .u64 0, .int .u64 0, .slice none 0 0, .slice none 0 0, .bool false, .bool false] 57 w35.drew fun b93 w94 =>
  KeepOn D85 w35.drew w94 ∧
  CallV Tryz.prog 13 #[.agg #[.int .i64 x86.1, .int .i64 x86.2.1, .int .i64 x86.2.2.1, .int .i64 x86.2.2.2.1, .int .i64 x86.2.2.2.2.1, .int .i64 x86.2.2.2.2.2.1], .slice a87 (((((((4 : Int) + r29.1) * (x33 + 88)) * x39) + (x33 + 88)).toNat) - (((((4 : Int) + r29.1) * (x33 + 88)) * x39).toNat)) (r34.1.c - (((((4 : Int) + r29.1) * (x33 + 88)) * x39).toNat)), .int .i64 3] w94 [.agg [.int .i64, .int .i64, .int .i64, .int .u32, .int .u64, .int .u64, .sl, .sl, .bool, .bool]] fun (r95 : (Int × Int × Int × Int × Int × Int × SlV × SlV × Bool × Bool × Unit) × Unit) w96 =>
  KeepOn D85 w35.drew w96 ∧
  StoreV w96 ⟨b93, 0, none⟩ [.int .i64 r95.1.1, .int .i64 r95.1.2.1, .int .i64 r95.1.2.2.1, .int .u32 r95.1.2.2.2.1, .int .u64 r95.1.2.2.2.2.1, .int .u64 r95.1.2.2.2.2.2.1, .slice r95.1.2.2.2.2.2.2.1.a r95.1.2.2.2.2.2.2.1.n r95.1.2.2.2.2.2.2.1.c, .slice r95.1.2.2.2.2.2.2.2.1.a r95.1.2.2.2.2.2.2.2.1.n r95.1.2.2.2.2.2.2.2.1.c, .bool r95.1.2.2.2.2.2.2.2.2.1, .bool r95.1.2.2.2.2.2.2.2.2.2.1] fun w97 =>
  KeepOn D85 w35.drew w97 ∧
  J40 ((some ⟨b93, 0, none⟩), ()) w97)))))))))
theorem law24_PoolOpens.vc (p0_0 p0_1 p0_2 p0_3 p0_4 p0_5 : Int) (a0_6 : Option Addr) (n0_6 c0_6 : Nat) (a0_7 : Option Addr) (n0_7 c0_7 : Nat) (p1 p2_0 p2_1 p2_2 p2_3 p2_4 p2_5 : Int) (w : World) (K : Bool × Unit → World → Prop) (h : law24_PoolOpens.P p0_0 p0_1 p0_2 p0_3 p0_4 p0_5 a0_6 n0_6 c0_6 a0_7 n0_7 c0_7 p1 p2_0 p2_1 p2_2 p2_3 p2_4 p2_5 w K) : CallV Tryz.prog 4 #[.agg #[.int .i64 p0_0, .int .i64 p0_1, .int .i64 p0_2, .int .i64 p0_3, .int .i64 p0_4, .int .i64 p0_5, .slice a0_6 n0_6 c0_6, .slice a0_7 n0_7 c0_7], .int .i64 p1, .agg #[.int .i64 p2_0, .int .i64 p2_1, .int .i64 p2_2, .int .u32 p2_3, .int .u64 p2_4, .int .u64 p2_5]] w [.one .bool] K := by
  refine vcFun.of (A := law24_PoolOpens.A) (wr := false) okf_ok follows h Tryz.func4 ?_
  kernel_rfl
end Go.Proofs.YtlpeoaphdmfjdaaGreat.Vc
/-! The contracts of layer 24: what the laws share: payloads, cases, and a new pool by both. -/
namespace Go.Proofs.YtlpeoaphdmfjdaaGreat.Vc
open Go Go.Eng Go.RowKit
def pay24 (n : Nat) (sd : Int) : List Int := (List.range n).map fun (i : Nat) => Go.bits .xor .u8 (IntKind.u8.wrap (IntKind.u8.wrap (i : Int) * 3)) sd
theorem pay24_len (n : Nat) (sd : Int) : (pay24 n sd).length = n := by simp [pay24]
theorem pay24_byt (n : Nat) (sd : Int) : Byt (pay24 n sd) := fun v hv => by
  obtain ⟨i, -, rfl⟩ := List.mem_map.1 hv
  exact bits8_byt _ _ _
theorem payload24_c {w : World} {n sd : Int} (hn : 0 ≤ n ∧ n ≤ 1000) : CallV Tryz.prog 85 #[.int .i64 n, .int .u8 sd] w [.one .sl] fun r w' => Res w w' r.1 (pay24 n.toNat sd) := by
  apply law24_payload.vc
  unfold law24_payload.P
  have S := Sep.start NoB w
  refine S.newB fun b1 w1 S f1 _ => ?_
  have S := S.asOwn (sz := 1) (n := 0) rfl (by omega) oneAll.nil
  refine Loop1 (fun (v : SlV × Int × Unit) w' => ∃ i : Nat, v.2.1 = (i : Int) ∧ (i : Int) ≤ n ∧ v.1.n = i ∧ Sep NoB w w' [OwnA 5 1 v.1.a v.1.n v.1.c ((pay24 i sd).map (Value.int .u8))]) (fun (v : SlV × Int × Unit) _ => (n - v.2.1).toNat) ⟨0, rfl, by omega, rfl, S⟩ ?_
  rintro ⟨⟨a, m, c⟩, (v : Int), ⟨⟩⟩ w4 ⟨i, hv, hi, hm, S⟩
  dsimp only at hv hm S ⊢
  subst hv
  subst hm
  refine cond_d (fun hlt => ?_) (fun hge => ?_)
  · refine S.newB fun b6 w5 S f5 _ => ?_
    refine AppS.of (news := [.int .u8 (Go.bits .xor .u8 (IntKind.u8.wrap (IntKind.u8.wrap (m : Int) * 3)) sd)]) rfl (.inr ⟨_, rfl, S.cells 0 rfl⟩) ?_
    refine S.ap1 rfl (fun u hu => by rw [List.mem_singleton.1 hu]; rfl) (by omega) (by omega) fun a' c' w6 S f6 => ⟨Rng.i64 (by omega) (by omega), ⟨m + 1, by push_cast; rfl, by omega, rfl, ?_⟩, by omega⟩
    have e : (pay24 (m + 1) sd).map (Value.int .u8) = (pay24 m sd).map (Value.int .u8) ++ [.int .u8 (Go.bits .xor .u8 (IntKind.u8.wrap (IntKind.u8.wrap (m : Int) * 3)) sd)] := by
      unfold pay24
      rw [List.range_succ, List.map_append, List.map_append]
      rfl
    rw [e]
    exact S.sel [1] rfl
  · have : n.toNat = m := by omega
    rw [this]
    exact S.out
abbrev casV24 (g : Geo) (f : SlP TF.T) (s : SlV) : List Value := [.int .i64 g.b, .int .i64 g.p, .int .i64 g.s, .int .i64 g.sp, .int .i64 g.wr, .int .i64 g.ro, .slice f.a f.n f.c, .slice s.a s.n s.c]
def Li24 (g : Geo) (f : SlP TF.T) (n : Nat) : Prop := Right g ∧ FRight (fds f) ∧ g.b ≤ 12 ∧ g.p ≤ 20 ∧ g.s ≤ 128 ∧ (n : Int) ≤ 25
theorem light24_c {w : World} {g : Geo} {f : SlP TF.T} {s : SlV} (hf : LF.rd w All f) : CallV Tryz.prog 6 #[.agg (casV24 g f s).toArray] w [.one .bool] fun r w' => (r.1 = true ↔ Li24 g f s.n) ∧ Ext w w' := by
  apply law24_light.vc
  unfold law24_light.P
  have S := Sep.start NoB w
  refine S.newB fun b1 w1 S f1 _ => S.lb0 (o := 0) rfl ?_
  have no : ∀ {w' : World}, ¬ Li24 g f s.n → Ext w w' → ((false = true ↔ Li24 g f s.n) ∧ Ext w w') := fun h e => ⟨Iff.intro (fun x => by cases x) (fun x => absurd x h), e⟩
  refine (Right_c (g := g)).mono ?_
  rintro ⟨(r : Bool), ⟨⟩⟩ w4 ⟨h4, x4⟩
  dsimp only at h4 ⊢
  subst h4
  have S := S.stepE x4
  by_cases h1 : Right g
  case neg => exact cond_f (decide_eq_false h1) (no (fun h => h1 h.1) S.ext)
  refine cond_t (decide_eq_true h1) (S.ld0 (j := 6) rfl rfl ?_)
  refine (rRight12_c (Ty.rd_ext S.ext _ hf)).mono ?_
  rintro ⟨(r : Bool), ⟨⟩⟩ w5 ⟨h5, rfl⟩
  dsimp only at h5 ⊢
  subst h5
  by_cases h2 : FRight (fds f)
  case neg => exact cond_f (decide_eq_false h2) (no (fun h => h2 h.2.1) S.ext)
  refine cond_t (decide_eq_true h2) (S.ld0 (j := 0) rfl rfl (cond_d (fun h3 => ?_) fun h3 => no (fun h => h3 h.2.2.1) S.ext))
  refine S.ld0 (j := 1) rfl rfl (cond_d (fun h4 => ?_) fun h4 => no (fun h => h4 h.2.2.2.1) S.ext)
  refine S.ld0 (j := 2) rfl rfl (cond_d (fun h5 => ?_) fun h5 => no (fun h => h5 h.2.2.2.2.1) S.ext)
  refine S.ld0 (j := 7) rfl rfl ⟨?_, S.ext⟩
  exact Iff.intro (fun h => ⟨h1, h2, h3, h4, h5, of_decide_eq_true h⟩) (fun h => decide_eq_true h.2.2.2.2.2)
abbrev C024 (g : Geo) (f : SlP TF.T) : CD := newC g (fds f)
abbrev n24 (g : Geo) : Nat := (g.b - 4).toNat
abbrev L024 (g : Geo) : List Blk := List.replicate (n24 g) Blk.new
abbrev O024 (g : Geo) : List Hd := List.replicate (n24 g) zHd
theorem zHd_rep (m : Nat) : (List.replicate m [Value.int .i64 0, .int .i64 0, .int .i64 0, .int .u32 0, .int .u64 0, .int .u64 0]).flatten = (List.replicate m zHd).flatMap Hd.vs := by
  rw [List.flatMap_def, List.map_replicate]
  rfl
theorem Li24.PI {g : Geo} {f : SlP TF.T} (hR : Right g) (hFR : FRight (fds f)) (h1 : g.b ≤ 16 ∧ g.p ≤ 20 ∧ g.s ≤ 128) (hb : ∀ F ∈ fds f, Byt F.2.2.1) : PI g (n24 g) (C024 g f) (L024 g) (O024 g) := by
  have hk := hR.1
  unfold Kept at hk
  refine ⟨newC_ok hR h1 fun F hF => ⟨hb F hF, hFR.fit F hF⟩, rfl, by show (((g.b - 4).toNat : Nat) : Int) = _; omega, List.length_replicate, List.length_replicate, fun x hx => ?_⟩
  rw [(List.mem_replicate.1 hx).2]
  exact ⟨Int.le_refl _, Int.le_refl _⟩
end Go.Proofs.YtlpeoaphdmfjdaaGreat.Vc
/-! The contracts of layer 24: a new pool by both. -/
namespace Go.Proofs.YtlpeoaphdmfjdaaGreat.Vc
open Go Go.Eng Go.RowKit
theorem made24_c {w : World} {g : Geo} {f : SlP TF.T} {s : SlV} (hf : LF.rd w All f) (hm : mFit (fds f)) (hR : Right g) (hFR : FRight (fds f)) (hg : g.b ≤ 16 ∧ g.p ≤ 20 ∧ g.s ≤ 128) :
    CallV Tryz.prog 8 #[.agg (casV24 g f s).toArray] w [.one .ptr, .one .ptr, .agg SH12] fun r w' =>
      ∃ (pp p q : Nat) (t : SlV) (B : SlP TBd.T) (l o : SlV), r.1 = some (⟨pp, 0, none⟩ : Addr) ∧ r.2.1 = some (⟨p, 0, none⟩ : Addr) ∧ r.2.2.1 = plT B f (C024 g f) l o ∧ B.l.map bdOf = (C024 g f).bs ∧ Sep NoB w w' (plS pp p q g t (O024 g) (C024 g f) (L024 g) (rpS B l o (L024 g) (O024 g) [])) := by
  apply law24_made.vc
  unfold law24_made.P
  have S := Sep.start NoB w
  have hk := hR.1
  unfold Kept at hk
  have hC0 : COk (C024 g f) := newC_ok hR hg fun F hF => ⟨fds_byt hf F hF, hFR.fit F hF⟩
  refine S.newB fun b1 w101 S f101 z101 => ?_
  refine S.newB fun b3 w102 S f102 z102 => ?_
  refine S.lb1 (o := 0) rfl ?_
  refine S.ld1 (j := 6) rfl rfl ?_
  refine (New13_c (g := g) (x := f) (Ty.rd_ext S.ext _ hf) hm).mono ?_
  rintro ⟨pv, (e : Int), ⟨⟩⟩ w5 ⟨x5, -, hgood⟩
  obtain ⟨-, p, y, hp, hyF, S7⟩ := hgood ⟨hR, hFR⟩
  dsimp only at hp
  subst hp
  have S := chipE_in (C := C024 g f) hyF (S.frame0 S7)
  clear S7
  refine S.ld2 (j := 0) rfl rfl ⟨Rng.i64 (by omega) (by omega), ?_⟩
  refine (New21_c (n := g.b - 4) (by omega)).mono ?_
  rintro ⟨qv, (e : Int), ⟨⟩⟩ w6 ⟨-, q, a6, c6, hq, S6⟩
  dsimp only at hq
  subst hq
  have S := ledE_in (q := q) (L := L024 g) (S.frame0 S6)
  clear S6
  refine ⟨⟨by omega, by omega, by omega, by push_cast; omega⟩, ?_⟩
  refine S.newB fun b12 w7 S f7 _ => ?_
  rw [zHd_rep] at S
  refine (New24_c (y := ⟨some ⟨b12, 0, none⟩, n24 g, n24 g⟩) (O := O024 g) hC0 (by rw [List.length_replicate]; show n24 g ≤ _; unfold n24; omega) (by show n24 g ≤ _; unfold n24; omega) (.inr ⟨_, rfl, S.cells 0 rfl⟩) List.length_replicate (S.fro [2, 1] rfl)).mono ?_
  rintro ⟨pv2, (e : Int), ⟨⟩⟩ w8 ⟨-, h8⟩
  have hn24 : ((n24 g : Nat) : Int) = g.b - 4 := by unfold n24; omega
  obtain ⟨-, pp, t, hpp, x8, S⟩ := h8 ⟨by rw [List.length_replicate]; exact hn24, hn24⟩
  dsimp only at hpp
  subst hpp
  have S := (S.fro [4] rfl).tail
  refine ⟨fun v w' => v.1 = some (⟨pp, 0, none⟩ : Addr) ∧ v.2.1 = some (⟨p, 0, none⟩ : Addr) ∧ ∃ (B : SlP TBd.T) (l o : SlV), B.l.map bdOf = (C024 g f).bs ∧ Sep NoB w w' (BoxA b3 38 (plV B f (C024 g f) l o) :: plS pp p q g t (O024 g) (C024 g f) (L024 g) (rpS B l o (L024 g) (O024 g) [])), ?_, ?_⟩
  case refine_1 =>
    rintro ⟨u, v, ⟨⟩⟩ w' ⟨hu, hv, B, l, o, hdb, S⟩
    exact S.la0 rfl ⟨pp, p, q, t, B, l, o, hu, hv, rfl, hdb, S.tail⟩
  have hf8 := Ty.rd_ext S.ext _ hf
  have hne : b1 ≠ b3 := fun h => S.ne 4 5 (by decide) rfl rfl h.symm
  refine S.regX (fun k => k = b3) fun D hD hkeep S T => ?_
  have X := T.fr
  clear T
  have hf8 := Ty.rd_ext (Ext.drew w8) _ hf8
  refine ⟨hD _ S.bl5 hne, S.lb5 (o := 0) rfl ⟨hD _ S.bl5 hne, S.ld5 (j := 6) rfl rfl ?_⟩⟩
  refine ⟨?_, ?_⟩
  · refine (rNew13_c (g := g) (f := f) hR (Ty.rd_ext X.ext _ hf8)).mono ?_
    rintro ⟨_, ⟨⟩⟩ w103 ⟨B, hB, hRf, x103⟩
    dsimp only at hB
    subst hB
    have S := S.push (R := RdT (Ty.sl TBd) B) (F := fun k => _ ≤ k ∧ k < w103.heap.size) (.of x103) ((Ty.sl TBd).rd_mono (fun k h1 h2 => ⟨h1, h2⟩) hRf.rb) fun k hk => hk
    have hdb := hRf.db
    have X := X.trans (.of x103)
    refine ⟨hkeep _ X.any, ?_⟩
    refine ⟨?_, ?_⟩
    · refine (rNew21_c (n := g.b - 4) (by omega)).mono ?_
      rintro ⟨⟨la, ln, lc⟩, ⟨⟩⟩ w104 ⟨hln, S104⟩
      dsimp only at hln S104
      subst hln
      have X := X.trans S104.fr
      have S := S.frame0 S104
      clear S104
      refine ⟨hkeep _ X.any, ?_⟩
      refine ⟨⟨by omega, by omega, by omega, by push_cast; omega⟩, ?_⟩
      refine S.newB fun bo w105 S f105 z105 => ?_
      have ybo := Fr.nw X z105
      have X := X.trans f105
      refine ⟨hkeep _ X.any, ?_⟩
      rw [zHd_rep] at S
      have S := S.asOwn (sz := 6) (n := n24 g) (by rw [flatF_len Hdv_len, List.length_replicate]) (by omega) (flatF_one Hdv_one _)
      refine S.st7 (by rfl) fun w106 S f106 => ?_
      have X : Fr (fun k => k = b3) _ _ := X.any.trans f106
      refine ⟨hkeep _ X, rfl, rfl, B, ⟨la, (g.b - 4).toNat, lc⟩, ⟨some ⟨bo, 0, none⟩, n24 g, n24 g⟩, hdb, ?_⟩
      have S := S.fro [7, 3, 3, 3, 3, 2, 1] rfl
      exact S.take (Rs := _ :: plS pp p q g t (O024 g) (C024 g f) (L024 g) (rpS B ⟨la, (g.b - 4).toNat, lc⟩ ⟨some ⟨bo, 0, none⟩, n24 g, n24 g⟩ (L024 g) (O024 g) []))
    · refine ⟨⟨by omega, by omega, by omega, by push_cast; omega⟩, ?_⟩
      refine S.newB fun bo w107 S f107 z107 => ?_
      have ybo := Fr.nw X z107
      have X := X.trans f107
      refine ⟨hkeep _ X.any, ?_⟩
      rw [zHd_rep] at S
      have S := S.asOwn (sz := 6) (n := n24 g) (by rw [flatF_len Hdv_len, List.length_replicate]) (by omega) (flatF_one Hdv_one _)
      refine (rNew21_c (n := g.b - 4) (by omega)).mono ?_
      rintro ⟨⟨la, ln, lc⟩, ⟨⟩⟩ w108 ⟨hln, S108⟩
      dsimp only at hln S108
      subst hln
      have X := X.trans S108.fr
      have S := S.frame0 S108
      clear S108
      refine ⟨hkeep _ X.any, ?_⟩
      refine S.st7 (by rfl) fun w109 S f109 => ?_
      have X : Fr (fun k => k = b3) _ _ := X.any.trans f109
      refine ⟨hkeep _ X, rfl, rfl, B, ⟨la, (g.b - 4).toNat, lc⟩, ⟨some ⟨bo, 0, none⟩, n24 g, n24 g⟩, hdb, ?_⟩
      have S := S.fro [7, 3, 3, 3, 3, 2] rfl
      exact S.take (Rs := _ :: plS pp p q g t (O024 g) (C024 g f) (L024 g) (rpS B ⟨la, (g.b - 4).toNat, lc⟩ ⟨some ⟨bo, 0, none⟩, n24 g, n24 g⟩ (L024 g) (O024 g) []))
  · refine ⟨⟨by omega, by omega, by omega, by push_cast; omega⟩, ?_⟩
    refine S.newB fun bo w110 S f110 z110 => ?_
    have ybo := Fr.nw X z110
    have X := X.trans f110
    refine ⟨hkeep _ X.any, ?_⟩
    rw [zHd_rep] at S
    have S := S.asOwn (sz := 6) (n := n24 g) (by rw [flatF_len Hdv_len, List.length_replicate]) (by omega) (flatF_one Hdv_one _)
    refine (rNew13_c (g := g) (f := f) hR (Ty.rd_ext X.ext _ hf8)).mono ?_
    rintro ⟨_, ⟨⟩⟩ w111 ⟨B, hB, hRf, x111⟩
    dsimp only at hB
    subst hB
    have S := S.push (R := RdT (Ty.sl TBd) B) (F := fun k => _ ≤ k ∧ k < w111.heap.size) (.of x111) ((Ty.sl TBd).rd_mono (fun k h1 h2 => ⟨h1, h2⟩) hRf.rb) fun k hk => hk
    have hdb := hRf.db
    have X := X.trans (.of x111)
    refine ⟨hkeep _ X.any, ?_⟩
    refine (rNew21_c (n := g.b - 4) (by omega)).mono ?_
    rintro ⟨⟨la, ln, lc⟩, ⟨⟩⟩ w112 ⟨hln, S112⟩
    dsimp only at hln S112
    subst hln
    have X := X.trans S112.fr
    have S := S.frame0 S112
    clear S112
    refine ⟨hkeep _ X.any, ?_⟩
    refine S.st7 (by rfl) fun w113 S f113 => ?_
    have X : Fr (fun k => k = b3) _ _ := X.any.trans f113
    refine ⟨hkeep _ X, rfl, rfl, B, ⟨la, (g.b - 4).toNat, lc⟩, ⟨some ⟨bo, 0, none⟩, n24 g, n24 g⟩, hdb, ?_⟩
    have S := S.fro [7, 3, 3, 3, 3, 1] rfl
    exact S.take (Rs := _ :: plS pp p q g t (O024 g) (C024 g f) (L024 g) (rpS B ⟨la, (g.b - 4).toNat, lc⟩ ⟨some ⟨bo, 0, none⟩, n24 g, n24 g⟩ (L024 g) (O024 g) []))
end Go.Proofs.YtlpeoaphdmfjdaaGreat.Vc
/-! The contracts of layer 24: a page written, or copied, by both pools. -/
namespace Go.Proofs.YtlpeoaphdmfjdaaGreat.Vc
open Go Go.Eng Go.RowKit
abbrev stpVal (k b pa : Int) (h : Hd) (sd : Int) : Value := .agg #[.int .i64 k, .int .i64 b, .int .i64 pa, .int .i64 h.k, .int .i64 h.n, .int .i64 h.c, .int .u32 h.l, .int .u64 h.e, .int .u64 h.t, .int .u8 sd]
def StR24 (E : Nat → Prop) (w0 w' : World) (pp p q : Nat) (g : Geo) (s : SlV) (f : SlP TF.T) (C' : CD) (L' : List Blk) (O' : List Hd) (Rs : List Asr) (r : Int × Int × Int × Int × Int × Int × SlV × SlV × Bool × Int × SlV × SlV × Unit) : Prop :=
  ∃ (B' : SlP TBd.T) (l' o' : SlV), r = plT B' f C' l' o' ∧ B'.l.map bdOf = C'.bs ∧ Sep E w0 w' (plS pp p q g s O' C' L' (rpS B' l' o' L' O' Rs))
theorem LF_out {E G : Nat → Prop} {w0 w : World} {f : SlP TF.T} {Rs : List Asr} (hf : LF.rd w0 (fun k => ¬ E k) f) (S : Sep E w0 w Rs) (hG : ∀ k, G k → (E k ∨ w0.heap.size ≤ k) ∧ k < w.heap.size) : LF.rd w (fun k => ¬ G k) f := by
  have h1 : LF.rd w0 (fun k => ¬ E k ∧ ¬ G k) f := LF.rd_mono (fun k hk hl => ⟨hk, fun hg => by rcases (hG k hg).1 with x | x; exact hk x; omega⟩) hf
  exact LF.rd_mono (fun k hk _ => hk.2) (LF.rd_kp (fun k hk hl => S.fr.block k hl hk.1) h1)
theorem Copied24_c {w : World} {a : Option Addr} {n c : Nat} {xs : List Int} (hx : Ints w .u8 a n c xs) (bx : Byt xs) (h8 : 8 ≤ n) (hn : n ≤ 100000) :
    CallV Tryz.prog 90 #[.slice a n c] w [.one .sl] fun r w' => Res w w' r.1 (cpyL xs) := by
  apply ref24_Copied.vc
  unfold ref24_Copied.P
  have hl := hx.len
  have hc := hx.cap
  have S := Sep.start NoB w
  refine S.newB fun b1 w1 S f1 _ => ?_
  have S := S.asOwn (sz := 1) (n := 0) rfl (by omega) oneAll.nil
  have e8 : ((n : Nat) : Int) - 8 = ((n - 8 : Nat) : Int) := by omega
  rw [e8]
  refine ⟨Rng.i64 (by omega) (by omega), ⟨by omega, by omega⟩, ?_⟩
  intro a3 ha3
  rw [Int.toNat_natCast]
  have hs := TB_sub (l := 0) (hh := n - 8) (m := c) (ints_rd (hx.ext f1.ext) bx) (by omega) (by omega) (by omega) ha3
  rw [List.drop_zero] at hs
  have hI : Ints w1 .u8 a3 (n - 8 - 0) (c - 0) (xs.take (n - 8 - 0)) := Ty.ints hs
  refine S.ab0 (xs := []) hI (by omega) fun a4 c4 w4 S f4 => ?_
  refine (rFill_c (x := 255) (n := 8)).mono ?_
  rintro ⟨⟨va, vn, vc⟩, ⟨⟩⟩ w5 r5
  dsimp only at r5 ⊢
  have S := S.stepE r5.ext
  have hv := r5.ints.len
  have hrep : (max 0 (min (65536 : Int) 8)).toNat = 8 := by decide
  rw [hrep] at r5 hv
  rw [List.length_replicate] at hv
  dsimp only at hv
  refine S.ab0 r5.ints (by dsimp only; omega) fun a6 c6 w6 S f6 => ?_
  have he : [] ++ xs.take (n - 8 - 0) ++ List.replicate 8 255 = cpyL xs := by unfold cpyL; rw [List.nil_append, hl]; rfl
  rw [he] at S
  exact S.out
section
variable {E : Nat → Prop} {w0 w : World} {pp p q n : Nat} {g : Geo} {s : SlV} {O : List Hd} {C : CD} {L : List Blk} {B : SlP TBd.T} {f : SlP TF.T} {l o : SlV} {Rs : List Asr}
theorem prgP_k (C : CD) (bl pa : Int) (xs : List Int) : (prgP C bl pa xs).1.pl = C.pl ∧ (prgP C bl pa xs).1.g = C.g := by
  unfold prgP
  split
  · exact ⟨(progC_k _ _ _ _).2.trans (progC_k _ _ _ _).2, (progC_k _ _ _ _).1.trans (progC_k _ _ _ _).1⟩
  · exact ⟨(progC_k _ _ _ _).2, (progC_k _ _ _ _).1⟩
theorem write24_c {k b pa sd : Int} {hd : Hd} (h : PI g n C L O) (hr : hd.rng) (ho : C.ops + 2 ≤ 1000000) (hdb : B.l.map bdOf = C.bs) (hf : LF.rd w0 (fun k => ¬ E k) f) (hdf : fds f = C.pl) (S : Sep E w0 w (plS pp p q g s O C L (rpS B l o L O Rs))) :
    CallV Tryz.prog 38 #[.pointer (some ⟨pp, 0, none⟩), plVal B f C l o, stpVal k b pa hd sd] w [.agg SH12, .one .bool] fun r w' =>
      StR24 E w0 w' pp p q g s f (wrtC n C b pa hd (pay24 C.g.s.toNat sd)).1 L O Rs r.1 := by
  apply law24_write.vc
  unfold law24_write.P
  obtain ⟨-, -, ⟨n5, n6⟩, -, -⟩ := h.ok.num
  have hle := h.le
  have hll := h.ll
  have hgg := h.gg
  obtain ⟨hln, -⟩ := rp_n (S.fro [4, 4, 4] rfl)
  refine S.newB fun b1 w101 S f101 z101 => ?_
  refine S.newB fun b3 w102 S f102 z102 => ?_
  refine S.newB fun b5 w103 S f103 z103 => ?_
  have S := S.fro [3, 3, 3, 3] rfl
  refine Sep.regC [boxPl pp p q g s, ordP s O, ledE q L, chipE p C] S fun G D hG T S hDt hDo hkeep back => ?_
  refine ⟨hDt 1 _ _ _ rfl, S.ld5 (j := 1) rfl rfl ⟨hDt 1 _ _ _ rfl, S.ld5 (j := 2) rfl rfl ⟨hDt 1 _ _ _ rfl, S.lb5 (o := 3) rfl ⟨hDt 2 _ _ _ rfl, S.ld6 (j := 2) rfl rfl ⟨hDt 1 _ _ _ rfl, S.ld5 (j := 9) rfl rfl ?_⟩⟩⟩⟩⟩
  refine (payload24_c (n := C.g.s) (sd := sd) (by omega)).mono ?_
  rintro ⟨⟨va, vn, vc⟩, ⟨⟩⟩ w104 r104
  dsimp only at r104 ⊢
  have T := res_rdL T r104 (pay24_byt _ _)
  have hvn : vn = C.g.s.toNat := by have := r104.ints.len; rw [pay24_len] at this; exact this.symm
  refine ⟨hkeep _ T.fr, ?_⟩
  refine (Write24_c (b := b) (pa := pa) (dd := ⟨va, vn, vc, pay24 C.g.s.toNat sd⟩) h hr (.inr (by rw [← hgg]; dsimp only; omega)) ho (T.fro [1, 1, 1, 1] rfl)).mono ?_
  rintro ⟨(e : Int), ⟨⟩⟩ w105 ⟨-, T⟩
  dsimp only at T ⊢
  refine ⟨hkeep _ T.fr, ?_⟩
  have S := back _ _ (T.take (Rs := plS pp p q g s O (wrtC n C b pa hd (pay24 C.g.s.toNat sd)).1 L []))
  clear T back hDo hDt hkeep hG
  have hC1 : (wrtC n C b pa hd (pay24 C.g.s.toNat sd)).1 = if (0 ≤ b ∧ b < (n : Int)) ∧ HRight hd then (prgP C (4 + b) pa (mkL C.g hd (pay24 C.g.s.toNat sd) [])).1 else C := by
    unfold wrtC
    by_cases h1 : 0 ≤ b ∧ b < (n : Int)
    · by_cases h2 : HRight hd
      · rw [if_pos h1, if_pos h2, if_pos ⟨h1, h2⟩]
      · rw [if_pos h1, if_neg h2, if_neg (fun x => h2 x.2)]
    · rw [if_neg h1, if_neg (fun x => h1 x.1)]
  generalize (wrtC n C b pa hd (pay24 C.g.s.toNat sd)).1 = C1 at S hC1 ⊢
  refine S.ld5 (j := 1) rfl rfl (cond_d (fun h0 => ?_) (fun h0 => ?_))
  · rw [if_neg (fun x => by omega)] at hC1
    subst hC1
    refine S.la6 rfl ?_
    refine S.st4 (by rfl) fun w106 S f106 => ?_
    refine S.la4 rfl ?_
    have S := (S.fro [4, 4, 4] rfl).tail.tail.tail
    have S := S.fro [] rfl
    exact ⟨B, l, o, rfl, hdb, S⟩
  refine S.ld5 (j := 1) rfl rfl (S.ld6 (j := 10) rfl rfl (cond_d (fun h1 => ?_) (fun h1 => ?_)))
  · dsimp only at h1
    rw [if_neg (fun x => by omega)] at hC1
    subst hC1
    refine S.la6 rfl ?_
    refine S.st4 (by rfl) fun w107 S f107 => ?_
    refine S.la4 rfl ?_
    have S := (S.fro [4, 4, 4] rfl).tail.tail.tail
    have S := S.fro [] rfl
    exact ⟨B, l, o, rfl, hdb, S⟩
  dsimp only at h1
  have hb : 0 ≤ b ∧ b < (n : Int) := ⟨by omega, by omega⟩
  refine S.lb5 (o := 3) rfl ?_
  refine (HRight_c (h := hd)).mono ?_
  rintro ⟨(r : Bool), ⟨⟩⟩ w108 ⟨h4, x4⟩
  dsimp only at h4 ⊢
  subst h4
  have S := S.stepE x4
  by_cases hH : HRight hd
  case neg =>
    refine cond_t (by rw [decide_eq_false hH]; rfl) ?_
    rw [if_neg (fun x => hH x.2)] at hC1
    subst hC1
    refine S.la6 rfl ?_
    refine S.st4 (by rfl) fun w109 S f109 => ?_
    refine S.la4 rfl ?_
    have S := (S.fro [4, 4, 4] rfl).tail.tail.tail
    have S := S.fro [] rfl
    exact ⟨B, l, o, rfl, hdb, S⟩
  refine cond_f (by rw [decide_eq_true hH]; rfl) ?_
  rw [if_pos ⟨hb, hH⟩] at hC1
  have bm : Byt (mkL C.g hd (pay24 C.g.s.toNat sd) []) := mkL_byt hr hH (pay24_byt _ _) Byt.nil
  have rg : Rng .i64 ((4 : Int) + b) := Rng.i64 (by omega) (by omega)
  refine ⟨fun v w' => ∃ (bx : Nat) (B' : SlP TBd.T), v.1 = some (⟨bx, 0, none⟩ : Addr) ∧ B'.l.map bdOf = C1.bs ∧ Sep E w0 w' (BoxA bx 38 (plV B' f C1 l o) :: BoxA b5 38 zPL :: plS pp p q g s O C1 L (rpS B' l o L O Rs)), ?_, ?_⟩
  case refine_1 =>
    clear S
    rintro ⟨u, e2, ⟨⟩⟩ w90 ⟨bx, B', hu, hdb', S⟩
    dsimp only at hu
    subst hu
    exact PtrK.of rfl (S.la0 rfl (S.st1 (by rfl) fun w91 S f91 => S.la1 rfl ⟨B', l, o, rfl, hdb', S.tail.tail⟩))
  refine S.reg fun D hD hkeep S T => ?_
  have X := T.fr
  clear T
  refine ⟨hD _ S.bl6, S.lb6 (o := 0) rfl ⟨hD _ S.bl5, S.ld5 (j := 1) rfl rfl ⟨rg, hD _ S.bl5, S.ld5 (j := 2) rfl rfl ⟨hD _ S.bl6, S.lb6 (o := 0) rfl ⟨hD _ S.bl5, S.lb5 (o := 3) rfl ⟨hD _ S.bl6, S.ld6 (j := 2) rfl rfl ⟨hD _ S.bl5, S.ld5 (j := 9) rfl rfl ?_⟩⟩⟩⟩⟩⟩⟩
  refine ⟨?_, ?_⟩
  · refine (payload24_c (n := C.g.s) (sd := sd) (by omega)).mono ?_
    rintro ⟨⟨va, vn, vc⟩, ⟨⟩⟩ w110 r110
    dsimp only at r110 ⊢
    have S := res_rdL S r110 (pay24_byt _ _)
    have hvn : vn = C.g.s.toNat := by have := r110.ints.len; rw [pay24_len] at this; exact this.symm
    have X := X.trans (.of r110.ext)
    refine ⟨hkeep _ X, ?_⟩
    refine ⟨?_, ?_⟩
    · have hx111 := rdL_ints S 0 rfl
      refine (rMake_c (g := C.g) (h := hd) hr hx111.1 intsNil ⟨h.ok.g, ⟨hH, .inl rfl⟩, .inr (by dsimp only; omega)⟩).mono ?_
      rintro ⟨⟨ma, mn, mc⟩, ⟨⟩⟩ w111 r111
      dsimp only at r111 ⊢
      have S := res_rdL S r111 bm
      have X := X.trans (.of r111.ext)
      refine ⟨hkeep _ X, ?_⟩
      refine ⟨?_, ?_⟩
      · have S := S.fro [9, 9, 9] rfl
        refine (rProgram24_c (bl := 4 + b) (pa := pa) h ho hdb hf hdf S).mono ?_
        rintro ⟨_, e2, ⟨⟩⟩ w112 ⟨-, ⟨B2, hr112, hdb112, S⟩, x112⟩
        dsimp only at hr112 hdb112 S
        subst hr112
        dsimp only
        have X := X.trans x112
        refine ⟨hkeep _ X, ?_⟩
        rw [← hC1] at hdb112 ⊢
        have S := S.fro [3, 3, 3, 3, 3, 3, 3, 3, 3] rfl
        refine S.newB fun bx w113 S f113 z113 => ?_
        have ybx := Fr.nw X z113
        have X := X.trans f113
        refine ⟨hkeep _ X, ?_⟩
        refine S.st0 (by rfl) fun w114 S f114 => ?_
        have X := Fr.box X ybx f114
        refine ⟨hkeep _ X, ?_⟩
        have S := (S.fro [1, 1, 6, 6] rfl).tail.tail.tail.tail
        have S := S.fro [0, 4] rfl
        exact ⟨bx, B2, rfl, hdb112, S⟩
      · refine S.newB fun bx w115 S f115 z115 => ?_
        have ybx := Fr.nw X z115
        have X := X.trans f115
        refine ⟨hkeep _ X, ?_⟩
        have S := S.fro [10, 10, 10, 1] rfl
        refine (rProgram24_c (bl := 4 + b) (pa := pa) h ho hdb hf hdf S).mono ?_
        rintro ⟨_, e2, ⟨⟩⟩ w116 ⟨-, ⟨B2, hr116, hdb116, S⟩, x116⟩
        dsimp only at hr116 hdb116 S
        subst hr116
        dsimp only
        have X := X.trans x116
        refine ⟨hkeep _ X, ?_⟩
        rw [← hC1] at hdb116 ⊢
        have S := S.fro [4, 3, 3, 3, 3, 3, 3, 3, 3, 3] rfl
        refine S.st0 (by rfl) fun w117 S f117 => ?_
        have X := Fr.box X ybx f117
        refine ⟨hkeep _ X, ?_⟩
        have S := (S.fro [1, 1, 6, 6] rfl).tail.tail.tail.tail
        have S := S.fro [0, 4] rfl
        exact ⟨bx, B2, rfl, hdb116, S⟩
    · refine S.newB fun bx w118 S f118 z118 => ?_
      have ybx := Fr.nw X z118
      have X := X.trans f118
      refine ⟨hkeep _ X, ?_⟩
      have hx119 := rdL_ints S 1 rfl
      refine (rMake_c (g := C.g) (h := hd) hr hx119.1 intsNil ⟨h.ok.g, ⟨hH, .inl rfl⟩, .inr (by dsimp only; omega)⟩).mono ?_
      rintro ⟨⟨ma, mn, mc⟩, ⟨⟩⟩ w119 r119
      dsimp only at r119 ⊢
      have S := res_rdL S r119 bm
      have X := X.trans (.of r119.ext)
      refine ⟨hkeep _ X, ?_⟩
      have S := S.fro [10, 10, 10] rfl
      refine (rProgram24_c (bl := 4 + b) (pa := pa) h ho hdb hf hdf S).mono ?_
      rintro ⟨_, e2, ⟨⟩⟩ w120 ⟨-, ⟨B2, hr120, hdb120, S⟩, x120⟩
      dsimp only at hr120 hdb120 S
      subst hr120
      dsimp only
      have X := X.trans x120
      refine ⟨hkeep _ X, ?_⟩
      rw [← hC1] at hdb120 ⊢
      have S := S.fro [3, 3, 3, 3, 3, 3, 3, 3, 3, 3] rfl
      refine S.st1 (by rfl) fun w121 S f121 => ?_
      have X := Fr.box X ybx f121
      refine ⟨hkeep _ X, ?_⟩
      have S := (S.fro [0, 1, 6, 6] rfl).tail.tail.tail.tail
      have S := S.fro [0, 4] rfl
      exact ⟨bx, B2, rfl, hdb120, S⟩
  · refine S.newB fun bx w122 S f122 z122 => ?_
    have ybx := Fr.nw X z122
    have X := X.trans f122
    refine ⟨hkeep _ X, ?_⟩
    refine (payload24_c (n := C.g.s) (sd := sd) (by omega)).mono ?_
    rintro ⟨⟨va, vn, vc⟩, ⟨⟩⟩ w123 r123
    dsimp only at r123 ⊢
    have S := res_rdL S r123 (pay24_byt _ _)
    have hvn : vn = C.g.s.toNat := by have := r123.ints.len; rw [pay24_len] at this; exact this.symm
    have X := X.trans (.of r123.ext)
    refine ⟨hkeep _ X, ?_⟩
    have hx124 := rdL_ints S 0 rfl
    refine (rMake_c (g := C.g) (h := hd) hr hx124.1 intsNil ⟨h.ok.g, ⟨hH, .inl rfl⟩, .inr (by dsimp only; omega)⟩).mono ?_
    rintro ⟨⟨ma, mn, mc⟩, ⟨⟩⟩ w124 r124
    dsimp only at r124 ⊢
    have S := res_rdL S r124 bm
    have X := X.trans (.of r124.ext)
    refine ⟨hkeep _ X, ?_⟩
    have S := S.fro [10, 10, 10] rfl
    refine (rProgram24_c (bl := 4 + b) (pa := pa) h ho hdb hf hdf S).mono ?_
    rintro ⟨_, e2, ⟨⟩⟩ w125 ⟨-, ⟨B2, hr125, hdb125, S⟩, x125⟩
    dsimp only at hr125 hdb125 S
    subst hr125
    dsimp only
    have X := X.trans x125
    refine ⟨hkeep _ X, ?_⟩
    rw [← hC1] at hdb125 ⊢
    have S := S.fro [3, 3, 3, 3, 3, 3, 3, 3, 3, 3] rfl
    refine S.st2 (by rfl) fun w126 S f126 => ?_
    have X := Fr.box X ybx f126
    refine ⟨hkeep _ X, ?_⟩
    have S := (S.fro [0, 0, 6, 6] rfl).tail.tail.tail.tail
    have S := S.fro [0, 4] rfl
    exact ⟨bx, B2, rfl, hdb125, S⟩
theorem copied24_c {k b pa sd : Int} {hd : Hd} (hsd : 0 ≤ sd ∧ sd < 256) (h : PI g n C L O) (hr : hd.rng) (ho : C.ops + 2 ≤ 1000000) (hdb : B.l.map bdOf = C.bs) (hf : LF.rd w0 (fun k => ¬ E k) f) (hdf : fds f = C.pl) (S : Sep E w0 w (plS pp p q g s O C L (rpS B l o L O Rs))) :
    CallV Tryz.prog 39 #[.pointer (some ⟨pp, 0, none⟩), plVal B f C l o, stpVal k b pa hd sd] w [.agg SH12, .one .bool] fun r w' =>
      StR24 E w0 w' pp p q g s f (cpyC n C b pa (sd % C.g.b) 0).1 L O Rs r.1 := by
  apply law24_copied.vc
  unfold law24_copied.P
  obtain ⟨⟨n1, n2⟩, ⟨n3, n4⟩, ⟨n5, n6⟩, n7, n8⟩ := h.ok.num
  have hle := h.le
  have hll := h.ll
  have hgg := h.gg
  obtain ⟨hln, -⟩ := rp_n (S.fro [4, 4, 4] rfl)
  have hw : IntKind.i64.wrap sd = sd := wrap_rng (Rng.i64 (by omega) (by omega))
  have hmod : Int.tmod sd C.g.b = sd % C.g.b := Int.tmod_eq_emod_of_nonneg hsd.1
  have hm0 : 0 ≤ sd % C.g.b := Int.emod_nonneg _ (by omega)
  have hm1 : sd % C.g.b < C.g.b := Int.emod_lt_of_pos _ (by omega)
  refine S.newB fun b1 w301 S f301 z301 => ?_
  refine S.newB fun b3 w302 S f302 z302 => ?_
  refine S.newB fun b5 w303 S f303 z303 => ?_
  refine S.ld1 (j := 9) rfl rfl (S.ld2 (j := 0) rfl rfl ⟨by omega, ?_⟩)
  refine S.newB fun b9 w304 S f304 z304 => ?_
  refine S.st0 (by rfl) fun w305 S f305 => ?_
  refine S.ld2 (j := 1) rfl rfl (S.ld2 (j := 2) rfl rfl ?_)
  refine S.la0 rfl ?_
  rw [hw, hmod] at S ⊢
  generalize hfb : sd % C.g.b = fb at S hm0 hm1 ⊢
  have S := S.fro [4, 4, 4, 4] rfl
  refine (Copy24_c (b := b) (pa := pa) (fb := fb) (fp := 0) h ho S).mono ?_
  rintro ⟨(e : Int), ⟨⟩⟩ w306 ⟨-, S⟩
  try dsimp only at S
  have S := S.fro [4, 4, 4, 4] rfl
  have hin : inC C fb 0 := ⟨⟨hm0, hm1⟩, by omega, by omega⟩
  have hC1 : (cpyC n C b pa fb 0).1 = if (0 ≤ b ∧ b < (n : Int)) ∧ C.off = false then (prgP C (4 + b) pa (cpyL (pgC13 C fb 0))).1 else C := by
    unfold cpyC readC
    by_cases h1 : 0 ≤ b ∧ b < (n : Int)
    · by_cases h2 : C.off = true
      · rw [if_pos h1, if_pos h2, if_neg (by decide), if_neg (fun x => by rw [h2] at x; cases x.2)]
      · rw [if_pos h1, if_neg h2, if_pos hin, if_pos rfl, if_pos ⟨h1, by simpa using h2⟩]
    · rw [if_neg h1, if_neg (fun x => h1 x.1)]
  generalize (cpyC n C b pa fb 0).1 = C1 at S hC1 ⊢
  refine S.ld2 (j := 1) rfl rfl (cond_d (fun h0 => ?_) (fun h0 => ?_))
  · rw [if_neg (fun x => by omega)] at hC1
    subst hC1
    refine S.la3 rfl ?_
    refine S.st1 (by rfl) fun w307 S f307 => ?_
    refine S.la1 rfl ?_
    have S := (S.fro [] rfl).tail.tail.tail.tail
    have S := S.fro [] rfl
    exact ⟨B, l, o, rfl, hdb, S⟩
  refine S.ld2 (j := 1) rfl rfl (S.ld3 (j := 10) rfl rfl (cond_d (fun h1 => ?_) (fun h1 => ?_)))
  · dsimp only at h1
    rw [if_neg (fun x => by omega)] at hC1
    subst hC1
    refine S.la3 rfl ?_
    refine S.st1 (by rfl) fun w308 S f308 => ?_
    refine S.la1 rfl ?_
    have S := (S.fro [] rfl).tail.tail.tail.tail
    have S := S.fro [] rfl
    exact ⟨B, l, o, rfl, hdb, S⟩
  dsimp only at h1
  have hb : 0 ≤ b ∧ b < (n : Int) := ⟨by omega, by omega⟩
  refine S.ld3 (j := 8) rfl rfl (cond_of (fun h2 => ?_) (fun h2 => ?_))
  · rw [if_neg (fun x => by rw [h2] at x; cases x.2)] at hC1
    subst hC1
    refine S.la3 rfl ?_
    refine S.st1 (by rfl) fun w309 S f309 => ?_
    refine S.la1 rfl ?_
    have S := (S.fro [] rfl).tail.tail.tail.tail
    have S := S.fro [] rfl
    exact ⟨B, l, o, rfl, hdb, S⟩
  rw [if_pos ⟨hb, h2⟩] at hC1
  have rg : Rng .i64 ((4 : Int) + b) := Rng.i64 (by omega) (by omega)
  refine ⟨fun v w' => ∃ (bx : Nat) (B' : SlP TBd.T), v.1 = some (⟨bx, 0, none⟩ : Addr) ∧ B'.l.map bdOf = C1.bs ∧ Sep E w0 w' (BoxA bx 38 (plV B' f C1 l o) :: BoxA b5 38 zPL :: plS pp p q g s O C1 L (rpS B' l o L O Rs)), ?_, ?_⟩
  case refine_1 =>
    clear S
    rintro ⟨u, e2, ⟨⟩⟩ w90 ⟨bx, B', hu, hdb', S⟩
    dsimp only at hu
    subst hu
    exact PtrK.of rfl (S.la0 rfl (S.st1 (by rfl) fun w91 S f91 => S.la1 rfl ⟨B', l, o, rfl, hdb', S.tail.tail⟩))
  refine S.reg fun D hD hkeep S T => ?_
  have X := T.fr
  clear T
  obtain ⟨GT, hGT, -⟩ := S.get (i := 8) rfl
  have hRR : RefR All _ B f C := ⟨(Ty.sl TBd).rd_mono (fun _ _ _ => trivial) hGT, hdb, LF_in hf S, hdf⟩
  have hBn := hRR.len
  rw [h.ok.bl] at hBn
  obtain ⟨qa, z, hqa, hca, hra, -, hza, hqb⟩ := hRR.nth (i := fb) hm0 (by omega)
  obtain ⟨hbk, hbo⟩ := h.ok.blk hin.1
  obtain ⟨hpk, hpl, hpb⟩ := h.ok.page hin
  have hzn : z.1.l.map (·.l) = (blkC C fb).pg := by rw [← hza]; rfl
  have hzl : z.1.l.length = C.g.p.toNat := by have := congrArg List.length hzn; rw [List.length_map, hbo.pl] at this; exact this
  have hzl2 : z.1.n = C.g.p.toNat := hra.1.1.symm.trans hzl
  obtain ⟨qp, y, hqp, hyp, hcp, hrp, -, hqpb⟩ := TBB_nth hra.1 (i := 0) (by omega) (by omega)
  have hyl : y.l = pgC13 C fb 0 := by
    have h3 : ((blkC C fb).pg)[0]? = some y.l := by rw [← hzn, List.getElem?_map, show z.1.l[0]? = some y from hyp]; rfl
    have h4 : ((blkC C fb).pg)[0]? = some (pgC13 C fb 0) := hpk
    rw [h3] at h4
    exact Option.some.inj h4
  have hIy := Ty.ints hrp
  have hyn := hIy.len
  rw [hyl, hpl] at hyn
  rw [hyl] at hIy
  refine ⟨hD _ S.bl3, S.lb3 (o := 0) rfl ⟨hD _ S.bl2, S.ld2 (j := 1) rfl rfl ⟨rg, hD _ S.bl2, S.ld2 (j := 2) rfl rfl ⟨hD _ S.bl3, S.ld3 (j := 6) rfl rfl ⟨hD _ S.bl0, S.ld0 (j := 0) rfl rfl ?_⟩⟩⟩⟩⟩
  refine ⟨⟨hm0, by dsimp only; omega⟩, qa, hqa, by rw [add_block]; exact hD _ hqb, ldp0 hca (h := .sl) (x := ⟨z.1.a, z.1.n, z.1.c⟩) rfl ?_⟩
  refine ⟨⟨by omega, by dsimp only; omega⟩, qp, hqp, by rw [add_block]; exact hD _ hqpb, ldp0 hcp (h := .sl) (x := ⟨y.a, y.n, y.c⟩) rfl ?_⟩
  dsimp only
  refine ⟨?_, ?_⟩
  · refine (Copied24_c (hIy.ext X.ext) hpb (by omega) (by omega)).mono ?_
    rintro ⟨⟨ma, mn, mc⟩, ⟨⟩⟩ w310 r310
    dsimp only at r310 ⊢
    have S := res_rdL S r310 (cpyL_byt hpb)
    have X := X.trans (.of r310.ext)
    refine ⟨hkeep _ X, ?_⟩
    refine ⟨?_, ?_⟩
    · have S := S.fro [9, 9, 9] rfl
      refine (rProgram24_c (bl := 4 + b) (pa := pa) h ho hdb hf hdf S).mono ?_
      rintro ⟨_, e2, ⟨⟩⟩ w311 ⟨-, ⟨B2, hr311, hdb311, S⟩, x311⟩
      dsimp only at hr311 hdb311 S
      subst hr311
      dsimp only
      have X := X.trans x311
      refine ⟨hkeep _ X, ?_⟩
      rw [← hC1] at hdb311 ⊢
      have S := S.fro [3, 3, 3, 3, 3, 3, 3, 3, 3] rfl
      refine S.newB fun bx w312 S f312 z312 => ?_
      have ybx := Fr.nw X z312
      have X := X.trans f312
      refine ⟨hkeep _ X, ?_⟩
      refine S.st0 (by rfl) fun w313 S f313 => ?_
      have X := Fr.box X ybx f313
      refine ⟨hkeep _ X, ?_⟩
      have S := (S.fro [1, 1, 2, 2] rfl).tail.tail.tail.tail
      have S := S.fro [] rfl
      exact ⟨bx, B2, rfl, hdb311, S⟩
    · refine S.newB fun bx w314 S f314 z314 => ?_
      have ybx := Fr.nw X z314
      have X := X.trans f314
      refine ⟨hkeep _ X, ?_⟩
      have S := S.fro [10, 10, 10, 1] rfl
      refine (rProgram24_c (bl := 4 + b) (pa := pa) h ho hdb hf hdf S).mono ?_
      rintro ⟨_, e2, ⟨⟩⟩ w315 ⟨-, ⟨B2, hr315, hdb315, S⟩, x315⟩
      dsimp only at hr315 hdb315 S
      subst hr315
      dsimp only
      have X := X.trans x315
      refine ⟨hkeep _ X, ?_⟩
      rw [← hC1] at hdb315 ⊢
      have S := S.fro [4, 3, 3, 3, 3, 3, 3, 3, 3, 3] rfl
      refine S.st0 (by rfl) fun w316 S f316 => ?_
      have X := Fr.box X ybx f316
      refine ⟨hkeep _ X, ?_⟩
      have S := (S.fro [1, 1, 2, 2] rfl).tail.tail.tail.tail
      have S := S.fro [] rfl
      exact ⟨bx, B2, rfl, hdb315, S⟩
  · refine S.newB fun bx w317 S f317 z317 => ?_
    have ybx := Fr.nw X z317
    have X := X.trans f317
    refine ⟨hkeep _ X, ?_⟩
    refine (Copied24_c (hIy.ext X.ext) hpb (by omega) (by omega)).mono ?_
    rintro ⟨⟨ma, mn, mc⟩, ⟨⟩⟩ w318 r318
    dsimp only at r318 ⊢
    have S := res_rdL S r318 (cpyL_byt hpb)
    have X := X.trans (.of r318.ext)
    refine ⟨hkeep _ X, ?_⟩
    have S := S.fro [10, 10, 10] rfl
    refine (rProgram24_c (bl := 4 + b) (pa := pa) h ho hdb hf hdf S).mono ?_
    rintro ⟨_, e2, ⟨⟩⟩ w319 ⟨-, ⟨B2, hr319, hdb319, S⟩, x319⟩
    dsimp only at hr319 hdb319 S
    subst hr319
    dsimp only
    have X := X.trans x319
    refine ⟨hkeep _ X, ?_⟩
    rw [← hC1] at hdb319 ⊢
    have S := S.fro [3, 3, 3, 3, 3, 3, 3, 3, 3, 3] rfl
    refine S.st1 (by rfl) fun w320 S f320 => ?_
    have X := Fr.box X ybx f320
    refine ⟨hkeep _ X, ?_⟩
    have S := (S.fro [0, 1, 2, 2] rfl).tail.tail.tail.tail
    have S := S.fro [] rfl
    exact ⟨bx, B2, rfl, hdb319, S⟩
end
end Go.Proofs.YtlpeoaphdmfjdaaGreat.Vc
/-! The contracts of layer 24: a step by both pools. -/
namespace Go.Proofs.YtlpeoaphdmfjdaaGreat.Vc
open Go Go.Eng Go.RowKit
section
variable {E : Nat → Prop} {w0 w : World} {pp p q n : Nat} {g : Geo} {s : SlV} {O : List Hd} {C : CD} {L : List Blk} {B : SlP TBd.T} {f : SlP TF.T} {l o : SlV} {Rs : List Asr}
theorem open24l_c {k b pa sd : Int} {hd : Hd} {sl : Bool} (h : PI g n C L O) (hr : hd.rng) (ho : C.ops + 768 ≤ 1000000) (hdb : B.l.map bdOf = C.bs) (hf : LF.rd w0 (fun k => ¬ E k) f) (hdf : fds f = C.pl) (S : Sep E w0 w (plS pp p q g s O C L (rpS B l o L O Rs))) :
    CallV Tryz.prog 37 #[.pointer (some ⟨pp, 0, none⟩), plVal B f C l o, stpVal k b pa hd sd, .bool sl] w [.agg SH12, .one .bool] fun r w' =>
      StR24 E w0 w' pp p q g s f (opC b hd sl C L O).1.1 (opC b hd sl C L O).1.2.1 (opC b hd sl C L O).1.2.2 Rs r.1 := by
  apply law24_open.vc
  unfold law24_open.P
  refine S.newB fun b1 w101 S f101 z101 => ?_
  refine S.newB fun b3 w102 S f102 z102 => ?_
  refine S.newB fun b5 w103 S f103 z103 => ?_
  cases sl
  · refine cond_f rfl ?_
    refine S.ld1 (j := 1) rfl rfl ?_
    refine S.lb1 (o := 3) rfl ?_
    have S := S.fro [3, 3, 3, 3] rfl
    refine (Begin24_c (ns := b) (o := hd) h hr ho S).mono ?_
    rintro ⟨(bb : Int), (e : Int), ⟨⟩⟩ w104 ⟨hbb, he, S⟩
    dsimp only at hbb he
    have no : ¬ (0 ≤ b ∧ b < 4) → opC b hd false C L O = ((C, L, O), 0, 2) := fun hn => if_neg hn
    refine S.ld5 (j := 1) rfl rfl (cond_d (fun h0 => ?_) (fun h0 => ?_))
    · rw [no (by omega)] at hbb he S ⊢
      subst hbb; subst he
      refine S.la6 rfl ?_
      refine cond_t rfl ?_
      refine S.st4 (by rfl) fun w105 S f105 => ?_
      refine S.la4 rfl ?_
      have S := (S.fro [4, 4, 4] rfl).tail.tail.tail
      have S := S.fro [] rfl
      exact ⟨B, l, o, rfl, hdb, S⟩
    refine S.ld5 (j := 1) rfl rfl (cond_d (fun h3 => ?_) (fun h3 => ?_))
    · rw [no (by omega)] at hbb he S ⊢
      subst hbb; subst he
      refine S.la6 rfl ?_
      refine cond_t rfl ?_
      refine S.st4 (by rfl) fun w106 S f106 => ?_
      refine S.la4 rfl ?_
      have S := (S.fro [4, 4, 4] rfl).tail.tail.tail
      have S := S.fro [] rfl
      exact ⟨B, l, o, rfl, hdb, S⟩
    have hn : 0 ≤ b ∧ b < 4 := ⟨by omega, by omega⟩
    rw [show opC b hd false C L O = opnP b hd false 128 C L O from if_pos hn] at hbb he S ⊢
    refine S.la6 rfl ?_
    refine S.ld5 (j := 1) rfl rfl ?_
    refine S.lb5 (o := 3) rfl ?_
    have S := S.fro [7, 7, 7] rfl
    refine (rOpen24_c (ns := b) (od := hd) (sl := false) h hn hr ho hdb hf hdf S).mono ?_
    rintro ⟨_, ⟨⟩⟩ w107 ⟨B2, l2, o2, hr2, hdb2, S⟩
    dsimp only at hr2
    subst hr2
    have S := S.fro [3, 3, 3, 3, 3, 3, 3] rfl
    subst hbb; subst he
    generalize opnP b hd false 128 C L O = Z at S hdb2 ⊢
    obtain ⟨⟨C2, L2, O2⟩, b2, e2⟩ := Z
    dsimp only at S hdb2 ⊢
    refine S.newB fun bg w108 S f108 z108 => ?_
    refine S.st0 (by rfl) fun w109 S f109 => ?_
    have hne : bg ≠ b5 := S.ne 0 5 (by decide) rfl rfl
    refine S.regX (fun k => k = b5) fun D hD hkeep S T => ?_
    refine ⟨hD _ S.bl0 hne, S.lb0 (o := 0) rfl ⟨hD _ S.bl0 hne, S.ld0 (j := 12) rfl rfl (cond_t (by simp) ⟨hD _ S.bl0 hne, S.ld0 (j := 13) rfl rfl ?_⟩)⟩⟩
    refine S.st5 (by rfl) fun w110 S f110 => ⟨hkeep _ f110, ?_⟩
    refine S.la5 rfl ?_
    have S := (S.fro [0, 4, 4, 4] rfl).tail.tail.tail.tail
    have S := S.fro [] rfl
    exact ⟨B2, l2, o2, rfl, hdb2, S⟩
  · refine cond_t rfl ?_
    refine S.ld1 (j := 1) rfl rfl ?_
    refine S.lb1 (o := 3) rfl ?_
    have S := S.fro [3, 3, 3, 3] rfl
    refine (Open24_c (ns := b) (o := hd) h hr ho S).mono ?_
    rintro ⟨(bb : Int), (e : Int), ⟨⟩⟩ w111 ⟨hbb, he, S⟩
    dsimp only at hbb he
    have no : ¬ (0 ≤ b ∧ b < 4) → opC b hd true C L O = ((C, L, O), 0, 2) := fun hn => if_neg hn
    refine S.ld5 (j := 1) rfl rfl (cond_d (fun h0 => ?_) (fun h0 => ?_))
    · rw [no (by omega)] at hbb he S ⊢
      subst hbb; subst he
      refine S.la6 rfl ?_
      refine cond_t rfl ?_
      refine S.st4 (by rfl) fun w112 S f112 => ?_
      refine S.la4 rfl ?_
      have S := (S.fro [4, 4, 4] rfl).tail.tail.tail
      have S := S.fro [] rfl
      exact ⟨B, l, o, rfl, hdb, S⟩
    refine S.ld5 (j := 1) rfl rfl (cond_d (fun h3 => ?_) (fun h3 => ?_))
    · rw [no (by omega)] at hbb he S ⊢
      subst hbb; subst he
      refine S.la6 rfl ?_
      refine cond_t rfl ?_
      refine S.st4 (by rfl) fun w113 S f113 => ?_
      refine S.la4 rfl ?_
      have S := (S.fro [4, 4, 4] rfl).tail.tail.tail
      have S := S.fro [] rfl
      exact ⟨B, l, o, rfl, hdb, S⟩
    have hn : 0 ≤ b ∧ b < 4 := ⟨by omega, by omega⟩
    rw [show opC b hd true C L O = opnP b hd true 128 C L O from if_pos hn] at hbb he S ⊢
    refine S.la6 rfl ?_
    refine S.ld5 (j := 1) rfl rfl ?_
    refine S.lb5 (o := 3) rfl ?_
    have S := S.fro [7, 7, 7] rfl
    refine (rOpen24_c (ns := b) (od := hd) (sl := true) h hn hr ho hdb hf hdf S).mono ?_
    rintro ⟨_, ⟨⟩⟩ w114 ⟨B2, l2, o2, hr2, hdb2, S⟩
    dsimp only at hr2
    subst hr2
    have S := S.fro [3, 3, 3, 3, 3, 3, 3] rfl
    subst hbb; subst he
    generalize opnP b hd true 128 C L O = Z at S hdb2 ⊢
    obtain ⟨⟨C2, L2, O2⟩, b2, e2⟩ := Z
    dsimp only at S hdb2 ⊢
    refine S.newB fun bg w115 S f115 z115 => ?_
    refine S.st0 (by rfl) fun w116 S f116 => ?_
    have hne : bg ≠ b5 := S.ne 0 5 (by decide) rfl rfl
    refine S.regX (fun k => k = b5) fun D hD hkeep S T => ?_
    refine ⟨hD _ S.bl0 hne, S.lb0 (o := 0) rfl ⟨hD _ S.bl0 hne, S.ld0 (j := 12) rfl rfl (cond_t (by simp) ⟨hD _ S.bl0 hne, S.ld0 (j := 13) rfl rfl ?_⟩)⟩⟩
    refine S.st5 (by rfl) fun w117 S f117 => ⟨hkeep _ f117, ?_⟩
    refine S.la5 rfl ?_
    have S := (S.fro [0, 4, 4, 4] rfl).tail.tail.tail.tail
    have S := S.fro [] rfl
    exact ⟨B2, l2, o2, rfl, hdb2, S⟩
def st24 (n : Nat) (C : CD) (L : List Blk) (O : List Hd) (k b pa : Int) (hd : Hd) (sd : Int) : CD × List Blk × List Hd :=
  if k = 1 then ((dsC n C L b).1, (dsC n C L b).2.1, O) else if k = 2 then (opC b hd true C L O).1 else if k = 3 then ((wrtC n C b pa hd (pay24 C.g.s.toNat sd)).1, L, O) else if k = 4 then ((cpyC n C b pa (sd % C.g.b) 0).1, L, O)
  else if k = 5 then ({ C with off := false }, L, O) else if k = 7 then (opC b hd false C L O).1 else if k = 8 then ((slC n C b).1, L, O) else if k = 6 then (C, chL b L.length rB L, O) else (C, L, O)
theorem step24_c {k b pa sd : Int} {hd : Hd} (hsd : 0 ≤ sd ∧ sd < 256) (h : PI g n C L O) (hr : hd.rng) (ho : C.ops + 768 ≤ 1000000) (hdb : B.l.map bdOf = C.bs) (hf : LF.rd w0 (fun k => ¬ E k) f) (hdf : fds f = C.pl) (S : Sep E w0 w (plS pp p q g s O C L (rpS B l o L O Rs))) :
    CallV Tryz.prog 9 #[.pointer (some ⟨pp, 0, none⟩), .pointer (some ⟨p, 0, none⟩), plVal B f C l o, stpVal k b pa hd sd] w [.agg SH12, .one .bool] fun r w' =>
      StR24 E w0 w' pp p q g s f (st24 n C L O k b pa hd sd).1 (st24 n C L O k b pa hd sd).2.1 (st24 n C L O k b pa hd sd).2.2 Rs r.1 := by
  apply law24_step.vc
  unfold law24_step.P
  have hle := h.le
  have hll := h.ll
  obtain ⟨hln, -⟩ := rp_n (S.fro [4, 4, 4] rfl)
  generalize hX : st24 n C L O k b pa hd sd = X
  unfold st24 at hX
  refine S.newB fun b1 w301 S f301 z301 => ?_
  refine S.newB fun b3 w302 S f302 z302 => ?_
  refine S.newB fun b5 w303 S f303 z303 => ?_
  refine S.ld1 (j := 0) rfl rfl ?_
  refine cond_eq (fun (hk : k = 1) => ?_) (fun (hk : k ≠ 1) => ?_)
  · rw [if_pos hk] at hX
    subst hX
    have no : ¬ (0 ≤ b ∧ b < (n : Int)) → dsC n C L b = (C, L, 2) := fun hn => if_neg hn
    have yes : (0 ≤ b ∧ b < (n : Int)) → dsC n C L b = dstP C L b := fun hn => if_pos hn
    refine S.ld1 (j := 1) rfl rfl ?_
    have S := S.fro [3, 3, 3, 3] rfl
    refine (Destroy24_c (b := b) h (by omega) S).mono ?_
    rintro ⟨(e : Int), ⟨⟩⟩ w304 ⟨-, S⟩
    refine S.ld5 (j := 1) rfl rfl (cond_d (fun h0 => ?_) (fun h0 => ?_))
    · rw [no (by omega)] at S ⊢
      refine S.la6 rfl ?_
      refine S.st4 (by rfl) fun w305 S f305 => ?_
      refine S.la4 rfl ?_
      have S := (S.fro [4, 4, 4] rfl).tail.tail.tail
      have S := S.fro [] rfl
      exact ⟨B, l, o, rfl, hdb, S⟩
    refine S.ld5 (j := 1) rfl rfl (S.ld6 (j := 10) rfl rfl (cond_d (fun h1 => ?_) (fun h1 => ?_)))
    · dsimp only at h1
      rw [no (by omega)] at S ⊢
      refine S.la6 rfl ?_
      refine S.st4 (by rfl) fun w306 S f306 => ?_
      refine S.la4 rfl ?_
      have S := (S.fro [4, 4, 4] rfl).tail.tail.tail
      have S := S.fro [] rfl
      exact ⟨B, l, o, rfl, hdb, S⟩
    dsimp only at h1
    have hb : 0 ≤ b ∧ b < (n : Int) := ⟨by omega, by omega⟩
    rw [yes hb] at S ⊢
    refine S.la6 rfl ?_
    refine S.ld5 (j := 1) rfl rfl ?_
    have S := S.fro [7, 7, 7] rfl
    refine (rDestroy24_c (b := b) h (by omega) hb hdb hf hdf S).mono ?_
    rintro ⟨_, e2, ⟨⟩⟩ w307 ⟨B2, l2, hr2, -, hdb2, S⟩
    dsimp only at hr2
    subst hr2
    dsimp only
    have S := S.fro [3, 3, 3, 3, 3, 3, 3] rfl
    refine S.newB fun bx w308 S f308 z308 => ?_
    refine S.st0 (by rfl) fun w309 S f309 => ?_
    refine S.la0 rfl ?_
    refine S.st5 (by rfl) fun w310 S f310 => ?_
    refine S.la5 rfl ?_
    have S := (S.fro [0, 4, 4, 4] rfl).tail.tail.tail.tail
    have S := S.fro [] rfl
    exact ⟨B2, l2, o, rfl, hdb2, S⟩
  rw [if_neg hk] at hX
  clear hk
  refine cond_eq (fun (hk : k = 2) => ?_) (fun (hk : k ≠ 2) => ?_)
  · rw [if_pos hk] at hX
    subst hX
    refine S.la2 rfl ?_
    refine S.lb1 (o := 0) rfl ?_
    have S := S.fro [3, 3, 3, 3, 3, 3, 3] rfl
    refine (open24l_c (k := k) (b := b) (pa := pa) (sd := sd) (sl := true) h hr ho hdb hf hdf S).mono ?_
    rintro ⟨_, e2, ⟨⟩⟩ w311 ⟨B2, l2, o2, hr2, hdb2, S⟩
    dsimp only at hr2
    subst hr2
    dsimp only
    refine S.st7 (by rfl) fun w312 S f312 => ?_
    refine S.la7 rfl ?_
    have S := (S.fro [7, 7, 7] rfl).tail.tail.tail
    have S := S.fro [] rfl
    exact ⟨B2, l2, o2, rfl, hdb2, S⟩
  rw [if_neg hk] at hX
  clear hk
  refine cond_eq (fun (hk : k = 3) => ?_) (fun (hk : k ≠ 3) => ?_)
  · rw [if_pos hk] at hX
    subst hX
    refine S.la2 rfl ?_
    refine S.lb1 (o := 0) rfl ?_
    have S := S.fro [3, 3, 3, 3, 3, 3, 3] rfl
    refine (write24_c (k := k) (b := b) (pa := pa) (sd := sd) h hr (by omega) hdb hf hdf S).mono ?_
    rintro ⟨_, e2, ⟨⟩⟩ w313 ⟨B2, l2, o2, hr2, hdb2, S⟩
    dsimp only at hr2
    subst hr2
    dsimp only
    refine S.st7 (by rfl) fun w314 S f314 => ?_
    refine S.la7 rfl ?_
    have S := (S.fro [7, 7, 7] rfl).tail.tail.tail
    have S := S.fro [] rfl
    exact ⟨B2, l2, o2, rfl, hdb2, S⟩
  rw [if_neg hk] at hX
  clear hk
  refine cond_eq (fun (hk : k = 4) => ?_) (fun (hk : k ≠ 4) => ?_)
  · rw [if_pos hk] at hX
    subst hX
    refine S.la2 rfl ?_
    refine S.lb1 (o := 0) rfl ?_
    have S := S.fro [3, 3, 3, 3, 3, 3, 3] rfl
    refine (copied24_c (k := k) (b := b) (pa := pa) (sd := sd) hsd h hr (by omega) hdb hf hdf S).mono ?_
    rintro ⟨_, e2, ⟨⟩⟩ w315 ⟨B2, l2, o2, hr2, hdb2, S⟩
    dsimp only at hr2
    subst hr2
    dsimp only
    refine S.st7 (by rfl) fun w316 S f316 => ?_
    refine S.la7 rfl ?_
    have S := (S.fro [7, 7, 7] rfl).tail.tail.tail
    have S := S.fro [] rfl
    exact ⟨B2, l2, o2, rfl, hdb2, S⟩
  rw [if_neg hk] at hX
  clear hk
  refine cond_eq (fun (hk : k = 5) => ?_) (fun (hk : k ≠ 5) => ?_)
  · rw [if_pos hk] at hX
    subst hX
    have S := S.fro [6] rfl
    refine (Power_e S).mono ?_
    rintro ⟨⟩ w317 S
    rw [show (!true) = false from rfl] at S
    refine S.su3 (by rfl) fun w318 S f318 => ?_
    dsimp only [List.set_cons_zero, List.set_cons_succ] at S
    refine S.la3 rfl ?_
    refine S.st1 (by rfl) fun w319 S f319 => ?_
    refine S.la1 rfl ?_
    have S := (S.fro [1, 1, 1] rfl).tail.tail.tail
    have S := S.fro [1, 1, 1] rfl
    exact ⟨B, l, o, rfl, hdb, S⟩
  rw [if_neg hk] at hX
  clear hk
  refine cond_eq (fun (hk : k = 7) => ?_) (fun (hk : k ≠ 7) => ?_)
  · rw [if_pos hk] at hX
    subst hX
    refine S.la2 rfl ?_
    refine S.lb1 (o := 0) rfl ?_
    have S := S.fro [3, 3, 3, 3, 3, 3, 3] rfl
    refine (open24l_c (k := k) (b := b) (pa := pa) (sd := sd) (sl := false) h hr ho hdb hf hdf S).mono ?_
    rintro ⟨_, e2, ⟨⟩⟩ w320 ⟨B2, l2, o2, hr2, hdb2, S⟩
    dsimp only at hr2
    subst hr2
    dsimp only
    refine S.st7 (by rfl) fun w321 S f321 => ?_
    refine S.la7 rfl ?_
    have S := (S.fro [7, 7, 7] rfl).tail.tail.tail
    have S := S.fro [] rfl
    exact ⟨B2, l2, o2, rfl, hdb2, S⟩
  rw [if_neg hk] at hX
  clear hk
  refine cond_eq (fun (hk : k = 8) => ?_) (fun (hk : k ≠ 8) => ?_)
  · rw [if_pos hk] at hX
    subst hX
    have no : ¬ (0 ≤ b ∧ b < (n : Int)) → slC n C b = (C, 2) := fun hn => if_neg hn
    have yes : (0 ≤ b ∧ b < (n : Int)) → slC n C b = selP C b := fun hn => if_pos hn
    refine S.ld1 (j := 1) rfl rfl ?_
    have S := S.fro [3, 3, 3, 3] rfl
    refine (Seal24_c (b := b) h (by omega) S).mono ?_
    rintro ⟨(e : Int), ⟨⟩⟩ w322 ⟨-, S⟩
    refine S.ld5 (j := 1) rfl rfl (cond_d (fun h0 => ?_) (fun h0 => ?_))
    · rw [no (by omega)] at S ⊢
      refine S.la6 rfl ?_
      refine S.st4 (by rfl) fun w323 S f323 => ?_
      refine S.la4 rfl ?_
      have S := (S.fro [4, 4, 4] rfl).tail.tail.tail
      have S := S.fro [] rfl
      exact ⟨B, l, o, rfl, hdb, S⟩
    refine S.ld5 (j := 1) rfl rfl (S.ld6 (j := 10) rfl rfl (cond_d (fun h1 => ?_) (fun h1 => ?_)))
    · dsimp only at h1
      rw [no (by omega)] at S ⊢
      refine S.la6 rfl ?_
      refine S.st4 (by rfl) fun w324 S f324 => ?_
      refine S.la4 rfl ?_
      have S := (S.fro [4, 4, 4] rfl).tail.tail.tail
      have S := S.fro [] rfl
      exact ⟨B, l, o, rfl, hdb, S⟩
    dsimp only at h1
    have hb : 0 ≤ b ∧ b < (n : Int) := ⟨by omega, by omega⟩
    rw [yes hb] at S ⊢
    refine S.la6 rfl ?_
    refine S.ld5 (j := 1) rfl rfl ?_
    have S := S.fro [7, 7, 7] rfl
    refine (rSeal24_c (b := b) h (by omega) ⟨by omega, by omega⟩ hdb hf hdf S).mono ?_
    rintro ⟨_, e2, ⟨⟩⟩ w325 ⟨-, B2, hr2, hdb2, S⟩
    dsimp only at hr2
    subst hr2
    dsimp only
    have S := S.fro [3, 3, 3, 3, 3, 3, 3] rfl
    refine S.newB fun bx w326 S f326 z326 => ?_
    refine S.st0 (by rfl) fun w327 S f327 => ?_
    refine S.la0 rfl ?_
    refine S.st5 (by rfl) fun w328 S f328 => ?_
    refine S.la5 rfl ?_
    have S := (S.fro [0, 4, 4, 4] rfl).tail.tail.tail.tail
    have S := S.fro [] rfl
    exact ⟨B2, l, o, rfl, hdb2, S⟩
  rw [if_neg hk] at hX
  clear hk
  refine cond_eq (fun (hk : k = 6) => ?_) (fun (hk : k ≠ 6) => ?_)
  · rw [if_pos hk] at hX
    subst hX
    have S := S.fro [5] rfl
    refine Sep.regC [ledE q L] S fun G D hG T S hDt hDo hkeep back => ?_
    have S := S.fro [] rfl
    refine ⟨hDt 1 _ _ _ rfl, S.ld2 (j := 1) rfl rfl ?_⟩
    refine (Ledger24_c (S.fro [4, 4, 0, 3] rfl)).mono ?_
    rintro ⟨pv, ⟨⟩⟩ w329 ⟨hpv, rfl⟩
    dsimp only at hpv
    subst hpv
    refine ⟨hkeep _ T.fr, ?_⟩
    refine (Release_e (b := b) T).mono ?_
    rintro ⟨(e2 : Int), ⟨⟩⟩ w330 ⟨-, T⟩
    refine ⟨hkeep _ T.fr, ?_⟩
    have S := back _ _ T
    clear T back hDo hDt hkeep hG
    refine S.ld2 (j := 1) rfl rfl (cond_d (fun h0 => ?_) (fun h0 => ?_))
    · refine S.ld2 (j := 1) rfl rfl (S.ld3 (j := 10) rfl rfl (cond_d (fun h1 => ?_) (fun h1 => ?_)))
      · dsimp only at h1
        have hin : inB b L.length := ⟨by omega, by omega⟩
        have S := S.fro [8] rfl
        have hn3 : ¬ ∃ q : Addr, l.a = some q ∧ b3 = q.block := fun ⟨q, hq, h⟩ => S.neO 3 0 (by decide) rfl rfl q hq h
        refine S.regX (fun k => ∃ q : Addr, l.a = some q ∧ k = q.block) fun D hD hkeep S T => ?_
        clear T
        obtain ⟨qa, hqa, hca, hqba⟩ := nthB (i := b) 0 S rfl (by omega) (by omega)
        have hx : 0 ≤ (gx L b.toNat).er ∧ (gx L b.toNat).er ≤ 1000000000 := h.erL (gx L b.toNat) (List.mem_of_getElem? (some_getD (by omega)))
        have hk0 := hkeep _ (Fr.refl _ _)
        have hbl : 0 ≤ b ∧ b < (l.n : Int) := ⟨by omega, by omega⟩
        have hset : L.set b.toNat (doB 2 0 (gx L b.toNat)) = chL b L.length rB L := by unfold chL; rw [if_pos hin]; rfl
        refine ⟨hD _ S.bl3 hn3, S.ld3 (j := 1) rfl rfl ⟨hD _ S.bl3 hn3, S.ld3 (j := 1) rfl rfl ?_⟩⟩
        refine ⟨?_, ?_⟩
        · refine S.ld4 (j := 10) rfl rfl ⟨hk0, ?_⟩
          refine S.ld4 (j := 10) rfl rfl ⟨hk0, ?_⟩
          refine ⟨hbl, qa, hqa, ?_⟩
          refine ⟨(gx L b.toNat).tup, hca, hk0, ?_⟩
          refine (Do24_c (k := 2) (n := 0) hx (by omega)).mono ?_
          rintro ⟨x, ⟨⟩⟩ w331 ⟨h7, x7⟩
          dsimp only at h7 ⊢
          subst h7
          have S := S.stepE x7
          refine ⟨hkeep _ (Fr.of x7).any, ?_⟩
          refine ⟨hbl, S.putF (f := Blk.vs) (fun _ => rfl) vs_one (by decide) hbl (doB 2 0 (gx L b.toNat)) fun w332 S f332 => ⟨hkeep _ ((Fr.of x7).any.trans f332), ?_⟩⟩
          rw [hset] at S
          refine S.la4 rfl ?_
          refine S.st2 (by rfl) fun w333 S f333 => ?_
          refine S.la2 rfl ?_
          have S := (S.fro [2, 2, 2] rfl).tail.tail.tail
          have S := S.fro [2, 2, 1, 1, 1] rfl
          exact ⟨B, l, o, rfl, hdb, S⟩
        · refine S.ld4 (j := 10) rfl rfl ⟨hk0, ?_⟩
          refine ⟨hbl, qa, hqa, ?_⟩
          refine ⟨?_, ?_⟩
          · refine S.ld4 (j := 10) rfl rfl ⟨hk0, ?_⟩
            refine ⟨(gx L b.toNat).tup, hca, hk0, ?_⟩
            refine (Do24_c (k := 2) (n := 0) hx (by omega)).mono ?_
            rintro ⟨x, ⟨⟩⟩ w334 ⟨h7, x7⟩
            dsimp only at h7 ⊢
            subst h7
            have S := S.stepE x7
            refine ⟨hkeep _ (Fr.of x7).any, ?_⟩
            refine ⟨hbl, S.putF (f := Blk.vs) (fun _ => rfl) vs_one (by decide) hbl (doB 2 0 (gx L b.toNat)) fun w335 S f335 => ⟨hkeep _ ((Fr.of x7).any.trans f335), ?_⟩⟩
            rw [hset] at S
            refine S.la4 rfl ?_
            refine S.st2 (by rfl) fun w336 S f336 => ?_
            refine S.la2 rfl ?_
            have S := (S.fro [2, 2, 2] rfl).tail.tail.tail
            have S := S.fro [2, 2, 1, 1, 1] rfl
            exact ⟨B, l, o, rfl, hdb, S⟩
          · refine ⟨(gx L b.toNat).tup, hca, hk0, ?_⟩
            refine ⟨?_, ?_⟩
            · refine S.ld4 (j := 10) rfl rfl ⟨hk0, ?_⟩
              refine (Do24_c (k := 2) (n := 0) hx (by omega)).mono ?_
              rintro ⟨x, ⟨⟩⟩ w337 ⟨h7, x7⟩
              dsimp only at h7 ⊢
              subst h7
              have S := S.stepE x7
              refine ⟨hkeep _ (Fr.of x7).any, ?_⟩
              refine ⟨hbl, S.putF (f := Blk.vs) (fun _ => rfl) vs_one (by decide) hbl (doB 2 0 (gx L b.toNat)) fun w338 S f338 => ⟨hkeep _ ((Fr.of x7).any.trans f338), ?_⟩⟩
              rw [hset] at S
              refine S.la4 rfl ?_
              refine S.st2 (by rfl) fun w339 S f339 => ?_
              refine S.la2 rfl ?_
              have S := (S.fro [2, 2, 2] rfl).tail.tail.tail
              have S := S.fro [2, 2, 1, 1, 1] rfl
              exact ⟨B, l, o, rfl, hdb, S⟩
            · refine (Do24_c (k := 2) (n := 0) hx (by omega)).mono ?_
              rintro ⟨x, ⟨⟩⟩ w340 ⟨h7, x7⟩
              dsimp only at h7 ⊢
              subst h7
              have S := S.stepE x7
              refine ⟨hkeep _ (Fr.of x7).any, ?_⟩
              refine S.ld4 (j := 10) rfl rfl ⟨hkeep _ (Fr.of x7).any, ?_⟩
              refine ⟨hbl, S.putF (f := Blk.vs) (fun _ => rfl) vs_one (by decide) hbl (doB 2 0 (gx L b.toNat)) fun w341 S f341 => ⟨hkeep _ ((Fr.of x7).any.trans f341), ?_⟩⟩
              rw [hset] at S
              refine S.la4 rfl ?_
              refine S.st2 (by rfl) fun w342 S f342 => ?_
              refine S.la2 rfl ?_
              have S := (S.fro [2, 2, 2] rfl).tail.tail.tail
              have S := S.fro [2, 2, 1, 1, 1] rfl
              exact ⟨B, l, o, rfl, hdb, S⟩
      · dsimp only at h1
        have hno : chL b L.length rB L = L := if_neg (fun x : inB b L.length => by have := x.2; omega)
        rw [hno] at S ⊢
        refine S.la3 rfl ?_
        refine S.st1 (by rfl) fun w343 S f343 => ?_
        refine S.la1 rfl ?_
        have S := (S.fro [1, 1, 1] rfl).tail.tail.tail
        have S := S.fro [1, 1] rfl
        exact ⟨B, l, o, rfl, hdb, S⟩
    · have hno : chL b L.length rB L = L := if_neg (fun x : inB b L.length => by have := x.1; omega)
      rw [hno] at S ⊢
      refine S.la3 rfl ?_
      refine S.st1 (by rfl) fun w344 S f344 => ?_
      refine S.la1 rfl ?_
      have S := (S.fro [1, 1, 1] rfl).tail.tail.tail
      have S := S.fro [1, 1] rfl
      exact ⟨B, l, o, rfl, hdb, S⟩
  rw [if_neg hk] at hX
  clear hk
  subst hX
  refine S.la2 rfl ?_
  refine S.st0 (by rfl) fun w345 S f345 => ?_
  refine S.la0 rfl ?_
  have S := (S.fro [] rfl).tail.tail.tail
  have S := S.fro [] rfl
  exact ⟨B, l, o, rfl, hdb, S⟩
end
end Go.Proofs.YtlpeoaphdmfjdaaGreat.Vc
/-! The law HeadMarks of layer 14: each call gives true, and what it read stays. -/
namespace Go.Proofs.YtlpeoaphdmfjdaaGreat.Vc
open Go Go.Eng Go.RowKit
def core (h : Hd) (tg : List Int) : List Int := (hdL h ++ invL (hdL h)) ++ tagL tg
def markL (h : Hd) (tg : List Int) : List Int := core h tg ++ List.replicate 8 0
theorem core_length (h : Hd) {tg : List Int} (hl : tg.length = 0 ∨ tg.length = 32) : (core h tg).length = 80 := by
  unfold core
  rw [List.length_append, List.length_append, invL_length, hdL_length, tagL_length hl]
theorem core_byt {h : Hd} (hR : HRight h) {tg : List Int} (bt : Byt tg) : Byt (core h tg) := by
  unfold core
  refine ((hdL_byt hR).append (invL_byt _)).append ?_
  unfold tagL
  split
  · exact Byt.replicate (by omega) (by omega) _
  · exact bt
theorem markL_length (h : Hd) {tg : List Int} (hl : tg.length = 0 ∨ tg.length = 32) : (markL h tg).length = 88 := by
  unfold markL
  rw [List.length_append, core_length h hl, List.length_replicate]
theorem markL_hd (h : Hd) (hg : h.rng) (tg : List Int) : hdOf (markL h tg) = h := by
  unfold markL core
  rw [List.append_assoc, List.append_assoc]
  exact part_hdL h hg _
theorem markL_ok (h : Hd) {tg : List Int} (hR : HRight h) : okR (markL h tg) := by
  refine ⟨hR.1, rfl, ?_⟩
  have p1 : part (markL h tg) 0 24 = hdL h := by
    unfold part markL core
    rw [List.drop_zero, List.append_assoc, List.append_assoc, List.take_left' (by rw [hdL_length])]
  have p2 : part (markL h tg) 24 48 = invL (hdL h) := by
    unfold part markL core
    rw [List.append_assoc, List.append_assoc, List.drop_left' (by rw [hdL_length]), List.take_left' (by rw [invL_length, hdL_length])]
  rw [p1, p2]
theorem markL_comm (h : Hd) {tg : List Int} (hl : tg.length = 0 ∨ tg.length = 32) : comm (markL h tg) = true := by
  refine decide_eq_true ⟨markL_length h hl, ?_⟩
  unfold markL
  rw [List.drop_left' (by rw [core_length h hl])]
theorem and255 : ∀ x : Fin 256, Go.bits .and .u8 ((x.val : Nat) : Int) 255 = ((x.val : Nat) : Int) := by decide +kernel
theorem getD_left {xs ys : List Int} {i : Nat} (h : i < xs.length) : (xs ++ ys).getD i 0 = xs.getD i 0 := by
  rw [List.getD_eq_getElem?_getD, List.getElem?_append_left h, ← List.getD_eq_getElem?_getD]
theorem getD_right {xs ys : List Int} {i : Nat} (h : xs.length ≤ i) : (xs ++ ys).getD i 0 = ys.getD (i - xs.length) 0 := by
  rw [List.getD_eq_getElem?_getD, List.getElem?_append_right h, ← List.getD_eq_getElem?_getD]
theorem and_mark {h : Hd} (hR : HRight h) {tg : List Int} (bt : Byt tg) (hl : tg.length = 0 ∨ tg.length = 32) : andL (endL h tg) (List.replicate 80 255 ++ List.replicate 8 0) = markL h tg := by
  refine List.ext_getElem (by rw [andL_length, endL_length h hl, markL_length h hl]) fun i h1 h2 => ?_
  have hc := core_length h hl
  rw [← getD_get h2]
  rw [markL_length h hl] at h2
  rw [show (andL (endL h tg) (List.replicate 80 255 ++ List.replicate 8 0))[i] = Go.bits .and .u8 ((endL h tg).getD i 0) ((List.replicate 80 255 ++ List.replicate 8 0 : List Int).getD i 0) by simp [andL]]
  unfold endL markL
  rw [show ((hdL h ++ invL (hdL h)) ++ tagL tg) = core h tg from rfl]
  by_cases hi : i < 80
  · rw [getD_left (xs := core h tg) (by omega), getD_left (xs := List.replicate 80 255) (by simpa using hi), getD_left (xs := core h tg) (by omega), getD_get (xs := List.replicate 80 255) (by simpa using hi), List.getElem_replicate, getD_get (xs := core h tg) (by omega)]
    obtain ⟨x, hx⟩ := byte_nat ((core_byt hR bt) _ (List.getElem_mem (by omega : i < (core h tg).length)))
    rw [hx]
    exact and255 x
  · rw [getD_right (xs := core h tg) (by omega), getD_right (xs := List.replicate 80 255) (by simp; omega), getD_right (xs := core h tg) (by omega), hc, List.length_replicate,
      getD_get (xs := List.replicate 8 (255 : Int)) (by simp; omega), List.getElem_replicate, getD_get (xs := List.replicate 8 (0 : Int)) (by simp; omega), List.getElem_replicate]
    decide +kernel
end Go.Proofs.YtlpeoaphdmfjdaaGreat.Vc
/-! The law PageBack of layer 15: each call gives true, and what it read stays. -/
namespace Go.Proofs.YtlpeoaphdmfjdaaGreat.Vc
open Go Go.Eng Go.RowKit
theorem payL_length {g : Geo} {xs : List Int} (hs : 32 ≤ g.s ∧ g.s ≤ 4096) (h : xs.length = 0 ∨ (xs.length : Int) = g.s) : (payL g xs).length = g.s.toNat := by
  unfold payL
  split
  · rw [List.length_replicate]
  · omega
theorem end_mk {g : Geo} {h : Hd} {xs ts : List Int} (hs : 32 ≤ g.s ∧ g.s ≤ 4096) (hx : xs.length = 0 ∨ (xs.length : Int) = g.s) : endP g (mkL g h xs ts) = endL h ts := by
  unfold endP mkL
  rw [List.drop_append_of_le_length (by rw [payL_length hs hx]; omega), List.drop_eq_nil_of_le (by rw [payL_length hs hx]; omega), List.nil_append]
theorem and_full {x : Int} (h : 0 ≤ x ∧ x < 256) : Go.bits .and .u8 x 255 = x := by
  obtain ⟨y, rfl⟩ := byte_nat h
  exact and255 y
theorem andL_append {xs ys zs us : List Int} (h : xs.length = zs.length) : andL (xs ++ ys) (zs ++ us) = andL xs zs ++ andL ys us := by
  refine List.ext_getElem (by simp [andL]) fun i h1 h2 => ?_
  simp only [andL, List.getElem_map, List.getElem_range, List.getElem_append, List.length_map, List.length_range]
  split
  · rename_i hi
    rw [getD_left hi, getD_left (by omega)]
  · rename_i hi
    rw [getD_right (by omega), getD_right (by omega), h]
theorem andL_ones {xs : List Int} (bx : Byt xs) {n : Nat} (h : xs.length = n) : andL xs (List.replicate n 255) = xs := by
  refine List.ext_getElem (by simp [andL]) fun i h1 h2 => ?_
  simp only [andL, List.getElem_map, List.getElem_range]
  rw [getD_get (xs := List.replicate n 255) (by simp; omega), List.getElem_replicate, and_full (bx.getD i), getD_get h2]
theorem and_mk {g : Geo} {h : Hd} {xs ts : List Int} (hs : 32 ≤ g.s ∧ g.s ≤ 4096) (hx : xs.length = 0 ∨ (xs.length : Int) = g.s) (hR : HRight h) (bx : Byt xs) (bt : Byt ts) (ht : ts.length = 0 ∨ ts.length = 32) : andL (mkL g h xs ts) (comL g) = payL g xs ++ markL h ts := by
  unfold mkL comL
  rw [show (g.s + 80).toNat = g.s.toNat + 80 by omega, ← List.replicate_append_replicate, List.append_assoc, andL_append (by rw [payL_length hs hx, List.length_replicate]), and_mark hR bt ht, andL_ones _ (payL_length hs hx)]
  unfold payL
  split
  · exact Byt.replicate (by omega) (by omega) _
  · exact bx
theorem end_mark {g : Geo} {h : Hd} {xs ts : List Int} (hs : 32 ≤ g.s ∧ g.s ≤ 4096) (hx : xs.length = 0 ∨ (xs.length : Int) = g.s) : endP g (payL g xs ++ markL h ts) = markL h ts := by
  unfold endP
  rw [List.drop_append_of_le_length (by rw [payL_length hs hx]; omega), List.drop_eq_nil_of_le (by rw [payL_length hs hx]; omega), List.nil_append]
end Go.Proofs.YtlpeoaphdmfjdaaGreat.Vc
/-! Plain laws of layer 13: what a trace tells of programs. -/
namespace Go.Proofs.YtlpeoaphdmfjdaaGreat.Vc
open Go Go.Eng Go.RowKit
theorem ref_in {C : CD} {bl pa : Int} {n : Nat} (h : refC C bl pa n = 0) : inC C bl pa ∧ n = szP C.g ∧ usC C bl pa ≤ 1 := by
  unfold refC at h
  split at h
  · cases h
  split at h
  · cases h
  rename_i h2
  have h2 := Classical.not_not.1 h2
  split at h
  · cases h
  rename_i h3
  exact ⟨h2.1, h2.2, by omega⟩
end Go.Proofs.YtlpeoaphdmfjdaaGreat.Vc
/-! Plain laws of layer 13: what only clears. -/
namespace Go.Proofs.YtlpeoaphdmfjdaaGreat.Vc
open Go Go.Eng Go.RowKit
theorem cl_of {xs ys : List Int} (bx : Byt xs) (by' : Byt ys) (hl : ys.length = xs.length) (h : ∀ i, i < 8 * xs.length → hasL ys i = true → hasL xs i = true) : andL xs ys = ys := by
  refine bits_ext (andL_byt _ _) by' (by rw [andL_length, hl]) fun i hi => ?_
  rw [andL_length] at hi
  rw [hasL_and bx by' hi]
  cases hy : hasL ys i
  · exact Bool.and_false _
  · rw [h i hi hy]; rfl
end Go.Proofs.YtlpeoaphdmfjdaaGreat.Vc
/-! Plain laws of layer 24 (pool): what a block has that was destroyed, or opened. -/
namespace Go.Proofs.YtlpeoaphdmfjdaaGreat.Vc
open Go Go.Eng Go.RowKit
theorem flat_rep2 (p z : Nat) (v : Int) : (List.replicate p (List.replicate z v)).flatten = List.replicate (p * z) v := List.flatten_replicate_replicate
theorem blk_set {C C' : CD} {n : Int} {x : BD} (hC : COk C) (hn : 0 ≤ n ∧ n < C.g.b) (hb : C'.bs = C.bs.set n.toNat x) : blkC C' n = x := by
  unfold blkC
  rw [hb, List.getD_eq_getElem?_getD, List.getElem?_set_self (by rw [hC.bl]; omega)]
  rfl
def BIn (C : CD) : Prop := ∀ x ∈ C.bs, x.sc = false → ∀ (i : Nat) (q : List Int), x.la < (i : Int) → x.pg[i]? = some q → q = List.replicate (szP C.g) 255
theorem BIn.upd {C C' : CD} {n : Int} {x : BD} (h : BIn C) (hg : C'.g = C.g) (hb : C'.bs = C.bs.set n.toNat x) (hx : x.sc = false → ∀ (i : Nat) (q : List Int), x.la < (i : Int) → x.pg[i]? = some q → q = List.replicate (szP C.g) 255) : BIn C' := fun y hy => by
  rw [hb] at hy
  rw [hg]
  rcases List.mem_or_eq_of_mem_set hy with k | k
  · exact h y k
  · rw [k]; exact hx
theorem BIn.new (g : Geo) (pl : List FD) : BIn (newC g pl) := fun x hx _ i q _ hq => by
  rw [(List.mem_replicate.1 hx).2] at hq
  exact (List.mem_replicate.1 (List.mem_of_getElem? hq)).2
theorem BIn.off {C : CD} (h : BIn C) (b : Bool) : BIn { C with off := b } := h
theorem BIn.prog {C : CD} (hC : COk C) (h : BIn C) (bl pa : Int) (xs : List Int) : BIn (progC C bl pa xs).1 := by
  unfold progC
  split
  case isFalse => exact h
  rename_i hr
  obtain ⟨hi, -, -⟩ := ref_in hr
  obtain ⟨hbk, -⟩ := hC.blk hi.1
  refine h.upd (C' := progX C bl pa xs) (n := bl) rfl rfl fun hs i q hla hq => ?_
  have hla : max (blkC C bl).la pa < (i : Int) := hla
  have hne : pa.toNat ≠ i := by have := hi.2.1; omega
  have hq : ((blkC C bl).pg.set pa.toNat _)[i]? = some q := hq
  rw [List.getElem?_set_ne hne] at hq
  exact h _ (List.mem_of_getElem? hbk) hs i q (by omega) hq
theorem BIn.scr {C : CD} (h : BIn C) (n : Int) : BIn (scrC C n).1 := by
  unfold scrC
  split
  · exact h.upd (C' := scrX C n) (n := n) rfl rfl fun hs => by cases hs
  · exact h
theorem turn_at {xs : List Int} {f : Nat → Bool} {k : Nat} (hf : ∀ i, i / 8 = k → f i = false) : ∀ m, (turn xs f m)[k]? = xs[k]?
  | 0 => rfl
  | m + 1 => by
    unfold turn
    split
    · rename_i hm
      unfold flip1
      rw [List.getElem?_set_ne (fun e => by rw [hf m e] at hm; cases hm)]
      exact turn_at hf m
    · exact turn_at hf m
theorem bit255 : ∀ j : Fin 8, bitB 255 j.val = true := by decide
theorem era_at {xs ms : List Int} {k : Nat} (h : xs[k]? = some 255) : (eraL xs ms)[k]? = some 255 := by
  unfold eraL
  rw [turn_at (fun i hi => ?_)]
  · exact h
  · unfold erF hasL
    subst hi
    rw [List.getD_eq_getElem?_getD, h]
    show (!bitB 255 (i % 8) && _) = false
    rw [bit255 ⟨i % 8, Nat.mod_lt _ (by decide)⟩]
    rfl
theorem BIn.era {C : CD} (hC : COk C) (h : BIn C) (n : Int) : BIn (eraC C n).1 := by
  unfold eraC
  split
  case isFalse => exact h
  rename_i hm
  obtain ⟨-, hn⟩ := may_zero hm
  obtain ⟨hbk, hbo⟩ := hC.blk hn
  obtain ⟨-, ⟨n3, n4⟩, -, n7, n8⟩ := hC.num
  by_cases hc : (codeC C).1 = 0
  · refine h.upd (C' := eraX C n) (n := n) (x := { blankB C.g with er := (blkC C n).er + 1 }) rfl (by show C.bs.set n.toNat (if (codeC C).1 = 0 then _ else _) = _; rw [if_pos hc]) fun _ i q _ hq => ?_
    exact (List.mem_replicate.1 (List.mem_of_getElem? hq)).2
  · refine h.upd (C' := eraX C n) (n := n) (x := { blkC C n with pg := cutL (eraL (blkC C n).pg.flatten (codeC C).2.1) C.g.p.toNat, er := (blkC C n).er + 1 }) rfl (by show C.bs.set n.toNat (if (codeC C).1 = 0 then _ else _) = _; rw [if_neg hc]) fun hs i q hla hq => ?_
    have hla : (blkC C n).la < (i : Int) := hla
    have hq : (cutL (eraL (blkC C n).pg.flatten (codeC C).2.1) C.g.p.toNat)[i]? = some q := hq
    have hlen : (eraL (blkC C n).pg.flatten (codeC C).2.1).length = C.g.p.toNat * szP C.g := by unfold eraL; rw [turn_len]; exact hbo.all.1
    have hz : C.g.p.toNat * szP C.g / C.g.p.toNat = szP C.g := Nat.mul_div_cancel_left _ (by omega)
    have hip : i < C.g.p.toNat := by
      have := (List.getElem?_eq_some_iff.1 hq).1
      rwa [(cutL_flat (z := szP C.g) (by omega) hlen).2.1] at this
    have hpi : i < (blkC C n).pg.length := by rw [hbo.pl]; exact hip
    have hold := h _ (List.mem_of_getElem? hbk) hs i _ hla (List.getElem?_eq_getElem hpi)
    have hql := (cutL_flat (z := szP C.g) (by omega) hlen).2.2 q (List.mem_of_getElem? hq)
    have hqe : q = ((eraL (blkC C n).pg.flatten (codeC C).2.1).drop (i * szP C.g)).take (szP C.g) := by
      unfold cutL at hq
      rw [List.getElem?_map, List.getElem?_range hip, hlen, hz] at hq
      exact (Option.some.inj hq).symm
    refine List.ext_getElem? fun j => ?_
    by_cases hj : j < szP C.g
    · rw [hqe, List.getElem?_take_of_lt hj, List.getElem?_drop, List.getElem?_replicate, if_pos hj]
      refine era_at ?_
      have hf := fl_get (f := id) (m := szP C.g) (l := (blkC C n).pg) (fun x hx => (hbo.pb x hx).1) (List.getElem?_eq_getElem hpi) hj
      rw [List.flatMap_id] at hf
      rw [hf, hold]
      show (List.replicate (szP C.g) (255 : Int))[j]? = _
      rw [List.getElem?_replicate, if_pos hj]
    · rw [List.getElem?_eq_none (by omega), List.getElem?_eq_none (by rw [List.length_replicate]; omega)]
theorem BIn.dst {C : CD} (hC : COk C) (ho : C.ops + 2 ≤ 1000000) (h : BIn C) (L : List Blk) (b : Int) : BIn (dstP C L b).1 := by
  obtain ⟨o1, -, -⟩ := eraC_ok hC (4 + b) (by omega)
  have h1 := h.era hC (4 + b)
  unfold dstP
  split
  · split
    · exact h1.scr _
    · exact h1.scr _
  · exact h1
theorem BIn.prg {C : CD} (hC : COk C) (ho : C.ops + 2 ≤ 1000000) (h : BIn C) (bl pa : Int) {xs : List Int} (bx : Byt xs) : BIn (prgP C bl pa xs).1 := by
  obtain ⟨o1, -, -⟩ := progC_ok hC bl pa bx (by omega)
  have h1 := h.prog hC bl pa xs
  unfold prgP
  split
  · exact h1.prog o1 bl pa _
  · exact h1
theorem BIn.fst {C : CD} (hC : COk C) (ho : C.ops + 2 ≤ 1000000) (h : BIn C) (b : Int) {hd : Hd} (hr : hd.rng) (hR : HRight hd) (sl : Bool) : BIn (fstP C b hd sl).1 := by
  obtain ⟨o1, -, -⟩ := progC_ok hC (4 + b) 0 (mkL_byt (g := C.g) hr hR Byt.nil Byt.nil) (by omega)
  have h1 := h.prog hC (4 + b) 0 (mkL C.g hd [] [])
  unfold fstP
  split
  · exact h1.prog o1 _ _ _
  · exact h1
theorem begP_C (C : CD) (L : List Blk) (O : List Hd) (b ns : Int) (o : Hd) (sl : Bool) : (begP C L O b ns o sl).1 = (fstP C b (begH L b ns o) sl).1 := by unfold begP; split <;> rfl
theorem opn_ok {g : Geo} {n : Nat} {ns : Int} {o : Hd} (hn : 0 ≤ ns ∧ ns < 4) (hr : o.rng) (sl : Bool) : ∀ (k : Nat) {C : CD} {L : List Blk} {O : List Hd}, PI g n C L O → BIn C → C.ops + 6 * k ≤ 1000000 →
    BIn (opnP ns o sl k C L O).1.1 ∧ ((opnP ns o sl k C L O).2.2 = 0 → ∃ (C1 : CD) (L1 : List Blk) (O1 : List Hd) (b : Int), PI g n C1 L1 O1 ∧ BIn C1 ∧ C1.ops + 4 ≤ 1000000 ∧ (0 ≤ b ∧ b < (n : Int)) ∧ (gx L1 b.toNat).ba = false ∧ (begP C1 L1 O1 b ns o sl).2.2.2 = 0 ∧
      (opnP ns o sl k C L O).1 = ((begP C1 L1 O1 b ns o sl).1, (begP C1 L1 O1 b ns o sl).2.1, (begP C1 L1 O1 b ns o sl).2.2.1) ∧ (opnP ns o sl k C L O).2.1 = b) ∧ ((opnP ns o sl k C L O).2.2 ≠ 0 → (opnP ns o sl k C L O).2.1 = 0)
  | 0, C, L, O, h, hB, ho => ⟨hB, fun h => absurd h (by show ¬ (19 : Int) = 0; decide), fun _ => rfl⟩
  | k + 1, C, L, O, h, hB, ho => by
    have hbd := bestT_bd (L := L) (m := fun _ x => freeB x) (ah := fun x y => decide (x.er < y.er)) L.length
    have hbd : -1 ≤ pickT L L.length ∧ pickT L L.length < (L.length : Int) := hbd
    have hfree : 0 ≤ pickT L L.length → freeB (gx L (pickT L L.length).toNat) = true := bestT_is (L := L) (m := fun _ x => freeB x) (ah := fun x y => decide (x.er < y.er)) L.length
    have hll := h.ll
    unfold opnP
    generalize pickT L L.length = b at hbd hfree ⊢
    by_cases hneg : b < 0
    · rw [if_pos hneg]
      exact ⟨hB, fun h => absurd h (by dsimp only; decide), fun _ => rfl⟩
    rw [if_neg hneg]
    have hb : 0 ≤ b ∧ b < (n : Int) := ⟨by omega, by omega⟩
    have hba : (gx L b.toNat).ba = false := by
      have := hfree hb.1
      unfold freeB at this
      cases hq : (gx L b.toNat).ba
      · rfl
      · rw [hq] at this; simp at this
    have key : ∀ {C1 : CD} {L1 : List Blk}, PI g n C1 L1 O → BIn C1 → C1.ops ≤ C.ops + 2 → (gx L1 b.toNat).ba = false → ∀ {X : (CD × List Blk × List Hd) × Int × Int},
        X = (let s := begP C1 L1 O b ns o sl
          if s.2.2.2 = 0 then ((s.1, s.2.1, s.2.2.1), b, 0) else if s.2.2.2 = 4 then ((s.1, s.2.1, s.2.2.1), 0, 4) else
          let d := dstP s.1 (chL b L.length fB s.2.1) b
          if d.2.2 = 4 then ((d.1, d.2.1, s.2.2.1), 0, 4) else opnP ns o sl k d.1 d.2.1 s.2.2.1) →
        BIn X.1.1 ∧ (X.2.2 = 0 → ∃ (C1 : CD) (L1 : List Blk) (O1 : List Hd) (b : Int), PI g n C1 L1 O1 ∧ BIn C1 ∧ C1.ops + 4 ≤ 1000000 ∧ (0 ≤ b ∧ b < (n : Int)) ∧ (gx L1 b.toNat).ba = false ∧ (begP C1 L1 O1 b ns o sl).2.2.2 = 0 ∧
          X.1 = ((begP C1 L1 O1 b ns o sl).1, (begP C1 L1 O1 b ns o sl).2.1, (begP C1 L1 O1 b ns o sl).2.2.1) ∧ X.2.1 = b) ∧ (X.2.2 ≠ 0 → X.2.1 = 0) := by
      intro C1 L1 h1 hB1 ho1 hba1 X hX
      obtain ⟨s1, s2, s3⟩ := h1.beg b (o := o) hn hr sl (by omega)
      have hBs : BIn (begP C1 L1 O b ns o sl).1 := by rw [begP_C]; exact hB1.fst h1.ok (by omega) b (begH_rng L1 b hn hr) (begH_right L1 b hn) sl
      dsimp only at hX
      by_cases h0 : (begP C1 L1 O b ns o sl).2.2.2 = 0
      · rw [if_pos h0] at hX
        subst hX
        exact ⟨hBs, fun _ => ⟨C1, L1, O, b, h1, hB1, by omega, hb, hba1, h0, rfl, rfl⟩, fun x => absurd rfl x⟩
      rw [if_neg h0] at hX
      by_cases h4 : (begP C1 L1 O b ns o sl).2.2.2 = 4
      · rw [if_pos h4] at hX
        subst hX
        exact ⟨hBs, fun h => absurd h (by dsimp only; decide), fun _ => rfl⟩
      rw [if_neg h4] at hX
      have hl : (begP C1 L1 O b ns o sl).2.1.length = L.length := by rw [s1.ll, h.ll]
      have hk := s1.chL b (φ := fB) (fun _ => rfl)
      rw [hl] at hk
      obtain ⟨d1, d2, d3⟩ := hk.dst b (by omega)
      have hBd := BIn.dst hk.ok (by omega) hBs (chL b L.length fB (begP C1 L1 O b ns o sl).2.1) b
      split at hX
      · subst hX
        exact ⟨hBd, fun h => absurd h (by dsimp only; decide), fun _ => rfl⟩
      · subst hX
        exact opn_ok hn hr sl k d1 hBd (by omega)
    by_cases hcl : (gx L b.toNat).cl = true
    · simp only [if_pos hcl]
      exact key h hB (by omega) hba rfl
    · simp only [if_neg hcl]
      obtain ⟨q1, q2, q3⟩ := h.dst b (by omega)
      have hBd := BIn.dst h.ok (by omega) hB L b
      by_cases h0 : (dstP C L b).2.2 = 0
      · simp only [if_pos h0]
        refine key q1 hBd q2 ?_ rfl
        unfold dstP at h0 ⊢
        split at h0
        · split at h0
          · cases h0
          · dsimp only at h0; split at h0 <;> cases h0
        · rename_i h5
          have h0 : (eraC C (4 + b)).2 = 0 := h0
          rw [if_neg h5]
          dsimp only
          rw [if_pos h0]
          unfold chL
          rw [if_pos (show inB b L.length from ⟨hb.1, by omega⟩)]
          show (gx (L.set b.toNat (eB (gx L b.toNat))) b.toNat).ba = false
          unfold gx
          rw [List.getD_eq_getElem?_getD, List.getElem?_set_self (by omega)]
          exact hba
      · simp only [if_neg h0]
        by_cases h4 : (dstP C L b).2.2 = 4
        · simp only [if_pos h4]
          exact ⟨hBd, fun h => absurd h (by decide), fun _ => trivial⟩
        · simp only [if_neg h4]
          exact opn_ok hn hr sl k q1 hBd (by omega)
theorem beg_ok {g : Geo} {n : Nat} {C : CD} {L : List Blk} {O : List Hd} {b ns : Int} {o : Hd} (h : PI g n C L O) (hB : BIn C) (ho : C.ops + 2 ≤ 1000000) (hb : 0 ≤ b ∧ b < (n : Int)) (hn : 0 ≤ ns ∧ ns < 4) (hr : o.rng) (h0 : (begP C L O b ns o true).2.2.2 = 0) :
    (blkC (begP C L O b ns o true).1 (4 + b)).pg = (payL C.g [] ++ markL (begH L b ns o) []) :: List.replicate (C.g.p.toNat - 1) (List.replicate (szP C.g) 255) := by
  have hnn := h.nn
  have hgg := h.gg
  have hbr := begH_rng L b hn hr
  have hbR := begH_right L b (o := o) hn
  rw [begP_C]
  have h0 : (fstP C b (begH L b ns o) true).2 = 0 := by
    unfold begP at h0
    split at h0
    · assumption
    · exact h0
  generalize begH L b ns o = hd at h0 hbr hbR ⊢
  have bm : Byt (mkL C.g hd [] []) := mkL_byt hbr hbR Byt.nil Byt.nil
  obtain ⟨o1, p1, p2⟩ := progC_ok h.ok (4 + b) 0 bm (by omega)
  obtain ⟨k1, k2⟩ := progC_k C (4 + b) 0 (mkL C.g hd [] [])
  unfold fstP at h0 ⊢
  by_cases h1 : (progC C (4 + b) 0 (mkL C.g hd [] [])).2 = 0
  case neg => rw [if_neg (fun x => h1 x.1)] at h0; exact absurd h0 h1
  rw [if_pos ⟨h1, rfl⟩] at h0 ⊢
  unfold selP at h0 ⊢
  rw [k1] at h0 ⊢
  have hr1 : refC C (4 + b) 0 (mkL C.g hd [] []).length = 0 ∧ (codeC C).1 = 0 ∧ (progC C (4 + b) 0 (mkL C.g hd [] [])).1 = progX C (4 + b) 0 (mkL C.g hd [] []) := by
    unfold progC at h1 ⊢
    by_cases hx : refC C (4 + b) 0 (mkL C.g hd [] []).length = 0
    · rw [if_pos hx] at h1 ⊢; exact ⟨hx, h1, rfl⟩
    · rw [if_neg hx] at h1; exact absurd h1 hx
  obtain ⟨r1, c1, e1⟩ := hr1
  rw [e1] at h0 o1 ⊢
  have hr2 : refC (progX C (4 + b) 0 (mkL C.g hd [] [])) (4 + b) 0 (comL C.g).length = 0 ∧ (codeC (progX C (4 + b) 0 (mkL C.g hd [] []))).1 = 0 ∧ (progC (progX C (4 + b) 0 (mkL C.g hd [] [])) (4 + b) 0 (comL C.g)).1 = progX (progX C (4 + b) 0 (mkL C.g hd [] [])) (4 + b) 0 (comL C.g) := by
    unfold progC at h0 ⊢
    by_cases hx : refC (progX C (4 + b) 0 (mkL C.g hd [] [])) (4 + b) 0 (comL C.g).length = 0
    · rw [if_pos hx] at h0 ⊢; exact ⟨hx, h0, rfl⟩
    · rw [if_neg hx] at h0; exact absurd h0 hx
  obtain ⟨r2, c2, e2⟩ := hr2
  rw [e2]
  obtain ⟨hi, -, hu1⟩ := ref_in r1
  obtain ⟨-, -, hu2⟩ := ref_in r2
  obtain ⟨hbk, hbo⟩ := h.ok.blk hi.1
  have hb1 : (progX C (4 + b) 0 (mkL C.g hd [] [])).bs = C.bs.set (4 + b).toNat { blkC C (4 + b) with pg := (blkC C (4 + b)).pg.set (0 : Int).toNat (if (codeC C).1 = 0 then andL (pgC13 C (4 + b) 0) (mkL C.g hd [] []) else progL (pgC13 C (4 + b) 0) (mkL C.g hd [] []) (codeC C).2.1 (!(codeC C).2.2)), us := (blkC C (4 + b)).us.set (0 : Int).toNat (usC C (4 + b) 0 + 1), la := max (blkC C (4 + b)).la 0 } := rfl
  have q1 := blk_set h.ok hi.1 hb1
  rw [if_pos c1] at q1
  have hus := (h.ok.us hi)
  have hul : (0 : Int).toNat < (blkC C (4 + b)).us.length := by rw [hbo.ul]; have := hi.2; omega
  have hu3 : usC (progX C (4 + b) 0 (mkL C.g hd [] [])) (4 + b) 0 = usC C (4 + b) 0 + 1 := by
    unfold usC
    rw [q1]
    dsimp only
    rw [List.getD_eq_getElem?_getD, List.getElem?_set_self hul]
    rfl
  rw [hu3] at hu2
  have hu0 : usC C (4 + b) 0 = 0 := by have := hus.2.1; omega
  have hfree : (blkC C (4 + b)).sc = false ∧ (blkC C (4 + b)).la < 0 := by
    unfold refC at r1
    split at r1
    · cases r1
    split at r1
    · cases r1
    split at r1
    · cases r1
    rename_i hs
    split at r1
    · cases r1
    rename_i hl
    refine ⟨by cases hq : (blkC C (4 + b)).sc; rfl; exact absurd (.inl hq) hs, ?_⟩
    by_cases hla : (0 : Int) ≤ (blkC C (4 + b)).la
    · exact absurd ⟨hu0, hla⟩ hl
    · omega
  have hpl := hbo.pl
  have hp := h.ok.num.2.1
  have hpages : (blkC C (4 + b)).pg = List.replicate C.g.p.toNat (List.replicate (szP C.g) 255) := by
    refine List.ext_getElem (by rw [hpl, List.length_replicate]) fun i h1 h2 => ?_
    rw [List.getElem_replicate]
    exact hB _ (List.mem_of_getElem? hbk) hfree.1 i _ (by have := hfree.2; omega) (List.getElem?_eq_getElem h1)
  have hrep : C.g.p.toNat = (C.g.p.toNat - 1) + 1 := by omega
  have hp0 : pgC13 C (4 + b) 0 = List.replicate (szP C.g) 255 := by
    unfold pgC13
    rw [hpages, List.getD_eq_getElem?_getD, List.getElem?_replicate, if_pos (by show 0 < _; omega)]
    rfl
  have hml : (mkL C.g hd [] []).length = szP C.g := by
    have := mkL_len13 C.g hd
    obtain ⟨-, -, -, n7, n8⟩ := h.ok.num
    omega
  have hand : andL (List.replicate (szP C.g) 255) (mkL C.g hd [] []) = mkL C.g hd [] [] := by
    refine cl_of (Byt.replicate (by decide) (by decide) _) bm (by rw [List.length_replicate, hml]) fun i hi' _ => ?_
    rw [List.length_replicate] at hi'
    unfold hasL
    rw [List.getD_eq_getElem?_getD, List.getElem?_replicate, if_pos (by omega)]
    exact bit255 ⟨i % 8, Nat.mod_lt _ (by decide)⟩
  rw [hp0, hand] at q1
  have hb2 : (progX (progX C (4 + b) 0 (mkL C.g hd [] [])) (4 + b) 0 (comL C.g)).bs = (progX C (4 + b) 0 (mkL C.g hd [] [])).bs.set (4 + b).toNat { blkC (progX C (4 + b) 0 (mkL C.g hd [] [])) (4 + b) with pg := (blkC (progX C (4 + b) 0 (mkL C.g hd [] [])) (4 + b)).pg.set (0 : Int).toNat (if (codeC (progX C (4 + b) 0 (mkL C.g hd [] []))).1 = 0 then andL (pgC13 (progX C (4 + b) 0 (mkL C.g hd [] [])) (4 + b) 0) (comL C.g) else progL (pgC13 (progX C (4 + b) 0 (mkL C.g hd [] [])) (4 + b) 0) (comL C.g) (codeC (progX C (4 + b) 0 (mkL C.g hd [] []))).2.1 (!(codeC (progX C (4 + b) 0 (mkL C.g hd [] []))).2.2)), us := (blkC (progX C (4 + b) 0 (mkL C.g hd [] [])) (4 + b)).us.set (0 : Int).toNat (usC (progX C (4 + b) 0 (mkL C.g hd [] [])) (4 + b) 0 + 1), la := max (blkC (progX C (4 + b) 0 (mkL C.g hd [] [])) (4 + b)).la 0 } := rfl
  have q2 := blk_set o1 hi.1 hb2
  rw [if_pos c2] at q2
  have hp1 : pgC13 (progX C (4 + b) 0 (mkL C.g hd [] [])) (4 + b) 0 = mkL C.g hd [] [] := by
    unfold pgC13
    rw [q1]
    dsimp only
    rw [List.getD_eq_getElem?_getD, List.getElem?_set_self (by rw [hpl]; show 0 < _; omega)]
    rfl
  rw [hp1, and_mk h.ok.g.sec (.inl rfl) hbR Byt.nil Byt.nil (.inl rfl), q1] at q2
  rw [q2]
  dsimp only
  rw [hpages, hrep, List.replicate_succ]
  rfl
end Go.Proofs.YtlpeoaphdmfjdaaGreat.Vc
/-! What the laws of layer 24 share: a step keeps a pool right; does the program answer at all? -/
namespace Go.Proofs.YtlpeoaphdmfjdaaGreat.Vc
open Go Go.Eng Go.RowKit
theorem begP_k (C : CD) (L : List Blk) (O : List Hd) (b ns : Int) (o : Hd) (sl : Bool) : (begP C L O b ns o sl).1.pl = C.pl := by rw [begP_C]; exact fstP_k ..
theorem opnP_k (ns : Int) (o : Hd) (sl : Bool) : ∀ (k : Nat) (C : CD) (L : List Blk) (O : List Hd), (opnP ns o sl k C L O).1.1.pl = C.pl
  | 0, C, L, O => rfl
  | k + 1, C, L, O => by
    unfold opnP
    generalize pickT L L.length = b
    split
    · rfl
    dsimp only
    have hr : ∀ C1 L1 (e1 : Int), (if (gx L b.toNat).cl = true then (C, L, 0) else dstP C L b) = (C1, L1, e1) → C1.pl = C.pl := fun C1 L1 e1 hq => by
      split at hq
      · cases hq; rfl
      · have := dstP_k C L b; rw [hq] at this; exact this
    generalize hR : (if (gx L b.toNat).cl = true then (C, L, 0) else dstP C L b) = R
    obtain ⟨C1, L1, e1⟩ := R
    have h1 := hr C1 L1 e1 hR
    dsimp only
    split
    · split
      · exact (begP_k ..).trans h1
      split
      · exact (begP_k ..).trans h1
      split
      · exact ((dstP_k ..).trans (begP_k ..)).trans h1
      · exact (opnP_k ns o sl k _ _ _).trans (((dstP_k ..).trans (begP_k ..)).trans h1)
    · split
      · exact h1
      · exact (opnP_k ns o sl k _ _ _).trans h1
section
variable {g : Geo} {n : Nat} {C : CD} {L : List Blk} {O : List Hd}
theorem opC_ok {ns : Int} {o : Hd} (hr : o.rng) (sl : Bool) (h : PI g n C L O) (hB : BIn C) (ho : C.ops + 768 ≤ 1000000) :
    PI g n (opC ns o sl C L O).1.1 (opC ns o sl C L O).1.2.1 (opC ns o sl C L O).1.2.2 ∧ BIn (opC ns o sl C L O).1.1 ∧ (opC ns o sl C L O).1.1.ops ≤ C.ops + 768 ∧ (opC ns o sl C L O).1.1.pl = C.pl := by
  unfold opC
  split
  · rename_i hn
    obtain ⟨a1, a2, a3⟩ := PI.opn (o := o) hn hr sl 128 h (by omega)
    exact ⟨a1, (opn_ok hn hr sl 128 h hB (by omega)).1, by omega, opnP_k ..⟩
  · exact ⟨h, hB, by dsimp only; omega, rfl⟩
theorem prg_ok (h : PI g n C L O) (hB : BIn C) (ho : C.ops + 768 ≤ 1000000) (bl pa : Int) {xs : List Int} (bx : Byt xs) : PI g n (prgP C bl pa xs).1 L O ∧ BIn (prgP C bl pa xs).1 ∧ (prgP C bl pa xs).1.ops ≤ C.ops + 768 ∧ (prgP C bl pa xs).1.pl = C.pl := by
  obtain ⟨a1, a2, a3⟩ := h.prg bl pa bx (by omega)
  exact ⟨a1, hB.prg h.ok (by omega) bl pa bx, by omega, (prgP_k ..).1⟩
theorem st24_ok {k b pa sd : Int} {hd : Hd} (hr : hd.rng) (h : PI g n C L O) (hB : BIn C) (ho : C.ops + 768 ≤ 1000000) :
    PI g n (st24 n C L O k b pa hd sd).1 (st24 n C L O k b pa hd sd).2.1 (st24 n C L O k b pa hd sd).2.2 ∧ BIn (st24 n C L O k b pa hd sd).1 ∧ (st24 n C L O k b pa hd sd).1.ops ≤ C.ops + 768 ∧ (st24 n C L O k b pa hd sd).1.pl = C.pl := by
  have same : PI g n C L O ∧ BIn C ∧ C.ops ≤ C.ops + 768 ∧ C.pl = C.pl := ⟨h, hB, by omega, rfl⟩
  unfold st24
  split
  · dsimp only
    unfold dsC
    split
    · obtain ⟨a1, a2, a3⟩ := h.dst b (by omega)
      exact ⟨a1, BIn.dst h.ok (by omega) hB L b, by omega, dstP_k ..⟩
    · exact same
  split
  · exact opC_ok hr true h hB ho
  split
  · dsimp only
    unfold wrtC
    split
    · split
      · rename_i hH
        exact prg_ok h hB ho _ _ (mkL_byt hr hH (pay24_byt _ _) Byt.nil)
      · exact same
    · exact same
  split
  · dsimp only
    unfold cpyC
    split
    · split
      · rename_i hrd
        refine prg_ok h hB ho _ _ (cpyL_byt (h.ok.page ?_).2.2)
        unfold readC at hrd
        split at hrd
        · cases hrd
        · split at hrd
          · assumption
          · cases hrd
      · exact same
    · exact same
  split
  · exact ⟨⟨⟨h.ok.g, h.ok.lg, h.ok.bl, h.ok.bo, h.ok.pm, h.ok.ops⟩, h.gg, h.nn, h.ll, h.ol, h.er⟩, hB, by dsimp only; omega, rfl⟩
  split
  · exact opC_ok hr false h hB ho
  split
  · dsimp only
    unfold slC
    split
    · obtain ⟨a1, a2, a3⟩ := h.sel b (by omega)
      exact ⟨a1, hB.prog h.ok _ _ _, by omega, (progC_k ..).2⟩
    · exact same
  split
  · exact ⟨h.chL b (φ := rB) (fun _ => rfl), hB, by dsimp only; omega, rfl⟩
  · exact same
end
abbrev oA24 : Hd := ⟨0, 0, 0, 0, 2, 0⟩
abbrev gA24 : Geo := ⟨7, 10, 64, 0, 1, 1⟩
abbrev fA24 : SlP TF.T := ⟨none, 0, 0, []⟩
theorem aw24a : (opC 1 oA24 true (C024 gA24 fA24) (L024 gA24) (O024 gA24)).2 = (0, 0) := by decide +kernel
theorem aw24b : (opC 1 oA24 true (C024 gA24 fA24) (L024 gA24) (O024 gA24)).1.1.ops = 3 := by decide +kernel
theorem aw24c : ((opC 1 oA24 true (C024 gA24 fA24) (L024 gA24) (O024 gA24)).1.2.2.getD 0 zHd).e = 2 := by decide +kernel
theorem aw24d : (opC 1 oA24 true (C024 gA24 fA24) (L024 gA24) (O024 gA24)).1.2.2.length = 3 := by decide +kernel
theorem LF_nil {w : World} : LF.rd w All fA24 := ⟨rfl, Nat.le_refl _, Nat.zero_le _, .inl ⟨rfl, rfl⟩, fun y hy => (List.not_mem_nil hy).elim⟩
theorem awake24_c {w : World} : CallV Tryz.prog 7 #[] w [.one .bool] fun r w' => r.1 = true ∧ Ext w w' := by
  apply law24_awake.vc
  unfold law24_awake.P
  have hR : Right gA24 := by decide
  have hFR : FRight (fds fA24) := ⟨fun f hf => (List.not_mem_nil hf).elim, by decide⟩
  have hPI : PI gA24 (n24 gA24) (C024 gA24 fA24) (L024 gA24) (O024 gA24) := Li24.PI hR hFR (by decide) fun F hF => (List.not_mem_nil hF).elim
  refine (made24_c (g := gA24) (f := fA24) (s := ⟨none, 0, 0⟩) LF_nil (fun f hf => (List.not_mem_nil hf).elim) hR hFR (by decide)).mono ?_
  rintro ⟨_, _, _, ⟨⟩⟩ w1 ⟨pp, p, q, t, B, l, o, hp, hc, hr, hdb, S⟩
  dsimp only at hp hc hr
  subst hp; subst hc; subst hr
  dsimp only
  refine S.newB fun b3 w2 S f2 _ => S.st0 (by rfl) fun w3 S f3 => ?_
  have S := S.tail
  obtain ⟨a1, -, a3, -⟩ := opC_ok (ns := 1) (o := oA24) (by unfold Hd.rng oA24; dsimp only; omega) true hPI (BIn.new _ _) (by decide)
  refine (Open24_c (ns := 1) (o := oA24) hPI (by unfold Hd.rng oA24; dsimp only; omega) (by decide) S).mono ?_
  rintro ⟨(bb : Int), (e : Int), ⟨⟩⟩ w4 ⟨h1, h2, S⟩
  have ha := aw24a
  have hb := aw24b
  have hcc := aw24c
  have hd := aw24d
  generalize opC 1 oA24 true (C024 gA24 fA24) (L024 gA24) (O024 gA24) = Z at h1 h2 S ha hb hcc hd a1 a3
  obtain ⟨⟨C1, L1, O1⟩, b1, e1⟩ := Z
  cases ha
  dsimp only at h1 h2 S hb hcc hd a1 a3
  subst h1; subst h2
  refine cond_t rfl (cond_t rfl ?_)
  refine (Ops_e (S.fro [3] rfl)).mono ?_
  rintro ⟨(r : Int), ⟨⟩⟩ w5 ⟨h5, rfl⟩
  dsimp only at h5 ⊢
  subst h5
  refine cond_t (by rw [hb]; rfl) ?_
  refine (Order24_c (b := 0) S).mono ?_
  rintro ⟨x, ⟨⟩⟩ w6 ⟨h6, x6⟩
  dsimp only at h6
  subst h6
  refine ⟨?_, S.ext.trans x6⟩
  rw [if_pos ⟨by omega, by rw [hd]; omega⟩]
  exact decide_eq_true hcc
end Go.Proofs.YtlpeoaphdmfjdaaGreat.Vc
/-! The law PoolDestroys of layer 24: each call gives true, and what it read stays. -/
namespace Go.Proofs.YtlpeoaphdmfjdaaGreat.Vc
open Go Go.Eng Go.RowKit
abbrev TSt24 : Ty := .cons (.int .i64) (.cons (.int .i64) (.cons (.int .i64) (.cons THd (.cons (.int .u8) .nil))))
abbrev LS24 : Ty := .sl TSt24
theorem hd24_rng {w : World} {G : Nat → Prop} {hk hn hc hl he ht : Int} (h : THd.rd w G (hk, hn, hc, hl, he, ht, ())) : (⟨hk, hn, hc, hl, he, ht⟩ : Hd).rng := by
  have h1 := h.2.2.2.1
  have h2 := h.2.2.2.2.1
  have h3 := h.2.2.2.2.2.1
  have e1 : 0 ≤ hl ∧ hl ≤ 4294967295 := h1
  have e2 : 0 ≤ he ∧ he ≤ 18446744073709551615 := h2
  have e3 : 0 ≤ ht ∧ ht ≤ 18446744073709551615 := h3
  unfold Hd.rng
  dsimp only
  omega
abbrev TCs24 : Ty := .cons TGeo (.cons LF (.cons LS24 .nil))
theorem big24 {w : World} {x : TCs24.T} (g0 : TCs24.ok w x) (b0 : TCs24.big x) : mFit (fds x.2.1) := by
  obtain ⟨⟨b, p, s, sp, wr, ro, ⟨⟩⟩, f, l, ⟨⟩⟩ := x
  have hf := LF.rd_of g0.2.1
  intro F hF
  obtain ⟨y, hy, rfl⟩ := List.mem_map.1 hF
  rw [TF_dat]
  have h1 := (b0.2.1.2 y hy).2.2.1.1
  have h2 := (hf.2.2.2.2 y hy).2.2.1.1
  show y.2.2.1.l.length ≤ _
  omega
end Go.Proofs.YtlpeoaphdmfjdaaGreat.Vc
