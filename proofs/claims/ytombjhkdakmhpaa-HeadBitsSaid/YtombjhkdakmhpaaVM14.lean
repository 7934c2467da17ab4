/- The plans of functions as plain statements, printed by wip/tools/vcgen.py; the kernel holds each to the code. -/
import Derived.Test.YtombjhkdakmhpaaEnv
namespace Go.Proofs.Ytombjhkdakmhpaa.Vc
open Go Go.Eng
set_option linter.unusedVariables false

/-! ### nepenthe/nepenthelaw14.HeadReads: function 10 -/
def law14_HeadReads.A : Ann := .no
def law14_HeadReads.P (a0 : Option Addr) (n0 c0 : Nat) (w : World) (K : Bool × Unit → World → Prop) : Prop :=
  CallV Try.prog 35 #[.slice a0 n0 c0] w [.agg [.int .i64, .int .i64, .int .i64, .int .u32, .int .u64, .int .u64], .one .sl, .one (.int .i64)] fun (r1 : (Int × Int × Int × Int × Int × Int × Unit) × SlV × Int × Unit) w2 =>
  NewV #[.int .i64 0, .int .i64 0, .int .i64 0, .int .u32 0, .int .u64 0, .int .u64 0] 25 w2 fun b3 w4 =>
  StoreV w4 ⟨b3, 0, none⟩ [.int .i64 r1.1.1, .int .i64 r1.1.2.1, .int .i64 r1.1.2.2.1, .int .u32 r1.1.2.2.2.1, .int .u64 r1.1.2.2.2.2.1, .int .u64 r1.1.2.2.2.2.2.1] fun w5 =>
  cond (((n0 : Nat) : Int) != 88)
  (cond (r1.2.2.1 == 2)
  (LoadA w5 ⟨b3, 0, none⟩ [.int .i64, .int .i64, .int .i64, .int .u32, .int .u64, .int .u64] fun (x6 : Int × Int × Int × Int × Int × Int × Unit) =>
  AggEq Try.prog 25 #[.int .i64 x6.1, .int .i64 x6.2.1, .int .i64 x6.2.2.1, .int .u32 x6.2.2.2.1, .int .u64 x6.2.2.2.2.1, .int .u64 x6.2.2.2.2.2.1] #[.int .i64 0, .int .i64 0, .int .i64 0, .int .u32 0, .int .u64 0, .int .u64 0] fun e7 =>
  cond e7
  (cond (((r1.2.1.n : Nat) : Int) == 0)
  (CallV Try.prog 36 #[.slice a0 n0 c0] w5 [.one .bool] fun (r8 : Bool × Unit) w9 =>
  cond (!r8.1)
  (CallV Try.prog 16 #[] w9 [.one .bool] fun (r10 : Bool × Unit) w11 =>
  K (r10.1, ()) w11)
  (K (false, ()) w9))
  (K (false, ()) w5))
  (K (false, ()) w5))
  (K (false, ()) w5))
  (CallV Try.prog 36 #[.slice a0 n0 c0] w5 [.one .bool] fun (r12 : Bool × Unit) w13 =>
  CallV Try.prog 37 #[.slice a0 n0 c0] w13 [.one .bool] fun (r14 : Bool × Unit) w15 =>
  cond (!(r12.1 == r14.1))
  (K (false, ()) w15)
  (CallV Try.prog 38 #[.slice a0 n0 c0] w15 [.agg [.int .i64, .int .i64, .int .i64, .int .u32, .int .u64, .int .u64], .one .bool] fun (r16 : (Int × Int × Int × Int × Int × Int × Unit) × Bool × Unit) w17 =>
  NewV #[.int .i64 0, .int .i64 0, .int .i64 0, .int .u32 0, .int .u64 0, .int .u64 0] 25 w17 fun b18 w19 =>
  StoreV w19 ⟨b18, 0, none⟩ [.int .i64 r16.1.1, .int .i64 r16.1.2.1, .int .i64 r16.1.2.2.1, .int .u32 r16.1.2.2.2.1, .int .u64 r16.1.2.2.2.2.1, .int .u64 r16.1.2.2.2.2.2.1] fun w20 =>
  cond (!r16.2.1)
  (cond (r1.2.2.1 == 1)
  (LoadA w20 ⟨b3, 0, none⟩ [.int .i64, .int .i64, .int .i64, .int .u32, .int .u64, .int .u64] fun (x21 : Int × Int × Int × Int × Int × Int × Unit) =>
  AggEq Try.prog 25 #[.int .i64 x21.1, .int .i64 x21.2.1, .int .i64 x21.2.2.1, .int .u32 x21.2.2.2.1, .int .u64 x21.2.2.2.2.1, .int .u64 x21.2.2.2.2.2.1] #[.int .i64 0, .int .i64 0, .int .i64 0, .int .u32 0, .int .u64 0, .int .u64 0] fun e22 =>
  cond e22
  (cond (((r1.2.1.n : Nat) : Int) == 0)
  (CallV Try.prog 16 #[] w20 [.one .bool] fun (r23 : Bool × Unit) w24 =>
  K (r23.1, ()) w24)
  (K (false, ()) w20))
  (K (false, ()) w20))
  (K (false, ()) w20))
  (cond (r1.2.2.1 == 0)
  (LoadA w20 ⟨b3, 0, none⟩ [.int .i64, .int .i64, .int .i64, .int .u32, .int .u64, .int .u64] fun (x25 : Int × Int × Int × Int × Int × Int × Unit) =>
  LoadA w20 ⟨b18, 0, none⟩ [.int .i64, .int .i64, .int .i64, .int .u32, .int .u64, .int .u64] fun (x26 : Int × Int × Int × Int × Int × Int × Unit) =>
  AggEq Try.prog 25 #[.int .i64 x25.1, .int .i64 x25.2.1, .int .i64 x25.2.2.1, .int .u32 x25.2.2.2.1, .int .u64 x25.2.2.2.2.1, .int .u64 x25.2.2.2.2.2.1] #[.int .i64 x26.1, .int .i64 x26.2.1, .int .i64 x26.2.2.1, .int .u32 x26.2.2.2.1, .int .u64 x26.2.2.2.2.1, .int .u64 x26.2.2.2.2.2.1] fun e27 =>
  cond e27
  (((0 : Int) ≤ (48 : Int) ∧ (48 : Int) ≤ (80 : Int) ∧ (80 : Int) ≤ ((c0 : Nat) : Int)) ∧
  SubK a0 48 c0 1 fun a28 =>
  CallV Try.prog 17 #[.slice r1.2.1.a r1.2.1.n r1.2.1.c, .slice a28 (80 - 48) (c0 - 48)] w20 [.one .bool] fun (r29 : Bool × Unit) w30 =>
  cond r29.1
  (CallV Try.prog 16 #[] w30 [.one .bool] fun (r31 : Bool × Unit) w32 =>
  K (r31.1, ()) w32)
  (K (false, ()) w30))
  (K (false, ()) w20))
  (K (false, ()) w20))))
theorem law14_HeadReads.vc (a0 : Option Addr) (n0 c0 : Nat) (w : World) (K : Bool × Unit → World → Prop) (h : law14_HeadReads.P a0 n0 c0 w K) : CallV Try.prog 10 #[.slice a0 n0 c0] w [.one .bool] K := by
  have e : vcFun Try.prog okf false Try.f10 law14_HeadReads.A #[.slice a0 n0 c0] w [.one .bool] K = law14_HeadReads.P a0 n0 c0 w K := by kernel_rfl
  exact vcFun.calls okf_ok follows Try.func10 (e.symm ▸ h)

/-! ### nepenthe/nepenthelaw14.HeadBits: function 11 -/
def law14_HeadBits.A : Ann := .two .no (.two .no (.two .no (.two .no (.two (.two .no (.two (.draw (.take 0 (.take 1 (.take 3 (.eff 2 (.eff 4 (.take 5 (.done)))))))) .no)) (.two (.draw (.take 1 (.take 3 (.take 4 (.both 0 (.both 2 (.both 5 (.both 6 (.take 7 (.take 8 (.take 9 (.take 10 (.eff 11 (.eff 12 (.take 13 (.take 14 (.done))))))))) 11 (.eff 6 (.take 7 (.take 8 (.take 9 (.take 10 (.eff 12 (.take 13 (.take 14 (.done)))))))))) 11 (.eff 5 (.eff 6 (.take 7 (.take 8 (.take 9 (.take 10 (.eff 12 (.take 13 (.take 14 (.done))))))))))) 11 (.eff 2 (.eff 5 (.eff 6 (.take 7 (.take 8 (.take 9 (.take 10 (.eff 12 (.take 13 (.take 14 (.done)))))))))))) 11 (.eff 0 (.eff 2 (.eff 5 (.eff 6 (.take 7 (.take 8 (.take 9 (.take 10 (.eff 12 (.take 13 (.take 14 (.done))))))))))))))))) .no)))))
def law14_HeadBits.P (p0_0 : Int) (p0_1 : Int) (p0_2 : Int) (p0_3 : Int) (p0_4 : Int) (p0_5 : Int) (a1 : Option Addr) (n1 c1 : Nat) (p2 : Bool) (w : World) (K : Bool × Unit → World → Prop) : Prop :=
  NewV #[.int .i64 p0_0, .int .i64 p0_1, .int .i64 p0_2, .int .u32 p0_3, .int .u64 p0_4, .int .u64 p0_5] 25 w fun b1 w2 =>
  LoadA w2 ⟨b1, 0, none⟩ [.int .i64, .int .i64, .int .i64, .int .u32, .int .u64, .int .u64] fun (x3 : Int × Int × Int × Int × Int × Int × Unit) =>
  CallV Try.prog 39 #[.agg #[.int .i64 x3.1, .int .i64 x3.2.1, .int .i64 x3.2.2.1, .int .u32 x3.2.2.2.1, .int .u64 x3.2.2.2.2.1, .int .u64 x3.2.2.2.2.2.1], .slice none 0 0] w2 [.one .sl, .one (.int .i64)] fun (r4 : SlV × Int × Unit) w5 =>
  cond (r4.2.1 != 0)
  (LoadA w5 ⟨b1, 0, none⟩ [.int .i64, .int .i64, .int .i64, .int .u32, .int .u64, .int .u64] fun (x6 : Int × Int × Int × Int × Int × Int × Unit) =>
  CallV Try.prog 15 #[.agg #[.int .i64 x6.1, .int .i64 x6.2.1, .int .i64 x6.2.2.1, .int .u32 x6.2.2.2.1, .int .u64 x6.2.2.2.2.1, .int .u64 x6.2.2.2.2.2.1]] w5 [.one .bool] fun (r7 : Bool × Unit) w8 =>
  cond (!r7.1)
  (cond (r4.2.1 == 2)
  (CallV Try.prog 16 #[] w8 [.one .bool] fun (r9 : Bool × Unit) w10 =>
  K (r9.1, ()) w10)
  (K (false, ()) w8))
  (K (false, ()) w8))
  (cond (((r4.1.n : Nat) : Int) != 88)
  (LoadA w5 ⟨b1, 0, none⟩ [.int .i64, .int .i64, .int .i64, .int .u32, .int .u64, .int .u64] fun (x11 : Int × Int × Int × Int × Int × Int × Unit) =>
  CallV Try.prog 15 #[.agg #[.int .i64 x11.1, .int .i64 x11.2.1, .int .i64 x11.2.2.1, .int .u32 x11.2.2.2.1, .int .u64 x11.2.2.2.2.1, .int .u64 x11.2.2.2.2.2.1]] w5 [.one .bool] fun (r12 : Bool × Unit) w13 =>
  cond (!r12.1)
  (cond (r4.2.1 == 2)
  (CallV Try.prog 16 #[] w13 [.one .bool] fun (r14 : Bool × Unit) w15 =>
  K (r14.1, ()) w15)
  (K (false, ()) w13))
  (K (false, ()) w13))
  (((0 : Int) ≤ (48 : Int) ∧ (48 : Int) ≤ ((r4.1.c : Nat) : Int)) ∧
  SubK r4.1.a 0 r4.1.c 1 fun a16 =>
  CallV Try.prog 28 #[.slice a16 (48 - 0) (r4.1.c - 0), .slice a1 n1 c1] w5 [.one .sl] fun (r17 : SlV × Unit) w18 =>
  cond (!p2)
  (DrawV fun D19 =>
  ((0 : Int) ≤ (48 : Int) ∧ (48 : Int) ≤ ((r4.1.c : Nat) : Int)) ∧
  SubK r4.1.a 0 r4.1.c 1 fun a20 =>
  CallV Try.prog 29 #[.int .u8 0, .int .i64 48] w18.drew [.one .sl] fun (r21 : SlV × Unit) w22 =>
  KeepOn D19 w18.drew w22 ∧
  CallV Try.prog 25 #[.slice a20 (48 - 0) (r4.1.c - 0), .slice r21.1.a r21.1.n r21.1.c, .slice a1 n1 c1, .bool false] w22 [.one .sl] fun (r23 : SlV × Unit) w24 =>
  KeepOn D19 w18.drew w24 ∧
  DrawV fun D25 =>
  ((0 : Int) ≤ (48 : Int) ∧ (48 : Int) ≤ ((r4.1.n : Nat) : Int)) ∧
  SubK r4.1.a 48 r4.1.c 1 fun a26 =>
  ((NewV #[] 5 w24.drew fun b27 w28 =>
  KeepOn D25 w24.drew w28 ∧
  ((AppS w28 r23.1.a r23.1.n 1 fun ns33 =>
  AppV w28 5 1 1 (some ⟨b27, 0, none⟩) 0 0 ns33 r23.1.n fun a29 n30 c31 w32 =>
  KeepOn D25 w24.drew w32 ∧
  ((AppS w32 a26 (r4.1.n - 48) 1 fun ns38 =>
  AppV w32 5 1 1 a29 n30 c31 ns38 (r4.1.n - 48) fun a34 n35 c36 w37 =>
  KeepOn D25 w24.drew w37 ∧
  ((CallV Try.prog 35 #[.slice a34 n35 c36] w37 [.agg [.int .i64, .int .i64, .int .i64, .int .u32, .int .u64, .int .u64], .one .sl, .one (.int .i64)] fun (r39 : (Int × Int × Int × Int × Int × Int × Unit) × SlV × Int × Unit) w40 =>
  KeepOn D25 w24.drew w40 ∧
  NewV #[.int .i64 0, .int .i64 0, .int .i64 0, .int .u32 0, .int .u64 0, .int .u64 0] 25 w40 fun b41 w42 =>
  KeepOn D25 w24.drew w42 ∧
  StoreV w42 ⟨b41, 0, none⟩ [.int .i64 r39.1.1, .int .i64 r39.1.2.1, .int .i64 r39.1.2.2.1, .int .u32 r39.1.2.2.2.1, .int .u64 r39.1.2.2.2.2.1, .int .u64 r39.1.2.2.2.2.2.1] fun w43 =>
  KeepOn D25 w24.drew w43 ∧
  ((0 : Int) ≤ (48 : Int) ∧ (48 : Int) ≤ ((r4.1.c : Nat) : Int)) ∧
  SubK r4.1.a 0 r4.1.c 1 fun a44 =>
  CallV Try.prog 17 #[.slice r23.1.a r23.1.n r23.1.c, .slice a44 (48 - 0) (r4.1.c - 0)] w43 [.one .bool] fun (r45 : Bool × Unit) w46 =>
  cond ((r39.2.2.1 == 0) == r45.1)
  (CallV Try.prog 16 #[] w46 [.one .bool] fun (r47 : Bool × Unit) w48 =>
  K (r47.1, ()) w48)
  (K (false, ()) w46)) ∧
  (NewV #[.int .i64 0, .int .i64 0, .int .i64 0, .int .u32 0, .int .u64 0, .int .u64 0] 25 w37 fun b49 w50 =>
  KeepOn D25 w24.drew w50 ∧
  CallV Try.prog 35 #[.slice a34 n35 c36] w50 [.agg [.int .i64, .int .i64, .int .i64, .int .u32, .int .u64, .int .u64], .one .sl, .one (.int .i64)] fun (r51 : (Int × Int × Int × Int × Int × Int × Unit) × SlV × Int × Unit) w52 =>
  KeepOn D25 w24.drew w52 ∧
  StoreV w52 ⟨b49, 0, none⟩ [.int .i64 r51.1.1, .int .i64 r51.1.2.1, .int .i64 r51.1.2.2.1, .int .u32 r51.1.2.2.2.1, .int .u64 r51.1.2.2.2.2.1, .int .u64 r51.1.2.2.2.2.2.1] fun w53 =>
  KeepOn D25 w24.drew w53 ∧
  ((0 : Int) ≤ (48 : Int) ∧ (48 : Int) ≤ ((r4.1.c : Nat) : Int)) ∧
  SubK r4.1.a 0 r4.1.c 1 fun a54 =>
  CallV Try.prog 17 #[.slice r23.1.a r23.1.n r23.1.c, .slice a54 (48 - 0) (r4.1.c - 0)] w53 [.one .bool] fun (r55 : Bool × Unit) w56 =>
  cond ((r51.2.2.1 == 0) == r55.1)
  (CallV Try.prog 16 #[] w56 [.one .bool] fun (r57 : Bool × Unit) w58 =>
  K (r57.1, ()) w58)
  (K (false, ()) w56)))) ∧
  (NewV #[.int .i64 0, .int .i64 0, .int .i64 0, .int .u32 0, .int .u64 0, .int .u64 0] 25 w32 fun b59 w60 =>
  KeepOn D25 w24.drew w60 ∧
  AppS w60 a26 (r4.1.n - 48) 1 fun ns65 =>
  AppV w60 5 1 1 a29 n30 c31 ns65 (r4.1.n - 48) fun a61 n62 c63 w64 =>
  KeepOn D25 w24.drew w64 ∧
  CallV Try.prog 35 #[.slice a61 n62 c63] w64 [.agg [.int .i64, .int .i64, .int .i64, .int .u32, .int .u64, .int .u64], .one .sl, .one (.int .i64)] fun (r66 : (Int × Int × Int × Int × Int × Int × Unit) × SlV × Int × Unit) w67 =>
  KeepOn D25 w24.drew w67 ∧
  StoreV w67 ⟨b59, 0, none⟩ [.int .i64 r66.1.1, .int .i64 r66.1.2.1, .int .i64 r66.1.2.2.1, .int .u32 r66.1.2.2.2.1, .int .u64 r66.1.2.2.2.2.1, .int .u64 r66.1.2.2.2.2.2.1] fun w68 =>
  KeepOn D25 w24.drew w68 ∧
  ((0 : Int) ≤ (48 : Int) ∧ (48 : Int) ≤ ((r4.1.c : Nat) : Int)) ∧
  SubK r4.1.a 0 r4.1.c 1 fun a69 =>
  CallV Try.prog 17 #[.slice r23.1.a r23.1.n r23.1.c, .slice a69 (48 - 0) (r4.1.c - 0)] w68 [.one .bool] fun (r70 : Bool × Unit) w71 =>
  cond ((r66.2.2.1 == 0) == r70.1)
  (CallV Try.prog 16 #[] w71 [.one .bool] fun (r72 : Bool × Unit) w73 =>
  K (r72.1, ()) w73)
  (K (false, ()) w71)))) ∧
  (NewV #[.int .i64 0, .int .i64 0, .int .i64 0, .int .u32 0, .int .u64 0, .int .u64 0] 25 w28 fun b74 w75 =>
  KeepOn D25 w24.drew w75 ∧
  AppS w75 r23.1.a r23.1.n 1 fun ns80 =>
  AppV w75 5 1 1 (some ⟨b27, 0, none⟩) 0 0 ns80 r23.1.n fun a76 n77 c78 w79 =>
  KeepOn D25 w24.drew w79 ∧
  AppS w79 a26 (r4.1.n - 48) 1 fun ns85 =>
  AppV w79 5 1 1 a76 n77 c78 ns85 (r4.1.n - 48) fun a81 n82 c83 w84 =>
  KeepOn D25 w24.drew w84 ∧
  CallV Try.prog 35 #[.slice a81 n82 c83] w84 [.agg [.int .i64, .int .i64, .int .i64, .int .u32, .int .u64, .int .u64], .one .sl, .one (.int .i64)] fun (r86 : (Int × Int × Int × Int × Int × Int × Unit) × SlV × Int × Unit) w87 =>
  KeepOn D25 w24.drew w87 ∧
  StoreV w87 ⟨b74, 0, none⟩ [.int .i64 r86.1.1, .int .i64 r86.1.2.1, .int .i64 r86.1.2.2.1, .int .u32 r86.1.2.2.2.1, .int .u64 r86.1.2.2.2.2.1, .int .u64 r86.1.2.2.2.2.2.1] fun w88 =>
  KeepOn D25 w24.drew w88 ∧
  ((0 : Int) ≤ (48 : Int) ∧ (48 : Int) ≤ ((r4.1.c : Nat) : Int)) ∧
  SubK r4.1.a 0 r4.1.c 1 fun a89 =>
  CallV Try.prog 17 #[.slice r23.1.a r23.1.n r23.1.c, .slice a89 (48 - 0) (r4.1.c - 0)] w88 [.one .bool] fun (r90 : Bool × Unit) w91 =>
  cond ((r86.2.2.1 == 0) == r90.1)
  (CallV Try.prog 16 #[] w91 [.one .bool] fun (r92 : Bool × Unit) w93 =>
  K (r92.1, ()) w93)
  (K (false, ()) w91)))) ∧
  (NewV #[.int .i64 0, .int .i64 0, .int .i64 0, .int .u32 0, .int .u64 0, .int .u64 0] 25 w24.drew fun b94 w95 =>
  KeepOn D25 w24.drew w95 ∧
  NewV #[] 5 w95 fun b96 w97 =>
  KeepOn D25 w24.drew w97 ∧
  AppS w97 r23.1.a r23.1.n 1 fun ns102 =>
  AppV w97 5 1 1 (some ⟨b96, 0, none⟩) 0 0 ns102 r23.1.n fun a98 n99 c100 w101 =>
  KeepOn D25 w24.drew w101 ∧
  AppS w101 a26 (r4.1.n - 48) 1 fun ns107 =>
  AppV w101 5 1 1 a98 n99 c100 ns107 (r4.1.n - 48) fun a103 n104 c105 w106 =>
  KeepOn D25 w24.drew w106 ∧
  CallV Try.prog 35 #[.slice a103 n104 c105] w106 [.agg [.int .i64, .int .i64, .int .i64, .int .u32, .int .u64, .int .u64], .one .sl, .one (.int .i64)] fun (r108 : (Int × Int × Int × Int × Int × Int × Unit) × SlV × Int × Unit) w109 =>
  KeepOn D25 w24.drew w109 ∧
  StoreV w109 ⟨b94, 0, none⟩ [.int .i64 r108.1.1, .int .i64 r108.1.2.1, .int .i64 r108.1.2.2.1, .int .u32 r108.1.2.2.2.1, .int .u64 r108.1.2.2.2.2.1, .int .u64 r108.1.2.2.2.2.2.1] fun w110 =>
  KeepOn D25 w24.drew w110 ∧
  ((0 : Int) ≤ (48 : Int) ∧ (48 : Int) ≤ ((r4.1.c : Nat) : Int)) ∧
  SubK r4.1.a 0 r4.1.c 1 fun a111 =>
  CallV Try.prog 17 #[.slice r23.1.a r23.1.n r23.1.c, .slice a111 (48 - 0) (r4.1.c - 0)] w110 [.one .bool] fun (r112 : Bool × Unit) w113 =>
  cond ((r108.2.2.1 == 0) == r112.1)
  (CallV Try.prog 16 #[] w113 [.one .bool] fun (r114 : Bool × Unit) w115 =>
  K (r114.1, ()) w115)
  (K (false, ()) w113))))
  (DrawV fun D116 =>
  ((0 : Int) ≤ (48 : Int) ∧ (48 : Int) ≤ ((r4.1.n : Nat) : Int)) ∧
  SubK r4.1.a 48 r4.1.c 1 fun a117 =>
  ((NewV #[] 5 w18.drew fun b118 w119 =>
  KeepOn D116 w18.drew w119 ∧
  ((AppS w119 r17.1.a r17.1.n 1 fun ns124 =>
  AppV w119 5 1 1 (some ⟨b118, 0, none⟩) 0 0 ns124 r17.1.n fun a120 n121 c122 w123 =>
  KeepOn D116 w18.drew w123 ∧
  ((AppS w123 a117 (r4.1.n - 48) 1 fun ns129 =>
  AppV w123 5 1 1 a120 n121 c122 ns129 (r4.1.n - 48) fun a125 n126 c127 w128 =>
  KeepOn D116 w18.drew w128 ∧
  ((CallV Try.prog 35 #[.slice a125 n126 c127] w128 [.agg [.int .i64, .int .i64, .int .i64, .int .u32, .int .u64, .int .u64], .one .sl, .one (.int .i64)] fun (r130 : (Int × Int × Int × Int × Int × Int × Unit) × SlV × Int × Unit) w131 =>
  KeepOn D116 w18.drew w131 ∧
  NewV #[.int .i64 0, .int .i64 0, .int .i64 0, .int .u32 0, .int .u64 0, .int .u64 0] 25 w131 fun b132 w133 =>
  KeepOn D116 w18.drew w133 ∧
  StoreV w133 ⟨b132, 0, none⟩ [.int .i64 r130.1.1, .int .i64 r130.1.2.1, .int .i64 r130.1.2.2.1, .int .u32 r130.1.2.2.2.1, .int .u64 r130.1.2.2.2.2.1, .int .u64 r130.1.2.2.2.2.2.1] fun w134 =>
  KeepOn D116 w18.drew w134 ∧
  ((0 : Int) ≤ (48 : Int) ∧ (48 : Int) ≤ ((r4.1.c : Nat) : Int)) ∧
  SubK r4.1.a 0 r4.1.c 1 fun a135 =>
  CallV Try.prog 17 #[.slice r17.1.a r17.1.n r17.1.c, .slice a135 (48 - 0) (r4.1.c - 0)] w134 [.one .bool] fun (r136 : Bool × Unit) w137 =>
  cond ((r130.2.2.1 == 0) == r136.1)
  (CallV Try.prog 16 #[] w137 [.one .bool] fun (r138 : Bool × Unit) w139 =>
  K (r138.1, ()) w139)
  (K (false, ()) w137)) ∧
  (NewV #[.int .i64 0, .int .i64 0, .int .i64 0, .int .u32 0, .int .u64 0, .int .u64 0] 25 w128 fun b140 w141 =>
  KeepOn D116 w18.drew w141 ∧
  CallV Try.prog 35 #[.slice a125 n126 c127] w141 [.agg [.int .i64, .int .i64, .int .i64, .int .u32, .int .u64, .int .u64], .one .sl, .one (.int .i64)] fun (r142 : (Int × Int × Int × Int × Int × Int × Unit) × SlV × Int × Unit) w143 =>
  KeepOn D116 w18.drew w143 ∧
  StoreV w143 ⟨b140, 0, none⟩ [.int .i64 r142.1.1, .int .i64 r142.1.2.1, .int .i64 r142.1.2.2.1, .int .u32 r142.1.2.2.2.1, .int .u64 r142.1.2.2.2.2.1, .int .u64 r142.1.2.2.2.2.2.1] fun w144 =>
  KeepOn D116 w18.drew w144 ∧
  ((0 : Int) ≤ (48 : Int) ∧ (48 : Int) ≤ ((r4.1.c : Nat) : Int)) ∧
  SubK r4.1.a 0 r4.1.c 1 fun a145 =>
  CallV Try.prog 17 #[.slice r17.1.a r17.1.n r17.1.c, .slice a145 (48 - 0) (r4.1.c - 0)] w144 [.one .bool] fun (r146 : Bool × Unit) w147 =>
  cond ((r142.2.2.1 == 0) == r146.1)
  (CallV Try.prog 16 #[] w147 [.one .bool] fun (r148 : Bool × Unit) w149 =>
  K (r148.1, ()) w149)
  (K (false, ()) w147)))) ∧
  (NewV #[.int .i64 0, .int .i64 0, .int .i64 0, .int .u32 0, .int .u64 0, .int .u64 0] 25 w123 fun b150 w151 =>
  KeepOn D116 w18.drew w151 ∧
  AppS w151 a117 (r4.1.n - 48) 1 fun ns156 =>
  AppV w151 5 1 1 a120 n121 c122 ns156 (r4.1.n - 48) fun a152 n153 c154 w155 =>
  KeepOn D116 w18.drew w155 ∧
  CallV Try.prog 35 #[.slice a152 n153 c154] w155 [.agg [.int .i64, .int .i64, .int .i64, .int .u32, .int .u64, .int .u64], .one .sl, .one (.int .i64)] fun (r157 : (Int × Int × Int × Int × Int × Int × Unit) × SlV × Int × Unit) w158 =>
  KeepOn D116 w18.drew w158 ∧
  StoreV w158 ⟨b150, 0, none⟩ [.int .i64 r157.1.1, .int .i64 r157.1.2.1, .int .i64 r157.1.2.2.1, .int .u32 r157.1.2.2.2.1, .int .u64 r157.1.2.2.2.2.1, .int .u64 r157.1.2.2.2.2.2.1] fun w159 =>
  KeepOn D116 w18.drew w159 ∧
  ((0 : Int) ≤ (48 : Int) ∧ (48 : Int) ≤ ((r4.1.c : Nat) : Int)) ∧
  SubK r4.1.a 0 r4.1.c 1 fun a160 =>
  CallV Try.prog 17 #[.slice r17.1.a r17.1.n r17.1.c, .slice a160 (48 - 0) (r4.1.c - 0)] w159 [.one .bool] fun (r161 : Bool × Unit) w162 =>
  cond ((r157.2.2.1 == 0) == r161.1)
  (CallV Try.prog 16 #[] w162 [.one .bool] fun (r163 : Bool × Unit) w164 =>
  K (r163.1, ()) w164)
  (K (false, ()) w162)))) ∧
  (NewV #[.int .i64 0, .int .i64 0, .int .i64 0, .int .u32 0, .int .u64 0, .int .u64 0] 25 w119 fun b165 w166 =>
  KeepOn D116 w18.drew w166 ∧
  AppS w166 r17.1.a r17.1.n 1 fun ns171 =>
  AppV w166 5 1 1 (some ⟨b118, 0, none⟩) 0 0 ns171 r17.1.n fun a167 n168 c169 w170 =>
  KeepOn D116 w18.drew w170 ∧
  AppS w170 a117 (r4.1.n - 48) 1 fun ns176 =>
  AppV w170 5 1 1 a167 n168 c169 ns176 (r4.1.n - 48) fun a172 n173 c174 w175 =>
  KeepOn D116 w18.drew w175 ∧
  CallV Try.prog 35 #[.slice a172 n173 c174] w175 [.agg [.int .i64, .int .i64, .int .i64, .int .u32, .int .u64, .int .u64], .one .sl, .one (.int .i64)] fun (r177 : (Int × Int × Int × Int × Int × Int × Unit) × SlV × Int × Unit) w178 =>
  KeepOn D116 w18.drew w178 ∧
  StoreV w178 ⟨b165, 0, none⟩ [.int .i64 r177.1.1, .int .i64 r177.1.2.1, .int .i64 r177.1.2.2.1, .int .u32 r177.1.2.2.2.1, .int .u64 r177.1.2.2.2.2.1, .int .u64 r177.1.2.2.2.2.2.1] fun w179 =>
  KeepOn D116 w18.drew w179 ∧
  ((0 : Int) ≤ (48 : Int) ∧ (48 : Int) ≤ ((r4.1.c : Nat) : Int)) ∧
  SubK r4.1.a 0 r4.1.c 1 fun a180 =>
  CallV Try.prog 17 #[.slice r17.1.a r17.1.n r17.1.c, .slice a180 (48 - 0) (r4.1.c - 0)] w179 [.one .bool] fun (r181 : Bool × Unit) w182 =>
  cond ((r177.2.2.1 == 0) == r181.1)
  (CallV Try.prog 16 #[] w182 [.one .bool] fun (r183 : Bool × Unit) w184 =>
  K (r183.1, ()) w184)
  (K (false, ()) w182)))) ∧
  (NewV #[.int .i64 0, .int .i64 0, .int .i64 0, .int .u32 0, .int .u64 0, .int .u64 0] 25 w18.drew fun b185 w186 =>
  KeepOn D116 w18.drew w186 ∧
  NewV #[] 5 w186 fun b187 w188 =>
  KeepOn D116 w18.drew w188 ∧
  AppS w188 r17.1.a r17.1.n 1 fun ns193 =>
  AppV w188 5 1 1 (some ⟨b187, 0, none⟩) 0 0 ns193 r17.1.n fun a189 n190 c191 w192 =>
  KeepOn D116 w18.drew w192 ∧
  AppS w192 a117 (r4.1.n - 48) 1 fun ns198 =>
  AppV w192 5 1 1 a189 n190 c191 ns198 (r4.1.n - 48) fun a194 n195 c196 w197 =>
  KeepOn D116 w18.drew w197 ∧
  CallV Try.prog 35 #[.slice a194 n195 c196] w197 [.agg [.int .i64, .int .i64, .int .i64, .int .u32, .int .u64, .int .u64], .one .sl, .one (.int .i64)] fun (r199 : (Int × Int × Int × Int × Int × Int × Unit) × SlV × Int × Unit) w200 =>
  KeepOn D116 w18.drew w200 ∧
  StoreV w200 ⟨b185, 0, none⟩ [.int .i64 r199.1.1, .int .i64 r199.1.2.1, .int .i64 r199.1.2.2.1, .int .u32 r199.1.2.2.2.1, .int .u64 r199.1.2.2.2.2.1, .int .u64 r199.1.2.2.2.2.2.1] fun w201 =>
  KeepOn D116 w18.drew w201 ∧
  ((0 : Int) ≤ (48 : Int) ∧ (48 : Int) ≤ ((r4.1.c : Nat) : Int)) ∧
  SubK r4.1.a 0 r4.1.c 1 fun a202 =>
  CallV Try.prog 17 #[.slice r17.1.a r17.1.n r17.1.c, .slice a202 (48 - 0) (r4.1.c - 0)] w201 [.one .bool] fun (r203 : Bool × Unit) w204 =>
  cond ((r199.2.2.1 == 0) == r203.1)
  (CallV Try.prog 16 #[] w204 [.one .bool] fun (r205 : Bool × Unit) w206 =>
  K (r205.1, ()) w206)
  (K (false, ()) w204))))))
theorem law14_HeadBits.vc (p0_0 : Int) (p0_1 : Int) (p0_2 : Int) (p0_3 : Int) (p0_4 : Int) (p0_5 : Int) (a1 : Option Addr) (n1 c1 : Nat) (p2 : Bool) (w : World) (K : Bool × Unit → World → Prop) (h : law14_HeadBits.P p0_0 p0_1 p0_2 p0_3 p0_4 p0_5 a1 n1 c1 p2 w K) : CallV Try.prog 11 #[.agg #[.int .i64 p0_0, .int .i64 p0_1, .int .i64 p0_2, .int .u32 p0_3, .int .u64 p0_4, .int .u64 p0_5], .slice a1 n1 c1, .bool p2] w [.one .bool] K := by
  have e : vcFun Try.prog okf false Try.f11 law14_HeadBits.A #[.agg #[.int .i64 p0_0, .int .i64 p0_1, .int .i64 p0_2, .int .u32 p0_3, .int .u64 p0_4, .int .u64 p0_5], .slice a1 n1 c1, .bool p2] w [.one .bool] K = law14_HeadBits.P p0_0 p0_1 p0_2 p0_3 p0_4 p0_5 a1 n1 c1 p2 w K := by kernel_rfl
  exact vcFun.calls okf_ok follows Try.func11 (e.symm ▸ h)

/-! ### nepenthe/nepenthelaw14.HeadEnds: function 12 -/
def law14_HeadEnds.A : Ann := .no
def law14_HeadEnds.P (p0_0 : Int) (p0_1 : Int) (p0_2 : Int) (p0_3 : Int) (p0_4 : Int) (p0_5 : Int) (a1 : Option Addr) (n1 c1 : Nat) (w : World) (K : Bool × Unit → World → Prop) : Prop :=
  NewV #[.int .i64 p0_0, .int .i64 p0_1, .int .i64 p0_2, .int .u32 p0_3, .int .u64 p0_4, .int .u64 p0_5] 25 w fun b1 w2 =>
  LoadA w2 ⟨b1, 0, none⟩ [.int .i64, .int .i64, .int .i64, .int .u32, .int .u64, .int .u64] fun (x3 : Int × Int × Int × Int × Int × Int × Unit) =>
  CallV Try.prog 39 #[.agg #[.int .i64 x3.1, .int .i64 x3.2.1, .int .i64 x3.2.2.1, .int .u32 x3.2.2.2.1, .int .u64 x3.2.2.2.2.1, .int .u64 x3.2.2.2.2.2.1], .slice a1 n1 c1] w2 [.one .sl, .one (.int .i64)] fun (r4 : SlV × Int × Unit) w5 =>
  LoadA w5 ⟨b1, 0, none⟩ [.int .i64, .int .i64, .int .i64, .int .u32, .int .u64, .int .u64] fun (x6 : Int × Int × Int × Int × Int × Int × Unit) =>
  CallV Try.prog 15 #[.agg #[.int .i64 x6.1, .int .i64 x6.2.1, .int .i64 x6.2.2.1, .int .u32 x6.2.2.2.1, .int .u64 x6.2.2.2.2.1, .int .u64 x6.2.2.2.2.2.1]] w5 [.one .bool] fun (r7 : Bool × Unit) w8 =>
  cond (!r7.1)
  (cond (r4.2.1 == 2)
  (cond (((r4.1.n : Nat) : Int) == 0)
  (CallV Try.prog 16 #[] w8 [.one .bool] fun (r9 : Bool × Unit) w10 =>
  K (r9.1, ()) w10)
  (K (false, ()) w8))
  (K (false, ()) w8))
  (cond (((n1 : Nat) : Int) != 0)
  (cond (((n1 : Nat) : Int) != 32)
  (cond (r4.2.1 == 2)
  (cond (((r4.1.n : Nat) : Int) == 0)
  (CallV Try.prog 16 #[] w8 [.one .bool] fun (r11 : Bool × Unit) w12 =>
  K (r11.1, ()) w12)
  (K (false, ()) w8))
  (K (false, ()) w8))
  (cond (r4.2.1 != 0)
  (K (false, ()) w8)
  (LoadA w8 ⟨b1, 0, none⟩ [.int .i64, .int .i64, .int .i64, .int .u32, .int .u64, .int .u64] fun (x13 : Int × Int × Int × Int × Int × Int × Unit) =>
  CallV Try.prog 40 #[.agg #[.int .i64 x13.1, .int .i64 x13.2.1, .int .i64 x13.2.2.1, .int .u32 x13.2.2.2.1, .int .u64 x13.2.2.2.2.1, .int .u64 x13.2.2.2.2.2.1], .slice a1 n1 c1] w8 [.one .sl] fun (r14 : SlV × Unit) w15 =>
  CallV Try.prog 17 #[.slice r4.1.a r4.1.n r4.1.c, .slice r14.1.a r14.1.n r14.1.c] w15 [.one .bool] fun (r16 : Bool × Unit) w17 =>
  cond (!r16.1)
  (K (false, ()) w17)
  (CallV Try.prog 36 #[.slice r4.1.a r4.1.n r4.1.c] w17 [.one .bool] fun (r18 : Bool × Unit) w19 =>
  cond r18.1
  (K (false, ()) w19)
  (CallV Try.prog 35 #[.slice r4.1.a r4.1.n r4.1.c] w19 [.agg [.int .i64, .int .i64, .int .i64, .int .u32, .int .u64, .int .u64], .one .sl, .one (.int .i64)] fun (r20 : (Int × Int × Int × Int × Int × Int × Unit) × SlV × Int × Unit) w21 =>
  NewV #[.int .i64 0, .int .i64 0, .int .i64 0, .int .u32 0, .int .u64 0, .int .u64 0] 25 w21 fun b22 w23 =>
  StoreV w23 ⟨b22, 0, none⟩ [.int .i64 r20.1.1, .int .i64 r20.1.2.1, .int .i64 r20.1.2.2.1, .int .u32 r20.1.2.2.2.1, .int .u64 r20.1.2.2.2.2.1, .int .u64 r20.1.2.2.2.2.2.1] fun w24 =>
  cond (r20.2.2.1 == 0)
  (LoadA w24 ⟨b22, 0, none⟩ [.int .i64, .int .i64, .int .i64, .int .u32, .int .u64, .int .u64] fun (x25 : Int × Int × Int × Int × Int × Int × Unit) =>
  LoadA w24 ⟨b1, 0, none⟩ [.int .i64, .int .i64, .int .i64, .int .u32, .int .u64, .int .u64] fun (x26 : Int × Int × Int × Int × Int × Int × Unit) =>
  AggEq Try.prog 25 #[.int .i64 x25.1, .int .i64 x25.2.1, .int .i64 x25.2.2.1, .int .u32 x25.2.2.2.1, .int .u64 x25.2.2.2.2.1, .int .u64 x25.2.2.2.2.2.1] #[.int .i64 x26.1, .int .i64 x26.2.1, .int .i64 x26.2.2.1, .int .u32 x26.2.2.2.1, .int .u64 x26.2.2.2.2.1, .int .u64 x26.2.2.2.2.2.1] fun e27 =>
  cond e27
  (((0 : Int) ≤ (48 : Int) ∧ (48 : Int) ≤ (80 : Int) ∧ (80 : Int) ≤ ((r4.1.c : Nat) : Int)) ∧
  SubK r4.1.a 48 r4.1.c 1 fun a28 =>
  CallV Try.prog 17 #[.slice r20.2.1.a r20.2.1.n r20.2.1.c, .slice a28 (80 - 48) (r4.1.c - 48)] w24 [.one .bool] fun (r29 : Bool × Unit) w30 =>
  cond r29.1
  (CallV Try.prog 16 #[] w30 [.one .bool] fun (r31 : Bool × Unit) w32 =>
  K (r31.1, ()) w32)
  (K (false, ()) w30))
  (K (false, ()) w24))
  (K (false, ()) w24))))))
  (cond (r4.2.1 != 0)
  (K (false, ()) w8)
  (LoadA w8 ⟨b1, 0, none⟩ [.int .i64, .int .i64, .int .i64, .int .u32, .int .u64, .int .u64] fun (x33 : Int × Int × Int × Int × Int × Int × Unit) =>
  CallV Try.prog 40 #[.agg #[.int .i64 x33.1, .int .i64 x33.2.1, .int .i64 x33.2.2.1, .int .u32 x33.2.2.2.1, .int .u64 x33.2.2.2.2.1, .int .u64 x33.2.2.2.2.2.1], .slice a1 n1 c1] w8 [.one .sl] fun (r34 : SlV × Unit) w35 =>
  CallV Try.prog 17 #[.slice r4.1.a r4.1.n r4.1.c, .slice r34.1.a r34.1.n r34.1.c] w35 [.one .bool] fun (r36 : Bool × Unit) w37 =>
  cond (!r36.1)
  (K (false, ()) w37)
  (CallV Try.prog 36 #[.slice r4.1.a r4.1.n r4.1.c] w37 [.one .bool] fun (r38 : Bool × Unit) w39 =>
  cond r38.1
  (K (false, ()) w39)
  (CallV Try.prog 35 #[.slice r4.1.a r4.1.n r4.1.c] w39 [.agg [.int .i64, .int .i64, .int .i64, .int .u32, .int .u64, .int .u64], .one .sl, .one (.int .i64)] fun (r40 : (Int × Int × Int × Int × Int × Int × Unit) × SlV × Int × Unit) w41 =>
  NewV #[.int .i64 0, .int .i64 0, .int .i64 0, .int .u32 0, .int .u64 0, .int .u64 0] 25 w41 fun b42 w43 =>
  StoreV w43 ⟨b42, 0, none⟩ [.int .i64 r40.1.1, .int .i64 r40.1.2.1, .int .i64 r40.1.2.2.1, .int .u32 r40.1.2.2.2.1, .int .u64 r40.1.2.2.2.2.1, .int .u64 r40.1.2.2.2.2.2.1] fun w44 =>
  cond (r40.2.2.1 == 0)
  (LoadA w44 ⟨b42, 0, none⟩ [.int .i64, .int .i64, .int .i64, .int .u32, .int .u64, .int .u64] fun (x45 : Int × Int × Int × Int × Int × Int × Unit) =>
  LoadA w44 ⟨b1, 0, none⟩ [.int .i64, .int .i64, .int .i64, .int .u32, .int .u64, .int .u64] fun (x46 : Int × Int × Int × Int × Int × Int × Unit) =>
  AggEq Try.prog 25 #[.int .i64 x45.1, .int .i64 x45.2.1, .int .i64 x45.2.2.1, .int .u32 x45.2.2.2.1, .int .u64 x45.2.2.2.2.1, .int .u64 x45.2.2.2.2.2.1] #[.int .i64 x46.1, .int .i64 x46.2.1, .int .i64 x46.2.2.1, .int .u32 x46.2.2.2.1, .int .u64 x46.2.2.2.2.1, .int .u64 x46.2.2.2.2.2.1] fun e47 =>
  cond e47
  (((0 : Int) ≤ (48 : Int) ∧ (48 : Int) ≤ (80 : Int) ∧ (80 : Int) ≤ ((r4.1.c : Nat) : Int)) ∧
  SubK r4.1.a 48 r4.1.c 1 fun a48 =>
  CallV Try.prog 17 #[.slice r40.2.1.a r40.2.1.n r40.2.1.c, .slice a48 (80 - 48) (r4.1.c - 48)] w44 [.one .bool] fun (r49 : Bool × Unit) w50 =>
  cond r49.1
  (CallV Try.prog 16 #[] w50 [.one .bool] fun (r51 : Bool × Unit) w52 =>
  K (r51.1, ()) w52)
  (K (false, ()) w50))
  (K (false, ()) w44))
  (K (false, ()) w44))))))
theorem law14_HeadEnds.vc (p0_0 : Int) (p0_1 : Int) (p0_2 : Int) (p0_3 : Int) (p0_4 : Int) (p0_5 : Int) (a1 : Option Addr) (n1 c1 : Nat) (w : World) (K : Bool × Unit → World → Prop) (h : law14_HeadEnds.P p0_0 p0_1 p0_2 p0_3 p0_4 p0_5 a1 n1 c1 w K) : CallV Try.prog 12 #[.agg #[.int .i64 p0_0, .int .i64 p0_1, .int .i64 p0_2, .int .u32 p0_3, .int .u64 p0_4, .int .u64 p0_5], .slice a1 n1 c1] w [.one .bool] K := by
  have e : vcFun Try.prog okf false Try.f12 law14_HeadEnds.A #[.agg #[.int .i64 p0_0, .int .i64 p0_1, .int .i64 p0_2, .int .u32 p0_3, .int .u64 p0_4, .int .u64 p0_5], .slice a1 n1 c1] w [.one .bool] K = law14_HeadEnds.P p0_0 p0_1 p0_2 p0_3 p0_4 p0_5 a1 n1 c1 w K := by kernel_rfl
  exact vcFun.calls okf_ok follows Try.func12 (e.symm ▸ h)

/-! ### nepenthe/nepenthelaw14.HeadMarks: function 13 -/
def law14_HeadMarks.A : Ann := .two .no (.two .no (.two .no (.two (.two (.draw (.take 0 (.take 1 (.take 2 (.take 3 (.take 4 (.take 5 (.take 6 (.take 7 (.take 8 (.take 9 (.take 10 (.eff 11 (.eff 12 (.take 13 (.take 14 (.take 15 (.take 16 (.take 17 (.take 18 (.take 19 (.eff 20 (.eff 21 (.take 22 (.take 23 (.done)))))))))))))))))))))))))) .no) .no)))
def law14_HeadMarks.P (p0 : Int) (p1_0 : Int) (p1_1 : Int) (p1_2 : Int) (p1_3 : Int) (p1_4 : Int) (p1_5 : Int) (a2 : Option Addr) (n2 c2 : Nat) (w : World) (K : Bool × Unit → World → Prop) : Prop :=
  NewV #[.int .i64 p1_0, .int .i64 p1_1, .int .i64 p1_2, .int .u32 p1_3, .int .u64 p1_4, .int .u64 p1_5] 25 w fun b1 w2 =>
  CallV Try.prog 41 #[.int .i64 p0] w2 [.one .sl] fun (r3 : SlV × Unit) w4 =>
  cond (decide (p0 < 88))
  (cond (((r3.1.n : Nat) : Int) == 0)
  (CallV Try.prog 16 #[] w4 [.one .bool] fun (r5 : Bool × Unit) w6 =>
  K (r5.1, ()) w6)
  (K (false, ()) w4))
  (cond (decide (p0 > 4184))
  (cond (((r3.1.n : Nat) : Int) == 0)
  (CallV Try.prog 16 #[] w4 [.one .bool] fun (r7 : Bool × Unit) w8 =>
  K (r7.1, ()) w8)
  (K (false, ()) w4))
  (DrawV fun D9 =>
  cond (((r3.1.n : Nat) : Int) != p0)
  (K (false, ()) w4.drew)
  (Rng .i64 (p0 - 8) ∧
  ((0 : Int) ≤ (p0 - 8) ∧ (p0 - 8) ≤ ((r3.1.c : Nat) : Int)) ∧
  SubK r3.1.a 0 r3.1.c 1 fun a10 =>
  Rng .i64 (p0 - 8) ∧
  CallV Try.prog 29 #[.int .u8 255, .int .i64 (p0 - 8)] w4.drew [.one .sl] fun (r11 : SlV × Unit) w12 =>
  KeepOn D9 w4.drew w12 ∧
  CallV Try.prog 17 #[.slice a10 (((p0 - 8).toNat) - 0) (r3.1.c - 0), .slice r11.1.a r11.1.n r11.1.c] w12 [.one .bool] fun (r13 : Bool × Unit) w14 =>
  KeepOn D9 w4.drew w14 ∧
  cond (!r13.1)
  (K (false, ()) w14)
  (Rng .i64 (p0 - 8) ∧
  ((0 : Int) ≤ (p0 - 8) ∧ (p0 - 8) ≤ ((r3.1.n : Nat) : Int)) ∧
  SubK r3.1.a ((p0 - 8).toNat) r3.1.c 1 fun a15 =>
  CallV Try.prog 29 #[.int .u8 0, .int .i64 8] w14 [.one .sl] fun (r16 : SlV × Unit) w17 =>
  KeepOn D9 w4.drew w17 ∧
  CallV Try.prog 17 #[.slice a15 (r3.1.n - ((p0 - 8).toNat)) (r3.1.c - ((p0 - 8).toNat)), .slice r16.1.a r16.1.n r16.1.c] w17 [.one .bool] fun (r18 : Bool × Unit) w19 =>
  KeepOn D9 w4.drew w19 ∧
  cond (!r18.1)
  (K (false, ()) w19)
  (LoadA w19 ⟨b1, 0, none⟩ [.int .i64, .int .i64, .int .i64, .int .u32, .int .u64, .int .u64] fun (x20 : Int × Int × Int × Int × Int × Int × Unit) =>
  CallV Try.prog 39 #[.agg #[.int .i64 x20.1, .int .i64 x20.2.1, .int .i64 x20.2.2.1, .int .u32 x20.2.2.2.1, .int .u64 x20.2.2.2.2.1, .int .u64 x20.2.2.2.2.2.1], .slice a2 n2 c2] w19 [.one .sl, .one (.int .i64)] fun (r21 : SlV × Int × Unit) w22 =>
  cond (r21.2.1 != 0)
  (CallV Try.prog 16 #[] w22 [.one .bool] fun (r23 : Bool × Unit) w24 =>
  K (r23.1, ()) w24)
  (Rng .i64 (p0 - 88) ∧
  ((0 : Int) ≤ (p0 - 88) ∧ (p0 - 88) ≤ ((r3.1.n : Nat) : Int)) ∧
  SubK r3.1.a ((p0 - 88).toNat) r3.1.c 1 fun a25 =>
  CallV Try.prog 26 #[.slice r21.1.a r21.1.n r21.1.c, .slice a25 (r3.1.n - ((p0 - 88).toNat)) (r3.1.c - ((p0 - 88).toNat))] w22 [.one .sl] fun (r26 : SlV × Unit) w27 =>
  CallV Try.prog 35 #[.slice r26.1.a r26.1.n r26.1.c] w27 [.agg [.int .i64, .int .i64, .int .i64, .int .u32, .int .u64, .int .u64], .one .sl, .one (.int .i64)] fun (r28 : (Int × Int × Int × Int × Int × Int × Unit) × SlV × Int × Unit) w29 =>
  NewV #[.int .i64 0, .int .i64 0, .int .i64 0, .int .u32 0, .int .u64 0, .int .u64 0] 25 w29 fun b30 w31 =>
  StoreV w31 ⟨b30, 0, none⟩ [.int .i64 r28.1.1, .int .i64 r28.1.2.1, .int .i64 r28.1.2.2.1, .int .u32 r28.1.2.2.2.1, .int .u64 r28.1.2.2.2.2.1, .int .u64 r28.1.2.2.2.2.2.1] fun w32 =>
  cond (r28.2.2.1 == 0)
  (LoadA w32 ⟨b30, 0, none⟩ [.int .i64, .int .i64, .int .i64, .int .u32, .int .u64, .int .u64] fun (x33 : Int × Int × Int × Int × Int × Int × Unit) =>
  LoadA w32 ⟨b1, 0, none⟩ [.int .i64, .int .i64, .int .i64, .int .u32, .int .u64, .int .u64] fun (x34 : Int × Int × Int × Int × Int × Int × Unit) =>
  AggEq Try.prog 25 #[.int .i64 x33.1, .int .i64 x33.2.1, .int .i64 x33.2.2.1, .int .u32 x33.2.2.2.1, .int .u64 x33.2.2.2.2.1, .int .u64 x33.2.2.2.2.2.1] #[.int .i64 x34.1, .int .i64 x34.2.1, .int .i64 x34.2.2.1, .int .u32 x34.2.2.2.1, .int .u64 x34.2.2.2.2.1, .int .u64 x34.2.2.2.2.2.1] fun e35 =>
  cond e35
  (((0 : Int) ≤ (48 : Int) ∧ (48 : Int) ≤ (80 : Int) ∧ (80 : Int) ≤ ((r21.1.c : Nat) : Int)) ∧
  SubK r21.1.a 48 r21.1.c 1 fun a36 =>
  CallV Try.prog 17 #[.slice r28.2.1.a r28.2.1.n r28.2.1.c, .slice a36 (80 - 48) (r21.1.c - 48)] w32 [.one .bool] fun (r37 : Bool × Unit) w38 =>
  cond r37.1
  (Rng .i64 (p0 - 88) ∧
  ((0 : Int) ≤ (p0 - 88) ∧ (p0 - 88) ≤ ((r3.1.n : Nat) : Int)) ∧
  SubK r3.1.a ((p0 - 88).toNat) r3.1.c 1 fun a39 =>
  CallV Try.prog 26 #[.slice r21.1.a r21.1.n r21.1.c, .slice a39 (r3.1.n - ((p0 - 88).toNat)) (r3.1.c - ((p0 - 88).toNat))] w38 [.one .sl] fun (r40 : SlV × Unit) w41 =>
  CallV Try.prog 36 #[.slice r40.1.a r40.1.n r40.1.c] w41 [.one .bool] fun (r42 : Bool × Unit) w43 =>
  cond r42.1
  (CallV Try.prog 16 #[] w43 [.one .bool] fun (r44 : Bool × Unit) w45 =>
  K (r44.1, ()) w45)
  (K (false, ()) w43))
  (K (false, ()) w38))
  (K (false, ()) w32))
  (K (false, ()) w32)))))))
theorem law14_HeadMarks.vc (p0 : Int) (p1_0 : Int) (p1_1 : Int) (p1_2 : Int) (p1_3 : Int) (p1_4 : Int) (p1_5 : Int) (a2 : Option Addr) (n2 c2 : Nat) (w : World) (K : Bool × Unit → World → Prop) (h : law14_HeadMarks.P p0 p1_0 p1_1 p1_2 p1_3 p1_4 p1_5 a2 n2 c2 w K) : CallV Try.prog 13 #[.int .i64 p0, .agg #[.int .i64 p1_0, .int .i64 p1_1, .int .i64 p1_2, .int .u32 p1_3, .int .u64 p1_4, .int .u64 p1_5], .slice a2 n2 c2] w [.one .bool] K := by
  have e : vcFun Try.prog okf false Try.f13 law14_HeadMarks.A #[.int .i64 p0, .agg #[.int .i64 p1_0, .int .i64 p1_1, .int .i64 p1_2, .int .u32 p1_3, .int .u64 p1_4, .int .u64 p1_5], .slice a2 n2 c2] w [.one .bool] K = law14_HeadMarks.P p0 p1_0 p1_1 p1_2 p1_3 p1_4 p1_5 a2 n2 c2 w K := by kernel_rfl
  exact vcFun.calls okf_ok follows Try.func13 (e.symm ▸ h)

end Go.Proofs.Ytombjhkdakmhpaa.Vc
