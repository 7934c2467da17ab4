/- Parts of plans, cut out by wip/tools/vccut.py. -/
import Derived.Test.YtombjhkdakmhpaaEnv
namespace Go.Proofs.Ytombjhkdakmhpaa.Vc
open Go Go.Eng
set_option linter.unusedVariables false

def law14_HeadBits.T (r4 : SlV × Int × Unit) (w24 : World) (r23 : SlV × Unit) (K : Bool × Unit → World → Prop) : Prop :=
DrawV fun D25 =>
  ((0 : Int) ≤ (48 : Int) ∧ (48 : Int) ≤ ((r4.1.n : Nat) : Int)) ∧
  SubK r4.1.a 48 r4.1.c 1 fun a26 =>
  ((NewV #[] 5 w24.drew fun b27 w28 =>
  KeepOn D25 w24.drew w28 ∧
  ((AppS w28 r23.1.a r23.1.n 1 fun ns33 =>
  AppV w28 5 1 1 (some ⟨b27, 0, none⟩) 0 0 ns33 r23.1.n fun a29 n30 c31 w32 =>
  KeepOn D25 w24.drew w32 ∧
  ((AppS w32 a26 (r4.1.n - 48) 1 fun ns38 =>
  AppV w32 5 1 1 a29 n30 c31 ns38 (r4.1.n - 48) fun a34 n35 c36 w37 =>
  KeepOn D25 w24.drew w37 ∧
  ((CallV Try.prog 35 #[.slice a34 n35 c36] w37 [.agg [.int .i64, .int .i64, .int .i64, .int .u32, .int .u64, .int .u64], .one .sl, .one (.int .i64)] fun (r39 : (Int × Int × Int × Int × Int × Int × Unit) × SlV × Int × Unit) w40 =>
  KeepOn D25 w24.drew w40 ∧
  NewV #[.int .i64 0, .int .i64 0, .int .i64 0, .int .u32 0, .int .u64 0, .int .u64 0] 25 w40 fun b41 w42 =>
  KeepOn D25 w24.drew w42 ∧
  StoreV w42 ⟨b41, 0, none⟩ [.int .i64 r39.1.1, .int .i64 r39.1.2.1, .int .i64 r39.1.2.2.1, .int .u32 r39.1.2.2.2.1, .int .u64 r39.1.2.2.2.2.1, .int .u64 r39.1.2.2.2.2.2.1] fun w43 =>
  KeepOn D25 w24.drew w43 ∧
  ((0 : Int) ≤ (48 : Int) ∧ (48 : Int) ≤ ((r4.1.c : Nat) : Int)) ∧
  SubK r4.1.a 0 r4.1.c 1 fun a44 =>
  CallV Try.prog 17 #[.slice r23.1.a r23.1.n r23.1.c, .slice a44 (48 - 0) (r4.1.c - 0)] w43 [.one .bool] fun (r45 : Bool × Unit) w46 =>
  cond ((r39.2.2.1 == 0) == r45.1)
  (CallV Try.prog 16 #[] w46 [.one .bool] fun (r47 : Bool × Unit) w48 =>
  K (r47.1, ()) w48)
  (K (false, ()) w46)) ∧
  (NewV #[.int .i64 0, .int .i64 0, .int .i64 0, .int .u32 0, .int .u64 0, .int .u64 0] 25 w37 fun b49 w50 =>
  KeepOn D25 w24.drew w50 ∧
  CallV Try.prog 35 #[.slice a34 n35 c36] w50 [.agg [.int .i64, .int .i64, .int .i64, .int .u32, .int .u64, .int .u64], .one .sl, .one (.int .i64)] fun (r51 : (Int × Int × Int × Int × Int × Int × Unit) × SlV × Int × Unit) w52 =>
  KeepOn D25 w24.drew w52 ∧
  StoreV w52 ⟨b49, 0, none⟩ [.int .i64 r51.1.1, .int .i64 r51.1.2.1, .int .i64 r51.1.2.2.1, .int .u32 r51.1.2.2.2.1, .int .u64 r51.1.2.2.2.2.1, .int .u64 r51.1.2.2.2.2.2.1] fun w53 =>
  KeepOn D25 w24.drew w53 ∧
  ((0 : Int) ≤ (48 : Int) ∧ (48 : Int) ≤ ((r4.1.c : Nat) : Int)) ∧
  SubK r4.1.a 0 r4.1.c 1 fun a54 =>
  CallV Try.prog 17 #[.slice r23.1.a r23.1.n r23.1.c, .slice a54 (48 - 0) (r4.1.c - 0)] w53 [.one .bool] fun (r55 : Bool × Unit) w56 =>
  cond ((r51.2.2.1 == 0) == r55.1)
  (CallV Try.prog 16 #[] w56 [.one .bool] fun (r57 : Bool × Unit) w58 =>
  K (r57.1, ()) w58)
  (K (false, ()) w56)))) ∧
  (NewV #[.int .i64 0, .int .i64 0, .int .i64 0, .int .u32 0, .int .u64 0, .int .u64 0] 25 w32 fun b59 w60 =>
  KeepOn D25 w24.drew w60 ∧
  AppS w60 a26 (r4.1.n - 48) 1 fun ns65 =>
  AppV w60 5 1 1 a29 n30 c31 ns65 (r4.1.n - 48) fun a61 n62 c63 w64 =>
  KeepOn D25 w24.drew w64 ∧
  CallV Try.prog 35 #[.slice a61 n62 c63] w64 [.agg [.int .i64, .int .i64, .int .i64, .int .u32, .int .u64, .int .u64], .one .sl, .one (.int .i64)] fun (r66 : (Int × Int × Int × Int × Int × Int × Unit) × SlV × Int × Unit) w67 =>
  KeepOn D25 w24.drew w67 ∧
  StoreV w67 ⟨b59, 0, none⟩ [.int .i64 r66.1.1, .int .i64 r66.1.2.1, .int .i64 r66.1.2.2.1, .int .u32 r66.1.2.2.2.1, .int .u64 r66.1.2.2.2.2.1, .int .u64 r66.1.2.2.2.2.2.1] fun w68 =>
  KeepOn D25 w24.drew w68 ∧
  ((0 : Int) ≤ (48 : Int) ∧ (48 : Int) ≤ ((r4.1.c : Nat) : Int)) ∧
  SubK r4.1.a 0 r4.1.c 1 fun a69 =>
  CallV Try.prog 17 #[.slice r23.1.a r23.1.n r23.1.c, .slice a69 (48 - 0) (r4.1.c - 0)] w68 [.one .bool] fun (r70 : Bool × Unit) w71 =>
  cond ((r66.2.2.1 == 0) == r70.1)
  (CallV Try.prog 16 #[] w71 [.one .bool] fun (r72 : Bool × Unit) w73 =>
  K (r72.1, ()) w73)
  (K (false, ()) w71)))) ∧
  (NewV #[.int .i64 0, .int .i64 0, .int .i64 0, .int .u32 0, .int .u64 0, .int .u64 0] 25 w28 fun b74 w75 =>
  KeepOn D25 w24.drew w75 ∧
  AppS w75 r23.1.a r23.1.n 1 fun ns80 =>
  AppV w75 5 1 1 (some ⟨b27, 0, none⟩) 0 0 ns80 r23.1.n fun a76 n77 c78 w79 =>
  KeepOn D25 w24.drew w79 ∧
  AppS w79 a26 (r4.1.n - 48) 1 fun ns85 =>
  AppV w79 5 1 1 a76 n77 c78 ns85 (r4.1.n - 48) fun a81 n82 c83 w84 =>
  KeepOn D25 w24.drew w84 ∧
  CallV Try.prog 35 #[.slice a81 n82 c83] w84 [.agg [.int .i64, .int .i64, .int .i64, .int .u32, .int .u64, .int .u64], .one .sl, .one (.int .i64)] fun (r86 : (Int × Int × Int × Int × Int × Int × Unit) × SlV × Int × Unit) w87 =>
  KeepOn D25 w24.drew w87 ∧
  StoreV w87 ⟨b74, 0, none⟩ [.int .i64 r86.1.1, .int .i64 r86.1.2.1, .int .i64 r86.1.2.2.1, .int .u32 r86.1.2.2.2.1, .int .u64 r86.1.2.2.2.2.1, .int .u64 r86.1.2.2.2.2.2.1] fun w88 =>
  KeepOn D25 w24.drew w88 ∧
  ((0 : Int) ≤ (48 : Int) ∧ (48 : Int) ≤ ((r4.1.c : Nat) : Int)) ∧
  SubK r4.1.a 0 r4.1.c 1 fun a89 =>
  CallV Try.prog 17 #[.slice r23.1.a r23.1.n r23.1.c, .slice a89 (48 - 0) (r4.1.c - 0)] w88 [.one .bool] fun (r90 : Bool × Unit) w91 =>
  cond ((r86.2.2.1 == 0) == r90.1)
  (CallV Try.prog 16 #[] w91 [.one .bool] fun (r92 : Bool × Unit) w93 =>
  K (r92.1, ()) w93)
  (K (false, ()) w91)))) ∧
  (NewV #[.int .i64 0, .int .i64 0, .int .i64 0, .int .u32 0, .int .u64 0, .int .u64 0] 25 w24.drew fun b94 w95 =>
  KeepOn D25 w24.drew w95 ∧
  NewV #[] 5 w95 fun b96 w97 =>
  KeepOn D25 w24.drew w97 ∧
  AppS w97 r23.1.a r23.1.n 1 fun ns102 =>
  AppV w97 5 1 1 (some ⟨b96, 0, none⟩) 0 0 ns102 r23.1.n fun a98 n99 c100 w101 =>
  KeepOn D25 w24.drew w101 ∧
  AppS w101 a26 (r4.1.n - 48) 1 fun ns107 =>
  AppV w101 5 1 1 a98 n99 c100 ns107 (r4.1.n - 48) fun a103 n104 c105 w106 =>
  KeepOn D25 w24.drew w106 ∧
  CallV Try.prog 35 #[.slice a103 n104 c105] w106 [.agg [.int .i64, .int .i64, .int .i64, .int .u32, .int .u64, .int .u64], .one .sl, .one (.int .i64)] fun (r108 : (Int × Int × Int × Int × Int × Int × Unit) × SlV × Int × Unit) w109 =>
  KeepOn D25 w24.drew w109 ∧
  StoreV w109 ⟨b94, 0, none⟩ [.int .i64 r108.1.1, .int .i64 r108.1.2.1, .int .i64 r108.1.2.2.1, .int .u32 r108.1.2.2.2.1, .int .u64 r108.1.2.2.2.2.1, .int .u64 r108.1.2.2.2.2.2.1] fun w110 =>
  KeepOn D25 w24.drew w110 ∧
  ((0 : Int) ≤ (48 : Int) ∧ (48 : Int) ≤ ((r4.1.c : Nat) : Int)) ∧
  SubK r4.1.a 0 r4.1.c 1 fun a111 =>
  CallV Try.prog 17 #[.slice r23.1.a r23.1.n r23.1.c, .slice a111 (48 - 0) (r4.1.c - 0)] w110 [.one .bool] fun (r112 : Bool × Unit) w113 =>
  cond ((r108.2.2.1 == 0) == r112.1)
  (CallV Try.prog 16 #[] w113 [.one .bool] fun (r114 : Bool × Unit) w115 =>
  K (r114.1, ()) w115)
  (K (false, ()) w113)))

end Go.Proofs.Ytombjhkdakmhpaa.Vc
