/- Parts of plans, cut out by wip/tools/vccut.py. -/
import Derived.Test.YtombjhkdakmhpaaEnv
namespace Go.Proofs.Ytombjhkdakmhpaa.Vc
open Go Go.Eng
set_option linter.unusedVariables false

def head_Read.T (c0 : Nat) (a0 : Option Addr) (a6 : Option Addr) (w26 : World) (b1 : Nat) (K : (Int × Int × Int × Int × Int × Int × Unit) × SlV × Int × Unit → World → Prop) (b24 : Nat) (a7 : Option Addr) : Prop :=
DrawV fun D27 =>
  ((0 : Int) ≤ (24 : Int) ∧ (24 : Int) ≤ (48 : Int) ∧ (48 : Int) ≤ ((c0 : Nat) : Int)) ∧
  SubK a0 24 c0 1 fun a28 =>
  CallV Try.prog 48 #[.slice a6 (24 - 0) (c0 - 0)] w26.drew [.one .sl] fun (r29 : SlV × Unit) w30 =>
  KeepOn D27 w26.drew w30 ∧
  CallV Try.prog 50 #[.slice r29.1.a r29.1.n r29.1.c, .slice a28 (48 - 24) (c0 - 24)] w30 [.one .bool] fun (r31 : Bool × Unit) w32 =>
  KeepOn D27 w26.drew w32 ∧
  cond (!r31.1)
  (StoreV w32 ⟨b1, 0, none⟩ [.int .i64 0, .int .i64 0, .int .i64 0, .int .u32 0, .int .u64 0, .int .u64 0] fun w33 =>
  LoadA w33 ⟨b1, 0, none⟩ [.int .i64, .int .i64, .int .i64, .int .u32, .int .u64, .int .u64] fun (x34 : Int × Int × Int × Int × Int × Int × Unit) =>
  K ((x34.1, x34.2.1, x34.2.2.1, x34.2.2.2.1, x34.2.2.2.2.1, x34.2.2.2.2.2.1, ()), (⟨none, 0, 0⟩ : SlV), (1 : Int), ()) w33)
  ((0 ≤ (3 : Int) ∧ 3 < ((24 - 0 : Nat) : Int)) ∧ ∃ q35 : Addr, a6 = some q35 ∧
  (D27 (q35.add (3 * 1)).block ∧ LoadS w26.drew (q35.add (3 * 1)) (.int .u8) fun (x36 : Int) =>
  cond (x36 != 0)
  (StoreV w32 ⟨b1, 0, none⟩ [.int .i64 0, .int .i64 0, .int .i64 0, .int .u32 0, .int .u64 0, .int .u64 0] fun w37 =>
  LoadA w37 ⟨b1, 0, none⟩ [.int .i64, .int .i64, .int .i64, .int .u32, .int .u64, .int .u64] fun (x38 : Int × Int × Int × Int × Int × Int × Unit) =>
  K ((x38.1, x38.2.1, x38.2.2.1, x38.2.2.2.1, x38.2.2.2.2.1, x38.2.2.2.2.2.1, ()), (⟨none, 0, 0⟩ : SlV), (1 : Int), ()) w37)
  ((D27 b24 ∧ LoadS w26.drew ⟨b24, 0, none⟩ (.int .i64) fun (x39 : Int) =>
  cond (decide (x39 < 1))
  (StoreV w32 ⟨b1, 0, none⟩ [.int .i64 0, .int .i64 0, .int .i64 0, .int .u32 0, .int .u64 0, .int .u64 0] fun w40 =>
  LoadA w40 ⟨b1, 0, none⟩ [.int .i64, .int .i64, .int .i64, .int .u32, .int .u64, .int .u64] fun (x41 : Int × Int × Int × Int × Int × Int × Unit) =>
  K ((x41.1, x41.2.1, x41.2.2.1, x41.2.2.2.1, x41.2.2.2.2.1, x41.2.2.2.2.2.1, ()), (⟨none, 0, 0⟩ : SlV), (1 : Int), ()) w40)
  ((D27 b24 ∧ LoadS w26.drew ⟨b24, 0, none⟩ (.int .i64) fun (x42 : Int) =>
  cond (decide (x42 > 4))
  (StoreV w32 ⟨b1, 0, none⟩ [.int .i64 0, .int .i64 0, .int .i64 0, .int .u32 0, .int .u64 0, .int .u64 0] fun w43 =>
  LoadA w43 ⟨b1, 0, none⟩ [.int .i64, .int .i64, .int .i64, .int .u32, .int .u64, .int .u64] fun (x44 : Int × Int × Int × Int × Int × Int × Unit) =>
  K ((x44.1, x44.2.1, x44.2.2.1, x44.2.2.2.1, x44.2.2.2.2.1, x44.2.2.2.2.2.1, ()), (⟨none, 0, 0⟩ : SlV), (1 : Int), ()) w43)
  (DrawV fun D45 =>
  (D45 b24 ∧ LoadA w32.drew ⟨b24, 0, none⟩ [.int .i64, .int .i64, .int .i64, .int .u32, .int .u64, .int .u64] fun (x46 : Int × Int × Int × Int × Int × Int × Unit) =>
  NewV #[] 5 w32.drew fun b47 w48 =>
  KeepOn D45 w32.drew w48 ∧
  AppS w48 a7 (80 - 48) 1 fun ns53 =>
  AppV w48 5 1 1 (some ⟨b47, 0, none⟩) 0 0 ns53 (80 - 48) fun a49 n50 c51 w52 =>
  KeepOn D45 w32.drew w52 ∧
  StoreV w52 ⟨b1, 0, none⟩ [.int .i64 x46.1, .int .i64 x46.2.1, .int .i64 x46.2.2.1, .int .u32 x46.2.2.2.1, .int .u64 x46.2.2.2.2.1, .int .u64 x46.2.2.2.2.2.1] fun w54 =>
  KeepOn D45 w32.drew w54 ∧
  LoadA w54 ⟨b1, 0, none⟩ [.int .i64, .int .i64, .int .i64, .int .u32, .int .u64, .int .u64] fun (x55 : Int × Int × Int × Int × Int × Int × Unit) =>
  K ((x55.1, x55.2.1, x55.2.2.1, x55.2.2.2.1, x55.2.2.2.2.1, x55.2.2.2.2.2.1, ()), (⟨a49, n50, c51⟩ : SlV), (0 : Int), ()) w54))))))))

end Go.Proofs.Ytombjhkdakmhpaa.Vc
