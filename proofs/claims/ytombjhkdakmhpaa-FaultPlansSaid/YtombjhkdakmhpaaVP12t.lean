/- Parts of plans, cut out by wip/tools/vccut.py. -/
import Derived.Test.YtombjhkdakmhpaaEnv
namespace Go.Proofs.Ytombjhkdakmhpaa.Vc
open Go Go.Eng
set_option linter.unusedVariables false

def law12_FaultPlans.T (w19 : World) (n0 : Nat) (r16 : SlV × Unit) (r18 : SlV × Unit) (a0 : Option Addr) (K : Bool × Unit → World → Prop) : Prop :=
LoopV [.one (.int .i64)] ((0 : Int), ()) w19 fun (z20 : Int × Unit) w21 (K22 : Int × Unit → World → Prop) =>
  cond (decide (z20.1 < ((n0 : Nat) : Int)))
  (LoopV [.one (.int .i64)] ((0 : Int), ()) w21 fun (z23 : Int × Unit) w24 (K25 : Int × Unit → World → Prop) =>
  (0 ≤ z20.1 ∧ z20.1 < ((r16.1.n : Nat) : Int)) ∧ ∃ q26 : Addr, r16.1.a = some q26 ∧
  LoadS w24 ((q26.add (z20.1.toNat * 3)).add 2) .sl fun (x27 : SlV) =>
  cond (decide (z23.1 < ((x27.n : Nat) : Int)))
  ((0 ≤ z20.1 ∧ z20.1 < ((r16.1.n : Nat) : Int)) ∧ ∃ q28 : Addr, r16.1.a = some q28 ∧
  LoadS w24 ((q28.add (z20.1.toNat * 3)).add 2) .sl fun (x29 : SlV) =>
  (0 ≤ z23.1 ∧ z23.1 < ((x29.n : Nat) : Int)) ∧ ∃ q30 : Addr, x29.a = some q30 ∧
  LoadS w24 (q30.add (z23.1.toNat * 1)) (.int .u8) fun (x31 : Int) =>
  (0 ≤ z23.1 ∧ z23.1 < ((x29.n : Nat) : Int)) ∧ ∃ q32 : Addr, x29.a = some q32 ∧
  StoreV w24 (q32.add (z23.1.toNat * 1)) [.int .u8 (Go.bits .xor .u8 x31 255)] fun w33 =>
  Rng .i64 (z23.1 + 1) ∧
  K25 (z23.1 + 1, ()) w33)
  (DrawV fun D34 =>
  (0 ≤ z20.1 ∧ z20.1 < ((r18.1.n : Nat) : Int)) ∧ ∃ q35 : Addr, r18.1.a = some q35 ∧
  (D34 (q35.add (z20.1.toNat * 3)).block ∧ LoadS w24.drew (q35.add (z20.1.toNat * 3)) (.int .i64) fun (x36 : Int) =>
  (0 ≤ z20.1 ∧ z20.1 < ((n0 : Nat) : Int)) ∧ ∃ q37 : Addr, a0 = some q37 ∧
  (D34 (q37.add (z20.1.toNat * 3)).block ∧ LoadS w24.drew (q37.add (z20.1.toNat * 3)) (.int .i64) fun (x38 : Int) =>
  cond (x36 != x38)
  (K (false, ()) w24.drew)
  ((0 ≤ z20.1 ∧ z20.1 < ((r18.1.n : Nat) : Int)) ∧ ∃ q39 : Addr, r18.1.a = some q39 ∧
  (D34 ((q39.add (z20.1.toNat * 3)).add 1).block ∧ LoadS w24.drew ((q39.add (z20.1.toNat * 3)).add 1) .bool fun (x40 : Bool) =>
  (0 ≤ z20.1 ∧ z20.1 < ((n0 : Nat) : Int)) ∧ ∃ q41 : Addr, a0 = some q41 ∧
  (D34 ((q41.add (z20.1.toNat * 3)).add 1).block ∧ LoadS w24.drew ((q41.add (z20.1.toNat * 3)).add 1) .bool fun (x42 : Bool) =>
  cond (!(x40 == x42))
  (K (false, ()) w24.drew)
  ((0 ≤ z20.1 ∧ z20.1 < ((r18.1.n : Nat) : Int)) ∧ ∃ q43 : Addr, r18.1.a = some q43 ∧
  (D34 ((q43.add (z20.1.toNat * 3)).add 2).block ∧ LoadS w24.drew ((q43.add (z20.1.toNat * 3)).add 2) .sl fun (x44 : SlV) =>
  (0 ≤ z20.1 ∧ z20.1 < ((n0 : Nat) : Int)) ∧ ∃ q45 : Addr, a0 = some q45 ∧
  (D34 ((q45.add (z20.1.toNat * 3)).add 2).block ∧ LoadS w24.drew ((q45.add (z20.1.toNat * 3)).add 2) .sl fun (x46 : SlV) =>
  CallV Try.prog 17 #[.slice x44.a x44.n x44.c, .slice x46.a x46.n x46.c] w24.drew [.one .bool] fun (r47 : Bool × Unit) w48 =>
  KeepOn D34 w24.drew w48 ∧
  cond (!r47.1)
  (K (false, ()) w48)
  (Rng .i64 (z20.1 + 1) ∧
  K22 (z20.1 + 1, ()) w48)))))))))))
  (CallV Try.prog 21 #[] w21 [.one .bool] fun (r49 : Bool × Unit) w50 =>
  K (r49.1, ()) w50)

end Go.Proofs.Ytombjhkdakmhpaa.Vc
