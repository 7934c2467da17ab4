/- The plans of functions as plain statements, printed by wip/tools/vcgen.py; the kernel holds each to the code. -/
import Derived.Test.YtombjhkdakmhpaaEnv
namespace Go.Proofs.Ytombjhkdakmhpaa.Vc
open Go Go.Eng
set_option linter.unusedVariables false

/-! ### nepenthe/nepenthelaw12.FaultPlans: function 9 -/
-- loop 0 carries 11: .one (.int .i64)
-- loop 1 carries 10: .one (.int .i64)
def law12_FaultPlans.A : Ann := .two .no (.two .no (.two (.join [16, 17, 18, 19, 20, 21, 22, 23, 24, 25, 26, 27, 28, 29, 30, 31] [(31, .one .bool)] .no .no) (.two .no (.two .no (.two .no (.two (.join [45, 46, 47, 48, 49, 50, 51, 52, 53, 54, 55, 56, 57, 58, 59, 60, 61, 62, 63, 64, 65, 66, 67, 68, 69, 70, 71, 72, 73, 74, 75, 76, 77, 78, 79, 80, 81, 82, 83, 84, 85, 86, 87, 88, 89, 90, 91] [(91, .one .bool)] (.draw (.take 0 (.take 1 (.take 2 (.take 3 (.take 4 (.take 5 (.take 6 (.take 7 (.take 8 (.take 9 (.take 10 (.take 11 (.take 12 (.take 13 (.take 14 (.take 15 (.take 16 (.take 17 (.take 18 (.take 19 (.take 20 (.take 21 (.take 22 (.take 23 (.eff 24 (.take 25 (.take 26 (.take 27 (.take 28 (.take 29 (.take 30 (.take 31 (.take 32 (.take 33 (.take 34 (.take 35 (.take 36 (.take 37 (.take 38 (.take 39 (.take 40 (.take 41 (.take 42 (.take 43 (.take 44 (.take 45 (.take 46 (.done))))))))))))))))))))))))))))))))))))))))))))))))) .no) (.two .no (.two .no (.two .no (.two (.two .no (.one (.loop [4, 10, 11, 108, 109, 110, 111, 112, 113, 114, 115, 116, 117, 118, 119, 120, 121, 122, 123, 124, 125, 126, 127, 128, 129, 130, 131, 132, 133, 134, 135, 136, 137, 138, 139, 140, 141, 142, 143, 144, 145, 146, 147, 148, 149, 150, 151, 152, 153, 154, 155, 156, 157, 158, 159, 160, 161, 162, 163, 164, 165, 166, 167, 168, 169, 170, 171] [(10, .one (.int .i64))] (.two .no (.two (.one (.two (.two .no (.one (.loop [11, 114, 115, 116, 117, 118, 119, 120, 121, 122, 123, 124, 125, 126, 127, 128, 129, 130, 131, 132, 133] [(11, .one (.int .i64))] .no))) (.two (.draw (.take 0 (.take 1 (.take 2 (.take 3 (.take 4 (.take 5 (.take 6 (.take 7 (.take 8 (.take 9 (.take 10 (.take 11 (.take 12 (.take 13 (.take 14 (.take 15 (.take 16 (.take 17 (.take 18 (.take 19 (.take 20 (.take 21 (.take 22 (.take 23 (.take 24 (.take 25 (.take 26 (.take 27 (.take 28 (.take 29 (.take 30 (.take 31 (.take 32 (.take 33 (.take 34 (.eff 35 (.take 36 (.take 37 (.done)))))))))))))))))))))))))))))))))))))))) .no))) .no))))) .no))))))))))
def law12_FaultPlans.P (a0 : Option Addr) (n0 c0 : Nat) (p1 : Int) (w : World) (K : Bool × Unit → World → Prop) : Prop :=
  cond (decide (((n0 : Nat) : Int) > 100))
  (CallV Try.prog 21 #[] w [.one .bool] fun (r1 : Bool × Unit) w2 =>
  K (r1.1, ()) w2)
  (JoinV [.one .bool] (fun (v4 : Bool × Unit) w5 =>
  cond v4.1
  (K (false, ()) w5)
  (CallV Try.prog 32 #[.slice a0 n0 c0, .int .i64 p1] w5 [.agg [.int .i64, .bool, .sl], .one .bool] fun (r6 : (Int × Bool × SlV × Unit) × Bool × Unit) w7 =>
  NewV #[.int .i64 0, .bool false, .slice none 0 0] 45 w7 fun b8 w9 =>
  StoreV w9 ⟨b8, 0, none⟩ [.int .i64 r6.1.1, .bool r6.1.2.1, .slice r6.1.2.2.1.a r6.1.2.2.1.n r6.1.2.2.1.c] fun w10 =>
  CallV Try.prog 33 #[.slice a0 n0 c0, .int .i64 p1] w10 [.one (.int .i64)] fun (r11 : Int × Unit) w12 =>
  cond (!(r6.2.1 == decide (r11.1 ≥ 0)))
  (K (false, ()) w12)
  (JoinV [.one .bool] (fun (v14 : Bool × Unit) w15 =>
  cond v14.1
  (K (false, ()) w15)
  (CallV Try.prog 34 #[.slice a0 n0 c0] w15 [.one .sl] fun (r16 : SlV × Unit) w17 =>
  CallV Try.prog 34 #[.slice r16.1.a r16.1.n r16.1.c] w17 [.one .sl] fun (r18 : SlV × Unit) w19 =>
  cond (((r16.1.n : Nat) : Int) != ((n0 : Nat) : Int))
  (K (false, ()) w19)
  (cond (((r18.1.n : Nat) : Int) != ((n0 : Nat) : Int))
  (K (false, ()) w19)
  (LoopV [.one (.int .i64)] ((0 : Int), ()) w19 fun (z20 : Int × Unit) w21 (K22 : Int × Unit → World → Prop) =>
  cond (decide (z20.1 < ((n0 : Nat) : Int)))
  (LoopV [.one (.int .i64)] ((0 : Int), ()) w21 fun (z23 : Int × Unit) w24 (K25 : Int × Unit → World → Prop) =>
  (0 ≤ z20.1 ∧ z20.1 < ((r16.1.n : Nat) : Int)) ∧ ∃ q26 : Addr, r16.1.a = some q26 ∧
  LoadS w24 ((q26.add (z20.1.toNat * 3)).add 2) .sl fun (x27 : SlV) =>
  cond (decide (z23.1 < ((x27.n : Nat) : Int)))
  ((0 ≤ z20.1 ∧ z20.1 < ((r16.1.n : Nat) : Int)) ∧ ∃ q28 : Addr, r16.1.a = some q28 ∧
  LoadS w24 ((q28.add (z20.1.toNat * 3)).add 2) .sl fun (x29 : SlV) =>
  (0 ≤ z23.1 ∧ z23.1 < ((x29.n : Nat) : Int)) ∧ ∃ q30 : Addr, x29.a = some q30 ∧
  LoadS w24 (q30.add (z23.1.toNat * 1)) (.int .u8) fun (x31 : Int) =>
  (0 ≤ z23.1 ∧ z23.1 < ((x29.n : Nat) : Int)) ∧ ∃ q32 : Addr, x29.a = some q32 ∧
  StoreV w24 (q32.add (z23.1.toNat * 1)) [.int .u8 (Go.bits .xor .u8 x31 255)] fun w33 =>
  Rng .i64 (z23.1 + 1) ∧
  K25 (z23.1 + 1, ()) w33)
  (DrawV fun D34 =>
  (0 ≤ z20.1 ∧ z20.1 < ((r18.1.n : Nat) : Int)) ∧ ∃ q35 : Addr, r18.1.a = some q35 ∧
  (D34 (q35.add (z20.1.toNat * 3)).block ∧ LoadS w24.drew (q35.add (z20.1.toNat * 3)) (.int .i64) fun (x36 : Int) =>
  (0 ≤ z20.1 ∧ z20.1 < ((n0 : Nat) : Int)) ∧ ∃ q37 : Addr, a0 = some q37 ∧
  (D34 (q37.add (z20.1.toNat * 3)).block ∧ LoadS w24.drew (q37.add (z20.1.toNat * 3)) (.int .i64) fun (x38 : Int) =>
  cond (x36 != x38)
  (K (false, ()) w24.drew)
  ((0 ≤ z20.1 ∧ z20.1 < ((r18.1.n : Nat) : Int)) ∧ ∃ q39 : Addr, r18.1.a = some q39 ∧
  (D34 ((q39.add (z20.1.toNat * 3)).add 1).block ∧ LoadS w24.drew ((q39.add (z20.1.toNat * 3)).add 1) .bool fun (x40 : Bool) =>
  (0 ≤ z20.1 ∧ z20.1 < ((n0 : Nat) : Int)) ∧ ∃ q41 : Addr, a0 = some q41 ∧
  (D34 ((q41.add (z20.1.toNat * 3)).add 1).block ∧ LoadS w24.drew ((q41.add (z20.1.toNat * 3)).add 1) .bool fun (x42 : Bool) =>
  cond (!(x40 == x42))
  (K (false, ()) w24.drew)
  ((0 ≤ z20.1 ∧ z20.1 < ((r18.1.n : Nat) : Int)) ∧ ∃ q43 : Addr, r18.1.a = some q43 ∧
  (D34 ((q43.add (z20.1.toNat * 3)).add 2).block ∧ LoadS w24.drew ((q43.add (z20.1.toNat * 3)).add 2) .sl fun (x44 : SlV) =>
  (0 ≤ z20.1 ∧ z20.1 < ((n0 : Nat) : Int)) ∧ ∃ q45 : Addr, a0 = some q45 ∧
  (D34 ((q45.add (z20.1.toNat * 3)).add 2).block ∧ LoadS w24.drew ((q45.add (z20.1.toNat * 3)).add 2) .sl fun (x46 : SlV) =>
  CallV Try.prog 17 #[.slice x44.a x44.n x44.c, .slice x46.a x46.n x46.c] w24.drew [.one .bool] fun (r47 : Bool × Unit) w48 =>
  KeepOn D34 w24.drew w48 ∧
  cond (!r47.1)
  (K (false, ()) w48)
  (Rng .i64 (z20.1 + 1) ∧
  K22 (z20.1 + 1, ()) w48)))))))))))
  (CallV Try.prog 21 #[] w21 [.one .bool] fun (r49 : Bool × Unit) w50 =>
  K (r49.1, ()) w50))))) fun (J13 : Bool × Unit → World → Prop) =>
  DrawV fun D51 =>
  cond r6.2.1
  ((D51 b8 ∧ LoadS w12.drew ⟨b8, 0, none⟩ (.int .i64) fun (x52 : Int) =>
  cond (x52 != p1)
  (J13 (true, ()) w12.drew)
  ((D51 b8 ∧ LoadS w12.drew ⟨b8, 1, none⟩ .bool fun (x53 : Bool) =>
  (0 ≤ r11.1 ∧ r11.1 < ((n0 : Nat) : Int)) ∧ ∃ q54 : Addr, a0 = some q54 ∧
  (D51 ((q54.add (r11.1.toNat * 3)).add 1).block ∧ LoadS w12.drew ((q54.add (r11.1.toNat * 3)).add 1) .bool fun (x55 : Bool) =>
  cond (!(x53 == x55))
  (J13 (true, ()) w12.drew)
  ((D51 b8 ∧ LoadS w12.drew ⟨b8, 2, none⟩ .sl fun (x56 : SlV) =>
  (0 ≤ r11.1 ∧ r11.1 < ((n0 : Nat) : Int)) ∧ ∃ q57 : Addr, a0 = some q57 ∧
  (D51 ((q57.add (r11.1.toNat * 3)).add 2).block ∧ LoadS w12.drew ((q57.add (r11.1.toNat * 3)).add 2) .sl fun (x58 : SlV) =>
  CallV Try.prog 17 #[.slice x56.a x56.n x56.c, .slice x58.a x58.n x58.c] w12.drew [.one .bool] fun (r59 : Bool × Unit) w60 =>
  KeepOn D51 w12.drew w60 ∧
  cond (!r59.1)
  (J13 (true, ()) w60)
  (cond (!r6.2.1)
  ((D51 b8 ∧ LoadS w12.drew ⟨b8, 0, none⟩ (.int .i64) fun (x61 : Int) =>
  cond (x61 != 0)
  (J13 (true, ()) w60)
  ((D51 b8 ∧ LoadS w12.drew ⟨b8, 1, none⟩ .bool fun (x62 : Bool) =>
  cond x62
  (J13 (true, ()) w60)
  ((D51 b8 ∧ LoadS w12.drew ⟨b8, 2, none⟩ .sl fun (x63 : SlV) =>
  J13 (decide (((x63.n : Nat) : Int) > 0), ()) w60))))))
  (J13 (false, ()) w60))))))))))
  (cond (!r6.2.1)
  ((D51 b8 ∧ LoadS w12.drew ⟨b8, 0, none⟩ (.int .i64) fun (x64 : Int) =>
  cond (x64 != 0)
  (J13 (true, ()) w12.drew)
  ((D51 b8 ∧ LoadS w12.drew ⟨b8, 1, none⟩ .bool fun (x65 : Bool) =>
  cond x65
  (J13 (true, ()) w12.drew)
  ((D51 b8 ∧ LoadS w12.drew ⟨b8, 2, none⟩ .sl fun (x66 : SlV) =>
  J13 (decide (((x66.n : Nat) : Int) > 0), ()) w12.drew))))))
  (J13 (false, ()) w12.drew))))) fun (J3 : Bool × Unit → World → Prop) =>
  CallV Try.prog 30 #[.slice a0 n0 c0] w [.one (.int .i64)] fun (r67 : Int × Unit) w68 =>
  CallV Try.prog 31 #[.slice a0 n0 c0] w68 [.one .bool] fun (r69 : Bool × Unit) w70 =>
  cond (!((r67.1 == 0) == r69.1))
  (J3 (true, ()) w70)
  (CallV Try.prog 31 #[.slice a0 n0 c0] w70 [.one .bool] fun (r71 : Bool × Unit) w72 =>
  cond (!r71.1)
  (CallV Try.prog 30 #[.slice a0 n0 c0] w72 [.one (.int .i64)] fun (r73 : Int × Unit) w74 =>
  J3 ((r73.1 != 2), ()) w74)
  (J3 (false, ()) w72)))
theorem law12_FaultPlans.vc (a0 : Option Addr) (n0 c0 : Nat) (p1 : Int) (w : World) (K : Bool × Unit → World → Prop) (h : law12_FaultPlans.P a0 n0 c0 p1 w K) : CallV Try.prog 9 #[.slice a0 n0 c0, .int .i64 p1] w [.one .bool] K := by
  have e : vcFun Try.prog okf false Try.f9 law12_FaultPlans.A #[.slice a0 n0 c0, .int .i64 p1] w [.one .bool] K = law12_FaultPlans.P a0 n0 c0 p1 w K := by kernel_rfl
  exact vcFun.calls okf_ok follows Try.func9 (e.symm ▸ h)

end Go.Proofs.Ytombjhkdakmhpaa.Vc
