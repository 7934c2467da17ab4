/- Texts in one: Plain data of layer 27 (sanitise): what is dirty; what is done to each block; a drain. The plans of functions as plain statements, printed by wip/tools/vcgen.py; the kernel holds each to the code. The contracts of layer 27 (sanitise): what is done to each block; a drain; a namespace forgotten. The contracts of layer 27 (sanitise): a drain; what leaks; a namespace forgotten. The plans of functions as plain statements, printed by wip/tools/vcgen.py; the kernel holds each to the code. The contracts of the laws of layer 27: which cases are played; payloads, a new stream on an array, a step put. Plain laws of layer 25 (stream): a new stream takes a page. Plain laws of layer 27: a new stream takes a page, and is drained. The plans of functions as plain statements, printed by wip/tools/vcgen.py; the kernel holds each to the code. The plans of functions as plain statements, printed by wip/tools/vcgen.py; the kernel holds each to the code. The plans of functions as plain statements, printed by wip/tools/vcgen.py; the kernel holds each to the code. The plans of functions as plain statements, printed by wip/tools/vcgen.py; the kernel holds each to the code. The plans of functions as plain statements, printed by wip/tools/vcgen.py; the kernel holds each to the code. The plans of functions as plain statements, printed by wip/tools/vcgen.py; the kernel holds each to the code. The law SanitiseForgets of layer 27: each call gives true, and what it read stays. -/
import Derived.Test.YtbaojfchlhlaeaaGreatZSanitiseForgetsf

set_option linter.unusedVariables false
set_option linter.unusedSimpArgs false
/-! Plain data of layer 27 (sanitise): what is dirty; what is done to each block; a drain. -/
namespace Go.Proofs.YtbaojfchlhlaeaaGreat.Vc
open Go Go.Eng Go.RowKit
def dirB (x : Blk) : Bool := bif x.ba then (bif x.cl then false else !x.go) else bif x.he then decide (x.li < x.us) else !x.cl
def cln (L : List Blk) : Bool := !L.any dirB
def lks (L : List Blk) : Bool := L.any fun x => x.le
def powE (e : Int) : Int := if e = 4 then 4 else 0
def eachF {σ : Type} (f : σ → Nat → σ × Int) (n : Nat) : Nat → σ → σ × Int
  | 0, x => (x, 0)
  | k + 1, x => if (f x (n - (k + 1))).2 ≠ 0 then f x (n - (k + 1)) else eachF f n k (f x (n - (k + 1))).1
def emdS (s : SD) (b : Int) : SD × Int :=
  if (gx s.L b.toNat).he = true then (if (emtS s b).2 ≠ 0 then emtS s b else ((dstS (emtS s b).1 b).1, powE (dstS (emtS s b).1 b).2)) else ((dstS s b).1, powE (dstS s b).2)
def drn1 (s : SD) (b : Nat) : SD × Int := if dirB (gx s.L b) = true then emdS s (b : Int) else (s, 0)
def drnE (s : SD) : Int := if cln s.L = true then (if lks s.L = true then 17 else 0) else 17
def drnP : Nat → SD → SD × Int
  | 0, s => (s, drnE s)
  | k + 1, s => if cln s.L = true then (s, drnE s) else if (eachF drn1 s.L.length s.L.length s).2 ≠ 0 then eachF drn1 s.L.length s.L.length s else drnP k (eachF drn1 s.L.length s.L.length s).1
section
variable {g : Geo} {n K J : Nat} {s s' t : SD}
theorem SI.emd (h : SI g n s) {b : Int} (hb : 0 ≤ b ∧ b < (n : Int)) (ho : s.C.ops + 215042 ≤ 1000000000000) : St g n 215042 s (emdS s b).1 := by
  unfold emdS
  split
  · obtain ⟨e1, e2⟩ := h.emt (b := b) (by omega)
    split
    · exact e1.up (by omega)
    · rename_i h0
      have h0 : (emtS s b).2 = 0 := by omega
      have o2 := e1.o2
      obtain ⟨d1, -⟩ := e1.i.dst (b := b) (e2 h0) (by omega)
      exact e1.trans d1
  · rename_i hh
    obtain ⟨d1, -⟩ := h.dst (b := b) (fun _ => by simpa using hh) (by omega)
    exact d1.up (by omega)
theorem SI.drn1 (h : SI g n s) {b : Nat} (hb : b < n) (ho : s.C.ops + 215042 ≤ 1000000000000) : St g n 215042 s (drn1 s b).1 := by
  unfold Vc.drn1
  split
  · exact h.emd ⟨by omega, by omega⟩ ho
  · exact (St.refl h).up (by omega)
def drC (k : Nat) : Nat := 215042 * k
theorem drCs (k : Nat) : drC (k + 1) = drC k + 215042 := Nat.mul_succ _ _
theorem drC_le {k j : Nat} (h : k ≤ j) : drC k ≤ drC j := Nat.mul_le_mul (Nat.le_refl _) h
theorem SI.each {f : SD → Nat → SD × Int} (hf : ∀ {t : SD} {i : Nat}, SI g n t → i < n → t.C.ops + 215042 ≤ 1000000000000 → St g n 215042 t (f t i).1) : ∀ (k : Nat) {s : SD}, k ≤ n → SI g n s → s.C.ops + drC k ≤ 1000000000000 → St g n (drC k) s (eachF f n k s).1
  | 0, s, _, h, _ => (St.refl h).up (by omega)
  | k + 1, s, hk, h, ho => by
    have e := drCs k
    have h1 := hf (t := s) (i := n - (k + 1)) h (by omega) (by omega)
    unfold eachF
    split
    · exact h1.up (by omega)
    · have o2 := h1.o2
      have h2 := SI.each hf k (by omega) h1.i (by omega)
      exact (h1.trans h2).up (by omega)
def drD (k : Nat) : Nat := 12902520 * k
theorem drDs (k : Nat) : drD (k + 1) = drD k + 12902520 := Nat.mul_succ _ _
theorem drC60 {n : Nat} (h : (n : Int) ≤ 60) : drC n ≤ 12902520 := drC_le (j := 60) (by omega)
theorem SI.drnP : ∀ (k : Nat) {s : SD}, SI g n s → s.C.ops + drD k ≤ 1000000000000 → St g n (drD k) s (drnP k s).1
  | 0, s, h, _ => (St.refl h).up (Nat.zero_le _)
  | k + 1, s, h, ho => by
    have e := drDs k
    have e60 := drC60 h.no.1
    have h1 := SI.each (fun h hi ho => SI.drn1 h hi ho) n (Nat.le_refl n) h (by omega)
    unfold Vc.drnP
    rw [h.ln]
    split
    · exact (St.refl h).up (Nat.zero_le _)
    · split
      · exact h1.up (by omega)
      · have o2 := h1.o2
        have h2 := SI.drnP k h1.i (by omega)
        exact (h1.trans h2).up (by omega)
end
end Go.Proofs.YtbaojfchlhlaeaaGreat.Vc
/-! The plans of functions as plain statements, printed by wip/tools/vcgen.py; the kernel holds each to the code. -/
namespace Go.Proofs.YtbaojfchlhlaeaaGreat.Vc
open Go Go.Eng
def sanitise_each.A : Ann := .two .no (.two (.two .no (.one (.loop [4, 5, 6, 11, 12, 13, 14, 15, 16, 17, 18, 19, 20, 21, 22, 23, 24, 25] [(11, .one (.int .i64))] .no))) .no)
def sanitise_each.P (p0 : Addr) (g1 : FuncId) (cap1 : Array Value) (w : World) (K : Int × Unit → World → Prop) : Prop :=
  CallV Tryz.prog 26 #[.pointer (some p0)] w [.one .ptr] fun (r1 : (Option Addr) × Unit) w2 =>
  CallV Tryz.prog 27 #[.pointer r1.1] w2 [.one .ptr] fun (r3 : (Option Addr) × Unit) w4 =>
  CallV Tryz.prog 52 #[.pointer r3.1] w4 [.one (.int .i64)] fun (r5 : Int × Unit) w6 =>
  LoopV [.one (.int .i64)] ((0 : Int), ()) w6 fun (z7 : Int × Unit) w8 (K9 : Int × Unit → World → Prop) =>
  cond (decide (z7.1 < r5.1))
  (CallV Tryz.prog 26 #[.pointer (some p0)] w8 [.one .ptr] fun (r10 : (Option Addr) × Unit) w11 =>
  CallV Tryz.prog 27 #[.pointer r10.1] w11 [.one .ptr] fun (r12 : (Option Addr) × Unit) w13 =>
  CallV Tryz.prog 54 #[.pointer r12.1, .int .i64 z7.1] w13 [.agg [.int .i64, .int .i64, .int .i64, .int .i64, .bool, .bool, .bool, .bool, .bool]] fun (r14 : (Int × Int × Int × Int × Bool × Bool × Bool × Bool × Bool × Unit) × Unit) w15 =>
  cond (okf g1)
  (CallV Tryz.prog g1 ([] ++ ((([.int .i64 z7.1, .agg #[.int .i64 r14.1.1, .int .i64 r14.1.2.1, .int .i64 r14.1.2.2.1, .int .i64 r14.1.2.2.2.1, .bool r14.1.2.2.2.2.1, .bool r14.1.2.2.2.2.2.1, .bool r14.1.2.2.2.2.2.2.1, .bool r14.1.2.2.2.2.2.2.2.1, .bool r14.1.2.2.2.2.2.2.2.2.1]] : List Value)) ++ (cap1).toList)).toArray w15 [.one (.int .i64)] fun (r16 : Int × Unit) w17 =>
  cond (r16.1 != 0)
  (K (r16.1, ()) w17)
  (Rng .i64 (z7.1 + 1) ∧
  K9 (z7.1 + 1, ()) w17))
  False)
  (K ((0 : Int), ()) w8)
theorem sanitise_each.vc (p0 : Addr) (g1 : FuncId) (cap1 : Array Value) (w : World) (K : Int × Unit → World → Prop) (h : sanitise_each.P p0 g1 cap1 w K) : CallV Tryz.prog 84 #[.pointer (some p0), .func (.func g1) #[] cap1] w [.one (.int .i64)] K := by
  refine vcFun.of (A := sanitise_each.A) (wr := false) okf_ok follows h Tryz.func84 ?_
  kernel_rfl
def sanitise_power.A : Ann := .no
def sanitise_power.P (p0 : Int) (w : World) (K : Int × Unit → World → Prop) : Prop :=
  cond (p0 == 4)
  (K (p0, ()) w)
  (K ((0 : Int), ()) w)
theorem sanitise_power.vc (p0 : Int) (w : World) (K : Int × Unit → World → Prop) (h : sanitise_power.P p0 w K) : CallV Tryz.prog 90 #[.int .i64 p0] w [.one (.int .i64)] K := by
  refine vcFun.of (A := sanitise_power.A) (wr := false) okf_ok follows h Tryz.func90 ?_
  kernel_rfl
def sanitise_emptied.A : Ann := .no
def sanitise_emptied.P (p0 : Addr) (p1 p2_0 p2_1 p2_2 p2_3 : Int) (p2_4 p2_5 p2_6 p2_7 p2_8 : Bool) (w : World) (K : Int × Unit → World → Prop) : Prop :=
  NewV #[.int .i64 p2_0, .int .i64 p2_1, .int .i64 p2_2, .int .i64 p2_3, .bool p2_4, .bool p2_5, .bool p2_6, .bool p2_7, .bool p2_8] 103 w fun b1 w2 =>
  LoadS w2 ⟨b1, 4, none⟩ .bool fun (x3 : Bool) =>
  cond x3
  (CallV Tryz.prog 46 #[.pointer (some p0), .int .i64 p1] w2 [.one (.int .i64)] fun (r4 : Int × Unit) w5 =>
  cond (r4.1 != 0)
  (K (r4.1, ()) w5)
  (CallV Tryz.prog 47 #[.pointer (some p0), .int .i64 p1] w5 [.one (.int .i64)] fun (r6 : Int × Unit) w7 =>
  CallV Tryz.prog 90 #[.int .i64 r6.1] w7 [.one (.int .i64)] fun (r8 : Int × Unit) w9 =>
  K (r8.1, ()) w9))
  (CallV Tryz.prog 47 #[.pointer (some p0), .int .i64 p1] w2 [.one (.int .i64)] fun (r10 : Int × Unit) w11 =>
  CallV Tryz.prog 90 #[.int .i64 r10.1] w11 [.one (.int .i64)] fun (r12 : Int × Unit) w13 =>
  K (r12.1, ()) w13)
theorem sanitise_emptied.vc (p0 : Addr) (p1 p2_0 p2_1 p2_2 p2_3 : Int) (p2_4 p2_5 p2_6 p2_7 p2_8 : Bool) (w : World) (K : Int × Unit → World → Prop) (h : sanitise_emptied.P p0 p1 p2_0 p2_1 p2_2 p2_3 p2_4 p2_5 p2_6 p2_7 p2_8 w K) : CallV Tryz.prog 87 #[.pointer (some p0), .int .i64 p1, .agg #[.int .i64 p2_0, .int .i64 p2_1, .int .i64 p2_2, .int .i64 p2_3, .bool p2_4, .bool p2_5, .bool p2_6, .bool p2_7, .bool p2_8]] w [.one (.int .i64)] K := by
  refine vcFun.of (A := sanitise_emptied.A) (wr := false) okf_ok follows h Tryz.func87 ?_
  kernel_rfl
def sanitise_Clean.A : Ann := .two .no (.two .no (.two (.two .no (.one (.loop [2, 4, 10, 11, 12, 13, 14, 15, 16] [(10, .one (.int .i64))] .no))) .no))
def sanitise_Clean.P (p0 : Addr) (w : World) (K : Bool × Unit → World → Prop) : Prop :=
  CallV Tryz.prog 26 #[.pointer (some p0)] w [.one .ptr] fun (r1 : (Option Addr) × Unit) w2 =>
  CallV Tryz.prog 27 #[.pointer r1.1] w2 [.one .ptr] fun (r3 : (Option Addr) × Unit) w4 =>
  CallV Tryz.prog 52 #[.pointer r3.1] w4 [.one (.int .i64)] fun (r5 : Int × Unit) w6 =>
  LoopV [.one (.int .i64)] ((0 : Int), ()) w6 fun (z7 : Int × Unit) w8 (K9 : Int × Unit → World → Prop) =>
  cond (decide (z7.1 < r5.1))
  (CallV Tryz.prog 86 #[.pointer r3.1, .int .i64 z7.1] w8 [.one .bool] fun (r10 : Bool × Unit) w11 =>
  cond r10.1
  (K (false, ()) w11)
  (Rng .i64 (z7.1 + 1) ∧
  K9 (z7.1 + 1, ()) w11))
  (K (true, ()) w8)
theorem sanitise_Clean.vc (p0 : Addr) (w : World) (K : Bool × Unit → World → Prop) (h : sanitise_Clean.P p0 w K) : CallV Tryz.prog 23 #[.pointer (some p0)] w [.one .bool] K := by
  refine vcFun.of (A := sanitise_Clean.A) (wr := false) okf_ok follows h Tryz.func23 ?_
  kernel_rfl
def sanitise_leaks.A : Ann := .no
def sanitise_leaks.P (p0 : Addr) (w : World) (K : Bool × Unit → World → Prop) : Prop :=
  NewV #[.bool false] 4 w fun b1 w2 =>
  StoreV w2 ⟨b1, 0, none⟩ [.bool false] fun w3 =>
  CallV Tryz.prog 84 #[.pointer (some p0), .func (.func 148) #[] #[.pointer (some ⟨b1, 0, none⟩)]] w3 [.one (.int .i64)] fun (r4 : Int × Unit) w5 =>
  LoadS w5 ⟨b1, 0, none⟩ .bool fun (x6 : Bool) =>
  K (x6, ()) w5
theorem sanitise_leaks.vc (p0 : Addr) (w : World) (K : Bool × Unit → World → Prop) (h : sanitise_leaks.P p0 w K) : CallV Tryz.prog 88 #[.pointer (some p0)] w [.one .bool] K := by
  refine vcFun.of (A := sanitise_leaks.A) (wr := false) okf_ok follows h Tryz.func88 ?_
  kernel_rfl
def sanitise_leaks_1.A : Ann := .no
def sanitise_leaks_1.P (p0 p1_0 p1_1 p1_2 p1_3 : Int) (p1_4 p1_5 p1_6 p1_7 p1_8 : Bool) (cq0 : Addr) (w : World) (K : Int × Unit → World → Prop) : Prop :=
  NewV #[.int .i64 p1_0, .int .i64 p1_1, .int .i64 p1_2, .int .i64 p1_3, .bool p1_4, .bool p1_5, .bool p1_6, .bool p1_7, .bool p1_8] 103 w fun b1 w2 =>
  LoadS w2 cq0 .bool fun (x3 : Bool) =>
  cond x3
  (StoreV w2 cq0 [.bool true] fun w4 =>
  K ((0 : Int), ()) w4)
  (LoadS w2 ⟨b1, 8, none⟩ .bool fun (x5 : Bool) =>
  StoreV w2 cq0 [.bool x5] fun w6 =>
  K ((0 : Int), ()) w6)
theorem sanitise_leaks_1.vc (p0 p1_0 p1_1 p1_2 p1_3 : Int) (p1_4 p1_5 p1_6 p1_7 p1_8 : Bool) (cq0 : Addr) (w : World) (K : Int × Unit → World → Prop) (h : sanitise_leaks_1.P p0 p1_0 p1_1 p1_2 p1_3 p1_4 p1_5 p1_6 p1_7 p1_8 cq0 w K) : CallV Tryz.prog 148 #[.int .i64 p0, .agg #[.int .i64 p1_0, .int .i64 p1_1, .int .i64 p1_2, .int .i64 p1_3, .bool p1_4, .bool p1_5, .bool p1_6, .bool p1_7, .bool p1_8], .pointer (some cq0)] w [.one (.int .i64)] K := by
  refine vcFun.of (A := sanitise_leaks_1.A) (wr := false) okf_ok follows h Tryz.func148 ?_
  kernel_rfl
def sanitise_Drain.A : Ann := .two .no (.two .no (.two (.two .no (.one (.loop [2, 3, 6, 7, 8, 9, 10, 11, 12, 13, 14, 15, 16] [(6, .one (.int .i64))] .no))) .no))
def sanitise_Drain.P (p0 : Addr) (w : World) (K : Int × Unit → World → Prop) : Prop :=
  NewV #[.pointer (some p0)] 32 w fun b1 w2 =>
  LoadS w2 ⟨b1, 0, none⟩ .ptr fun (x3 : Option Addr) =>
  cond x3.isNone
  (K ((2 : Int), ()) w2)
  (LoopV [.one (.int .i64)] ((0 : Int), ()) w2 fun (z4 : Int × Unit) w5 (K6 : Int × Unit → World → Prop) =>
  cond (decide (z4.1 < 4))
  (LoadS w5 ⟨b1, 0, none⟩ .ptr fun (x7 : Option Addr) =>
  CallV Tryz.prog 23 #[.pointer x7] w5 [.one .bool] fun (r8 : Bool × Unit) w9 =>
  cond r8.1
  (LoadS w9 ⟨b1, 0, none⟩ .ptr fun (x10 : Option Addr) =>
  CallV Tryz.prog 23 #[.pointer x10] w9 [.one .bool] fun (r11 : Bool × Unit) w12 =>
  cond (!r11.1)
  (K ((17 : Int), ()) w12)
  (LoadS w12 ⟨b1, 0, none⟩ .ptr fun (x13 : Option Addr) =>
  CallV Tryz.prog 88 #[.pointer x13] w12 [.one .bool] fun (r14 : Bool × Unit) w15 =>
  cond r14.1
  (K ((17 : Int), ()) w15)
  (K ((0 : Int), ()) w15)))
  (LoadS w9 ⟨b1, 0, none⟩ .ptr fun (x16 : Option Addr) =>
  CallV Tryz.prog 84 #[.pointer x16, .func (.func 85) #[] #[.pointer (some ⟨b1, 0, none⟩)]] w9 [.one (.int .i64)] fun (r17 : Int × Unit) w18 =>
  cond (r17.1 != 0)
  (K (r17.1, ()) w18)
  (Rng .i64 (z4.1 + 1) ∧
  K6 (z4.1 + 1, ()) w18)))
  (LoadS w5 ⟨b1, 0, none⟩ .ptr fun (x19 : Option Addr) =>
  CallV Tryz.prog 23 #[.pointer x19] w5 [.one .bool] fun (r20 : Bool × Unit) w21 =>
  cond (!r20.1)
  (K ((17 : Int), ()) w21)
  (LoadS w21 ⟨b1, 0, none⟩ .ptr fun (x22 : Option Addr) =>
  CallV Tryz.prog 88 #[.pointer x22] w21 [.one .bool] fun (r23 : Bool × Unit) w24 =>
  cond r23.1
  (K ((17 : Int), ()) w24)
  (K ((0 : Int), ()) w24))))
theorem sanitise_Drain.vc (p0 : Addr) (w : World) (K : Int × Unit → World → Prop) (h : sanitise_Drain.P p0 w K) : CallV Tryz.prog 21 #[.pointer (some p0)] w [.one (.int .i64)] K := by
  refine vcFun.of (A := sanitise_Drain.A) (wr := false) okf_ok follows h Tryz.func21 ?_
  kernel_rfl
def sanitise_Drain_1.A : Ann := .two .no (.two .no (.two (.draw (.take 0 (.take 1 (.take 2 (.take 5 (.eff 3 (.eff 4 (.eff 6 (.eff 7 (.take 8 (.done))))))))))) .no))
def sanitise_Drain_1.P (p0 p1_0 p1_1 p1_2 p1_3 : Int) (p1_4 p1_5 p1_6 p1_7 p1_8 : Bool) (cq0 : Addr) (w : World) (K : Int × Unit → World → Prop) : Prop :=
  NewV #[.int .i64 p1_0, .int .i64 p1_1, .int .i64 p1_2, .int .i64 p1_3, .bool p1_4, .bool p1_5, .bool p1_6, .bool p1_7, .bool p1_8] 103 w fun b1 w2 =>
  LoadS w2 cq0 .ptr fun (x3 : Option Addr) =>
  CallV Tryz.prog 26 #[.pointer x3] w2 [.one .ptr] fun (r4 : (Option Addr) × Unit) w5 =>
  CallV Tryz.prog 27 #[.pointer r4.1] w5 [.one .ptr] fun (r6 : (Option Addr) × Unit) w7 =>
  CallV Tryz.prog 86 #[.pointer r6.1, .int .i64 p0] w7 [.one .bool] fun (r8 : Bool × Unit) w9 =>
  cond (!r8.1)
  (K ((0 : Int), ()) w9)
  (DrawV fun D10 =>
  (D10 cq0.block ∧ LoadS w9.drew cq0 .ptr fun (x11 : Option Addr) =>
  (D10 cq0.block ∧ LoadS w9.drew cq0 .ptr fun (x12 : Option Addr) =>
  CallV Tryz.prog 26 #[.pointer x12] w9.drew [.one .ptr] fun (r13 : (Option Addr) × Unit) w14 =>
  KeepOn D10 w9.drew w14 ∧
  CallV Tryz.prog 27 #[.pointer r13.1] w14 [.one .ptr] fun (r15 : (Option Addr) × Unit) w16 =>
  KeepOn D10 w9.drew w16 ∧
  CallV Tryz.prog 54 #[.pointer r15.1, .int .i64 p0] w16 [.agg [.int .i64, .int .i64, .int .i64, .int .i64, .bool, .bool, .bool, .bool, .bool]] fun (r17 : (Int × Int × Int × Int × Bool × Bool × Bool × Bool × Bool × Unit) × Unit) w18 =>
  KeepOn D10 w9.drew w18 ∧
  CallV Tryz.prog 87 #[.pointer x11, .int .i64 p0, .agg #[.int .i64 r17.1.1, .int .i64 r17.1.2.1, .int .i64 r17.1.2.2.1, .int .i64 r17.1.2.2.2.1, .bool r17.1.2.2.2.2.1, .bool r17.1.2.2.2.2.2.1, .bool r17.1.2.2.2.2.2.2.1, .bool r17.1.2.2.2.2.2.2.2.1, .bool r17.1.2.2.2.2.2.2.2.2.1]] w18 [.one (.int .i64)] fun (r19 : Int × Unit) w20 =>
  KeepOn D10 w9.drew w20 ∧
  K (r19.1, ()) w20)))
theorem sanitise_Drain_1.vc (p0 p1_0 p1_1 p1_2 p1_3 : Int) (p1_4 p1_5 p1_6 p1_7 p1_8 : Bool) (cq0 : Addr) (w : World) (K : Int × Unit → World → Prop) (h : sanitise_Drain_1.P p0 p1_0 p1_1 p1_2 p1_3 p1_4 p1_5 p1_6 p1_7 p1_8 cq0 w K) : CallV Tryz.prog 85 #[.int .i64 p0, .agg #[.int .i64 p1_0, .int .i64 p1_1, .int .i64 p1_2, .int .i64 p1_3, .bool p1_4, .bool p1_5, .bool p1_6, .bool p1_7, .bool p1_8], .pointer (some cq0)] w [.one (.int .i64)] K := by
  refine vcFun.of (A := sanitise_Drain_1.A) (wr := false) okf_ok follows h Tryz.func85 ?_
  kernel_rfl
def sanitise_Forget.A : Ann := .no
def sanitise_Forget.P (p0 : Addr) (p1 : Int) (w : World) (K : Int × Unit → World → Prop) : Prop :=
  CallV Tryz.prog 24 #[.pointer (some p0)] w [.one .ptr] fun (r1 : (Option Addr) × Unit) w2 =>
  CallV Tryz.prog 25 #[.pointer r1.1, .int .i64 p1] w2 [.one (.int .i64)] fun (r3 : Int × Unit) w4 =>
  cond (r3.1 == 0)
  (K ((2 : Int), ()) w4)
  (CallV Tryz.prog 44 #[.pointer (some p0), .int .i64 p1] w4 [] fun (r5 : Unit) w6 =>
  K ((0 : Int), ()) w6)
theorem sanitise_Forget.vc (p0 : Addr) (p1 : Int) (w : World) (K : Int × Unit → World → Prop) (h : sanitise_Forget.P p0 p1 w K) : CallV Tryz.prog 20 #[.pointer (some p0), .int .i64 p1] w [.one (.int .i64)] K := by
  refine vcFun.of (A := sanitise_Forget.A) (wr := false) okf_ok follows h Tryz.func20 ?_
  kernel_rfl
end Go.Proofs.YtbaojfchlhlaeaaGreat.Vc
/-! The contracts of layer 27 (sanitise): what is done to each block; a drain; a namespace forgotten. -/
namespace Go.Proofs.YtbaojfchlhlaeaaGreat.Vc
open Go Go.Eng Go.RowKit
section
variable {E : Nat → Prop} {w0 w : World} {Rs : List Asr} {sp pp pm p q n : Nat} {g : Geo} {s : SD} {L : List Blk}
theorem dirty21_c {x : Blk} : CallV Tryz.prog 147 #[x.val] w [.one .bool] fun r w' => r.1 = dirB x ∧ Ext w w' := by
  apply ledger_dirty.vc
  unfold ledger_dirty.P
  have S := Sep.start NoB w
  refine S.newB (vs := x.vs) fun b1 w1 S f1 _ => S.ld0 (j := 6) rfl rfl ?_
  unfold dirB
  refine cond_of (fun h6 => S.ld0 (j := 5) rfl rfl (cond_of (fun h5 => ?_) (fun h5 => ?_))) (fun h6 => S.ld0 (j := 4) rfl rfl (cond_of (fun h4 => ?_) (fun h4 => ?_)))
  · refine S.ld0 (j := 7) rfl rfl ⟨?_, S.ext⟩
    rw [show x.ba = true from h6, show x.cl = false by simpa using h5]; rfl
  · refine ⟨?_, S.ext⟩
    rw [show x.ba = true from h6, show x.cl = true by simpa using h5]; rfl
  · refine S.ld0 (j := 1) rfl rfl (S.ld0 (j := 2) rfl rfl ⟨?_, S.ext⟩)
    rw [show x.ba = false from h6, show x.he = true from h4]; rfl
  · refine S.ld0 (j := 5) rfl rfl ⟨?_, S.ext⟩
    rw [show x.ba = false from h6, show x.he = false from h4]; rfl
theorem Dirty_e {b : Int} (S : Sep E w0 w (ledE q L :: Rs)) (hb : 0 ≤ b ∧ b < (L.length : Int)) : CallV Tryz.prog 86 #[.pointer (some ⟨q, 0, none⟩), .int .i64 b] w [.one .bool] fun r w' => r.1 = dirB (gx L b.toNat) ∧ Ext w w' := by
  obtain ⟨a, c, S⟩ := ledE_out S
  apply ledger_Ledger_Dirty.vc
  unfold ledger_Ledger_Dirty.P
  refine (has_c (b := b) S).mono ?_
  rintro ⟨(r : Bool), ⟨⟩⟩ w2 ⟨h2, rfl⟩
  dsimp only at h2 ⊢
  subst h2
  refine cond_t (decide_eq_true hb) ?_
  obtain ⟨q, hq, hc, -⟩ := nthB (i := b) 1 S rfl hb.1 hb.2
  refine S.ld0 rfl rfl ⟨hb, q, hq, (gx L b.toNat).tup, hc, ?_⟩
  exact dirty21_c
theorem each27_c {σ : Type} {f : σ → Nat → σ × Int} {sd : σ → SD} {rs : σ → List Asr} {P : Nat → σ → Prop} {x : σ} {g1 : FuncId} {cap : Array Value} (hok : okf g1 = true)
    (hP : ∀ {i : Nat} {y : σ}, P i y → SI g n (sd y)) (h0 : P 0 x)
    (hs : ∀ {i : Nat} {y : σ}, P i y → i < n → (f y i).2 = 0 → P (i + 1) (f y i).1)
    (hc : ∀ {i : Nat} {y : σ} {w : World}, P i y → i < n → Sep E w0 w (stS sp pp pm p q g (sd y) (rs y)) →
      CallV Tryz.prog g1 ([] ++ ((([.int .i64 (i : Int), (gx (sd y).L i).val] : List Value)) ++ cap.toList)).toArray w [.one (.int .i64)] fun r w' => r.1 = (f y i).2 ∧ Sep E w0 w' (stS sp pp pm p q g (sd (f y i).1) (rs (f y i).1)))
    (S : Sep E w0 w (stS sp pp pm p q g (sd x) (rs x))) :
    CallV Tryz.prog 84 #[.pointer (some ⟨sp, 0, none⟩), .func (.func g1) #[] cap] w [.one (.int .i64)] fun r w' => r.1 = (eachF f n n x).2 ∧ Sep E w0 w' (stS sp pp pm p q g (sd (eachF f n n x).1) (rs (eachF f n n x).1)) := by
  apply sanitise_each.vc
  unfold sanitise_each.P
  refine (Pool25_c S).mono ?_
  rintro ⟨r, ⟨⟩⟩ w1 ⟨h1, rfl⟩
  dsimp only at h1 ⊢
  subst h1
  refine ldg0 S ((Len_e (S.fro [3] rfl)).mono ?_)
  rintro ⟨(r : Int), ⟨⟩⟩ w2 ⟨h2, rfl⟩
  dsimp only at h2 ⊢
  rw [(hP h0).ln] at h2
  subst h2
  refine Loop1 (fun (v : Int × Unit) w' => ∃ (k : Nat) (y : σ), v.1 = (n : Int) - (k : Int) ∧ k ≤ n ∧ P (n - k) y ∧ eachF f n k y = eachF f n n x ∧ Sep E w0 w' (stS sp pp pm p q g (sd y) (rs y))) (fun (v : Int × Unit) _ => (n - v.1).toNat) ⟨n, x, by show (0 : Int) = _; omega, Nat.le_refl _, by rw [Nat.sub_self]; exact h0, rfl, S⟩ ?_
  clear S
  rintro ⟨(v : Int), ⟨⟩⟩ w3 ⟨k, y, hv, hk, hy, hX, S⟩
  dsimp only at hv
  subst hv
  refine cond_d (fun hlt => ?_) (fun hge => ?_)
  case refine_2 =>
    have hk0 : k = 0 := by omega
    subst hk0
    rw [← hX]
    exact ⟨rfl, S⟩
  obtain ⟨m, rfl⟩ : ∃ m, k = m + 1 := ⟨k - 1, by omega⟩
  have hI := hP hy
  have ev : (n : Int) - ((m + 1 : Nat) : Int) = ((n - (m + 1) : Nat) : Int) := by omega
  have hi : n - (m + 1) < n := by omega
  have hX : (if (f y (n - (m + 1))).2 ≠ 0 then f y (n - (m + 1)) else eachF f n m (f y (n - (m + 1))).1) = eachF f n n x := hX
  have hrg : Rng .i64 ((n : Int) - ((m + 1 : Nat) : Int) + 1) := by have := hI.no; exact Rng.i64 (by omega) (by omega)
  have hend : (n : Int) - ((m + 1 : Nat) : Int) + 1 = (n : Int) - (m : Int) := by omega
  refine (Pool25_c S).mono ?_
  rintro ⟨r, ⟨⟩⟩ w4 ⟨h4, rfl⟩
  dsimp only at h4 ⊢
  subst h4
  refine ldg0 S ((At_e (b := (n : Int) - ((m + 1 : Nat) : Int)) (S.fro [3] rfl) ⟨by omega, by rw [hI.ln]; omega⟩).mono ?_)
  rintro ⟨r, ⟨⟩⟩ w5 ⟨h5, x5⟩
  dsimp only at h5 ⊢
  subst h5
  have S := S.stepE x5
  refine cond_t hok ?_
  have hcc := hc hy hi S
  rw [← ev] at hcc
  rw [show ((n : Int) - ((m + 1 : Nat) : Int)).toNat = n - (m + 1) by omega]
  refine hcc.mono ?_
  clear hcc S
  rintro ⟨(r : Int), ⟨⟩⟩ w6 ⟨h6, S⟩
  dsimp only at h6 ⊢
  subst h6
  refine cond_of (fun he => ?_) (fun he => ?_)
  · have he : (f y (n - (m + 1))).2 ≠ 0 := by simpa using he
    rw [if_pos he] at hX
    rw [← hX]
    exact ⟨rfl, S⟩
  · have he : (f y (n - (m + 1))).2 = 0 := by simpa using he
    rw [if_neg (fun k => k he)] at hX
    refine ⟨hrg, ⟨m, _, hend, by omega, ?_, hX, S⟩, by omega⟩
    have := hs hy hi he
    rw [show n - (m + 1) + 1 = n - m by omega] at this
    exact this
theorem power27_c {e : Int} : CallV Tryz.prog 90 #[.int .i64 e] w [.one (.int .i64)] fun r w' => r.1 = powE e ∧ w' = w := by
  apply sanitise_power.vc
  unfold sanitise_power.P powE
  refine cond_eq (fun h => ?_) (fun h => ?_)
  · rw [if_pos h]; exact ⟨h, rfl⟩
  · rw [if_neg h]; exact ⟨rfl, rfl⟩
theorem emptied27_c {b : Int} (h : SI g n s) (hb : 0 ≤ b ∧ b < (n : Int)) (ho : s.C.ops + 215042 ≤ 1000000000000) (S : Sep E w0 w (stS sp pp pm p q g s Rs)) :
    CallV Tryz.prog 87 #[.pointer (some ⟨sp, 0, none⟩), .int .i64 b, (gx s.L b.toNat).val] w [.one (.int .i64)] fun r w' => r.1 = (emdS s b).2 ∧ Sep E w0 w' (stS sp pp pm p q g (emdS s b).1 Rs) := by
  apply sanitise_emptied.vc
  unfold sanitise_emptied.P emdS
  refine S.newB (vs := (gx s.L b.toNat).vs) fun b1 w1 S f1 _ => S.ld0 (j := 4) rfl rfl (cond_of (fun hh => ?_) (fun hh => ?_))
  · have hh : (gx s.L b.toNat).he = true := hh
    rw [if_pos hh]
    obtain ⟨e1, e2⟩ := h.emt (b := b) (by omega)
    refine (Empty25_c (b := b) h (by omega) S.tail).mono ?_
    rintro ⟨(r : Int), ⟨⟩⟩ w2 ⟨h2, S⟩
    dsimp only at h2 ⊢
    subst h2
    refine cond_of (fun he => ?_) (fun he => ?_)
    · have he : (emtS s b).2 ≠ 0 := by simpa using he
      rw [if_pos he]; exact ⟨rfl, S⟩
    · have he : (emtS s b).2 = 0 := by simpa using he
      rw [if_neg (fun k => k he)]
      have o2 := e1.o2
      refine (Destroy25_c (b := b) e1.i (e2 he) (by omega) S).mono ?_
      rintro ⟨(r : Int), ⟨⟩⟩ w3 ⟨h3, S⟩
      dsimp only at h3 ⊢
      subst h3
      refine power27_c.mono ?_
      rintro ⟨(r : Int), ⟨⟩⟩ w4 ⟨h4, rfl⟩
      exact ⟨h4, S⟩
  · have hh : (gx s.L b.toNat).he = false := hh
    rw [if_neg (by rw [hh]; exact Bool.false_ne_true)]
    refine (Destroy25_c (b := b) h (fun _ => hh) (by omega) S.tail).mono ?_
    rintro ⟨(r : Int), ⟨⟩⟩ w3 ⟨h3, S⟩
    dsimp only at h3 ⊢
    subst h3
    refine power27_c.mono ?_
    rintro ⟨(r : Int), ⟨⟩⟩ w4 ⟨h4, rfl⟩
    exact ⟨h4, S⟩
theorem any_gx {f : Blk → Bool} {L : List Blk} : L.any f = true ↔ ∃ i, i < L.length ∧ f (gx L i) = true := by
  rw [List.any_eq_true]
  constructor
  · rintro ⟨x, hx, h⟩
    obtain ⟨i, hi, rfl⟩ := List.mem_iff_getElem.1 hx
    refine ⟨i, hi, ?_⟩
    rw [show gx L i = L[i] by show L.getD i default = _; rw [List.getD_eq_getElem?_getD, List.getElem?_eq_getElem hi]; rfl]
    exact h
  · rintro ⟨i, hi, h⟩
    exact ⟨_, gx_mem hi, h⟩
theorem Clean27_c (h : SI g n s) (S : Sep E w0 w (stS sp pp pm p q g s Rs)) : CallV Tryz.prog 23 #[.pointer (some ⟨sp, 0, none⟩)] w [.one .bool] fun r w' => r.1 = cln s.L ∧ Ext w w' := by
  apply sanitise_Clean.vc
  unfold sanitise_Clean.P
  refine (Pool25_c S).mono ?_
  rintro ⟨r, ⟨⟩⟩ w1 ⟨h1, rfl⟩
  dsimp only at h1 ⊢
  subst h1
  refine ldg0 S ((Len_e (S.fro [3] rfl)).mono ?_)
  rintro ⟨(r : Int), ⟨⟩⟩ w2 ⟨h2, rfl⟩
  dsimp only at h2 ⊢
  subst h2
  have hno := h.no
  have hln := h.ln
  refine Loop1 (fun (v : Int × Unit) w' => ∃ i : Nat, v.1 = (i : Int) ∧ i ≤ s.L.length ∧ (∀ j, j < i → dirB (gx s.L j) = false) ∧ Ext w2 w') (fun (v : Int × Unit) _ => ((s.L.length : Int) - v.1).toNat) ⟨0, rfl, Nat.zero_le _, fun _ hj => absurd hj (Nat.not_lt_zero _), Ext.refl w2⟩ ?_
  rintro ⟨(v : Int), ⟨⟩⟩ w3 ⟨i, hv, hi, hd, x3⟩
  dsimp only at hv
  subst hv
  have S := S.stepE x3
  refine cond_d (fun hlt => ?_) (fun hge => ?_)
  · refine (Dirty_e (b := (i : Int)) (S.fro [3] rfl) ⟨by omega, hlt⟩).mono ?_
    rintro ⟨(r : Bool), ⟨⟩⟩ w4 ⟨h4, x4⟩
    dsimp only at h4 ⊢
    subst h4
    rw [Int.toNat_natCast]
    refine cond_of (fun hb => ⟨?_, x3.trans x4⟩) (fun hb => ⟨Rng.i64 (by omega) (by omega), ⟨i + 1, by push_cast; rfl, by omega, fun j hj => ?_, x3.trans x4⟩, by omega⟩)
    · unfold cln
      rw [any_gx.2 ⟨i, by omega, hb⟩]; rfl
    · by_cases e : j = i
      · rw [e]; exact hb
      · exact hd j (by omega)
  · refine ⟨?_, x3⟩
    unfold cln
    cases e : s.L.any dirB
    · rfl
    · obtain ⟨j, hj, hb⟩ := any_gx.1 e
      rw [hd j (by omega)] at hb
      cases hb
end
end Go.Proofs.YtbaojfchlhlaeaaGreat.Vc
/-! The contracts of layer 27 (sanitise): a drain; what leaks; a namespace forgotten. -/
namespace Go.Proofs.YtbaojfchlhlaeaaGreat.Vc
open Go Go.Eng Go.RowKit
section
variable {E : Nat → Prop} {w0 w : World} {Rs : List Asr} {sp pp pm p q n : Nat} {g : Geo} {s : SD} {L : List Blk}
def lkF (L : List Blk) (x : Bool) (i : Nat) : Bool × Int := (x || (gx L i).le, 0)
theorem lk_each {L : List Blk} {n : Nat} (hL : L.length = n) : ∀ (k : Nat) (x : Bool), k ≤ n → eachF (lkF L) n k x = (x || (L.drop (n - k)).any fun x => x.le, 0)
  | 0, x, _ => by
    rw [List.drop_eq_nil_of_le (by omega)]
    show (x, (0 : Int)) = (x || false, 0)
    rw [Bool.or_false]
  | k + 1, x, hk => by
    show (if (lkF L x (n - (k + 1))).2 ≠ 0 then lkF L x (n - (k + 1)) else eachF (lkF L) n k (lkF L x (n - (k + 1))).1) = _
    rw [if_neg (fun e => e rfl), lk_each hL k _ (by omega), List.drop_eq_getElem_cons (i := n - (k + 1)) (by omega), show n - (k + 1) + 1 = n - k by omega, List.any_cons]
    show ((x || (gx L (n - (k + 1))).le) || _, (0 : Int)) = _
    rw [Bool.or_assoc]
    have : gx L (n - (k + 1)) = L[n - (k + 1)]'(by omega) := by
      show L.getD _ default = _
      rw [List.getD_eq_getElem?_getD, List.getElem?_eq_getElem (by omega)]; rfl
    rw [this]
theorem okf_leaks : okf 148 = true := by kernel_rfl
theorem okf_drain : okf 85 = true := by kernel_rfl
theorem leaks1_c {b1 : Nat} {e1 : TypeId} {i : Nat} {x : Bool} {y : Blk} (S : Sep E w0 w (stS sp pp pm p q g s (BoxA b1 e1 [.bool x] :: Rs))) :
    CallV Tryz.prog 148 #[.int .i64 (i : Int), y.val, .pointer (some ⟨b1, 0, none⟩)] w [.one (.int .i64)] fun r w' => r.1 = (0 : Int) ∧ Sep E w0 w' (stS sp pp pm p q g s (BoxA b1 e1 [.bool (x || y.le)] :: Rs)) := by
  apply sanitise_leaks_1.vc
  unfold sanitise_leaks_1.P
  refine S.newB (vs := y.vs) fun b2 w1 S f1 _ => S.ld6 (j := 0) rfl rfl (cond_of (fun hx => ?_) (fun hx => ?_))
  · have hx : x = true := hx
    subst hx
    refine (S.fro [6] rfl).st0 (by rfl) fun w2 S f2 => ⟨rfl, ?_⟩
    exact (S.fro [1] rfl).tail.fro [1, 1, 1, 1, 1] rfl
  · have hx : x = false := hx
    subst hx
    refine S.ld0 (j := 8) rfl rfl ((S.fro [6] rfl).st0 (by rfl) fun w2 S f2 => ⟨rfl, ?_⟩)
    exact (S.fro [1] rfl).tail.fro [1, 1, 1, 1, 1] rfl
theorem leaks27_c (h : SI g n s) (S : Sep E w0 w (stS sp pp pm p q g s Rs)) : CallV Tryz.prog 88 #[.pointer (some ⟨sp, 0, none⟩)] w [.one .bool] fun r w' => r.1 = lks s.L ∧ Sep E w0 w' (stS sp pp pm p q g s Rs) := by
  apply sanitise_leaks.vc
  unfold sanitise_leaks.P
  refine S.newB fun b1 w1 S f1 _ => S.st0 (by rfl) fun w2 S f2 => ?_
  have S : Sep E w0 w2 (stS sp pp pm p q g s (BoxA b1 4 [.bool false] :: Rs)) := S.fro [1, 1, 1, 1, 1] rfl
  refine (each27_c (σ := Bool) (f := lkF s.L) (sd := fun _ => s) (rs := fun x => BoxA b1 4 [.bool x] :: Rs) (P := fun _ _ => True) (x := false) (cap := #[.pointer (some ⟨b1, 0, none⟩)]) okf_leaks (fun _ => h) trivial (fun _ _ _ => trivial) (fun {i y w} _ hi S => ?_) S).mono ?_
  · exact leaks1_c S
  rintro ⟨(r : Int), ⟨⟩⟩ w3 ⟨-, S⟩
  dsimp only at S ⊢
  rw [lk_each h.ln n false (Nat.le_refl n), Nat.sub_self, List.drop_zero, Bool.false_or] at S
  refine (S.fro [5] rfl).ld0 (j := 0) rfl rfl ⟨rfl, ?_⟩
  exact (S.fro [5] rfl).tail
theorem Drain1_c {b1 : Nat} {e1 : TypeId} {i : Nat} (h : SI g n s) (hi : i < n) (ho : s.C.ops + 215042 ≤ 1000000000000) (S : Sep E w0 w (stS sp pp pm p q g s (BoxA b1 e1 [.pointer (some ⟨sp, 0, none⟩)] :: Rs))) :
    CallV Tryz.prog 85 #[.int .i64 (i : Int), (gx s.L i).val, .pointer (some ⟨b1, 0, none⟩)] w [.one (.int .i64)] fun r w' => r.1 = (drn1 s i).2 ∧ Sep E w0 w' (stS sp pp pm p q g (drn1 s i).1 (BoxA b1 e1 [.pointer (some ⟨sp, 0, none⟩)] :: Rs)) := by
  apply sanitise_Drain_1.vc
  unfold sanitise_Drain_1.P
  have hb : 0 ≤ (i : Int) ∧ (i : Int) < (s.L.length : Int) := by rw [h.ln]; omega
  refine S.newB (vs := (gx s.L i).vs) fun b2 w1 S f1 _ => S.ld6 (j := 0) rfl rfl ?_
  have S := S.tail
  refine (Pool25_c S).mono ?_
  rintro ⟨r, ⟨⟩⟩ w2 ⟨h2, rfl⟩
  dsimp only at h2 ⊢
  subst h2
  refine ldg0 S ((Dirty_e (b := (i : Int)) (S.fro [3] rfl) hb).mono ?_)
  rintro ⟨(r : Bool), ⟨⟩⟩ w3 ⟨h3, x3⟩
  dsimp only at h3 ⊢
  have S := S.stepE x3
  rw [Int.toNat_natCast] at h3
  subst h3
  unfold Vc.drn1
  refine cond_of (fun hd => ?_) (fun hd => ?_)
  · have hd : dirB (gx s.L i) = false := by simpa using hd
    rw [if_neg (by rw [hd]; exact Bool.false_ne_true)]
    exact ⟨rfl, S⟩
  · have hd : dirB (gx s.L i) = true := by simpa using hd
    rw [if_pos hd]
    have S : Sep E w0 w3 ([boxSt sp pp pm g s, mapE pm s.X, polE pp p q g s.O, ledE q s.L, chipE p s.C] ++ (BoxA b1 e1 [.pointer (some ⟨sp, 0, none⟩)] :: Rs)) := S
    refine Sep.regC [boxSt sp pp pm g s, mapE pm s.X, polE pp p q g s.O, ledE q s.L, chipE p s.C] S fun G D hG T S hDt hDo hkeep back => ?_
    have T : Sep G w3.drew w3.drew (stS sp pp pm p q g s []) := T
    refine ⟨hDt 0 _ _ _ rfl, S.ld5 (j := 0) rfl rfl ⟨hDt 0 _ _ _ rfl, S.ld5 (j := 0) rfl rfl ?_⟩⟩
    refine (Pool25_c T).mono ?_
    rintro ⟨r, ⟨⟩⟩ w4 ⟨h4, rfl⟩
    dsimp only at h4 ⊢
    subst h4
    refine ⟨hkeep _ T.fr, ldg0 T ⟨hkeep _ T.fr, (At_e (b := (i : Int)) (T.fro [3] rfl) hb).mono ?_⟩⟩
    rintro ⟨r, ⟨⟩⟩ w5 ⟨h5, x5⟩
    dsimp only at h5 ⊢
    subst h5
    have T := T.stepE x5
    refine ⟨hkeep _ T.fr, (emptied27_c (b := (i : Int)) h ⟨by omega, by omega⟩ ho T).mono ?_⟩
    rintro ⟨(r : Int), ⟨⟩⟩ w6 ⟨h6, T⟩
    exact ⟨hkeep _ T.fr, h6, back _ _ T⟩
theorem Drain27_c (h : SI g n s) (ho : s.C.ops + 51610080 ≤ 1000000000000) (S : Sep E w0 w (stS sp pp pm p q g s Rs)) :
    CallV Tryz.prog 21 #[.pointer (some ⟨sp, 0, none⟩)] w [.one (.int .i64)] fun r w' => r.1 = (drnP 4 s).2 ∧ Sep E w0 w' (stS sp pp pm p q g (drnP 4 s).1 Rs) := by
  apply sanitise_Drain.vc
  unfold sanitise_Drain.P
  refine S.newB fun b1 w1 S f1 _ => S.ld0 (j := 0) rfl rfl (cond_f rfl ?_)
  have S : Sep E w0 w1 (stS sp pp pm p q g s (BoxA b1 32 [.pointer (some ⟨sp, 0, none⟩)] :: Rs)) := S.fro [1, 1, 1, 1, 1] rfl
  have fin : ∀ {w' : World} {t : SD}, SI g n t → (t, drnE t) = drnP 4 s → Sep E w0 w' (stS sp pp pm p q g t (BoxA b1 32 [.pointer (some ⟨sp, 0, none⟩)] :: Rs)) →
      LoadS w' ⟨b1, 0, none⟩ .ptr fun x => CallV Tryz.prog 23 #[.pointer x] w' [.one .bool] fun (r : Bool × Unit) w2 =>
        cond (!r.1) ((17 : Int) = (drnP 4 s).2 ∧ Sep E w0 w2 (stS sp pp pm p q g (drnP 4 s).1 Rs))
          (LoadS w2 ⟨b1, 0, none⟩ .ptr fun x => CallV Tryz.prog 88 #[.pointer x] w2 [.one .bool] fun (r : Bool × Unit) w3 =>
            cond r.1 ((17 : Int) = (drnP 4 s).2 ∧ Sep E w0 w3 (stS sp pp pm p q g (drnP 4 s).1 Rs)) ((0 : Int) = (drnP 4 s).2 ∧ Sep E w0 w3 (stS sp pp pm p q g (drnP 4 s).1 Rs))) := @fun w' t ht et S => by
    rw [← et]
    refine (S.fro [5] rfl).ld0 (j := 0) rfl rfl ?_
    refine (Clean27_c ht S).mono ?_
    rintro ⟨(r : Bool), ⟨⟩⟩ w2 ⟨h2, x2⟩
    dsimp only at h2 ⊢
    have S := S.stepE x2
    subst h2
    unfold drnE
    refine cond_of (fun hc => ?_) (fun hc => ?_)
    · have hc : cln t.L = false := by simpa using hc
      rw [if_neg (by rw [hc]; exact Bool.false_ne_true)]
      exact ⟨rfl, (S.fro [5] rfl).tail⟩
    · have hc : cln t.L = true := by simpa using hc
      rw [if_pos hc]
      refine (S.fro [5] rfl).ld0 (j := 0) rfl rfl ?_
      refine (leaks27_c ht S).mono ?_
      rintro ⟨(r : Bool), ⟨⟩⟩ w3 ⟨h3, S⟩
      dsimp only at h3 ⊢
      subst h3
      refine cond_of (fun hl => ?_) (fun hl => ?_)
      · rw [if_pos hl]; exact ⟨rfl, (S.fro [5] rfl).tail⟩
      · rw [if_neg (by rw [hl]; exact Bool.false_ne_true)]; exact ⟨rfl, (S.fro [5] rfl).tail⟩
  refine Loop1 (fun (v : Int × Unit) w' => ∃ (k : Nat) (t : SD), v.1 = 4 - (k : Int) ∧ k ≤ 4 ∧ SI g n t ∧ t.C.ops + drD k ≤ 1000000000000 ∧ drnP k t = drnP 4 s ∧ Sep E w0 w' (stS sp pp pm p q g t (BoxA b1 32 [.pointer (some ⟨sp, 0, none⟩)] :: Rs))) (fun (v : Int × Unit) _ => (4 - v.1).toNat) ⟨4, s, rfl, Nat.le_refl _, h, ho, rfl, S⟩ ?_
  clear S
  rintro ⟨(v : Int), ⟨⟩⟩ w3 ⟨k, t, hv, hk, ht, hop, hX, S⟩
  dsimp only at hv
  subst hv
  refine cond_d (fun hlt => ?_) (fun hge => ?_)
  case refine_2 =>
    have hk0 : k = 0 := by omega
    subst hk0
    exact fin ht hX S
  obtain ⟨m, rfl⟩ : ∃ m, k = m + 1 := ⟨k - 1, by omega⟩
  have ed := drDs m
  have e60 := drC60 ht.no.1
  have hX : (if cln t.L = true then (t, drnE t) else if (eachF drn1 t.L.length t.L.length t).2 ≠ 0 then eachF drn1 t.L.length t.L.length t else drnP m (eachF drn1 t.L.length t.L.length t).1) = drnP 4 s := hX
  rw [ht.ln] at hX
  refine (S.fro [5] rfl).ld0 (j := 0) rfl rfl ?_
  refine (Clean27_c ht S).mono ?_
  rintro ⟨(r : Bool), ⟨⟩⟩ w4 ⟨h4, x4⟩
  dsimp only at h4 ⊢
  have S := S.stepE x4
  subst h4
  refine cond_of (fun hc => ?_) (fun hc => ?_)
  · rw [if_pos hc] at hX
    exact fin ht hX S
  rw [if_neg (by rw [hc]; exact Bool.false_ne_true)] at hX
  refine (S.fro [5] rfl).ld0 (j := 0) rfl rfl ?_
  have hE := SI.each (fun h hi ho => SI.drn1 h hi ho) n (Nat.le_refl n) ht (by omega)
  refine (each27_c (n := n) (σ := SD) (f := drn1) (sd := fun t => t) (rs := fun _ => BoxA b1 32 [.pointer (some ⟨sp, 0, none⟩)] :: Rs) (P := fun i y => SI g n y ∧ y.C.ops + drC (n - i) ≤ 1000000000000) (x := t) (cap := #[.pointer (some ⟨b1, 0, none⟩)]) okf_drain (fun h => h.1) ⟨ht, by rw [Nat.sub_zero]; omega⟩ (fun {i y} hy hi _ => ?_) (fun {i y w} hy hi S => ?_) S).mono ?_
  · have e : drC (n - i) = drC (n - (i + 1)) + 215042 := by rw [← drCs]; congr 1; omega
    have h1 := hy.1.drn1 hi (by have := hy.2; omega)
    have o2 := h1.o2
    exact ⟨h1.i, by have := hy.2; omega⟩
  · have e : drC (n - i) = drC (n - (i + 1)) + 215042 := by rw [← drCs]; congr 1; omega
    exact Drain1_c hy.1 hi (by have := hy.2; omega) S
  rintro ⟨(r : Int), ⟨⟩⟩ w5 ⟨h5, S⟩
  dsimp only at h5 S ⊢
  subst h5
  have o2 := hE.o2
  refine cond_of (fun he => ?_) (fun he => ?_)
  · have he : (eachF drn1 n n t).2 ≠ 0 := by simpa using he
    rw [if_pos he] at hX
    rw [← hX]
    exact ⟨rfl, (S.fro [5] rfl).tail⟩
  · have he : (eachF drn1 n n t).2 = 0 := by simpa using he
    rw [if_neg (fun k => k he)] at hX
    exact ⟨Rng.i64 (by omega) (by omega), ⟨m, _, by omega, by omega, hE.i, by omega, hX, S⟩, by omega⟩
def fgE (s : SD) (ns : Int) : SD × Int := if (getX s.X ns).n = 0 then (s, 2) else (fgtS s ns, 0)
theorem Forget27_c {ns : Int} (h : SI g n s) (S : Sep E w0 w (stS sp pp pm p q g s Rs)) :
    CallV Tryz.prog 20 #[.pointer (some ⟨sp, 0, none⟩), .int .i64 ns] w [.one (.int .i64)] fun r w' => r.1 = (fgE s ns).2 ∧ Sep E w0 w' (stS sp pp pm p q g (fgE s ns).1 Rs) := by
  apply sanitise_Forget.vc
  unfold sanitise_Forget.P fgE
  refine (Map25_c S).mono ?_
  rintro ⟨r, ⟨⟩⟩ w1 ⟨h1, rfl⟩
  dsimp only at h1 ⊢
  subst h1
  refine (Size_m (ns := ns) h.xo.four (S.fro [1] rfl)).mono ?_
  rintro ⟨(r : Int), ⟨⟩⟩ w2 ⟨h2, rfl⟩
  dsimp only at h2 ⊢
  subst h2
  refine cond_eq (fun hz => ?_) (fun hz => ?_)
  · rw [if_pos (by omega)]; exact ⟨rfl, S⟩
  · rw [if_neg (by omega)]
    refine (Forget25_c (ns := ns) h S).mono ?_
    rintro ⟨⟩ w3 S
    exact ⟨rfl, S⟩
end
end Go.Proofs.YtbaojfchlhlaeaaGreat.Vc
/-! The plans of functions as plain statements, printed by wip/tools/vcgen.py; the kernel holds each to the code. -/
namespace Go.Proofs.YtbaojfchlhlaeaaGreat.Vc
open Go Go.Eng
def law27_light.A : Ann := .two .no (.two (.two (.draw (.take 0 (.take 1 (.eff 2 (.take 3 (.take 4 (.take 5 (.take 6 (.eff 7 (.take 8 (.take 9 (.take 10 (.take 11 (.take 12 (.take 13 (.take 14 (.take 15 (.take 16 (.take 17 (.take 18 (.take 19 (.take 20 (.take 21 (.take 22 (.take 23 (.take 24 (.take 25 (.take 26 (.take 27 (.take 28 (.take 29 (.take 30 (.take 31 (.take 32 (.take 33 (.take 34 (.take 35 (.take 36 (.take 37 (.take 38 (.eff 39 (.take 40 (.take 41 (.done)))))))))))))))))))))))))))))))))))))))))))) .no) (.two (.two .no (.one (.loop [2, 3, 4, 47, 48, 49, 50, 51, 52, 53, 54, 55, 56, 57, 58, 59, 60, 61, 62, 63, 64, 65, 66, 67, 68, 69, 70, 71, 72, 73, 74, 75, 76, 77, 78, 79, 80, 81, 82, 83, 84, 85, 86, 87, 88, 89, 90, 91, 92, 93, 94, 95, 96, 97, 98, 99] [(3, .one (.int .i64))] (.two .no (.two (.one (.two .no (.two (.draw (.take 0 (.take 1 (.take 2 (.take 3 (.take 4 (.take 5 (.take 6 (.take 7 (.take 8 (.take 9 (.take 10 (.take 11 (.take 12 (.take 13 (.take 14 (.take 15 (.take 16 (.take 17 (.take 18 (.take 19 (.take 20 (.take 21 (.take 22 (.take 23 (.take 24 (.take 25 (.take 26 (.take 27 (.take 28 (.take 29 (.take 30 (.take 31 (.take 32 (.take 33 (.take 34 (.take 35 (.take 36 (.take 37 (.take 38 (.take 39 (.take 40 (.done))))))))))))))))))))))))))))))))))))))))))) .no))) .no))))) .no))
def law27_light.P (p0_0 p0_1 p0_2 p0_3 p0_4 p0_5 : Int) (a0_6 : Option Addr) (n0_6 c0_6 : Nat) (p0_7 p0_8 : Int) (a0_9 : Option Addr) (n0_9 c0_9 : Nat) (w : World) (K : Bool × Unit → World → Prop) : Prop :=
  NewV #[.int .i64 p0_0, .int .i64 p0_1, .int .i64 p0_2, .int .i64 p0_3, .int .i64 p0_4, .int .i64 p0_5, .slice a0_6 n0_6 c0_6, .int .i64 p0_7, .int .i64 p0_8, .slice a0_9 n0_9 c0_9] 28 w fun b1 w2 =>
  DrawV fun D3 =>
  (D3 b1 ∧ LoadA w2.drew ⟨b1, 0, none⟩ [.int .i64, .int .i64, .int .i64, .int .i64, .int .i64, .int .i64] fun (x4 : Int × Int × Int × Int × Int × Int × Unit) =>
  CallV Tryz.prog 75 #[.agg #[.int .i64 x4.1, .int .i64 x4.2.1, .int .i64 x4.2.2.1, .int .i64 x4.2.2.2.1, .int .i64 x4.2.2.2.2.1, .int .i64 x4.2.2.2.2.2.1]] w2.drew [.one .bool] fun (r5 : Bool × Unit) w6 =>
  KeepOn D3 w2.drew w6 ∧
  cond (!r5.1)
  (K (false, ()) w6)
  ((D3 b1 ∧ LoadS w2.drew ⟨b1, 6, none⟩ .sl fun (x7 : SlV) =>
  CallV Tryz.prog 76 #[.slice x7.a x7.n x7.c] w6 [.one .bool] fun (r8 : Bool × Unit) w9 =>
  KeepOn D3 w2.drew w9 ∧
  cond (!r8.1)
  (K (false, ()) w9)
  ((D3 b1 ∧ LoadS w2.drew ⟨b1, 0, none⟩ (.int .i64) fun (x10 : Int) =>
  cond (decide (x10 > 16))
  (K (false, ()) w9)
  ((D3 b1 ∧ LoadS w2.drew ⟨b1, 1, none⟩ (.int .i64) fun (x11 : Int) =>
  cond (decide (x11 > 16))
  (K (false, ()) w9)
  ((D3 b1 ∧ LoadS w2.drew ⟨b1, 2, none⟩ (.int .i64) fun (x12 : Int) =>
  cond (decide (x12 > 128))
  (K (false, ()) w9)
  ((D3 b1 ∧ LoadS w2.drew ⟨b1, 9, none⟩ .sl fun (x13 : SlV) =>
  cond (decide (((x13.n : Nat) : Int) > 120))
  (K (false, ()) w9)
  ((D3 b1 ∧ LoadA w2.drew ⟨b1, 0, none⟩ [.int .i64, .int .i64, .int .i64, .int .i64, .int .i64, .int .i64] fun (x14 : Int × Int × Int × Int × Int × Int × Unit) =>
  SubK (some ⟨b1, 7, none⟩) 0 2 1 fun a15 =>
  CallV Tryz.prog 77 #[.agg #[.int .i64 x14.1, .int .i64 x14.2.1, .int .i64 x14.2.2.1, .int .i64 x14.2.2.2.1, .int .i64 x14.2.2.2.2.1, .int .i64 x14.2.2.2.2.2.1], .slice a15 (2 - 0) (2 - 0)] w9 [.one (.int .i64)] fun (r16 : Int × Unit) w17 =>
  KeepOn D3 w2.drew w17 ∧
  cond (r16.1 != 0)
  (K (false, ()) w17)
  (LoopV [.one (.int .i64)] ((0 : Int), ()) w17 fun (z18 : Int × Unit) w19 (K20 : Int × Unit → World → Prop) =>
  LoadS w19 ⟨b1, 9, none⟩ .sl fun (x21 : SlV) =>
  cond (decide (z18.1 < ((x21.n : Nat) : Int)))
  (LoadS w19 ⟨b1, 9, none⟩ .sl fun (x22 : SlV) =>
  (0 ≤ z18.1 ∧ z18.1 < ((x22.n : Nat) : Int)) ∧ ∃ q23 : Addr, x22.a = some q23 ∧
  LoadA w19 (q23.add (z18.1.toNat * 5)) [.int .i64, .int .i64, .int .i64, .bool, .int .u8] fun (x24 : Int × Int × Int × Bool × Int × Unit) =>
  NewV #[.int .i64 0, .int .i64 0, .int .i64 0, .bool false, .int .u8 0] 39 w19 fun b25 w26 =>
  StoreV w26 ⟨b25, 0, none⟩ [.int .i64 x24.1, .int .i64 x24.2.1, .int .i64 x24.2.2.1, .bool x24.2.2.2.1, .int .u8 x24.2.2.2.2.1] fun w27 =>
  DrawV fun D28 =>
  (D28 b25 ∧ LoadS w27.drew ⟨b25, 0, none⟩ (.int .i64) fun (x29 : Int) =>
  cond (decide (x29 < 0))
  (K (false, ()) w27.drew)
  ((D28 b25 ∧ LoadS w27.drew ⟨b25, 0, none⟩ (.int .i64) fun (x30 : Int) =>
  cond (decide (x30 > 1))
  (K (false, ()) w27.drew)
  ((D28 b25 ∧ LoadS w27.drew ⟨b25, 2, none⟩ (.int .i64) fun (x31 : Int) =>
  cond (decide (x31 < 1))
  (K (false, ()) w27.drew)
  ((D28 b25 ∧ LoadS w27.drew ⟨b25, 2, none⟩ (.int .i64) fun (x32 : Int) =>
  (D28 b25 ∧ LoadS w27.drew ⟨b25, 0, none⟩ (.int .i64) fun (x33 : Int) =>
  (0 ≤ x33 ∧ x33 < (2 : Int)) ∧
  (D28 ((⟨b1, 7, none⟩ : Addr).add (x33.toNat * 1)).block ∧ LoadS w27.drew ((⟨b1, 7, none⟩ : Addr).add (x33.toNat * 1)) (.int .i64) fun (x34 : Int) =>
  cond (decide (x32 > x34))
  (K (false, ()) w27.drew)
  ((D28 b25 ∧ LoadS w27.drew ⟨b25, 1, none⟩ (.int .i64) fun (x35 : Int) =>
  cond (decide (x35 < 0))
  (K (false, ()) w27.drew)
  ((D28 b25 ∧ LoadS w27.drew ⟨b25, 1, none⟩ (.int .i64) fun (x36 : Int) =>
  (D28 b25 ∧ LoadS w27.drew ⟨b25, 0, none⟩ (.int .i64) fun (x37 : Int) =>
  (0 ≤ x37 ∧ x37 < (2 : Int)) ∧
  (D28 ((⟨b1, 7, none⟩ : Addr).add (x37.toNat * 1)).block ∧ LoadS w27.drew ((⟨b1, 7, none⟩ : Addr).add (x37.toNat * 1)) (.int .i64) fun (x38 : Int) =>
  (D28 b25 ∧ LoadS w27.drew ⟨b25, 2, none⟩ (.int .i64) fun (x39 : Int) =>
  Rng .i64 (x38 - x39) ∧
  cond (decide (x36 > (x38 - x39)))
  (K (false, ()) w27.drew)
  (Rng .i64 (z18.1 + 1) ∧
  K20 (z18.1 + 1, ()) w27.drew))))))))))))))))))
  (K (true, ()) w19)))))))))))))))
theorem law27_light.vc (p0_0 p0_1 p0_2 p0_3 p0_4 p0_5 : Int) (a0_6 : Option Addr) (n0_6 c0_6 : Nat) (p0_7 p0_8 : Int) (a0_9 : Option Addr) (n0_9 c0_9 : Nat) (w : World) (K : Bool × Unit → World → Prop) (h : law27_light.P p0_0 p0_1 p0_2 p0_3 p0_4 p0_5 a0_6 n0_6 c0_6 p0_7 p0_8 a0_9 n0_9 c0_9 w K) : CallV Tryz.prog 15 #[.agg #[.int .i64 p0_0, .int .i64 p0_1, .int .i64 p0_2, .int .i64 p0_3, .int .i64 p0_4, .int .i64 p0_5, .slice a0_6 n0_6 c0_6, .int .i64 p0_7, .int .i64 p0_8, .slice a0_9 n0_9 c0_9]] w [.one .bool] K := by
  refine vcFun.of (A := law27_light.A) (wr := false) okf_ok follows h Tryz.func15 ?_
  kernel_rfl
def law27_crashes.A : Ann := .two .no (.two (.two .no (.one (.loop [2, 3, 4, 5, 6, 7, 8, 9, 10, 11, 12, 13, 14] [(3, .one (.int .i64))] .no))) .no)
def law27_crashes.P (a0 : Option Addr) (n0 c0 : Nat) (w : World) (K : Bool × Unit → World → Prop) : Prop :=
  LoopV [.one (.int .i64)] ((0 : Int), ()) w fun (z1 : Int × Unit) w2 (K3 : Int × Unit → World → Prop) =>
  cond (decide (z1.1 < ((n0 : Nat) : Int)))
  ((0 ≤ z1.1 ∧ z1.1 < ((n0 : Nat) : Int)) ∧ ∃ q4 : Addr, a0 = some q4 ∧
  LoadS w2 ((q4.add (z1.1.toNat * 3)).add 1) .bool fun (x5 : Bool) =>
  cond x5
  (K (true, ()) w2)
  (Rng .i64 (z1.1 + 1) ∧
  K3 (z1.1 + 1, ()) w2))
  (K (false, ()) w2)
theorem law27_crashes.vc (a0 : Option Addr) (n0 c0 : Nat) (w : World) (K : Bool × Unit → World → Prop) (h : law27_crashes.P a0 n0 c0 w K) : CallV Tryz.prog 16 #[.slice a0 n0 c0] w [.one .bool] K := by
  refine vcFun.of (A := law27_crashes.A) (wr := false) okf_ok follows h Tryz.func16 ?_
  kernel_rfl
def law27_made.A : Ann := .no
def law27_made.P (p0_0 p0_1 p0_2 p0_3 p0_4 p0_5 : Int) (a0_6 : Option Addr) (n0_6 c0_6 : Nat) (p0_7 p0_8 : Int) (a0_9 : Option Addr) (n0_9 c0_9 : Nat) (w : World) (K : (Option Addr) × (Option Addr) × Unit → World → Prop) : Prop :=
  NewV #[.int .i64 p0_0, .int .i64 p0_1, .int .i64 p0_2, .int .i64 p0_3, .int .i64 p0_4, .int .i64 p0_5, .slice a0_6 n0_6 c0_6, .int .i64 p0_7, .int .i64 p0_8, .slice a0_9 n0_9 c0_9] 28 w fun b1 w2 =>
  LoadA w2 ⟨b1, 0, none⟩ [.int .i64, .int .i64, .int .i64, .int .i64, .int .i64, .int .i64] fun (x3 : Int × Int × Int × Int × Int × Int × Unit) =>
  LoadS w2 ⟨b1, 6, none⟩ .sl fun (x4 : SlV) =>
  CallV Tryz.prog 78 #[.agg #[.int .i64 x3.1, .int .i64 x3.2.1, .int .i64 x3.2.2.1, .int .i64 x3.2.2.2.1, .int .i64 x3.2.2.2.2.1, .int .i64 x3.2.2.2.2.2.1], .slice x4.a x4.n x4.c] w2 [.one .ptr, .one (.int .i64)] fun (r5 : (Option Addr) × Int × Unit) w6 =>
  LoadA w6 ⟨b1, 0, none⟩ [.int .i64, .int .i64, .int .i64, .int .i64, .int .i64, .int .i64] fun (x7 : Int × Int × Int × Int × Int × Int × Unit) =>
  CallV Tryz.prog 80 #[.agg #[.int .i64 x7.1, .int .i64 x7.2.1, .int .i64 x7.2.2.1, .int .i64 x7.2.2.2.1, .int .i64 x7.2.2.2.2.1, .int .i64 x7.2.2.2.2.2.1]] w6 [.one (.int .i64)] fun (r8 : Int × Unit) w9 =>
  CallV Tryz.prog 79 #[.int .i64 r8.1] w9 [.one .ptr, .one (.int .i64)] fun (r10 : (Option Addr) × Int × Unit) w11 =>
  CallV Tryz.prog 43 #[] w11 [.one .ptr] fun (r12 : (Option Addr) × Unit) w13 =>
  (0 ≤ (0 : Int) ∧ 0 < (2 : Int)) ∧
  LoadS w13 ⟨b1, 7, none⟩ (.int .i64) fun (x14 : Int) =>
  CallV Tryz.prog 81 #[.pointer r12.1, .int .i64 0, .int .i64 x14] w13 [.one (.int .i64)] fun (r15 : Int × Unit) w16 =>
  (0 ≤ (1 : Int) ∧ 1 < (2 : Int)) ∧
  LoadS w16 ⟨b1, 8, none⟩ (.int .i64) fun (x17 : Int) =>
  CallV Tryz.prog 81 #[.pointer r12.1, .int .i64 1, .int .i64 x17] w16 [.one (.int .i64)] fun (r18 : Int × Unit) w19 =>
  CallV Tryz.prog 52 #[.pointer r10.1] w19 [.one (.int .i64)] fun (r20 : Int × Unit) w21 =>
  ((0 : Int) ≤ (r20.1 : Int) ∧ (r20.1 : Int) ≤ (r20.1 : Int) ∧ (r20.1 : Int) ≤ 9223372036854775807 ∧ ((48 : Nat) : Int) * (r20.1 : Int) ≤ 140737488355328) ∧
  NewV (List.replicate r20.1.toNat [.int .i64 0, .int .i64 0, .int .i64 0, .int .u32 0, .int .u64 0, .int .u64 0]).flatten.toArray 62 w21 fun b22 w23 =>
  CallV Tryz.prog 82 #[.pointer r5.1, .pointer r10.1, .slice (some ⟨b22, 0, none⟩) r20.1.toNat r20.1.toNat] w23 [.one .ptr, .one (.int .i64)] fun (r24 : (Option Addr) × Int × Unit) w25 =>
  LoadA w25 ⟨b1, 0, none⟩ [.int .i64, .int .i64, .int .i64, .int .i64, .int .i64, .int .i64] fun (x26 : Int × Int × Int × Int × Int × Int × Unit) =>
  CallV Tryz.prog 42 #[.pointer r24.1, .pointer r12.1, .agg #[.int .i64 x26.1, .int .i64 x26.2.1, .int .i64 x26.2.2.1, .int .i64 x26.2.2.2.1, .int .i64 x26.2.2.2.2.1, .int .i64 x26.2.2.2.2.2.1], .int .u64 1] w25 [.one .ptr, .one (.int .i64)] fun (r27 : (Option Addr) × Int × Unit) w28 =>
  K (r27.1, r5.1, ()) w28
theorem law27_made.vc (p0_0 p0_1 p0_2 p0_3 p0_4 p0_5 : Int) (a0_6 : Option Addr) (n0_6 c0_6 : Nat) (p0_7 p0_8 : Int) (a0_9 : Option Addr) (n0_9 c0_9 : Nat) (w : World) (K : (Option Addr) × (Option Addr) × Unit → World → Prop) (h : law27_made.P p0_0 p0_1 p0_2 p0_3 p0_4 p0_5 a0_6 n0_6 c0_6 p0_7 p0_8 a0_9 n0_9 c0_9 w K) : CallV Tryz.prog 18 #[.agg #[.int .i64 p0_0, .int .i64 p0_1, .int .i64 p0_2, .int .i64 p0_3, .int .i64 p0_4, .int .i64 p0_5, .slice a0_6 n0_6 c0_6, .int .i64 p0_7, .int .i64 p0_8, .slice a0_9 n0_9 c0_9]] w [.one .ptr, .one .ptr] K := by
  refine vcFun.of (A := law27_made.A) (wr := false) okf_ok follows h Tryz.func18 ?_
  kernel_rfl
def law27_payload.A : Ann := .two .no (.two .no (.two (.two .no (.one (.loop [5, 6, 8, 9, 10, 11, 12, 13, 14, 15, 16, 17, 18, 19, 20] [(5, .one .sl), (6, .one (.int .i64))] .no))) .no))
def law27_payload.P (p0 p1 : Int) (w : World) (K : SlV × Unit → World → Prop) : Prop :=
  NewV #[] 5 w fun b1 w2 =>
  LoopV [.one .sl, .one (.int .i64)] ((⟨(some ⟨b1, 0, none⟩), 0, 0⟩ : SlV), (0 : Int), ()) w2 fun (z3 : SlV × Int × Unit) w4 (K5 : SlV × Int × Unit → World → Prop) =>
  cond (decide (z3.2.1 < p0))
  (NewV #[.int .u8 (Go.bits .xor .u8 (IntKind.u8.wrap ((IntKind.u8.wrap z3.2.1) * 11)) p1)] 5 w4 fun b6 w7 =>
  AppS w7 (some ⟨b6, 0, none⟩) 1 1 fun ns12 =>
  AppV w7 5 1 1 z3.1.a z3.1.n z3.1.c ns12 1 fun a8 n9 c10 w11 =>
  Rng .i64 (z3.2.1 + 1) ∧
  K5 ((⟨a8, n9, c10⟩ : SlV), z3.2.1 + 1, ()) w11)
  (K (z3.1, ()) w4)
theorem law27_payload.vc (p0 p1 : Int) (w : World) (K : SlV × Unit → World → Prop) (h : law27_payload.P p0 p1 w K) : CallV Tryz.prog 83 #[.int .i64 p0, .int .u8 p1] w [.one .sl] K := by
  refine vcFun.of (A := law27_payload.A) (wr := false) okf_ok follows h Tryz.func83 ?_
  kernel_rfl
def law27_put.A : Ann := .two .no (.two .no (.two .no (.two (.draw (.take 0 (.take 1 (.take 2 (.take 3 (.take 4 (.take 6 (.take 7 (.eff 5 (.eff 8 (.eff 9 (.take 10 (.done))))))))))))) .no)))
def law27_put.P (p0 : Addr) (p1_0 p1_1 p1_2 p1_3 p1_4 p1_5 p2_0 p2_1 p2_2 : Int) (p2_3 : Bool) (p2_4 p3 : Int) (w : World) (K : Int × Unit → World → Prop) : Prop :=
  NewV #[.int .i64 p1_0, .int .i64 p1_1, .int .i64 p1_2, .int .i64 p1_3, .int .i64 p1_4, .int .i64 p1_5] 23 w fun b1 w2 =>
  NewV #[.int .i64 p2_0, .int .i64 p2_1, .int .i64 p2_2, .bool p2_3, .int .u8 p2_4] 39 w2 fun b3 w4 =>
  LoadS w4 ⟨b3, 3, none⟩ .bool fun (x5 : Bool) =>
  cond x5
  (LoadS w4 ⟨b3, 0, none⟩ (.int .i64) fun (x6 : Int) =>
  LoadS w4 ⟨b3, 2, none⟩ (.int .i64) fun (x7 : Int) =>
  LoadS w4 ⟨b3, 1, none⟩ (.int .i64) fun (x8 : Int) =>
  CallV Tryz.prog 51 #[.pointer (some p0), .agg #[.int .i64 2, .int .i64 x6, .int .i64 x7, .int .u32 (IntKind.u32.wrap x8), .int .u64 0, .int .u64 0]] w4 [.agg [.int .i64, .int .i64, .int .i64, .int .u32, .int .u64, .int .u64]] fun (r9 : (Int × Int × Int × Int × Int × Int × Unit) × Unit) w10 =>
  CallV Tryz.prog 45 #[.pointer (some p0), .agg #[.int .i64 r9.1.1, .int .i64 r9.1.2.1, .int .i64 r9.1.2.2.1, .int .u32 r9.1.2.2.2.1, .int .u64 r9.1.2.2.2.2.1, .int .u64 r9.1.2.2.2.2.2.1], .slice none 0 0, .slice none 0 0] w10 [.one (.int .i64)] fun (r11 : Int × Unit) w12 =>
  K (r11.1, ()) w12)
  (LoadS w4 ⟨b3, 0, none⟩ (.int .i64) fun (x13 : Int) =>
  LoadS w4 ⟨b3, 1, none⟩ (.int .i64) fun (x14 : Int) =>
  CallV Tryz.prog 51 #[.pointer (some p0), .agg #[.int .i64 1, .int .i64 x13, .int .i64 1, .int .u32 (IntKind.u32.wrap x14), .int .u64 0, .int .u64 0]] w4 [.agg [.int .i64, .int .i64, .int .i64, .int .u32, .int .u64, .int .u64]] fun (r15 : (Int × Int × Int × Int × Int × Int × Unit) × Unit) w16 =>
  NewV #[.int .i64 0, .int .i64 0, .int .i64 0, .int .u32 0, .int .u64 0, .int .u64 0] 62 w16 fun b17 w18 =>
  StoreV w18 ⟨b17, 0, none⟩ [.int .i64 r15.1.1, .int .i64 r15.1.2.1, .int .i64 r15.1.2.2.1, .int .u32 r15.1.2.2.2.1, .int .u64 r15.1.2.2.2.2.1, .int .u64 r15.1.2.2.2.2.2.1] fun w19 =>
  DrawV fun D20 =>
  (D20 b17 ∧ LoadA w19.drew ⟨b17, 0, none⟩ [.int .i64, .int .i64, .int .i64, .int .u32, .int .u64, .int .u64] fun (x21 : Int × Int × Int × Int × Int × Int × Unit) =>
  (D20 b1 ∧ LoadS w19.drew ⟨b1, 2, none⟩ (.int .i64) fun (x22 : Int) =>
  CallV Tryz.prog 83 #[.int .i64 x22, .int .u8 p3] w19.drew [.one .sl] fun (r23 : SlV × Unit) w24 =>
  KeepOn D20 w19.drew w24 ∧
  CallV Tryz.prog 83 #[.int .i64 32, .int .u8 (IntKind.u8.wrap (p3 + 1))] w24 [.one .sl] fun (r25 : SlV × Unit) w26 =>
  KeepOn D20 w19.drew w26 ∧
  CallV Tryz.prog 45 #[.pointer (some p0), .agg #[.int .i64 x21.1, .int .i64 x21.2.1, .int .i64 x21.2.2.1, .int .u32 x21.2.2.2.1, .int .u64 x21.2.2.2.2.1, .int .u64 x21.2.2.2.2.2.1], .slice r23.1.a r23.1.n r23.1.c, .slice r25.1.a r25.1.n r25.1.c] w26 [.one (.int .i64)] fun (r27 : Int × Unit) w28 =>
  KeepOn D20 w19.drew w28 ∧
  K (r27.1, ()) w28)))
theorem law27_put.vc (p0 : Addr) (p1_0 p1_1 p1_2 p1_3 p1_4 p1_5 p2_0 p2_1 p2_2 : Int) (p2_3 : Bool) (p2_4 p3 : Int) (w : World) (K : Int × Unit → World → Prop) (h : law27_put.P p0 p1_0 p1_1 p1_2 p1_3 p1_4 p1_5 p2_0 p2_1 p2_2 p2_3 p2_4 p3 w K) : CallV Tryz.prog 19 #[.pointer (some p0), .agg #[.int .i64 p1_0, .int .i64 p1_1, .int .i64 p1_2, .int .i64 p1_3, .int .i64 p1_4, .int .i64 p1_5], .agg #[.int .i64 p2_0, .int .i64 p2_1, .int .i64 p2_2, .bool p2_3, .int .u8 p2_4], .int .u8 p3] w [.one (.int .i64)] K := by
  refine vcFun.of (A := law27_put.A) (wr := false) okf_ok follows h Tryz.func19 ?_
  kernel_rfl
def law27_awake.A : Ann := .no
def law27_awake.P  (w : World) (K : Bool × Unit → World → Prop) : Prop :=
  NewV #[.int .i64 0, .int .i64 0, .int .i64 0, .int .i64 0, .int .i64 0, .int .i64 0] 23 w fun b1 w2 =>
  StoreV w2 ⟨b1, 0, none⟩ [.int .i64 11, .int .i64 10, .int .i64 64, .int .i64 0, .int .i64 1, .int .i64 1] fun w3 =>
  LoadA w3 ⟨b1, 0, none⟩ [.int .i64, .int .i64, .int .i64, .int .i64, .int .i64, .int .i64] fun (x4 : Int × Int × Int × Int × Int × Int × Unit) =>
  CallV Tryz.prog 18 #[.agg #[.int .i64 x4.1, .int .i64 x4.2.1, .int .i64 x4.2.2.1, .int .i64 x4.2.2.2.1, .int .i64 x4.2.2.2.2.1, .int .i64 x4.2.2.2.2.2.1, .slice none 0 0, .int .i64 5, .int .i64 5, .slice none 0 0]] w3 [.one .ptr, .one .ptr] fun (r5 : (Option Addr) × (Option Addr) × Unit) w6 =>
  LoadA w6 ⟨b1, 0, none⟩ [.int .i64, .int .i64, .int .i64, .int .i64, .int .i64, .int .i64] fun (x7 : Int × Int × Int × Int × Int × Int × Unit) =>
  CallV Tryz.prog 19 #[.pointer r5.1, .agg #[.int .i64 x7.1, .int .i64 x7.2.1, .int .i64 x7.2.2.1, .int .i64 x7.2.2.2.1, .int .i64 x7.2.2.2.2.1, .int .i64 x7.2.2.2.2.2.1], .agg #[.int .i64 0, .int .i64 0, .int .i64 1, .bool false, .int .u8 0], .int .u8 3] w6 [.one (.int .i64)] fun (r8 : Int × Unit) w9 =>
  cond (r8.1 == 0)
  (CallV Tryz.prog 23 #[.pointer r5.1] w9 [.one .bool] fun (r10 : Bool × Unit) w11 =>
  cond (!r10.1)
  (CallV Tryz.prog 21 #[.pointer r5.1] w11 [.one (.int .i64)] fun (r12 : Int × Unit) w13 =>
  cond (r12.1 == 0)
  (CallV Tryz.prog 23 #[.pointer r5.1] w13 [.one .bool] fun (r14 : Bool × Unit) w15 =>
  K (r14.1, ()) w15)
  (K (false, ()) w13))
  (K (false, ()) w11))
  (K (false, ()) w9)
theorem law27_awake.vc  (w : World) (K : Bool × Unit → World → Prop) (h : law27_awake.P  w K) : CallV Tryz.prog 17 #[] w [.one .bool] K := by
  refine vcFun.of (A := law27_awake.A) (wr := false) okf_ok follows h Tryz.func17 ?_
  kernel_rfl
end Go.Proofs.YtbaojfchlhlaeaaGreat.Vc
/-! The contracts of the laws of layer 27: which cases are played; payloads, a new stream on an array, a step put. -/
namespace Go.Proofs.YtbaojfchlhlaeaaGreat.Vc
open Go Go.Eng Go.RowKit
abbrev TSt25 : Ty := .cons (.int .i64) (.cons (.int .i64) (.cons (.int .i64) (.cons .bool (.cons (.int .u8) .nil))))
abbrev LSt25 : Ty := .sl TSt25
abbrev stOf (z : TSt25.T) : St25 := ⟨z.1, z.2.1, z.2.2.1, z.2.2.2.1, z.2.2.2.2.1⟩
abbrev szOf (z0 z1 ns : Int) : Int := if ns = 0 then z0 else z1
def stR (z0 z1 : Int) (x : St25) : Prop := (x.ns = 0 ∨ x.ns = 1) ∧ 1 ≤ x.c ∧ x.c ≤ szOf z0 z1 x.ns ∧ 0 ≤ x.lba ∧ x.lba ≤ szOf z0 z1 x.ns - x.c
structure Li27 (g : Geo) (f : SlP TF.T) (z0 z1 : Int) (l : List TSt25.T) : Prop where
  R : Right g
  F : FRight (fds f)
  b : g.b ≤ 16
  p : g.p ≤ 16
  s : g.s ≤ 128
  n : l.length ≤ 120
  z : fitE g [z0, z1] = 0
  st : ∀ y ∈ l, stR z0 z1 (stOf y)
theorem add7 (b : Nat) : (⟨b, 7, none⟩ : Addr).add ((0 : Int).toNat * 1) = ⟨b, 7, none⟩ ∧ (⟨b, 7, none⟩ : Addr).add ((1 : Int).toNat * 1) = ⟨b, 8, none⟩ := by
  constructor <;> rw [Addr.add_lit] <;> rfl
section
variable {E : Nat → Prop} {w0 w : World} {Rs : List Asr} {sp pp pm p q n : Nat} {g : Geo} {s : SD}
theorem light27_c {f : SlP TF.T} {z0 z1 : Int} {st : SlP TSt25.T} (hf : LF.rd w All f) (hs : LSt25.rd w All st) :
    CallV Tryz.prog 15 #[.agg (casV25 g f z0 z1 ⟨st.a, st.n, st.c⟩).toArray] w [.one .bool] fun r w' => (r.1 = true → Li27 g f z0 z1 st.l) ∧ Ext w w' := by
  apply law27_light.vc
  unfold law27_light.P
  have S := Sep.start NoB w
  have no : ∀ {w' : World}, Ext w w' → ((false = true → Li27 g f z0 z1 st.l) ∧ Ext w w') := fun e => ⟨fun h => (by cases h), e⟩
  refine S.newB (vs := casV25 g f z0 z1 ⟨st.a, st.n, st.c⟩) fun b1 w1 S f1 _ => S.reg fun D hD hkeep S T => ?_
  have hb := hD _ S.bl0
  refine ⟨hb, S.lb0 (o := 0) rfl ?_⟩
  refine (Right_c (g := g)).mono ?_
  rintro ⟨(r : Bool), ⟨⟩⟩ w4 ⟨h4, x4⟩
  dsimp only at h4 ⊢
  subst h4
  have T := T.stepE x4
  refine ⟨hkeep _ T.fr, cond_of (fun _ => no (S.ext.trans x4)) (fun h1 => ?_)⟩
  have h1 : Right g := by simpa using h1
  refine ⟨hb, S.ld0 (j := 6) rfl rfl ?_⟩
  refine (rRight12_c (Ty.rd_ext (S.ext.trans x4) _ hf)).mono ?_
  rintro ⟨(r : Bool), ⟨⟩⟩ w5 ⟨h5, rfl⟩
  dsimp only at h5 ⊢
  subst h5
  refine ⟨hkeep _ T.fr, cond_of (fun _ => no (S.ext.trans x4)) (fun h2 => ?_)⟩
  have h2 : FRight (fds f) := by simpa using h2
  refine ⟨hb, S.ld0 (j := 0) rfl rfl (cond_d (fun _ => no (S.ext.trans x4)) (fun h3 => ?_))⟩
  refine ⟨hb, S.ld0 (j := 1) rfl rfl (cond_d (fun _ => no (S.ext.trans x4)) (fun h4 => ?_))⟩
  refine ⟨hb, S.ld0 (j := 2) rfl rfl (cond_d (fun _ => no (S.ext.trans x4)) (fun h5 => ?_))⟩
  refine ⟨hb, S.ld0 (j := 9) rfl rfl (cond_d (fun _ => no (S.ext.trans x4)) (fun h6 => ?_))⟩
  refine ⟨hb, S.lb0 (o := 0) rfl ?_⟩
  intro a ha
  rw [if_neg (by decide)] at ha
  subst ha
  have hc := ((S.cells 0 rfl).drop 7).take 2
  have e7 : (⟨b1, 0, none⟩ : Addr).add 7 = (⟨b1, 7, none⟩ : Addr).add (0 * 1) := by rw [Addr.add_lit, Addr.add_lit]
  rw [e7] at hc
  refine (rFit_c (g := g) (l := [z0, z1]) h1 ⟨rfl, Nat.le_refl _, (by show (2 : Nat) ≤ 9223372036854775807; decide), .inr ⟨_, rfl, x4.cells hc⟩⟩).mono ?_
  rintro ⟨(r : Int), ⟨⟩⟩ w6 ⟨h6', x6⟩
  dsimp only at h6' ⊢
  subst h6'
  have T := T.stepE x6
  refine ⟨hkeep _ T.fr, cond_of (fun _ => no ((S.ext.trans x4).trans x6)) (fun h7 => ?_)⟩
  have h7 : fitE g [z0, z1] = 0 := by simpa using h7
  have S := S.stepE (x4.trans x6)
  have hl : st.l.length = st.n := hs.1
  have hlim : st.n ≤ 9223372036854775807 := by have h1 := hs.2.2.1; have h2 : maxLen = 9223372036854775807 := (by decide); omega
  refine Loop1 (fun (v : Int × Unit) w' => ∃ i : Nat, v.1 = (i : Int) ∧ i ≤ st.n ∧ (∀ j y, j < i → st.l[j]? = some y → stR z0 z1 (stOf y)) ∧ Sep NoB w w' [BoxA b1 28 (casV25 g f z0 z1 ⟨st.a, st.n, st.c⟩)]) (fun (v : Int × Unit) _ => ((st.n : Int) - v.1).toNat)
    ⟨0, rfl, Nat.zero_le _, fun _ _ hj => absurd hj (Nat.not_lt_zero _), S⟩ ?_
  clear S T hkeep hb hD D
  rintro ⟨(v : Int), ⟨⟩⟩ w7 ⟨i, hv, hi, hst, S⟩
  dsimp only at hv
  subst hv
  refine S.ld0 (j := 9) rfl rfl (cond_d (fun hlt => ?_) (fun hge => ?_))
  case refine_2 =>
    have hge : ¬ ((i : Int) < ((st.n : Nat) : Int)) := hge
    refine ⟨fun _ => ⟨h1, h2, by omega, by omega, by omega, ?_, h7, fun y hy => ?_⟩, S.ext⟩
    · have h6 : ¬ ((st.n : Nat) : Int) > 120 := h6; omega
    · obtain ⟨j, hj, rfl⟩ := List.mem_iff_getElem.1 hy
      exact hst j _ (by omega) (List.getElem?_eq_getElem hj)
  have hlt : (i : Int) < ((st.n : Nat) : Int) := hlt
  refine S.ld0 (j := 9) rfl rfl ?_
  obtain ⟨qa, y, hq, hy, hc, hr, -, hqb⟩ := Ty.nth hs (i := (i : Int)) (by omega) hlt (by decide)
  rw [Int.toNat_natCast] at hy
  obtain ⟨(ns : Int), (lba : Int), (ct : Int), (tr : Bool), (sd : Int), ⟨⟩⟩ := y
  have nx : stR z0 z1 ⟨ns, lba, ct, tr, sd⟩ → ∀ j y, j < i + 1 → st.l[j]? = some y → stR z0 z1 (stOf y) := fun hn j y hj e => by
    by_cases e2 : j = i
    · subst e2
      rw [hy] at e
      cases e
      exact hn
    · exact hst j y (by omega) e
  refine ⟨⟨by omega, hlt⟩, qa, hq, (ns, lba, ct, tr, sd, ()), S.ext.cells hc, ?_⟩
  have X := S.ext
  refine S.newB fun b2 w8 S f8 _ => S.st0 (by rfl) fun w9 S f9 => DrawV.any fun D hD => ?_
  have S : Sep NoB w w9.drew [BoxA b2 39 [.int .i64 ns, .int .i64 lba, .int .i64 ct, .bool tr, .int .u8 sd], BoxA b1 28 (casV25 g f z0 z1 ⟨st.a, st.n, st.c⟩)] := S.drew
  refine ⟨hD _, S.ld0 (j := 0) rfl rfl (cond_d (fun _ => no S.ext) (fun g1 => ?_))⟩
  refine ⟨hD _, S.ld0 (j := 0) rfl rfl (cond_d (fun _ => no S.ext) (fun g2 => ?_))⟩
  refine ⟨hD _, S.ld0 (j := 2) rfl rfl (cond_d (fun _ => no S.ext) (fun g3 => ?_))⟩
  refine ⟨hD _, S.ld0 (j := 2) rfl rfl ⟨hD _, S.ld0 (j := 0) rfl rfl ?_⟩⟩
  dsimp only at g1 g2 g3 ⊢
  have hns : ns = 0 ∨ ns = 1 := by omega
  have hz := (fitE_zero.1 h7).2.1
  have hz0 := hz z0 List.mem_cons_self
  have hz1 := hz z1 (List.mem_cons_of_mem _ List.mem_cons_self)
  rcases hns with e | e
  · subst e
    have ea := (add7 b1).1
    refine ⟨⟨by decide, by decide⟩, by rw [ea]; exact hD _, ?_⟩
    rw [ea]
    refine S.ld1 (j := 7) rfl rfl (cond_d (fun _ => no S.ext) (fun g4 => ?_))
    refine ⟨hD _, S.ld0 (j := 1) rfl rfl (cond_d (fun _ => no S.ext) (fun g5 => ?_))⟩
    refine ⟨hD _, S.ld0 (j := 1) rfl rfl ⟨hD _, S.ld0 (j := 0) rfl rfl ⟨⟨by decide, by decide⟩, ?_⟩⟩⟩
    rw [ea]
    refine ⟨hD _, S.ld1 (j := 7) rfl rfl ⟨hD _, S.ld0 (j := 2) rfl rfl ⟨Rng.i64 (by omega) (by omega), cond_d (fun _ => no S.ext) (fun g6 => ?_)⟩⟩⟩
    exact ⟨Rng.i64 (by omega) (by omega), ⟨i + 1, by push_cast; rfl, by omega, nx ⟨.inl rfl, by show 1 ≤ ct; omega, by show ct ≤ z0; omega, by show 0 ≤ lba; omega, by show lba ≤ z0 - ct; omega⟩, S.tail⟩, by omega⟩
  · subst e
    have ea := (add7 b1).2
    refine ⟨⟨by decide, by decide⟩, by rw [ea]; exact hD _, ?_⟩
    rw [ea]
    refine S.ld1 (j := 8) rfl rfl (cond_d (fun _ => no S.ext) (fun g4 => ?_))
    refine ⟨hD _, S.ld0 (j := 1) rfl rfl (cond_d (fun _ => no S.ext) (fun g5 => ?_))⟩
    refine ⟨hD _, S.ld0 (j := 1) rfl rfl ⟨hD _, S.ld0 (j := 0) rfl rfl ⟨⟨by decide, by decide⟩, ?_⟩⟩⟩
    rw [ea]
    refine ⟨hD _, S.ld1 (j := 8) rfl rfl ⟨hD _, S.ld0 (j := 2) rfl rfl ⟨Rng.i64 (by omega) (by omega), cond_d (fun _ => no S.ext) (fun g6 => ?_)⟩⟩⟩
    exact ⟨Rng.i64 (by omega) (by omega), ⟨i + 1, by push_cast; rfl, by omega, nx ⟨.inr rfl, by show 1 ≤ ct; omega, by show ct ≤ z1; omega, by show 0 ≤ lba; omega, by show lba ≤ z1 - ct; omega⟩, S.tail⟩, by omega⟩
theorem crashes27_c {f : SlP TF.T} (hf : LF.rd w All f) : CallV Tryz.prog 16 #[.slice f.a f.n f.c] w [.one .bool] fun r w' => (r.1 = false → ∀ F ∈ fds f, F.2.1 = false) ∧ w' = w := by
  apply law27_crashes.vc
  unfold law27_crashes.P
  have hl := LF_len hf
  have hlim := LF_lim hf
  refine Loop1 (fun (v : Int × Unit) w' => (∃ i : Nat, v.1 = (i : Int) ∧ i ≤ f.n ∧ ∀ j y, j < i → (fds f)[j]? = some y → y.2.1 = false) ∧ w' = w) (fun (v : Int × Unit) _ => ((f.n : Int) - v.1).toNat) ⟨⟨0, rfl, Nat.zero_le _, fun _ _ hj => absurd hj (Nat.not_lt_zero _)⟩, rfl⟩ ?_
  rintro ⟨(v : Int), ⟨⟩⟩ w1 ⟨⟨i, hv, hi, hno⟩, rfl⟩
  dsimp only at hv
  subst hv
  refine cond_d (fun hlt => ?_) (fun hge => ?_)
  case refine_2 =>
    have hge : ¬ ((i : Int) < ((f.n : Nat) : Int)) := hge
    refine ⟨fun _ F hF => ?_, rfl⟩
    obtain ⟨j, hj, rfl⟩ := List.mem_iff_getElem.1 hF
    exact hno j _ (by omega) (List.getElem?_eq_getElem hj)
  have hlt : (i : Int) < ((f.n : Nat) : Int) := hlt
  obtain ⟨qa, y, hq, hy, hc, hr, -, hqb⟩ := Ty.nth hf (i := (i : Int)) (by omega) hlt (by decide)
  rw [Int.toNat_natCast] at hy
  have hy2 := LF_get hy
  refine ⟨⟨by omega, hlt⟩, qa, hq, y.2.1, hc.get (j := 1) rfl, cond_of (fun hb => ⟨fun h => (by cases h), rfl⟩) (fun hb => ⟨Rng.i64 (by omega) (by omega), ⟨⟨i + 1, by push_cast; rfl, by omega, fun j z hj e => ?_⟩, rfl⟩, by omega⟩)⟩
  by_cases e2 : j = i
  · subst e2
    rw [hy2] at e
    cases e
    exact hb
  · exact hno j z (by omega) e
theorem payload27_c {n sd : Int} (hn : 0 ≤ n ∧ n ≤ 1000) : CallV Tryz.prog 83 #[.int .i64 n, .int .u8 sd] w [.one .sl] fun r w' => Res w w' r.1 (payM 11 n.toNat sd) := by
  apply law27_payload.vc
  unfold law27_payload.P
  have S := Sep.start NoB w
  refine S.newB fun b1 w1 S f1 _ => ?_
  have S := S.asOwn (sz := 1) (n := 0) rfl (by omega) oneAll.nil
  refine Loop1 (fun (v : SlV × Int × Unit) w' => ∃ i : Nat, v.2.1 = (i : Int) ∧ (i : Int) ≤ n ∧ v.1.n = i ∧ Sep NoB w w' [OwnA 5 1 v.1.a v.1.n v.1.c ((payM 11 i sd).map (Value.int .u8))]) (fun (v : SlV × Int × Unit) _ => (n - v.2.1).toNat) ⟨0, rfl, by omega, rfl, S⟩ ?_
  rintro ⟨⟨a, m, c⟩, (v : Int), ⟨⟩⟩ w4 ⟨i, hv, hi, hm, S⟩
  dsimp only at hv hm S ⊢
  subst hv
  subst hm
  refine cond_d (fun hlt => ?_) (fun hge => ?_)
  · refine S.newB fun b6 w5 S f5 _ => ?_
    refine AppS.of (news := [.int .u8 (Go.bits .xor .u8 (IntKind.u8.wrap (IntKind.u8.wrap (m : Int) * 11)) sd)]) rfl (.inr ⟨_, rfl, S.cells 0 rfl⟩) ?_
    refine S.ap1 rfl (fun u hu => by rw [List.mem_singleton.1 hu]; rfl) (by omega) (by omega) fun a' c' w6 S f6 => ⟨Rng.i64 (by omega) (by omega), ⟨m + 1, by push_cast; rfl, by omega, rfl, ?_⟩, by omega⟩
    have e : (payM 11 (m + 1) sd).map (Value.int .u8) = (payM 11 m sd).map (Value.int .u8) ++ [.int .u8 (Go.bits .xor .u8 (IntKind.u8.wrap (IntKind.u8.wrap (m : Int) * 11)) sd)] := by
      unfold payM
      rw [List.range_succ, List.map_append, List.map_append]
      rfl
    rw [e]
    exact S.sel [1] rfl
  · have : n.toNat = m := by omega
    rw [this]
    exact S.out
theorem made27_c {f : SlP TF.T} {z0 z1 : Int} {st : SlV} (hf : LF.rd w All f) (hR : Right g) (hFR : FRight (fds f)) (hg : LG g) (hz0 : 1 ≤ z0 ∧ z0 ≤ 65535) (hz1 : 1 ≤ z1 ∧ z1 ≤ 65535) :
    CallV Tryz.prog 18 #[.agg (casV25 g f z0 z1 st).toArray] w [.one .ptr, .one .ptr] fun r w' => ∃ (sp pp pm p q : Nat) (X : List (SlP Ce)), r.1 = some (⟨sp, 0, none⟩ : Addr) ∧ r.2.1 = some (⟨p, 0, none⟩ : Addr) ∧ New0 X z0.toNat z1.toNat ∧ Sep NoB w w' (stS sp pp pm p q g (s00 g (fds f) X) []) := by
  apply law27_made.vc
  unfold law27_made.P
  have S := Sep.start NoB w
  have hk := hR.1
  unfold Kept at hk
  have hpF : ∀ F ∈ fds f, Byt F.2.2.1 ∧ F.2.2.1.length ≤ 140737488351232 := fun F hF => ⟨fds_byt hf F hF, hFR.fit F hF⟩
  have hC0 : COk (newC g (fds f)) := newC_ok hR hg hpF
  refine S.newB (vs := casV25 g f z0 z1 st) fun b1 w1 S f1 _ => ?_
  refine S.lb0 (o := 0) rfl (S.ld0 (j := 6) rfl rfl ?_)
  refine (New13_c (g := g) (x := f) (Ty.rd_ext S.ext _ hf) hFR.fit).mono ?_
  rintro ⟨pv, (e : Int), ⟨⟩⟩ w2 ⟨x2, -, hgood⟩
  obtain ⟨-, p, y, hp, hyF, S2⟩ := hgood ⟨hR, hFR⟩
  dsimp only at hp
  subst hp
  have S := chip_new (w := w) hyF (S.frame0 S2)
  clear S2
  refine S.lb1 (o := 0) rfl ?_
  refine (Data_c (g := g)).mono ?_
  rintro ⟨(d : Int), ⟨⟩⟩ w3 ⟨h3, x3⟩
  dsimp only at h3 ⊢
  rw [if_pos hR] at h3
  subst h3
  have S := S.stepE x3
  refine (New21_c (n := g.b - 4) (by omega)).mono ?_
  rintro ⟨qv, (e : Int), ⟨⟩⟩ w4 ⟨-, q, a6, c6, hq, S4⟩
  dsimp only at hq
  subst hq
  have S := ledE_in (q := q) (L := List.replicate (nG g) Blk.new) (S.frame0 S4)
  clear S4
  refine (New_m S).mono ?_
  rintro ⟨mv, ⟨⟩⟩ w5 ⟨pm, hm, S⟩
  dsimp only at hm
  subst hm
  refine ⟨⟨by decide, by decide⟩, S.ld3 (j := 7) rfl rfl ?_⟩
  refine (Add_m (ns := 0) (size := z0) X0_ok (by decide) (New0.zero.n 0) hz0 S).mono ?_
  rintro ⟨(r : Int), ⟨⟩⟩ w6 ⟨-, x0, hx1, hx2, S⟩
  have hN1 := New0.zero.add0 hx1 hx2 (by omega)
  refine ⟨⟨by decide, by decide⟩, S.ld3 (j := 8) rfl rfl ?_⟩
  refine (Add_m (ns := 1) (size := z1) hN1.ok (by decide) (hN1.n 1) hz1 S).mono ?_
  rintro ⟨(r : Int), ⟨⟩⟩ w7 ⟨-, x1, hy1, hy2, S⟩
  have hN2 := hN1.add1 hy1 hy2 (by omega)
  refine (Len_e (S.fro [1] rfl)).mono ?_
  rintro ⟨(r : Int), ⟨⟩⟩ w8 ⟨h8, rfl⟩
  dsimp only at h8 ⊢
  rw [List.length_replicate] at h8
  subst h8
  have hnG : ((nG g : Nat) : Int) = g.b - 4 := by unfold nG; omega
  refine ⟨⟨by omega, by omega, by omega, by push_cast; omega⟩, ?_⟩
  rw [Int.toNat_natCast]
  refine S.newB fun b22 w9 S f9 _ => ?_
  rw [zHd_rep'] at S
  refine (New24_c (y := ⟨some ⟨b22, 0, none⟩, nG g, nG g⟩) (O := List.replicate (nG g) zHd) hC0 (by rw [List.length_replicate]; omega) (by show nG g ≤ 1000; omega) (.inr ⟨_, rfl, S.cells 0 rfl⟩) List.length_replicate (S.fro [3, 2] rfl)).mono ?_
  rintro ⟨pv2, (e : Int), ⟨⟩⟩ w10 ⟨-, h8⟩
  obtain ⟨-, pp, t, hpp, x8, S⟩ := h8 ⟨by rw [List.length_replicate]; exact hnG, hnG⟩
  dsimp only at hpp
  subst hpp
  have S := polE_in S
  refine (S.fro [5] rfl).lb0 (o := 0) rfl ?_
  have hgC : (newC g (fds f)).g = g := rfl
  rw [hgC] at S
  refine (New25_c (pl := fds f) hR hg hpF hN2 (S.fro [4, 0, 0, 0] rfl)).mono ?_
  rintro ⟨sv, (e : Int), ⟨⟩⟩ w11 ⟨sp, hsp, -, S⟩
  exact ⟨sp, pp, pm, p, q, _, hsp, rfl, hN2, S.take (Rs := stS sp pp pm p q g (s00 g (fds f) _) [])⟩
def pl27 (g : Geo) (x : St25) (sd : Int) : List Int := if x.t = true then [] else payM 11 g.s.toNat sd
def tg27 (x : St25) (sd : Int) : List Int := if x.t = true then [] else payM 11 32 (IntKind.u8.wrap (sd + 1))
def do27 (g : Geo) (s : SD) (x : St25) (sd : Int) : SD × Int := putS (nxtS s (hd25 x)).1 (nxtS s (hd25 x)).2 (pl27 g x sd) (tg27 x sd)
theorem pl27_byt (g : Geo) (x : St25) (sd : Int) : Byt (pl27 g x sd) := by unfold pl27; split; exact Byt.nil; exact payM_byt _ _ _
theorem tg27_byt (x : St25) (sd : Int) : Byt (tg27 x sd) := by unfold tg27; split; exact Byt.nil; exact payM_byt _ _ _
theorem SI.do27 (h : SI g n s) (x : St25) (sd : Int) (ho : s.C.ops + 55051264 ≤ 1000000000000) : St g n 55051264 (nxtS s (hd25 x)).1 (do27 g s x sd).1 := by
  have h1 := (h.nxt (hd25 x)).2
  have a := h1.put (xs := pl27 g x sd) (tg := tg27 x sd) (nxt_rng h (hd25_rng x)) (pl27_byt g x sd) (tg27_byt x sd) ho
  exact a
theorem put27_c {x : St25} {sd : Int} (h : SI g n s) (ho : s.C.ops + 55051264 ≤ 1000000000000) (S : Sep E w0 w (stS sp pp pm p q g s Rs)) :
    CallV Tryz.prog 19 #[.pointer (some ⟨sp, 0, none⟩), g.val, x.val, .int .u8 sd] w [.one (.int .i64)] fun r w' => r.1 = (do27 g s x sd).2 ∧ Sep E w0 w' (stS sp pp pm p q g (do27 g s x sd).1 Rs) := by
  apply law27_put.vc
  unfold law27_put.P
  have hwc := wC256
  have hR := h.pi.R
  have hs := hR.sec
  have h1 := (h.nxt (hd25 x)).2
  have hr := nxt_rng h (hd25_rng x)
  have hln : g.s ≤ 1000 := by have := h.pi.ok.lg; rw [h.pi.gg] at this; unfold LG at this; omega
  refine S.newB (vs := g.vs) fun b1 w1 S f1 _ => S.newB fun b3 w2 S f2 _ => S.ld0 (j := 3) rfl rfl (cond_of (fun ht => ?_) (fun ht => ?_))
  · have ht : x.t = true := ht
    refine S.ld0 (j := 0) rfl rfl (S.ld0 (j := 2) rfl rfl (S.ld0 (j := 1) rfl rfl ?_))
    have S := S.tail.tail
    have eh : (⟨2, x.ns, x.c, IntKind.u32.wrap x.lba, 0, 0⟩ : Hd) = hd25 x := by unfold hd25; rw [if_pos ht]
    refine (Next25_c (hd := ⟨2, x.ns, x.c, IntKind.u32.wrap x.lba, 0, 0⟩) h S).mono ?_
    rw [eh]
    rintro ⟨r, ⟨⟩⟩ w3 ⟨h3, S⟩
    dsimp only at h3 ⊢
    subst h3
    have S := rd_two (S.rdNil.rdNil)
    have S : Sep E w0 w3 (stS sp pp pm p q g (nxtS s (hd25 x)).1 (RdL [⟨none, 0, 0, []⟩, ⟨none, 0, 0, []⟩] :: Rs)) := S.fro [1, 1, 1, 1, 1] rfl
    refine (Put25_c (hd := (nxtS s (hd25 x)).2) (dd := ⟨none, 0, 0, []⟩) (tt := ⟨none, 0, 0, []⟩) h1 hr (.inl rfl) (.inl rfl) Byt.nil Byt.nil (by rw [hwc]; exact ho) S).mono ?_
    rintro ⟨(r : Int), ⟨⟩⟩ w4 ⟨h4, S⟩
    dsimp only at h4 S ⊢
    unfold Vc.do27 pl27 tg27
    rw [if_pos ht, if_pos ht]
    exact ⟨h4, (S.fro [5] rfl).tail⟩
  · have ht : x.t = false := ht
    refine S.ld0 (j := 0) rfl rfl (S.ld0 (j := 1) rfl rfl ?_)
    have eh : (⟨1, x.ns, 1, IntKind.u32.wrap x.lba, 0, 0⟩ : Hd) = hd25 x := by unfold hd25; rw [if_neg (by rw [ht]; exact Bool.false_ne_true)]
    have S : Sep E w0 w2 (stS sp pp pm p q g s (BoxA b1 23 g.vs :: Rs)) := S.tail.fro [1, 1, 1, 1, 1] rfl
    refine (Next25_c (hd := ⟨1, x.ns, 1, IntKind.u32.wrap x.lba, 0, 0⟩) h S).mono ?_
    rw [eh]
    rintro ⟨r, ⟨⟩⟩ w3 ⟨h3, S⟩
    dsimp only at h3 ⊢
    subst h3
    refine S.newB fun b17 w4 S f4 _ => S.st0 (by rfl) fun w5 S f5 => ?_
    have S : Sep E w0 w5 ([boxSt sp pp pm g (nxtS s (hd25 x)).1, mapE pm (nxtS s (hd25 x)).1.X, polE pp p q g (nxtS s (hd25 x)).1.O, ledE q (nxtS s (hd25 x)).1.L, chipE p (nxtS s (hd25 x)).1.C] ++ (BoxA b17 62 (nxtS s (hd25 x)).2.vs :: BoxA b1 23 g.vs :: Rs)) := S.fro [1, 1, 1, 1, 1] rfl
    refine Sep.regC [boxSt sp pp pm g (nxtS s (hd25 x)).1, mapE pm (nxtS s (hd25 x)).1.X, polE pp p q g (nxtS s (hd25 x)).1.O, ledE q (nxtS s (hd25 x)).1.L, chipE p (nxtS s (hd25 x)).1.C] S fun G D hG T S hDt hDo hkeep back => ?_
    have T : Sep G w5.drew w5.drew (stS sp pp pm p q g (nxtS s (hd25 x)).1 []) := T
    refine ⟨hDt 0 _ _ _ rfl, S.la5 rfl ⟨hDt 1 _ _ _ rfl, S.ld6 (j := 2) rfl rfl ?_⟩⟩
    refine (payload27_c (n := g.s) (sd := sd) (by omega)).mono ?_
    rintro ⟨⟨va, vn, vc⟩, ⟨⟩⟩ w6 R6
    have T := res_rdL T R6 (payM_byt _ _ _)
    have hvn : (vn : Int) = g.s := by have := R6.own.ints.len; dsimp only at this; rw [payM_len] at this; omega
    clear R6
    refine ⟨hkeep _ T.fr, (payload27_c (n := 32) (sd := IntKind.u8.wrap (sd + 1)) (by decide)).mono ?_⟩
    rintro ⟨⟨ta, tn, tc⟩, ⟨⟩⟩ w7 R7
    have T := res_rdL T R7 (payM_byt _ _ _)
    have htn : tn = 32 := by have := R7.own.ints.len; dsimp only at this; rw [payM_len] at this; exact this.symm
    clear R7
    have T := rd_two (T.fro [1, 0] rfl)
    have T : Sep G w5.drew w7 (stS sp pp pm p q g (nxtS s (hd25 x)).1 (RdL [⟨va, vn, vc, payM 11 g.s.toNat sd⟩, ⟨ta, tn, tc, payM 11 32 (IntKind.u8.wrap (sd + 1))⟩] :: [])) := T.fro [1, 1, 1, 1, 1] rfl
    refine ⟨hkeep _ T.fr, (Put25_c (hd := (nxtS s (hd25 x)).2) (dd := ⟨va, vn, vc, payM 11 g.s.toNat sd⟩) (tt := ⟨ta, tn, tc, payM 11 32 (IntKind.u8.wrap (sd + 1))⟩) h1 hr (.inr hvn) (.inr htn) (payM_byt _ _ _) (payM_byt _ _ _) (by rw [hwc]; exact ho) T).mono ?_⟩
    rintro ⟨(r : Int), ⟨⟩⟩ w8 ⟨h8, T⟩
    dsimp only at h8 T ⊢
    refine ⟨hkeep _ T.fr, ?_⟩
    unfold Vc.do27 pl27 tg27
    rw [if_neg (by rw [ht]; exact Bool.false_ne_true), if_neg (by rw [ht]; exact Bool.false_ne_true)]
    exact ⟨h8, ((back _ _ T).fro [5, 5, 5] rfl).tail.tail.tail⟩
end
end Go.Proofs.YtbaojfchlhlaeaaGreat.Vc
/-! Plain laws of layer 25 (stream): a new stream takes a page. -/
namespace Go.Proofs.YtbaojfchlhlaeaaGreat.Vc
open Go Go.Eng Go.RowKit
abbrev gA25 : Geo := ⟨11, 10, 64, 0, 1, 1⟩
structure Aw25 (R : (CD × List Blk × List Hd) × Int × Int) : Prop where
  o : opC 0 ⟨0, 0, 0, 0, 1, u64w (0 + 1)⟩ true (newC gA25 []) (List.replicate (nG gA25) Blk.new) (List.replicate (nG gA25) zHd) = R
  b : R.2.1 = 0
  e : R.2.2 = 0
  sp : R.1.1.g.sp = 0
  p : R.1.1.g.p = 10
  ba : bads R.1.2.1 = 0
  us : (gx R.1.2.1 0).us = 0
  l : R.1.2.1.length = 7
abbrev sR (X : List (SlP Ce)) (ct : Int) (R : (CD × List Blk × List Hd) × Int × Int) (C : CD) (L : List Blk) : SD := ⟨C, L, R.1.2.2, X, [0, -1, -1, -1], 1, u64w (0 + 1), ct, false⟩
abbrev sN (X : List (SlP Ce)) (ct : Int) : SD := ⟨newC gA25 [], List.replicate (nG gA25) Blk.new, List.replicate (nG gA25) zHd, X, [-1, -1, -1, -1], 1, 0, ct, false⟩
section
variable {X : List (SlP Ce)} {ct : Int} {R : (CD × List Blk × List Hd) × Int × Int}
theorem aw_room (hX : New0 X 5 5) (h : Aw25 R) : roomP (sN X ct) 0 = (sR X ct R R.1.1 R.1.2.1, 0) := by
  have hc : closP (sN X ct) 0 = sN X ct := if_neg (fun e => absurd (show (0 : Int) ≤ -1 from e.1) (by decide))
  have hq : quoS (sN X ct) 0 = 3 := by
    unfold quoS
    show quo gA25 (((getX X 0).n : Nat) : Int) = 3
    rw [hX.n]
    decide
  have hh : heldS (sN X ct) 0 = 0 := by
    show manyT (List.replicate (nG gA25) Blk.new) (ownB 0) (List.replicate (nG gA25) Blk.new).length = 0
    decide
  unfold roomP
  rw [hc, hq, hh, if_neg (by decide)]
  have ho : opnS 0 true (sN X ct) = (⟨R.1.1, R.1.2.1, R.1.2.2, X, [-1, -1, -1, -1], 1, u64w (0 + 1), ct, false⟩, R.2.1, R.2.2) := by
    unfold opnS
    dsimp only
    rw [h.o]
  dsimp only
  rw [ho]
  dsimp only
  rw [h.b, h.e, if_pos rfl]
  have hf : frS ⟨R.1.1, R.1.2.1, R.1.2.2, X, [-1, -1, -1, -1], 1, u64w (0 + 1), ct, false⟩ 0 0 = sR X ct R R.1.1 R.1.2.1 := rfl
  rw [hf]
  unfold leftP
  rw [if_neg (by decide)]
  have hr : roS (sR X ct R R.1.1 R.1.2.1) 0 = sR X ct R R.1.1 R.1.2.1 := if_neg (by decide)
  rw [hr]
  have hov : overP (sR X ct R R.1.1 R.1.2.1) = (sR X ct R R.1.1 R.1.2.1, 0) := by
    unfold overP
    dsimp only
    rw [h.sp, h.ba, if_neg (by decide), if_neg (by decide)]
  rw [hov, if_neg (fun k => k rfl)]
theorem aw_wr (hX : New0 X 5 5) (h : Aw25 R) {hd : Hd} {xs tg : List Int} (hw : (wrtT 7 R.1.1 0 1 hd xs tg).2 = 0) :
    wrP 0 hd xs tg 256 (sN X ct) = (sR X ct R (wrtT 7 R.1.1 0 1 hd xs tg).1 (chL 0 7 uB R.1.2.1), (4, 1), 0) := by
  have h1 : fulP (sN X ct) 0 := .inl (show (-1 : Int) < 0 by decide)
  show (if fulP (sN X ct) 0 then (if (roomP (sN X ct) 0).2 ≠ 0 then ((roomP (sN X ct) 0).1, (0, 0), (roomP (sN X ct) 0).2) else wrP 0 hd xs tg 255 (roomP (sN X ct) 0).1) else _) = _
  rw [if_pos h1, aw_room hX h, if_neg (fun k => k rfl)]
  dsimp only
  have h2 : ¬ fulP (sR X ct R R.1.1 R.1.2.1) 0 := by
    unfold fulP
    dsimp only
    rw [h.p]
    intro k
    rcases k with k | k
    · exact absurd (show (0 : Int) < 0 from k) (by decide)
    · have k : (10 : Int) - 1 ≤ (gx R.1.2.1 0).us := k
      rw [h.us] at k
      exact absurd k (by decide)
  have e2 : (gx (chL 0 7 uB R.1.2.1) 0).us = 1 := by
    rw [gx_ch h.l, if_pos ⟨by decide, rfl⟩]
    show (gx R.1.2.1 0).us + 1 = 1
    rw [h.us]; rfl
  have e1 : wr1 (sR X ct R R.1.1 R.1.2.1) 0 hd xs tg = (sR X ct R (wrtT 7 R.1.1 0 1 hd xs tg).1 (chL 0 7 uB R.1.2.1), (wrtT 7 R.1.1 0 1 hd xs tg).2) := by
    show (sR X ct R (wrtT R.1.2.1.length R.1.1 0 (gx (chL 0 R.1.2.1.length uB R.1.2.1) 0).us hd xs tg).1 (chL 0 R.1.2.1.length uB R.1.2.1), (wrtT R.1.2.1.length R.1.1 0 (gx (chL 0 R.1.2.1.length uB R.1.2.1) 0).us hd xs tg).2) = _
    rw [h.l, e2]
  show (if fulP (sR X ct R R.1.1 R.1.2.1) 0 then (if (roomP (sR X ct R R.1.1 R.1.2.1) 0).2 ≠ 0 then ((roomP (sR X ct R R.1.1 R.1.2.1) 0).1, (0, 0), (roomP (sR X ct R R.1.1 R.1.2.1) 0).2) else wrP 0 hd xs tg 254 (roomP (sR X ct R R.1.1 R.1.2.1) 0).1) else if (wr1 (sR X ct R R.1.1 R.1.2.1) 0 hd xs tg).2 = 0 then ((wr1 (sR X ct R R.1.1 R.1.2.1) 0 hd xs tg).1, plc (sR X ct R R.1.1 R.1.2.1) 0, 0) else _) = _
  rw [if_neg h2, e1]
  dsimp only
  rw [if_pos hw]
  have e3 : plc (sR X ct R R.1.1 R.1.2.1) 0 = (4, 1) := by
    show ((4 : Int) + 0, (gx R.1.2.1 0).us + 1) = (4, 1)
    rw [h.us]; rfl
  rw [e3]
theorem aw_put (hX : New0 X 5 5) (h : Aw25 R) {xs tg : List Int} (hw : (wrtT 7 R.1.1 0 1 ⟨1, 0, 1, IntKind.u32.wrap 0, 1, u64w (0 + 1)⟩ xs tg).2 = 0) :
    putS (sN X ct) ⟨1, 0, 1, IntKind.u32.wrap 0, 1, u64w (0 + 1)⟩ xs tg = (lndP (sR X ct R (wrtT 7 R.1.1 0 1 ⟨1, 0, 1, IntKind.u32.wrap 0, 1, u64w (0 + 1)⟩ xs tg).1 (chL 0 7 uB R.1.2.1)) ⟨1, 0, 1, IntKind.u32.wrap 0, 1, u64w (0 + 1)⟩ (4, 1), 0) := by
  have hm : mayP (sN X ct) ⟨1, 0, 1, IntKind.u32.wrap 0, 1, u64w (0 + 1)⟩ := by
    unfold mayP
    have : (getX X 0).n = 5 := hX.n 0
    dsimp only
    rw [this]
    refine ⟨.inl rfl, by decide, by decide, by decide⟩
  unfold putS
  rw [if_neg (fun k => k hm), if_neg (fun k => by cases k)]
  dsimp only
  rw [aw_wr hX h hw]
  dsimp only
  rw [if_neg (fun k => k rfl)]
end
def R25 : (CD × List Blk × List Hd) × Int × Int := opC 0 ⟨0, 0, 0, 0, 1, u64w (0 + 1)⟩ true (newC gA25 []) (List.replicate (nG gA25) Blk.new) (List.replicate (nG gA25) zHd)
theorem R25_e : R25.2.1 = 0 ∧ R25.2.2 = 0 ∧ R25.1.1.g.sp = 0 ∧ R25.1.1.g.p = 10 ∧ bads R25.1.2.1 = 0 ∧ (gx R25.1.2.1 0).us = 0 ∧ R25.1.2.1.length = 7 := by decide +kernel
theorem R25_A : Aw25 R25 := ⟨rfl, R25_e.1, R25_e.2.1, R25_e.2.2.1, R25_e.2.2.2.1, R25_e.2.2.2.2.1, R25_e.2.2.2.2.2.1, R25_e.2.2.2.2.2.2⟩
end Go.Proofs.YtbaojfchlhlaeaaGreat.Vc
/-! Plain laws of layer 27: a new stream takes a page, and is drained. -/
namespace Go.Proofs.YtbaojfchlhlaeaaGreat.Vc
open Go Go.Eng Go.RowKit
theorem aw_lnd {X : List (SlP Ce)} (hX : New0 X 5 5) {s : SD} (hs : s.X = X) {e t : Int} :
    lndP s ⟨1, 0, 1, IntKind.u32.wrap 0, e, t⟩ (4, 1) = chS { s with X := lndX s ⟨1, 0, 1, IntKind.u32.wrap 0, e, t⟩ (4, 1) } 0 (cB 1) := by
  have hw : IntKind.u32.wrap 0 = 0 := by decide
  have h1 : lndX s ⟨1, 0, 1, IntKind.u32.wrap 0, e, t⟩ (4, 1) = setX X 0 0 ⟨true, sptS s ⟨1, 0, 1, IntKind.u32.wrap 0, e, t⟩ (4, 1)⟩ := by
    show (stepP (sptS s ⟨1, 0, 1, IntKind.u32.wrap 0, e, t⟩ (4, 1)) ((IntKind.u32.wrap 0).toNat + 0) (s.X, [])).1 = _
    rw [hs, hw]
    unfold stepP
    have hc : (getX X 0).l.getD 0 Ce0 = Ce0 := by rw [hX.l]; rfl
    have hc2 : (getX X (sptS s ⟨1, 0, 1, 0, e, t⟩ (4, 1)).h.n).l.getD ((0 : Int).toNat + 0) Ce0 = Ce0 := hc
    dsimp only
    rw [hc2, if_neg (fun k => by cases k.1)]
    rfl
  have h2 : 0 < cntX (lndX s ⟨1, 0, 1, IntKind.u32.wrap 0, e, t⟩ (4, 1)) (4, 1) := by
    rw [h1]
    refine cntX_pos (ns := 0) (j := 0) (c := ⟨true, sptS s ⟨1, 0, 1, IntKind.u32.wrap 0, e, t⟩ (4, 1)⟩) hX.ok.set.four (by decide) ?_ rfl
    unfold setX
    have h3 := getX_put hX.ok.four (ns := 0) (by decide) (x := ⟨(getX X 0).a, (getX X 0).n, (getX X 0).c, (getX X 0).l.set 0 ⟨true, sptS s ⟨1, 0, 1, IntKind.u32.wrap 0, e, t⟩ (4, 1)⟩⟩) 0
    rw [if_pos rfl] at h3
    rw [h3, hX.l]
    rfl
  have h3 : gonP s.X (lndX s ⟨1, 0, 1, IntKind.u32.wrap 0, e, t⟩ (4, 1)) = [] := by
    unfold gonP
    rw [List.filter_eq_nil_iff]
    intro k _ hk
    exact hX.cnt k (by rw [← hs]; exact (of_decide_eq_true hk).1)
  unfold lndP
  rw [h3]
  show lnd1 s _ _ = _
  unfold lnd1
  rw [if_pos h2]
  rfl
def dqs : Nat → CD × List Blk → CD × List Blk
  | 0, x => x
  | i + 1, x => if dirB (gx (dqs i x).2 i) = true then ((dstP (dqs i x).1 (dqs i x).2 (i : Int)).1, (dstP (dqs i x).1 (dqs i x).2 (i : Int)).2.1) else dqs i x
def dqo (y : CD × List Blk) (i : Nat) : Prop := y.2.length = 7 ∧ (dirB (gx y.2 i) = true → (gx y.2 i).he = false ∧ powE (dstP y.1 y.2 (i : Int)).2.2 = 0 ∧ bads (dstP y.1 y.2 (i : Int)).2.1 = 0 ∧ (dstP y.1 y.2 (i : Int)).1.g.sp = 0)
instance (y : CD × List Blk) (i : Nat) : Decidable (dqo y i) := by unfold dqo; infer_instance
abbrev sCL (s : SD) (x : CD × List Blk) : SD := { s with C := x.1, L := x.2 }
theorem drn1_q {s : SD} {x : CD × List Blk} {i : Nat} (hro : s.ro = false) (hi : i < 7) (h : dqo (dqs i x) i) : drn1 (sCL s (dqs i x)) i = (sCL s (dqs (i + 1) x), 0) := by
  obtain ⟨h1, h2⟩ := h
  unfold drn1
  have e : dqs (i + 1) x = if dirB (gx (dqs i x).2 i) = true then ((dstP (dqs i x).1 (dqs i x).2 (i : Int)).1, (dstP (dqs i x).1 (dqs i x).2 (i : Int)).2.1) else dqs i x := rfl
  rw [e]
  clear e
  generalize dqs i x = y at h1 h2 ⊢
  show (if dirB (gx y.2 i) = true then _ else _) = _
  by_cases hd : dirB (gx y.2 i) = true
  · obtain ⟨k1, k2, k3, k4⟩ := h2 hd
    rw [if_pos hd, if_pos hd]
    unfold emdS
    have k1' : (gx (sCL s y).L ((i : Int)).toNat).he = false := k1
    rw [if_neg (by rw [k1']; exact Bool.false_ne_true)]
    have e1 : dstS (sCL s y) (i : Int) = (sCL s ((dstP y.1 y.2 (i : Int)).1, (dstP y.1 y.2 (i : Int)).2.1), (dstP y.1 y.2 (i : Int)).2.2) := by
      unfold dstS
      rw [if_pos ⟨by omega, by show (i : Int) < ((y.2.length : Nat) : Int); omega⟩]
      unfold overP
      show ((if (dstP y.1 y.2 (i : Int)).1.g.sp < bads (dstP y.1 y.2 (i : Int)).2.1 then _ else _ : SD × Int).1, _) = _
      rw [k3, k4, if_neg (by decide)]
    rw [e1]
    dsimp only
    rw [k2]
  · rw [if_neg hd, if_neg hd]
theorem each_q {s : SD} {x : CD × List Blk} (hro : s.ro = false) (h : ∀ i, i < 7 → dqo (dqs i x) i) : ∀ k : Nat, k ≤ 7 → eachF drn1 7 k (sCL s (dqs (7 - k) x)) = (sCL s (dqs 7 x), 0)
  | 0, _ => rfl
  | k + 1, hk => by
    unfold eachF
    have e := drn1_q (s := s) (x := x) hro (i := 7 - (k + 1)) (by omega) (h _ (by omega))
    rw [e, if_neg (fun k => k rfl)]
    dsimp only
    rw [show 7 - (k + 1) + 1 = 7 - k by omega]
    exact each_q hro h k (by omega)
def W27 : CD × Int := wrtT 7 R25.1.1 0 1 ⟨1, 0, 1, IntKind.u32.wrap 0, 1, u64w (0 + 1)⟩ (payM 11 64 3) (payM 11 32 (IntKind.u8.wrap (3 + 1)))
def D27 : CD × List Blk := (W27.1, chL 0 7 (cB 1) (chL 0 7 uB R25.1.2.1))
theorem aw_w27 : W27.2 = 0 := by decide +kernel
theorem D27_e : cln D27.2 = false ∧ (∀ i, i < 7 → dqo (dqs i D27) i) ∧ cln (dqs 7 D27).2 = true ∧ lks (dqs 7 D27).2 = false ∧ D27.2.length = 7 := by decide +kernel
abbrev x027 : St25 := ⟨0, 0, 1, false, 0⟩
theorem aw_do27 {X : List (SlP Ce)} (hX : New0 X 5 5) : (do27 gA25 (s00 gA25 [] X) x027 3).2 = 0 ∧ cln (do27 gA25 (s00 gA25 [] X) x027 3).1.L = false ∧ (drnP 4 (do27 gA25 (s00 gA25 [] X) x027 3).1).2 = 0 ∧ cln (drnP 4 (do27 gA25 (s00 gA25 [] X) x027 3).1).1.L = true := by
  have w1 := aw_w27
  have e0 : do27 gA25 (s00 gA25 [] X) x027 3 = putS (sN X (u64w (0 + 1))) ⟨1, 0, 1, IntKind.u32.wrap 0, 1, u64w (0 + 1)⟩ (payM 11 64 3) (payM 11 32 (IntKind.u8.wrap (3 + 1))) := by
    unfold do27 nxtS pl27 tg27 hd25
    rw [if_neg (by decide), if_neg (by decide), if_neg (by decide)]
    rfl
  have hl7 : R25.1.2.1.length = 7 := R25_e.2.2.2.2.2.2
  rw [e0, aw_put hX R25_A w1, aw_lnd hX rfl]
  clear e0
  obtain ⟨d1, d2, d3, d4, d5⟩ := D27_e
  have hW : wrtT 7 R25.1.1 0 1 ⟨1, 0, 1, IntKind.u32.wrap 0, 1, u64w (0 + 1)⟩ (payM 11 64 3) (payM 11 32 (IntKind.u8.wrap (3 + 1))) = W27 := rfl
  rw [hW]
  have hs : ∃ t : SD, t.ro = false ∧ chS { sR X (u64w (0 + 1)) R25 W27.1 (chL 0 7 uB R25.1.2.1) with X := lndX (sR X (u64w (0 + 1)) R25 W27.1 (chL 0 7 uB R25.1.2.1)) ⟨1, 0, 1, IntKind.u32.wrap 0, 1, u64w (0 + 1)⟩ (4, 1) } 0 (cB 1) = sCL t D27 := by
    refine ⟨{ sR X (u64w (0 + 1)) R25 W27.1 (chL 0 7 uB R25.1.2.1) with X := lndX (sR X (u64w (0 + 1)) R25 W27.1 (chL 0 7 uB R25.1.2.1)) ⟨1, 0, 1, IntKind.u32.wrap 0, 1, u64w (0 + 1)⟩ (4, 1) }, rfl, ?_⟩
    unfold chS D27
    have : (chL 0 7 uB R25.1.2.1).length = 7 := by rw [chL_len]; exact hl7
    show (_ : SD) = _
    dsimp only
    rw [this]
  obtain ⟨t, ht, et⟩ := hs
  rw [et]
  clear et hW w1
  generalize D27 = x at d1 d2 d3 d4 d5 ⊢
  refine ⟨rfl, d1, ?_⟩
  have hE := each_q ht d2 7 (Nat.le_refl 7)
  rw [Nat.sub_self] at hE
  have hE : eachF drn1 7 7 (sCL t x) = (sCL t (dqs 7 x), 0) := hE
  have h1 : drnP 4 (sCL t x) = (sCL t (dqs 7 x), 0) := by
    show (if cln x.2 = true then _ else if (eachF drn1 x.2.length x.2.length (sCL t x)).2 ≠ 0 then eachF drn1 x.2.length x.2.length (sCL t x) else drnP 3 (eachF drn1 x.2.length x.2.length (sCL t x)).1) = _
    rw [d1, if_neg Bool.false_ne_true, d5, hE, if_neg (fun k => k rfl)]
    dsimp only
    show (if cln (dqs 7 x).2 = true then (sCL t (dqs 7 x), drnE (sCL t (dqs 7 x))) else _) = _
    rw [if_pos d3]
    unfold drnE
    show (_, if cln (dqs 7 x).2 = true then (if lks (dqs 7 x).2 = true then (17 : Int) else 0) else 17) = _
    rw [d3, d4]
    rfl
  rw [h1]
  exact ⟨rfl, d3⟩
end Go.Proofs.YtbaojfchlhlaeaaGreat.Vc
/-! The plans of functions as plain statements, printed by wip/tools/vcgen.py; the kernel holds each to the code. -/
namespace Go.Proofs.YtbaojfchlhlaeaaGreat.Vc
open Go Go.Eng
def sanitise_Purge.A : Ann := .two .no (.two (.two (.draw (.take 0 (.take 1 (.take 2 (.take 3 (.take 5 (.eff 4 (.eff 6 (.take 7 (.take 8 (.done))))))))))) .no) (.two (.draw (.take 0 (.take 2 (.eff 1 (.eff 3 (.take 4 (.done))))))) (.two .no (.two (.draw (.take 0 (.take 2 (.take 3 (.eff 1 (.eff 4 (.done))))))) (.two .no (.two .no (.two (.two (.draw (.take 0 (.take 3 (.eff 1 (.eff 2 (.eff 4 (.done))))))) .no) .no)))))))
def sanitise_Purge.P (p0 : Addr) (p1 : Int) (w : World) (K : Int × Unit → World → Prop) : Prop :=
  NewV #[.pointer (some p0)] 32 w fun b1 w2 =>
  NewV #[.int .i64 p1] 3 w2 fun b3 w4 =>
  DrawV fun D5 =>
  (D5 b1 ∧ LoadS w4.drew ⟨b1, 0, none⟩ .ptr fun (x6 : Option Addr) =>
  cond x6.isNone
  (K ((2 : Int), ()) w4.drew)
  ((D5 b1 ∧ LoadS w4.drew ⟨b1, 0, none⟩ .ptr fun (x7 : Option Addr) =>
  (D5 b3 ∧ LoadS w4.drew ⟨b3, 0, none⟩ (.int .i64) fun (x8 : Int) =>
  CallV Tryz.prog 24 #[.pointer x7] w4.drew [.one .ptr] fun (r9 : (Option Addr) × Unit) w10 =>
  KeepOn D5 w4.drew w10 ∧
  CallV Tryz.prog 25 #[.pointer r9.1, .int .i64 x8] w10 [.one (.int .i64)] fun (r11 : Int × Unit) w12 =>
  KeepOn D5 w4.drew w12 ∧
  cond (r11.1 == 0)
  (K ((2 : Int), ()) w12)
  (DrawV fun D13 =>
  (D13 b1 ∧ LoadS w12.drew ⟨b1, 0, none⟩ .ptr fun (x14 : Option Addr) =>
  (D13 b3 ∧ LoadS w12.drew ⟨b3, 0, none⟩ (.int .i64) fun (x15 : Int) =>
  CallV Tryz.prog 24 #[.pointer x14] w12.drew [.one .ptr] fun (r16 : (Option Addr) × Unit) w17 =>
  KeepOn D13 w12.drew w17 ∧
  CallV Tryz.prog 25 #[.pointer r16.1, .int .i64 x15] w17 [.one (.int .i64)] fun (r18 : Int × Unit) w19 =>
  KeepOn D13 w12.drew w19 ∧
  LoadS w19 ⟨b1, 0, none⟩ .ptr fun (x20 : Option Addr) =>
  LoadS w19 ⟨b3, 0, none⟩ (.int .i64) fun (x21 : Int) =>
  CallV Tryz.prog 44 #[.pointer x20, .int .i64 x21] w19 [] fun (r22 : Unit) w23 =>
  DrawV fun D24 =>
  (D24 b1 ∧ LoadS w23.drew ⟨b1, 0, none⟩ .ptr fun (x25 : Option Addr) =>
  (D24 b3 ∧ LoadS w23.drew ⟨b3, 0, none⟩ (.int .i64) fun (x26 : Int) =>
  CallV Tryz.prog 24 #[.pointer x25] w23.drew [.one .ptr] fun (r27 : (Option Addr) × Unit) w28 =>
  KeepOn D24 w23.drew w28 ∧
  CallV Tryz.prog 81 #[.pointer r27.1, .int .i64 x26, .int .i64 r18.1] w28 [.one (.int .i64)] fun (r29 : Int × Unit) w30 =>
  KeepOn D24 w23.drew w30 ∧
  LoadS w30 ⟨b1, 0, none⟩ .ptr fun (x31 : Option Addr) =>
  CallV Tryz.prog 84 #[.pointer x31, .func (.func 89) #[] #[.pointer (some ⟨b3, 0, none⟩), .pointer (some ⟨b1, 0, none⟩)]] w30 [.one (.int .i64)] fun (r32 : Int × Unit) w33 =>
  cond (r32.1 != 0)
  (K (r32.1, ()) w33)
  (DrawV fun D34 =>
  (D34 b1 ∧ LoadS w33.drew ⟨b1, 0, none⟩ .ptr fun (x35 : Option Addr) =>
  (D34 b3 ∧ LoadS w33.drew ⟨b3, 0, none⟩ (.int .i64) fun (x36 : Int) =>
  CallV Tryz.prog 26 #[.pointer x35] w33.drew [.one .ptr] fun (r37 : (Option Addr) × Unit) w38 =>
  KeepOn D34 w33.drew w38 ∧
  CallV Tryz.prog 27 #[.pointer r37.1] w38 [.one .ptr] fun (r39 : (Option Addr) × Unit) w40 =>
  KeepOn D34 w33.drew w40 ∧
  CallV Tryz.prog 91 #[.pointer r39.1, .int .i64 x36] w40 [.one .bool] fun (r41 : Bool × Unit) w42 =>
  KeepOn D34 w33.drew w42 ∧
  cond r41.1
  (K ((17 : Int), ()) w42)
  (K ((0 : Int), ()) w42)))))))))))))
theorem sanitise_Purge.vc (p0 : Addr) (p1 : Int) (w : World) (K : Int × Unit → World → Prop) (h : sanitise_Purge.P p0 p1 w K) : CallV Tryz.prog 22 #[.pointer (some p0), .int .i64 p1] w [.one (.int .i64)] K := by
  refine vcFun.of (A := sanitise_Purge.A) (wr := false) okf_ok follows h Tryz.func22 ?_
  kernel_rfl
end Go.Proofs.YtbaojfchlhlaeaaGreat.Vc
/-! The plans of functions as plain statements, printed by wip/tools/vcgen.py; the kernel holds each to the code. -/
namespace Go.Proofs.YtbaojfchlhlaeaaGreat.Vc
open Go Go.Eng
def sanitise_Clean_nil.A : Ann := .two .no (.two .no (.two (.two .no (.one (.loop [2, 4, 10, 11, 12, 13, 14, 15, 16] [(10, .one (.int .i64))] .no))) .no))
def sanitise_Clean_nil.P  (w : World) (K : Bool × Unit → World → Prop) : Prop :=
  CallV Tryz.prog 26 #[.pointer none] w [.one .ptr] fun (r1 : (Option Addr) × Unit) w2 =>
  CallV Tryz.prog 27 #[.pointer r1.1] w2 [.one .ptr] fun (r3 : (Option Addr) × Unit) w4 =>
  CallV Tryz.prog 52 #[.pointer r3.1] w4 [.one (.int .i64)] fun (r5 : Int × Unit) w6 =>
  LoopV [.one (.int .i64)] ((0 : Int), ()) w6 fun (z7 : Int × Unit) w8 (K9 : Int × Unit → World → Prop) =>
  cond (decide (z7.1 < r5.1))
  (CallV Tryz.prog 86 #[.pointer r3.1, .int .i64 z7.1] w8 [.one .bool] fun (r10 : Bool × Unit) w11 =>
  cond r10.1
  (K (false, ()) w11)
  (Rng .i64 (z7.1 + 1) ∧
  K9 (z7.1 + 1, ()) w11))
  (K (false, ()) w8)
theorem sanitise_Clean_nil.vc  (w : World) (K : Bool × Unit → World → Prop) (h : sanitise_Clean_nil.P  w K) : CallV Tryz.prog 23 #[.pointer none] w [.one .bool] K := by
  refine vcFun.of (A := sanitise_Clean_nil.A) (wr := false) okf_ok follows h Tryz.func23 ?_
  kernel_rfl
def sanitise_Drain_nil.A : Ann := .two .no (.two .no (.two (.two .no (.one (.loop [2, 3, 6, 7, 8, 9, 10, 11, 12, 13, 14, 15, 16] [(6, .one (.int .i64))] .no))) .no))
def sanitise_Drain_nil.P  (w : World) (K : Int × Unit → World → Prop) : Prop :=
  NewV #[.pointer none] 32 w fun b1 w2 =>
  LoadS w2 ⟨b1, 0, none⟩ .ptr fun (x3 : Option Addr) =>
  cond x3.isNone
  (K ((2 : Int), ()) w2)
  (LoopV [.one (.int .i64)] ((0 : Int), ()) w2 fun (z4 : Int × Unit) w5 (K6 : Int × Unit → World → Prop) =>
  cond (decide (z4.1 < 4))
  (LoadS w5 ⟨b1, 0, none⟩ .ptr fun (x7 : Option Addr) =>
  CallV Tryz.prog 23 #[.pointer x7] w5 [.one .bool] fun (r8 : Bool × Unit) w9 =>
  cond r8.1
  (LoadS w9 ⟨b1, 0, none⟩ .ptr fun (x10 : Option Addr) =>
  CallV Tryz.prog 23 #[.pointer x10] w9 [.one .bool] fun (r11 : Bool × Unit) w12 =>
  cond (!r11.1)
  (K ((17 : Int), ()) w12)
  (LoadS w12 ⟨b1, 0, none⟩ .ptr fun (x13 : Option Addr) =>
  CallV Tryz.prog 88 #[.pointer x13] w12 [.one .bool] fun (r14 : Bool × Unit) w15 =>
  cond r14.1
  (K ((17 : Int), ()) w15)
  (K ((0 : Int), ()) w15)))
  (LoadS w9 ⟨b1, 0, none⟩ .ptr fun (x16 : Option Addr) =>
  CallV Tryz.prog 84 #[.pointer x16, .func (.func 85) #[] #[.pointer (some ⟨b1, 0, none⟩)]] w9 [.one (.int .i64)] fun (r17 : Int × Unit) w18 =>
  cond (r17.1 != 0)
  (K (r17.1, ()) w18)
  (Rng .i64 (z4.1 + 1) ∧
  K6 (z4.1 + 1, ()) w18)))
  (LoadS w5 ⟨b1, 0, none⟩ .ptr fun (x19 : Option Addr) =>
  CallV Tryz.prog 23 #[.pointer x19] w5 [.one .bool] fun (r20 : Bool × Unit) w21 =>
  cond (!r20.1)
  (K ((17 : Int), ()) w21)
  (LoadS w21 ⟨b1, 0, none⟩ .ptr fun (x22 : Option Addr) =>
  CallV Tryz.prog 88 #[.pointer x22] w21 [.one .bool] fun (r23 : Bool × Unit) w24 =>
  cond r23.1
  (K ((17 : Int), ()) w24)
  (K ((0 : Int), ()) w24))))
theorem sanitise_Drain_nil.vc  (w : World) (K : Int × Unit → World → Prop) (h : sanitise_Drain_nil.P  w K) : CallV Tryz.prog 21 #[.pointer none] w [.one (.int .i64)] K := by
  refine vcFun.of (A := sanitise_Drain_nil.A) (wr := false) okf_ok follows h Tryz.func21 ?_
  kernel_rfl
def sanitise_Purge_nil.A : Ann := .two .no (.two (.two (.draw (.take 0 (.take 1 (.take 2 (.take 3 (.take 5 (.eff 4 (.eff 6 (.take 7 (.take 8 (.done))))))))))) .no) (.two (.draw (.take 0 (.take 2 (.eff 1 (.eff 3 (.take 4 (.done))))))) (.two .no (.two (.draw (.take 0 (.take 2 (.take 3 (.eff 1 (.eff 4 (.done))))))) (.two .no (.two .no (.two (.two (.draw (.take 0 (.take 3 (.eff 1 (.eff 2 (.eff 4 (.done))))))) .no) .no)))))))
def sanitise_Purge_nil.P (p1 : Int) (w : World) (K : Int × Unit → World → Prop) : Prop :=
  NewV #[.pointer none] 32 w fun b1 w2 =>
  NewV #[.int .i64 p1] 3 w2 fun b3 w4 =>
  DrawV fun D5 =>
  (D5 b1 ∧ LoadS w4.drew ⟨b1, 0, none⟩ .ptr fun (x6 : Option Addr) =>
  cond x6.isNone
  (K ((2 : Int), ()) w4.drew)
  ((D5 b1 ∧ LoadS w4.drew ⟨b1, 0, none⟩ .ptr fun (x7 : Option Addr) =>
  (D5 b3 ∧ LoadS w4.drew ⟨b3, 0, none⟩ (.int .i64) fun (x8 : Int) =>
  CallV Tryz.prog 24 #[.pointer x7] w4.drew [.one .ptr] fun (r9 : (Option Addr) × Unit) w10 =>
  KeepOn D5 w4.drew w10 ∧
  CallV Tryz.prog 25 #[.pointer r9.1, .int .i64 x8] w10 [.one (.int .i64)] fun (r11 : Int × Unit) w12 =>
  KeepOn D5 w4.drew w12 ∧
  cond (r11.1 == 0)
  (K ((2 : Int), ()) w12)
  (DrawV fun D13 =>
  (D13 b1 ∧ LoadS w12.drew ⟨b1, 0, none⟩ .ptr fun (x14 : Option Addr) =>
  (D13 b3 ∧ LoadS w12.drew ⟨b3, 0, none⟩ (.int .i64) fun (x15 : Int) =>
  CallV Tryz.prog 24 #[.pointer x14] w12.drew [.one .ptr] fun (r16 : (Option Addr) × Unit) w17 =>
  KeepOn D13 w12.drew w17 ∧
  CallV Tryz.prog 25 #[.pointer r16.1, .int .i64 x15] w17 [.one (.int .i64)] fun (r18 : Int × Unit) w19 =>
  KeepOn D13 w12.drew w19 ∧
  LoadS w19 ⟨b1, 0, none⟩ .ptr fun (x20 : Option Addr) =>
  LoadS w19 ⟨b3, 0, none⟩ (.int .i64) fun (x21 : Int) =>
  CallV Tryz.prog 44 #[.pointer x20, .int .i64 x21] w19 [] fun (r22 : Unit) w23 =>
  DrawV fun D24 =>
  (D24 b1 ∧ LoadS w23.drew ⟨b1, 0, none⟩ .ptr fun (x25 : Option Addr) =>
  (D24 b3 ∧ LoadS w23.drew ⟨b3, 0, none⟩ (.int .i64) fun (x26 : Int) =>
  CallV Tryz.prog 24 #[.pointer x25] w23.drew [.one .ptr] fun (r27 : (Option Addr) × Unit) w28 =>
  KeepOn D24 w23.drew w28 ∧
  CallV Tryz.prog 81 #[.pointer r27.1, .int .i64 x26, .int .i64 r18.1] w28 [.one (.int .i64)] fun (r29 : Int × Unit) w30 =>
  KeepOn D24 w23.drew w30 ∧
  LoadS w30 ⟨b1, 0, none⟩ .ptr fun (x31 : Option Addr) =>
  CallV Tryz.prog 84 #[.pointer x31, .func (.func 89) #[] #[.pointer (some ⟨b3, 0, none⟩), .pointer (some ⟨b1, 0, none⟩)]] w30 [.one (.int .i64)] fun (r32 : Int × Unit) w33 =>
  cond (r32.1 != 0)
  (K (r32.1, ()) w33)
  (DrawV fun D34 =>
  (D34 b1 ∧ LoadS w33.drew ⟨b1, 0, none⟩ .ptr fun (x35 : Option Addr) =>
  (D34 b3 ∧ LoadS w33.drew ⟨b3, 0, none⟩ (.int .i64) fun (x36 : Int) =>
  CallV Tryz.prog 26 #[.pointer x35] w33.drew [.one .ptr] fun (r37 : (Option Addr) × Unit) w38 =>
  KeepOn D34 w33.drew w38 ∧
  CallV Tryz.prog 27 #[.pointer r37.1] w38 [.one .ptr] fun (r39 : (Option Addr) × Unit) w40 =>
  KeepOn D34 w33.drew w40 ∧
  CallV Tryz.prog 91 #[.pointer r39.1, .int .i64 x36] w40 [.one .bool] fun (r41 : Bool × Unit) w42 =>
  KeepOn D34 w33.drew w42 ∧
  cond r41.1
  (K ((17 : Int), ()) w42)
  (K ((0 : Int), ()) w42)))))))))))))
theorem sanitise_Purge_nil.vc (p1 : Int) (w : World) (K : Int × Unit → World → Prop) (h : sanitise_Purge_nil.P p1 w K) : CallV Tryz.prog 22 #[.pointer none, .int .i64 p1] w [.one (.int .i64)] K := by
  refine vcFun.of (A := sanitise_Purge_nil.A) (wr := false) okf_ok follows h Tryz.func22 ?_
  kernel_rfl
def sanitise_Forget_nil.A : Ann := .no
def sanitise_Forget_nil.P (p1 : Int) (w : World) (K : Int × Unit → World → Prop) : Prop :=
  K ((2 : Int), ()) w
theorem sanitise_Forget_nil.vc (p1 : Int) (w : World) (K : Int × Unit → World → Prop) (h : sanitise_Forget_nil.P p1 w K) : CallV Tryz.prog 20 #[.pointer none, .int .i64 p1] w [.one (.int .i64)] K := by
  refine vcFun.of (A := sanitise_Forget_nil.A) (wr := false) okf_ok follows h Tryz.func20 ?_
  kernel_rfl
end Go.Proofs.YtbaojfchlhlaeaaGreat.Vc
/-! The plans of functions as plain statements, printed by wip/tools/vcgen.py; the kernel holds each to the code. -/
namespace Go.Proofs.YtbaojfchlhlaeaaGreat.Vc
open Go Go.Eng
def stream_Stream_Pool_nil.A : Ann := .no
def stream_Stream_Pool_nil.P  (w : World) (K : (Option Addr) × Unit → World → Prop) : Prop :=
  K (none, ()) w
theorem stream_Stream_Pool_nil.vc  (w : World) (K : (Option Addr) × Unit → World → Prop) (h : stream_Stream_Pool_nil.P  w K) : CallV Tryz.prog 26 #[.pointer none] w [.one .ptr] K := by
  refine vcFun.of (A := stream_Stream_Pool_nil.A) (wr := false) okf_ok follows h Tryz.func26 ?_
  kernel_rfl
end Go.Proofs.YtbaojfchlhlaeaaGreat.Vc
/-! The plans of functions as plain statements, printed by wip/tools/vcgen.py; the kernel holds each to the code. -/
namespace Go.Proofs.YtbaojfchlhlaeaaGreat.Vc
open Go Go.Eng
def ledger_Ledger_Len_nil.A : Ann := .no
def ledger_Ledger_Len_nil.P  (w : World) (K : Int × Unit → World → Prop) : Prop :=
  K ((0 : Int), ()) w
theorem ledger_Ledger_Len_nil.vc  (w : World) (K : Int × Unit → World → Prop) (h : ledger_Ledger_Len_nil.P  w K) : CallV Tryz.prog 52 #[.pointer none] w [.one (.int .i64)] K := by
  refine vcFun.of (A := ledger_Ledger_Len_nil.A) (wr := false) okf_ok follows h Tryz.func52 ?_
  kernel_rfl
end Go.Proofs.YtbaojfchlhlaeaaGreat.Vc
/-! The plans of functions as plain statements, printed by wip/tools/vcgen.py; the kernel holds each to the code. -/
namespace Go.Proofs.YtbaojfchlhlaeaaGreat.Vc
open Go Go.Eng
def pool_Pool_Ledger_nil.A : Ann := .no
def pool_Pool_Ledger_nil.P  (w : World) (K : (Option Addr) × Unit → World → Prop) : Prop :=
  K (none, ()) w
theorem pool_Pool_Ledger_nil.vc  (w : World) (K : (Option Addr) × Unit → World → Prop) (h : pool_Pool_Ledger_nil.P  w K) : CallV Tryz.prog 27 #[.pointer none] w [.one .ptr] K := by
  refine vcFun.of (A := pool_Pool_Ledger_nil.A) (wr := false) okf_ok follows h Tryz.func27 ?_
  kernel_rfl
end Go.Proofs.YtbaojfchlhlaeaaGreat.Vc
/-! The plans of functions as plain statements, printed by wip/tools/vcgen.py; the kernel holds each to the code. -/
namespace Go.Proofs.YtbaojfchlhlaeaaGreat.Vc
open Go Go.Eng
def law27_SanitiseForgets.A : Ann := .two .no (.two .no (.two .no (.two (.two .no (.one (.loop [7, 23, 24, 25, 26, 27, 28, 29, 30, 31, 32, 33, 34, 35, 36, 37, 38, 39, 40, 41, 42, 43, 44] [(7, .one (.int .i64))] (.two .no (.two (.one (.draw (.take 0 (.take 1 (.take 2 (.take 3 (.take 4 (.take 5 (.take 6 (.take 7 (.take 8 (.take 9 (.take 10 (.take 11 (.take 12 (.take 13 (.eff 14 (.done)))))))))))))))))) .no))))) .no)))
def law27_SanitiseForgets.P (p0_0 p0_1 p0_2 p0_3 p0_4 p0_5 : Int) (a0_6 : Option Addr) (n0_6 c0_6 : Nat) (p0_7 p0_8 : Int) (a0_9 : Option Addr) (n0_9 c0_9 : Nat) (p1 : Int) (w : World) (K : Bool × Unit → World → Prop) : Prop :=
  NewV #[.int .i64 p0_0, .int .i64 p0_1, .int .i64 p0_2, .int .i64 p0_3, .int .i64 p0_4, .int .i64 p0_5, .slice a0_6 n0_6 c0_6, .int .i64 p0_7, .int .i64 p0_8, .slice a0_9 n0_9 c0_9] 28 w fun b1 w2 =>
  LoadA w2 ⟨b1, 0, none⟩ [.int .i64, .int .i64, .int .i64, .int .i64, .int .i64, .int .i64, .sl, .int .i64, .int .i64, .sl] fun (x3 : Int × Int × Int × Int × Int × Int × SlV × Int × Int × SlV × Unit) =>
  CallV Tryz.prog 15 #[.agg #[.int .i64 x3.1, .int .i64 x3.2.1, .int .i64 x3.2.2.1, .int .i64 x3.2.2.2.1, .int .i64 x3.2.2.2.2.1, .int .i64 x3.2.2.2.2.2.1, .slice x3.2.2.2.2.2.2.1.a x3.2.2.2.2.2.2.1.n x3.2.2.2.2.2.2.1.c, .int .i64 x3.2.2.2.2.2.2.2.1, .int .i64 x3.2.2.2.2.2.2.2.2.1, .slice x3.2.2.2.2.2.2.2.2.2.1.a x3.2.2.2.2.2.2.2.2.2.1.n x3.2.2.2.2.2.2.2.2.2.1.c]] w2 [.one .bool] fun (r4 : Bool × Unit) w5 =>
  cond (!r4.1)
  (CallV Tryz.prog 17 #[] w5 [.one .bool] fun (r6 : Bool × Unit) w7 =>
  K (r6.1, ()) w7)
  (LoadS w5 ⟨b1, 6, none⟩ .sl fun (x8 : SlV) =>
  CallV Tryz.prog 16 #[.slice x8.a x8.n x8.c] w5 [.one .bool] fun (r9 : Bool × Unit) w10 =>
  cond r9.1
  (CallV Tryz.prog 17 #[] w10 [.one .bool] fun (r11 : Bool × Unit) w12 =>
  K (r11.1, ()) w12)
  (LoadA w10 ⟨b1, 0, none⟩ [.int .i64, .int .i64, .int .i64, .int .i64, .int .i64, .int .i64, .sl, .int .i64, .int .i64, .sl] fun (x13 : Int × Int × Int × Int × Int × Int × SlV × Int × Int × SlV × Unit) =>
  CallV Tryz.prog 18 #[.agg #[.int .i64 x13.1, .int .i64 x13.2.1, .int .i64 x13.2.2.1, .int .i64 x13.2.2.2.1, .int .i64 x13.2.2.2.2.1, .int .i64 x13.2.2.2.2.2.1, .slice x13.2.2.2.2.2.2.1.a x13.2.2.2.2.2.2.1.n x13.2.2.2.2.2.2.1.c, .int .i64 x13.2.2.2.2.2.2.2.1, .int .i64 x13.2.2.2.2.2.2.2.2.1, .slice x13.2.2.2.2.2.2.2.2.2.1.a x13.2.2.2.2.2.2.2.2.2.1.n x13.2.2.2.2.2.2.2.2.2.1.c]] w10 [.one .ptr, .one .ptr] fun (r14 : (Option Addr) × (Option Addr) × Unit) w15 =>
  LoopV [.one (.int .i64)] ((0 : Int), ()) w15 fun (z16 : Int × Unit) w17 (K18 : Int × Unit → World → Prop) =>
  LoadS w17 ⟨b1, 9, none⟩ .sl fun (x19 : SlV) =>
  cond (decide (z16.1 < ((x19.n : Nat) : Int)))
  (DrawV fun D20 =>
  (D20 b1 ∧ LoadA w17.drew ⟨b1, 0, none⟩ [.int .i64, .int .i64, .int .i64, .int .i64, .int .i64, .int .i64] fun (x21 : Int × Int × Int × Int × Int × Int × Unit) =>
  (D20 b1 ∧ LoadS w17.drew ⟨b1, 9, none⟩ .sl fun (x22 : SlV) =>
  (0 ≤ z16.1 ∧ z16.1 < ((x22.n : Nat) : Int)) ∧ ∃ q23 : Addr, x22.a = some q23 ∧
  (D20 (q23.add (z16.1.toNat * 5)).block ∧ LoadA w17.drew (q23.add (z16.1.toNat * 5)) [.int .i64, .int .i64, .int .i64, .bool, .int .u8] fun (x24 : Int × Int × Int × Bool × Int × Unit) =>
  (D20 b1 ∧ LoadS w17.drew ⟨b1, 9, none⟩ .sl fun (x25 : SlV) =>
  (0 ≤ z16.1 ∧ z16.1 < ((x25.n : Nat) : Int)) ∧ ∃ q26 : Addr, x25.a = some q26 ∧
  (D20 ((q26.add (z16.1.toNat * 5)).add 4).block ∧ LoadS w17.drew ((q26.add (z16.1.toNat * 5)).add 4) (.int .u8) fun (x27 : Int) =>
  CallV Tryz.prog 19 #[.pointer r14.1, .agg #[.int .i64 x21.1, .int .i64 x21.2.1, .int .i64 x21.2.2.1, .int .i64 x21.2.2.2.1, .int .i64 x21.2.2.2.2.1, .int .i64 x21.2.2.2.2.2.1], .agg #[.int .i64 x24.1, .int .i64 x24.2.1, .int .i64 x24.2.2.1, .bool x24.2.2.2.1, .int .u8 x24.2.2.2.2.1], .int .u8 x27] w17.drew [.one (.int .i64)] fun (r28 : Int × Unit) w29 =>
  KeepOn D20 w17.drew w29 ∧
  Rng .i64 (z16.1 + 1) ∧
  K18 (z16.1 + 1, ()) w29))))))
  (CallV Tryz.prog 20 #[.pointer r14.1, .int .i64 p1] w17 [.one (.int .i64)] fun (r30 : Int × Unit) w31 =>
  CallV Tryz.prog 21 #[.pointer none] w31 [.one (.int .i64)] fun (r32 : Int × Unit) w33 =>
  cond (r32.1 != 2)
  (K (false, ()) w33)
  (CallV Tryz.prog 22 #[.pointer none, .int .i64 p1] w33 [.one (.int .i64)] fun (r34 : Int × Unit) w35 =>
  cond (r34.1 != 2)
  (K (false, ()) w35)
  (CallV Tryz.prog 20 #[.pointer none, .int .i64 p1] w35 [.one (.int .i64)] fun (r36 : Int × Unit) w37 =>
  cond (r36.1 != 2)
  (K (false, ()) w37)
  (CallV Tryz.prog 23 #[.pointer none] w37 [.one .bool] fun (r38 : Bool × Unit) w39 =>
  cond r38.1
  (K (false, ()) w39)
  (cond (p1 != 0)
  (cond (p1 != 1)
  (cond (r30.1 == 2)
  (CallV Tryz.prog 17 #[] w39 [.one .bool] fun (r40 : Bool × Unit) w41 =>
  K (r40.1, ()) w41)
  (K (false, ()) w39))
  (cond (r30.1 == 0)
  (CallV Tryz.prog 24 #[.pointer r14.1] w39 [.one .ptr] fun (r42 : (Option Addr) × Unit) w43 =>
  CallV Tryz.prog 25 #[.pointer r42.1, .int .i64 p1] w43 [.one (.int .i64)] fun (r44 : Int × Unit) w45 =>
  cond (r44.1 == 0)
  (CallV Tryz.prog 26 #[.pointer r14.1] w45 [.one .ptr] fun (r46 : (Option Addr) × Unit) w47 =>
  CallV Tryz.prog 27 #[.pointer r46.1] w47 [.one .ptr] fun (r48 : (Option Addr) × Unit) w49 =>
  CallV Tryz.prog 28 #[.pointer r48.1, .int .i64 p1] w49 [.one (.int .i64)] fun (r50 : Int × Unit) w51 =>
  cond (r50.1 == 0)
  (CallV Tryz.prog 20 #[.pointer r14.1, .int .i64 p1] w51 [.one (.int .i64)] fun (r52 : Int × Unit) w53 =>
  cond (r52.1 == 2)
  (CallV Tryz.prog 22 #[.pointer r14.1, .int .i64 p1] w53 [.one (.int .i64)] fun (r54 : Int × Unit) w55 =>
  cond (r54.1 == 2)
  (CallV Tryz.prog 17 #[] w55 [.one .bool] fun (r56 : Bool × Unit) w57 =>
  K (r56.1, ()) w57)
  (K (false, ()) w55))
  (K (false, ()) w53))
  (K (false, ()) w51))
  (K (false, ()) w45))
  (K (false, ()) w39)))
  (cond (r30.1 == 0)
  (CallV Tryz.prog 24 #[.pointer r14.1] w39 [.one .ptr] fun (r58 : (Option Addr) × Unit) w59 =>
  CallV Tryz.prog 25 #[.pointer r58.1, .int .i64 p1] w59 [.one (.int .i64)] fun (r60 : Int × Unit) w61 =>
  cond (r60.1 == 0)
  (CallV Tryz.prog 26 #[.pointer r14.1] w61 [.one .ptr] fun (r62 : (Option Addr) × Unit) w63 =>
  CallV Tryz.prog 27 #[.pointer r62.1] w63 [.one .ptr] fun (r64 : (Option Addr) × Unit) w65 =>
  CallV Tryz.prog 28 #[.pointer r64.1, .int .i64 p1] w65 [.one (.int .i64)] fun (r66 : Int × Unit) w67 =>
  cond (r66.1 == 0)
  (CallV Tryz.prog 20 #[.pointer r14.1, .int .i64 p1] w67 [.one (.int .i64)] fun (r68 : Int × Unit) w69 =>
  cond (r68.1 == 2)
  (CallV Tryz.prog 22 #[.pointer r14.1, .int .i64 p1] w69 [.one (.int .i64)] fun (r70 : Int × Unit) w71 =>
  cond (r70.1 == 2)
  (CallV Tryz.prog 17 #[] w71 [.one .bool] fun (r72 : Bool × Unit) w73 =>
  K (r72.1, ()) w73)
  (K (false, ()) w71))
  (K (false, ()) w69))
  (K (false, ()) w67))
  (K (false, ()) w61))
  (K (false, ()) w39)))))))))
theorem law27_SanitiseForgets.vc (p0_0 p0_1 p0_2 p0_3 p0_4 p0_5 : Int) (a0_6 : Option Addr) (n0_6 c0_6 : Nat) (p0_7 p0_8 : Int) (a0_9 : Option Addr) (n0_9 c0_9 : Nat) (p1 : Int) (w : World) (K : Bool × Unit → World → Prop) (h : law27_SanitiseForgets.P p0_0 p0_1 p0_2 p0_3 p0_4 p0_5 a0_6 n0_6 c0_6 p0_7 p0_8 a0_9 n0_9 c0_9 p1 w K) : CallV Tryz.prog 3 #[.agg #[.int .i64 p0_0, .int .i64 p0_1, .int .i64 p0_2, .int .i64 p0_3, .int .i64 p0_4, .int .i64 p0_5, .slice a0_6 n0_6 c0_6, .int .i64 p0_7, .int .i64 p0_8, .slice a0_9 n0_9 c0_9], .int .i64 p1] w [.one .bool] K := by
  refine vcFun.of (A := law27_SanitiseForgets.A) (wr := false) okf_ok follows h Tryz.func3 ?_
  kernel_rfl
end Go.Proofs.YtbaojfchlhlaeaaGreat.Vc
/-! The law SanitiseForgets of layer 27: each call gives true, and what it read stays. -/
namespace Go.Proofs.YtbaojfchlhlaeaaGreat.Vc
open Go Go.Eng Go.RowKit
abbrev fA25 : SlP TF.T := ⟨none, 0, 0, []⟩
theorem LF_nil25 {w : World} {G : Nat → Prop} : LF.rd w G fA25 := ⟨rfl, Nat.le_refl _, by show 0 ≤ maxLen; exact Nat.zero_le _, .inl ⟨rfl, rfl⟩, fun y hy => (List.not_mem_nil hy).elim⟩
theorem awake27_c {w : World} : CallV Tryz.prog 17 #[] w [.one .bool] fun r w' => r.1 = true ∧ Ext w w' := by
  apply law27_awake.vc
  unfold law27_awake.P
  have S0 := Sep.start NoB w
  have hR : Right gA25 := by decide
  have hFR : FRight (fds fA25) := ⟨fun f hf => (List.not_mem_nil hf).elim, by decide⟩
  refine S0.newB fun b1 w1 S f1 _ => S.st0 (by rfl) fun w2 S f2 => S.la0 rfl ?_
  refine (made27_c (g := gA25) (f := fA25) (z0 := 5) (z1 := 5) (st := ⟨none, 0, 0⟩) LF_nil25 hR hFR (by decide) (by decide) (by decide)).mono ?_
  rintro ⟨sv, cv, ⟨⟩⟩ w3 ⟨sp, pp, pm, p, q, X, h1, h2, hX, S3⟩
  dsimp only at h1 h2 ⊢
  subst h1; subst h2
  have hX : New0 X 5 5 := hX
  have S := S.frame0 S3
  clear S3
  have S : Sep NoB w w3 (BoxA b1 23 gA25.vs :: stS sp pp pm p q gA25 (s00 gA25 [] X) []) := S.fro [5] rfl
  have hI : SI gA25 7 (s00 gA25 [] X) := s00_I hR (by decide) (fun f hf => (List.not_mem_nil hf).elim) hX
  refine S.la0 rfl ?_
  refine (put27_c (x := x027) (sd := 3) hI (by show 0 + 55051264 ≤ 1000000000000; decide) (S.fro [1, 1, 1, 1, 1] rfl)).mono ?_
  rintro ⟨(r : Int), ⟨⟩⟩ w4 ⟨h4, S⟩
  dsimp only at h4 S ⊢
  subst h4
  obtain ⟨a1, a2, a3, a4⟩ := aw_do27 hX
  have hI2 := hI.do27 x027 3 (by show 0 + 55051264 ≤ 1000000000000; decide)
  have o2 := hI2.o2
  have o3 : (nxtS (s00 gA25 [] X) (hd25 x027)).1.C.ops = 0 := rfl
  generalize do27 gA25 (s00 gA25 [] X) x027 3 = D at S a1 a2 a3 a4 hI2 o2 ⊢
  rw [a1]
  refine cond_t rfl ?_
  refine (Clean27_c hI2.i S).mono ?_
  rintro ⟨(r : Bool), ⟨⟩⟩ w5 ⟨h5, x5⟩
  dsimp only at h5 ⊢
  rw [a2] at h5
  subst h5
  have S := S.stepE x5
  refine cond_t rfl ?_
  have h4 := SI.drnP 4 hI2.i (by show D.1.C.ops + 51610080 ≤ _; omega)
  refine (Drain27_c hI2.i (by omega) S).mono ?_
  rintro ⟨(r : Int), ⟨⟩⟩ w6 ⟨h6, S⟩
  dsimp only at h6 S ⊢
  rw [a3] at h6
  subst h6
  refine cond_t rfl ?_
  refine (Clean27_c h4.i S).mono ?_
  rintro ⟨(r : Bool), ⟨⟩⟩ w7 ⟨h7, x7⟩
  dsimp only at h7 ⊢
  exact ⟨h7.trans a4, (S.stepE x7).ext⟩
section
variable {w : World} {b : Int}
theorem drnNil27_c : CallV Tryz.prog 21 #[.pointer none] w [.one (.int .i64)] fun r w' => r.1 = (2 : Int) ∧ Ext w w' := by
  apply sanitise_Drain_nil.vc
  unfold sanitise_Drain_nil.P
  have S := Sep.start NoB w
  exact S.newB fun b1 w1 S f1 _ => S.ld0 (j := 0) rfl rfl (cond_t rfl ⟨rfl, S.ext⟩)
theorem prgNil27_c : CallV Tryz.prog 22 #[.pointer none, .int .i64 b] w [.one (.int .i64)] fun r w' => r.1 = (2 : Int) ∧ Ext w w' := by
  apply sanitise_Purge_nil.vc
  unfold sanitise_Purge_nil.P
  have S := Sep.start NoB w
  refine S.newB fun b1 w1 S f1 _ => S.newB fun b3 w2 S f2 _ => S.reg fun D hD hkeep S T => ?_
  exact ⟨hD _ S.bl1, S.ld1 (j := 0) rfl rfl (cond_t rfl ⟨rfl, S.ext⟩)⟩
theorem fgtNil27_c : CallV Tryz.prog 20 #[.pointer none, .int .i64 b] w [.one (.int .i64)] fun r w' => r.1 = (2 : Int) ∧ w' = w := by
  apply sanitise_Forget_nil.vc
  unfold sanitise_Forget_nil.P
  exact ⟨rfl, rfl⟩
theorem poolNil25_c : CallV Tryz.prog 26 #[.pointer none] w [.one .ptr] fun r w' => r.1 = none ∧ w' = w := by
  apply stream_Stream_Pool_nil.vc
  unfold stream_Stream_Pool_nil.P
  exact ⟨rfl, rfl⟩
theorem ledNil24_c : CallV Tryz.prog 27 #[.pointer none] w [.one .ptr] fun r w' => r.1 = none ∧ w' = w := by
  apply pool_Pool_Ledger_nil.vc
  unfold pool_Pool_Ledger_nil.P
  exact ⟨rfl, rfl⟩
theorem lenNil21_c : CallV Tryz.prog 52 #[.pointer none] w [.one (.int .i64)] fun r w' => r.1 = (0 : Int) ∧ w' = w := by
  apply ledger_Ledger_Len_nil.vc
  unfold ledger_Ledger_Len_nil.P
  exact ⟨rfl, rfl⟩
theorem clnNil27_c : CallV Tryz.prog 23 #[.pointer none] w [.one .bool] fun r w' => r.1 = false ∧ w' = w := by
  apply sanitise_Clean_nil.vc
  unfold sanitise_Clean_nil.P
  refine poolNil25_c.mono ?_
  rintro ⟨r, ⟨⟩⟩ w1 ⟨h1, rfl⟩
  dsimp only at h1 ⊢
  subst h1
  refine ledNil24_c.mono ?_
  rintro ⟨r, ⟨⟩⟩ w2 ⟨h2, rfl⟩
  dsimp only at h2 ⊢
  subst h2
  refine lenNil21_c.mono ?_
  rintro ⟨(r : Int), ⟨⟩⟩ w3 ⟨h3, rfl⟩
  dsimp only at h3 ⊢
  subst h3
  refine Loop1 (fun (v : Int × Unit) w' => v.1 = 0 ∧ w' = w3) (fun _ _ => 0) ⟨rfl, rfl⟩ ?_
  rintro ⟨(v : Int), ⟨⟩⟩ w4 ⟨hv, rfl⟩
  dsimp only at hv
  subst hv
  exact cond_f rfl ⟨rfl, rfl⟩
end
theorem Purge0_c {E : Nat → Prop} {w0 w : World} {Rs : List Asr} {sp pp pm p q n : Nat} {g : Geo} {s : SD} {ns : Int} (h : SI g n s) (hz : (getX s.X ns).n = 0) (S : Sep E w0 w (stS sp pp pm p q g s Rs)) :
    CallV Tryz.prog 22 #[.pointer (some ⟨sp, 0, none⟩), .int .i64 ns] w [.one (.int .i64)] fun r w' => r.1 = (2 : Int) ∧ Ext w w' := by
  apply sanitise_Purge.vc
  unfold sanitise_Purge.P
  have T := Sep.start NoB w
  refine T.newB fun b1 w1 T f1 _ => T.newB fun b3 w2 T f2 _ => ?_
  have S := S.stepE T.ext
  refine T.reg fun D hD hkeep T U => ?_
  have S := S.drew
  refine ⟨hD _ T.bl1, T.ld1 (j := 0) rfl rfl (cond_f rfl ?_)⟩
  refine ⟨hD _ T.bl1, T.ld1 (j := 0) rfl rfl ⟨hD _ T.bl0, T.ld0 (j := 0) rfl rfl ?_⟩⟩
  refine (Map25_c S).mono ?_
  rintro ⟨r, ⟨⟩⟩ w3 ⟨h3, rfl⟩
  dsimp only at h3 ⊢
  subst h3
  refine ⟨hkeep _ (Fr.refl _ _), (Size_m (ns := ns) h.xo.four (S.fro [1] rfl)).mono ?_⟩
  rintro ⟨(r : Int), ⟨⟩⟩ w4 ⟨h4, rfl⟩
  dsimp only at h4 ⊢
  rw [hz] at h4
  subst h4
  exact ⟨hkeep _ (Fr.refl _ _), cond_t rfl ⟨rfl, T.ext⟩⟩
def opC27 (i : Nat) : Nat := 55051264 * i
theorem opC27s (i : Nat) : opC27 (i + 1) = opC27 i + 55051264 := Nat.mul_succ _ _
theorem opC27_le {i : Nat} (h : i ≤ 120) : opC27 i ≤ 6606151680 := Nat.mul_le_mul (Nat.le_refl 55051264) h
theorem SanitiseForgets_law {w : World} {g : Geo} {f : SlP TF.T} {st : SlP TSt25.T} {z0 z1 ns : Int} (hf : LF.rd w All f) (hs : LSt25.rd w All st) :
    CallV Tryz.prog 3 #[.agg (casV25 g f z0 z1 ⟨st.a, st.n, st.c⟩).toArray, .int .i64 ns] w [.one .bool] fun r w' => r.1 = true ∧ Ext w w' := by
  apply law27_SanitiseForgets.vc
  unfold law27_SanitiseForgets.P
  have S := Sep.start NoB w
  refine S.newB (vs := casV25 g f z0 z1 ⟨st.a, st.n, st.c⟩) fun b1 w1 S f1 _ => S.la0 rfl ?_
  refine (light27_c (g := g) (f := f) (z0 := z0) (z1 := z1) (st := st) (Ty.rd_ext S.ext _ hf) (Ty.rd_ext S.ext _ hs)).mono ?_
  rintro ⟨(r : Bool), ⟨⟩⟩ w2 ⟨h2, x2⟩
  dsimp only at h2 ⊢
  have S := S.stepE x2
  refine cond_of (fun hr => ?_) (fun hr => ?_)
  · exact awake27_c.mono fun r w5 ⟨h5, x5⟩ => ⟨h5, S.ext.trans x5⟩
  obtain hL := h2 (by cases r; cases hr; rfl)
  refine S.ld0 (j := 6) rfl rfl ?_
  refine (crashes27_c (f := f) (Ty.rd_ext S.ext _ hf)).mono ?_
  rintro ⟨(r : Bool), ⟨⟩⟩ w3 ⟨-, rfl⟩
  refine cond_of (fun hr => ?_) (fun hr => ?_)
  · exact awake27_c.mono fun r w5 ⟨h5, x5⟩ => ⟨h5, S.ext.trans x5⟩
  have hz := (fitE_zero.1 hL.z).2.1
  have hz0 := hz z0 List.mem_cons_self
  have hz1 := hz z1 (List.mem_cons_of_mem _ List.mem_cons_self)
  have hg : LG g := ⟨hL.b, by have := hL.p; omega, hL.s⟩
  refine S.la0 rfl ?_
  refine (made27_c (g := g) (f := f) (z0 := z0) (z1 := z1) (st := ⟨st.a, st.n, st.c⟩) (Ty.rd_ext S.ext _ hf) hL.R hL.F hg hz0 hz1).mono ?_
  rintro ⟨sv, cv, ⟨⟩⟩ w4 ⟨sp, pp, pm, p, q, X, h1, h2, hX, S4⟩
  dsimp only at h1 h2 ⊢
  subst h1; subst h2
  have S : Sep NoB w w4 (stS sp pp pm p q g (s00 g (fds f) X) [BoxA b1 28 (casV25 g f z0 z1 ⟨st.a, st.n, st.c⟩)]) := S.frame0 S4
  clear S4
  have hI : SI g (nG g) (s00 g (fds f) X) := s00_I hL.R hg (fun F hF => ⟨fds_byt hf F hF, hL.F.fit F hF⟩) hX
  have hl : st.l.length = st.n := hs.1
  have hn := hL.n
  have hst := hL.st
  refine Loop1 (fun (v : Int × Unit) w' => ∃ (i : Nat) (t : SD), v.1 = (i : Int) ∧ i ≤ st.n ∧ SI g (nG g) t ∧ t.C.ops ≤ opC27 i ∧ (∀ m, (getX t.X m).n = (getX X m).n) ∧ Sep NoB w w' (stS sp pp pm p q g t [BoxA b1 28 (casV25 g f z0 z1 ⟨st.a, st.n, st.c⟩)])) (fun (v : Int × Unit) _ => ((st.n : Int) - v.1).toNat)
    ⟨0, s00 g (fds f) X, rfl, Nat.zero_le _, hI, Nat.zero_le _, fun _ => rfl, S⟩ ?_
  clear S hI
  rintro ⟨(v : Int), ⟨⟩⟩ w5 ⟨i, t, hv, hi, ht, hop, hsz, S⟩
  dsimp only at hv
  subst hv
  refine S.ld5 (j := 9) rfl rfl (cond_d (fun hlt => ?_) (fun hge => ?_))
  · have hlt : (i : Int) < ((st.n : Nat) : Int) := hlt
    have hos := opC27s i
    have hol := opC27_le (i := i) (by omega)
    have S : Sep NoB w w5 ([boxSt sp pp pm g t, mapE pm t.X, polE pp p q g t.O, ledE q t.L, chipE p t.C] ++ [BoxA b1 28 (casV25 g f z0 z1 ⟨st.a, st.n, st.c⟩)]) := S
    refine Sep.regC [boxSt sp pp pm g t, mapE pm t.X, polE pp p q g t.O, ledE q t.L, chipE p t.C] S fun G D hG T S hDt hDo hkeep back => ?_
    have T : Sep G w5.drew w5.drew (stS sp pp pm p q g t []) := T
    have hb := hDt 0 _ _ _ rfl
    obtain ⟨qa, y, hq, hy, hc, hr, hGq, hqb⟩ := Ty.nth (LSt25.rd_mono (G' := fun k => k < w.heap.size) (fun k _ hk => hk) hs) (i := (i : Int)) (by omega) hlt (by decide)
    rw [Int.toNat_natCast] at hy hc
    obtain ⟨(xn : Int), (xl : Int), (xc : Int), (xt : Bool), (xs : Int), ⟨⟩⟩ := y
    have hDq := hDo _ hGq (fun x => x)
    refine ⟨hb, S.lb5 (o := 0) rfl ⟨hb, S.ld5 (j := 9) rfl rfl ⟨⟨by omega, hlt⟩, qa, hq, by rw [add_block]; exact hDq, (xn, xl, xc, xt, xs, ()), S.ext.cells hc, hb, S.ld5 (j := 9) rfl rfl ⟨⟨by omega, hlt⟩, qa, hq, by rw [add_block, add_block]; exact hDq, xs, (S.ext.cells hc).get (j := 4) rfl, ?_⟩⟩⟩⟩
    refine (put27_c (x := ⟨xn, xl, xc, xt, xs⟩) (sd := xs) ht (by omega) T).mono ?_
    rintro ⟨(r : Int), ⟨⟩⟩ w6 ⟨h6, T⟩
    dsimp only at h6 T ⊢
    have hD2 := ht.do27 ⟨xn, xl, xc, xt, xs⟩ xs (by omega)
    have o2 := hD2.o2
    have o3 : (nxtS t (hd25 ⟨xn, xl, xc, xt, xs⟩)).1.C.ops = t.C.ops := rfl
    exact ⟨hkeep _ T.fr, Rng.i64 (by omega) (by omega), ⟨i + 1, _, by push_cast; rfl, by omega, hD2.i, by omega, fun m => (hD2.sz m).trans (hsz m), back _ _ T⟩, by omega⟩
  clear hge
  refine (Forget27_c (ns := ns) ht S).mono ?_
  rintro ⟨(r : Int), ⟨⟩⟩ w7 ⟨h7, S⟩
  dsimp only at h7 S ⊢
  subst h7
  refine drnNil27_c.mono ?_
  rintro ⟨(r : Int), ⟨⟩⟩ w8 ⟨h8, x8⟩
  dsimp only at h8 ⊢
  subst h8
  have S := S.stepE x8
  refine cond_f rfl (prgNil27_c.mono ?_)
  rintro ⟨(r : Int), ⟨⟩⟩ w9 ⟨h9, x9⟩
  dsimp only at h9 ⊢
  subst h9
  have S := S.stepE x9
  refine cond_f rfl (fgtNil27_c.mono ?_)
  rintro ⟨(r : Int), ⟨⟩⟩ w10 ⟨h10, rfl⟩
  dsimp only at h10 ⊢
  subst h10
  refine cond_f rfl (clnNil27_c.mono ?_)
  rintro ⟨(r : Bool), ⟨⟩⟩ w11 ⟨h11, rfl⟩
  dsimp only at h11 ⊢
  subst h11
  refine cond_f rfl ?_
  by_cases n0 : ns = 0
  · subst n0
    refine cond_f rfl ?_
    have hz0 : (getX t.X 0).n ≠ 0 := by rw [hsz, hX.n]; rw [if_pos rfl]; omega
    have hns : (0 : Int) ≤ 0 ∧ (0 : Int) < 4 := by decide
    have e1 : fgE t 0 = (fgtS t 0, 0) := by unfold fgE; rw [if_neg hz0]
    rw [e1] at S
    have hI := ht.fgt hns
    obtain ⟨k1, k2, -, -⟩ := fgt_f ht hns
    have k3 : (getX (fgtS t 0).X 0).n = 0 := by rw [k1, (drp_get ht.xo hns 0).2, if_pos rfl]
    have k4 := fgt_held ht hns
    have e2 : fgE (fgtS t 0) 0 = (fgtS t 0, 2) := by unfold fgE; rw [if_pos k3]
    refine cond_t (by rw [e1]; rfl) ?_
    dsimp only at S
    generalize fgtS t 0 = u at S hI k3 k4 e2 ⊢
    refine (Map25_c S).mono ?_
    rintro ⟨r, ⟨⟩⟩ w21 ⟨h21, rfl⟩
    dsimp only at h21 ⊢
    subst h21
    refine (Size_m (ns := 0) hI.xo.four (S.fro [1] rfl)).mono ?_
    rintro ⟨(r : Int), ⟨⟩⟩ w22 ⟨h22, rfl⟩
    dsimp only at h22 ⊢
    rw [k3] at h22
    subst h22
    refine cond_t rfl ?_
    refine (Pool25_c S).mono ?_
    rintro ⟨r, ⟨⟩⟩ w23 ⟨h23, rfl⟩
    dsimp only at h23 ⊢
    subst h23
    refine ldg0 S ((Held_e (ns := 0) hI.len6 (S.fro [3] rfl)).mono ?_)
    rintro ⟨(r : Int), ⟨⟩⟩ w24 ⟨h24, x24⟩
    dsimp only at h24 ⊢
    rw [show manyT u.L (ownB 0) u.L.length = 0 from k4] at h24
    subst h24
    have S := S.stepE x24
    refine cond_t rfl ?_
    refine (Forget27_c (ns := 0) hI S).mono ?_
    rintro ⟨(r : Int), ⟨⟩⟩ w25 ⟨h25, S⟩
    dsimp only at h25 S ⊢
    rw [e2] at h25 S
    subst h25
    refine cond_t rfl ?_
    refine (Purge0_c (ns := 0) hI k3 S).mono ?_
    rintro ⟨(r : Int), ⟨⟩⟩ w26 ⟨h26, x26⟩
    dsimp only at h26 ⊢
    subst h26
    have S := S.stepE x26
    refine cond_t rfl ?_
    exact awake27_c.mono fun r w9 ⟨h9, x9⟩ => ⟨h9, S.ext.trans x9⟩
  refine cond_t (by simpa using n0) ?_
  by_cases n1 : ns = 1
  · subst n1
    refine cond_f rfl ?_
    have hz0 : (getX t.X 1).n ≠ 0 := by rw [hsz, hX.n]; rw [if_neg (by decide), if_pos rfl]; omega
    have hns : (0 : Int) ≤ 1 ∧ (1 : Int) < 4 := by decide
    have e1 : fgE t 1 = (fgtS t 1, 0) := by unfold fgE; rw [if_neg hz0]
    rw [e1] at S
    have hI := ht.fgt hns
    obtain ⟨k1, k2, -, -⟩ := fgt_f ht hns
    have k3 : (getX (fgtS t 1).X 1).n = 0 := by rw [k1, (drp_get ht.xo hns 1).2, if_pos rfl]
    have k4 := fgt_held ht hns
    have e2 : fgE (fgtS t 1) 1 = (fgtS t 1, 2) := by unfold fgE; rw [if_pos k3]
    refine cond_t (by rw [e1]; rfl) ?_
    dsimp only at S
    generalize fgtS t 1 = u at S hI k3 k4 e2 ⊢
    refine (Map25_c S).mono ?_
    rintro ⟨r, ⟨⟩⟩ w21 ⟨h21, rfl⟩
    dsimp only at h21 ⊢
    subst h21
    refine (Size_m (ns := 1) hI.xo.four (S.fro [1] rfl)).mono ?_
    rintro ⟨(r : Int), ⟨⟩⟩ w22 ⟨h22, rfl⟩
    dsimp only at h22 ⊢
    rw [k3] at h22
    subst h22
    refine cond_t rfl ?_
    refine (Pool25_c S).mono ?_
    rintro ⟨r, ⟨⟩⟩ w23 ⟨h23, rfl⟩
    dsimp only at h23 ⊢
    subst h23
    refine ldg0 S ((Held_e (ns := 1) hI.len6 (S.fro [3] rfl)).mono ?_)
    rintro ⟨(r : Int), ⟨⟩⟩ w24 ⟨h24, x24⟩
    dsimp only at h24 ⊢
    rw [show manyT u.L (ownB 1) u.L.length = 0 from k4] at h24
    subst h24
    have S := S.stepE x24
    refine cond_t rfl ?_
    refine (Forget27_c (ns := 1) hI S).mono ?_
    rintro ⟨(r : Int), ⟨⟩⟩ w25 ⟨h25, S⟩
    dsimp only at h25 S ⊢
    rw [e2] at h25 S
    subst h25
    refine cond_t rfl ?_
    refine (Purge0_c (ns := 1) hI k3 S).mono ?_
    rintro ⟨(r : Int), ⟨⟩⟩ w26 ⟨h26, x26⟩
    dsimp only at h26 ⊢
    subst h26
    have S := S.stepE x26
    refine cond_t rfl ?_
    exact awake27_c.mono fun r w9 ⟨h9, x9⟩ => ⟨h9, S.ext.trans x9⟩
  refine cond_t (by simpa using n1) ?_
  have e0 : fgE t ns = (t, 2) := by unfold fgE; rw [if_pos (by rw [hsz, hX.n, if_neg n0, if_neg n1])]
  refine cond_t (by rw [e0]; rfl) ?_
  exact awake27_c.mono fun r w9 ⟨h9, x9⟩ => ⟨h9, S.ext.trans x9⟩
abbrev TCs27 : Ty := .cons TGeo (.cons LF (.cons (.cons (.int .i64) (.cons (.int .i64) .nil)) (.cons LSt25 .nil)))
theorem SanitiseForgets_of {w : World} {x : TCs27.T} {ns : Int} (g0 : TCs27.ok w x) (g1 : Rng .i64 ns) :
    CallV Tryz.prog 3 #[.agg (TCs27.vs x).toArray, .int .i64 ns] w [.one .bool] fun r w' => r.1 = true ∧ Ext w w' := by
  obtain ⟨⟨b, p, s, sp, wr, ro, ⟨⟩⟩, f, ⟨z0, z1, ⟨⟩⟩, l, ⟨⟩⟩ := x
  exact SanitiseForgets_law (g := ⟨b, p, s, sp, wr, ro⟩) (f := f) (st := l) (z0 := z0) (z1 := z1) (LF.rd_of g0.2.1) (LSt25.rd_of g0.2.2.2.1)
end Go.Proofs.YtbaojfchlhlaeaaGreat.Vc
