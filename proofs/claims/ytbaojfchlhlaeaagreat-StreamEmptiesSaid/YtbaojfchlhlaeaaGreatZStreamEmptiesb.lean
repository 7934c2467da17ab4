/- Texts in one: The plans of functions as plain statements, printed by wip/tools/vcgen.py; the kernel holds each to the code. The contracts of layer 12 (fault): bits, and what is there behind torn programs and erases. The plans of functions as plain statements, printed by wip/tools/vcgen.py; the kernel holds each to the code. The contracts of layer 12 (fault): bits turned. The contracts of layer 12 (fault): torn programs and erases, by the program and by the document. What the parameters of a law are known to be, out of the row's input: whole numbers in their range, slices of whole numbers as cells. What any parameter of a law is known to be, out of the row's input: structs, arrays and slices of whole numbers, texts, and of each other. Values that are read, of any shape: where they lie (in which blocks), what data they are, and that they stay while their blocks stay. The contracts of layer 12 (fault): plans. More laws of slices that a call owns: where their blocks lie. The contract of Copy of layer 12 (fault): a plan in new memory. The plans of functions as plain statements, printed by wip/tools/vcgen.py; the kernel holds each to the code. The contracts of layer 11 (geometry). The contracts of layer 11 (geometry), second part. Memory as parts that lie apart: assertions with their blocks, the frame rule, and the steps of a plan on such a memory. The steps of a plan on a memory of parts, by the part's place (printed by wip/tools/sepgen.py). Calls and single elements in the separate parts. Plain laws of layer 13 (nand): an array of pages, what each operation makes of it. Parts and results. Lists of slices of bytes. -/
import Derived.Test.YtbaojfchlhlaeaaGreatZStreamEmptiesa
set_option linter.unusedVariables false
set_option linter.unusedSimpArgs false
namespace Go.Proofs.YtbaojfchlhlaeaaGreat.Vc
open Go Go.Eng
def fault_Bit.A:Ann:=.no
def fault_Bit.P (a0:Option Addr) (n0 c0:Nat) (p1:Int) (w:World) (K:Bool×Unit->World->Prop):Prop:=
 cond (decide (p1<0))
 (K (false,()) w)
 (cond (((n0:Nat):Int) == 0)
 (K (true,()) w)
 (8≠(0:Int)/\Rng .i64 (Int.tdiv p1 8) /\
 ((n0:Nat):Int)≠(0:Int) /\
 (0<=(Int.tmod (Int.tdiv p1 8) ((n0:Nat):Int))/\(Int.tmod (Int.tdiv p1 8) ((n0:Nat):Int))<((n0:Nat):Int))/\∃ q1:Addr,a0=some q1 /\
 LoadS w (q1.add ((Int.tmod (Int.tdiv p1 8) ((n0:Nat):Int)).toNat*1)) (.int .u8) λ(x2:Int)=>
 8≠(0:Int) /\
 (0:Int)<=(Int.tmod p1 8) /\
 K (((Go.bits .and .u8 (Int.fdiv x2 (2 ^ (Nat.min ((Int.tmod p1 8)).toNat 8))) 1) == 1),()) w))
theorem fault_Bit.vc (a0:Option Addr) (n0 c0:Nat) (p1:Int) (w:World) (K:Bool×Unit->World->Prop) (h:fault_Bit.P a0 n0 c0 p1 w K):CallV Tryz.prog 284 #[.slice a0 n0 c0,.int .i64 p1] w [.one .bool] K:=by
 refine vcFun.of (A:=fault_Bit.A) (wr:=false) okf_ok follows h Tryz.func284 ?_
 kernel_rfl
def fault_Clear.A:Ann:=.no
def fault_Clear.P (a0:Option Addr) (n0 c0:Nat) (a1:Option Addr) (n1 c1:Nat) (a2:Option Addr) (n2 c2:Nat) (w:World) (K:SlV×Int×Unit->World->Prop):Prop:=
 cond (((n0:Nat):Int) != ((n1:Nat):Int))
 (K ((⟨none,0,0⟩:SlV),(2:Int),()) w)
 (CallV Tryz.prog 259 #[.slice a0 n0 c0,.slice a1 n1 c1] w [.one .sl] λ(r1:SlV×Unit) w2=>
 CallV Tryz.prog 257 #[.slice a0 n0 c0,.slice r1.1.a r1.1.n r1.1.c,.slice a2 n2 c2,.bool false] w2 [.one .sl] λ(r3:SlV×Unit) w4=>
 K (r3.1,(0:Int),()) w4)
theorem fault_Clear.vc (a0:Option Addr) (n0 c0:Nat) (a1:Option Addr) (n1 c1:Nat) (a2:Option Addr) (n2 c2:Nat) (w:World) (K:SlV×Int×Unit->World->Prop) (h:fault_Clear.P a0 n0 c0 a1 n1 c1 a2 n2 c2 w K):CallV Tryz.prog 222 #[.slice a0 n0 c0,.slice a1 n1 c1,.slice a2 n2 c2] w [.one .sl,.one (.int .i64)] K:=by
 refine vcFun.of (A:=fault_Clear.A) (wr:=false) okf_ok follows h Tryz.func222 ?_
 kernel_rfl
def fault_Fail.A:Ann:=.no
def fault_Fail.P (a0:Option Addr) (n0 c0:Nat) (a1:Option Addr) (n1 c1:Nat) (a2:Option Addr) (n2 c2:Nat) (w:World) (K:SlV×Int×Unit->World->Prop):Prop:=
 cond (((n0:Nat):Int) != ((n1:Nat):Int))
 (K ((⟨none,0,0⟩:SlV),(2:Int),()) w)
 (CallV Tryz.prog 259 #[.slice a0 n0 c0,.slice a1 n1 c1] w [.one .sl] λ(r1:SlV×Unit) w2=>
 CallV Tryz.prog 257 #[.slice a0 n0 c0,.slice r1.1.a r1.1.n r1.1.c,.slice a2 n2 c2,.bool true] w2 [.one .sl] λ(r3:SlV×Unit) w4=>
 K (r3.1,(0:Int),()) w4)
theorem fault_Fail.vc (a0:Option Addr) (n0 c0:Nat) (a1:Option Addr) (n1 c1:Nat) (a2:Option Addr) (n2 c2:Nat) (w:World) (K:SlV×Int×Unit->World->Prop) (h:fault_Fail.P a0 n0 c0 a1 n1 c1 a2 n2 c2 w K):CallV Tryz.prog 253 #[.slice a0 n0 c0,.slice a1 n1 c1,.slice a2 n2 c2] w [.one .sl,.one (.int .i64)] K:=by
 refine vcFun.of (A:=fault_Fail.A) (wr:=false) okf_ok follows h Tryz.func253 ?_
 kernel_rfl
def fault_Set.A:Ann:=.no
def fault_Set.P (a0:Option Addr) (n0 c0:Nat) (a1:Option Addr) (n1 c1:Nat) (w:World) (K:SlV×Unit->World->Prop):Prop:=
 CallV Tryz.prog 249 #[.slice a0 n0 c0] w [.one .sl] λ(r1:SlV×Unit) w2=>
 CallV Tryz.prog 257 #[.slice a0 n0 c0,.slice r1.1.a r1.1.n r1.1.c,.slice a1 n1 c1,.bool false] w2 [.one .sl] λ(r3:SlV×Unit) w4=>
 K (r3.1,()) w4
theorem fault_Set.vc (a0:Option Addr) (n0 c0:Nat) (a1:Option Addr) (n1 c1:Nat) (w:World) (K:SlV×Unit->World->Prop) (h:fault_Set.P a0 n0 c0 a1 n1 c1 w K):CallV Tryz.prog 215 #[.slice a0 n0 c0,.slice a1 n1 c1] w [.one .sl] K:=by
 refine vcFun.of (A:=fault_Set.A) (wr:=false) okf_ok follows h Tryz.func215 ?_
 kernel_rfl
def fault_Check.A:Ann:=.two .no (.two .no (.two (.two .no (.one (.loop [2,4,10,11,12,13,14,15,16,17,18,19,20,21,22,23] [(10,.one (.int .i64))] .no))) .no))
def fault_Check.P (a0:Option Addr) (n0 c0:Nat) (w:World) (K:Int×Unit->World->Prop):Prop:=
 cond (decide (((n0:Nat):Int)>64))
 (K ((2:Int),()) w)
 (LoopV [.one (.int .i64)] ((0:Int),()) w λ(z1:Int×Unit) w2 (K3:Int×Unit->World->Prop)=>
 cond (decide (z1.1<((n0:Nat):Int)))
 ((0<=z1.1/\z1.1<((n0:Nat):Int))/\∃ q4:Addr,a0=some q4 /\
 LoadA w2 (q4.add (z1.1.toNat*3)) [.int .i64,.bool,.sl] λ(x5:Int×Bool×SlV×Unit)=>
 NewV #[.int .i64 0,.bool false,.slice none 0 0] 88 w2 λb6 w7=>
 StoreV w7 ⟨b6,0,none⟩ [.int .i64 x5.1,.bool x5.2.1,.slice x5.2.2.1.a x5.2.2.1.n x5.2.2.1.c] λw8=>
 LoadS w8 ⟨b6,0,none⟩ (.int .i64) λ(x9:Int)=>
 cond (decide (x9<0))
 (K ((2:Int),()) w8)
 (LoadS w8 ⟨b6,2,none⟩ .sl λ(x10:SlV)=>
 cond (decide (((x10.n:Nat):Int)>64))
 (K ((2:Int),()) w8)
 (Rng .i64 (z1.1+1) /\
 K3 (z1.1+1,()) w8)))
 (K ((0:Int),()) w2))
theorem fault_Check.vc (a0:Option Addr) (n0 c0:Nat) (w:World) (K:Int×Unit->World->Prop) (h:fault_Check.P a0 n0 c0 w K):CallV Tryz.prog 142 #[.slice a0 n0 c0] w [.one (.int .i64)] K:=by
 refine vcFun.of (A:=fault_Check.A) (wr:=false) okf_ok follows h Tryz.func142 ?_
 kernel_rfl
def ref12_Right.A:Ann:=.two .no (.two (.two .no (.one (.loop [2,3,4,5,6,7,8,9,10,11,12,13,14,15,16,17,18,19,20,21,22,23,24] [(3,.one (.int .i64))] .no))) .no)
def ref12_Right.P (a0:Option Addr) (n0 c0:Nat) (w:World) (K:Bool×Unit->World->Prop):Prop:=
 LoopV [.one (.int .i64)] ((0:Int),()) w λ(z1:Int×Unit) w2 (K3:Int×Unit->World->Prop)=>
 cond (decide (z1.1<((n0:Nat):Int)))
 ((0<=z1.1/\z1.1<((n0:Nat):Int))/\∃ q4:Addr,a0=some q4 /\
 LoadS w2 (q4.add (z1.1.toNat*3)) (.int .i64) λ(x5:Int)=>
 cond (decide (x5<0))
 (K (false,()) w2)
 ((0<=z1.1/\z1.1<((n0:Nat):Int))/\∃ q6:Addr,a0=some q6 /\
 LoadS w2 ((q6.add (z1.1.toNat*3)).add 2) .sl λ(x7:SlV)=>
 cond (decide (((x7.n:Nat):Int)>64))
 (K (false,()) w2)
 (Rng .i64 (z1.1+1) /\
 K3 (z1.1+1,()) w2)))
 (K (decide (((n0:Nat):Int)<=64),()) w2)
theorem ref12_Right.vc (a0:Option Addr) (n0 c0:Nat) (w:World) (K:Bool×Unit->World->Prop) (h:ref12_Right.P a0 n0 c0 w K):CallV Tryz.prog 76 #[.slice a0 n0 c0] w [.one .bool] K:=by
 refine vcFun.of (A:=ref12_Right.A) (wr:=false) okf_ok follows h Tryz.func76 ?_
 kernel_rfl
def fault_At.A:Ann:=.two .no (.two (.two .no (.one (.loop [5,7,10,11,12,13,14,15,16,17,18,19,20,21,22,23,24] [(10,.one (.int .i64))] .no))) .no)
def fault_At.P (a0:Option Addr) (n0 c0:Nat) (p1:Int) (w:World) (K:(Int×Bool×SlV×Unit)×Bool×Unit->World->Prop):Prop:=
 NewV #[.int .i64 0,.bool false,.slice none 0 0] 88 w λb1 w2=>
 LoopV [.one (.int .i64)] ((0:Int),()) w2 λ(z3:Int×Unit) w4 (K5:Int×Unit->World->Prop)=>
 cond (decide (z3.1<((n0:Nat):Int)))
 ((0<=z3.1/\z3.1<((n0:Nat):Int))/\∃ q6:Addr,a0=some q6 /\
 LoadA w4 (q6.add (z3.1.toNat*3)) [.int .i64,.bool,.sl] λ(x7:Int×Bool×SlV×Unit)=>
 NewV #[.int .i64 0,.bool false,.slice none 0 0] 88 w4 λb8 w9=>
 StoreV w9 ⟨b8,0,none⟩ [.int .i64 x7.1,.bool x7.2.1,.slice x7.2.2.1.a x7.2.2.1.n x7.2.2.1.c] λw10=>
 LoadS w10 ⟨b8,0,none⟩ (.int .i64) λ(x11:Int)=>
 cond (x11 == p1)
 (NewV #[] 5 w10 λb12 w13=>
 LoadS w13 ⟨b8,2,none⟩ .sl λ(x14:SlV)=>
 AppS w13 x14.a x14.n 1 λns19=>
 AppV w13 5 1 1 (some ⟨b12,0,none⟩) 0 0 ns19 x14.n λa15 n16 c17 w18=>
 StoreV w18 ⟨b8,2,none⟩ [.slice a15 n16 c17] λw20=>
 LoadA w20 ⟨b8,0,none⟩ [.int .i64,.bool,.sl] λ(x21:Int×Bool×SlV×Unit)=>
 StoreV w20 ⟨b1,0,none⟩ [.int .i64 x21.1,.bool x21.2.1,.slice x21.2.2.1.a x21.2.2.1.n x21.2.2.1.c] λw22=>
 LoadA w22 ⟨b1,0,none⟩ [.int .i64,.bool,.sl] λ(x23:Int×Bool×SlV×Unit)=>
 K ((x23.1,x23.2.1,x23.2.2.1,()),true,()) w22)
 (Rng .i64 (z3.1+1) /\
 K5 (z3.1+1,()) w10))
 (StoreV w4 ⟨b1,0,none⟩ [.int .i64 0,.bool false,.slice none 0 0] λw24=>
 LoadA w24 ⟨b1,0,none⟩ [.int .i64,.bool,.sl] λ(x25:Int×Bool×SlV×Unit)=>
 K ((x25.1,x25.2.1,x25.2.2.1,()),false,()) w24)
theorem fault_At.vc (a0:Option Addr) (n0 c0:Nat) (p1:Int) (w:World) (K:(Int×Bool×SlV×Unit)×Bool×Unit->World->Prop) (h:fault_At.P a0 n0 c0 p1 w K):CallV Tryz.prog 258 #[.slice a0 n0 c0,.int .i64 p1] w [.agg [.int .i64,.bool,.sl],.one .bool] K:=by
 refine vcFun.of (A:=fault_At.A) (wr:=false) okf_ok follows h Tryz.func258 ?_
 kernel_rfl
def fault_Copy.A:Ann:=.two .no (.two .no (.two (.two .no (.one (.loop [3,5,8,9,10,11,12,13,14,15,16,17,18,19,20,21] [(3,.one .sl),(8,.one (.int .i64))] .no))) .no))
def fault_Copy.P (a0:Option Addr) (n0 c0:Nat) (w:World) (K:SlV×Unit->World->Prop):Prop:=
 LoopV [.one .sl,.one (.int .i64)] ((⟨none,0,0⟩:SlV),(0:Int),()) w λ(z1:SlV×Int×Unit) w2 (K3:SlV×Int×Unit->World->Prop)=>
 cond (decide (z1.2.1<((n0:Nat):Int)))
 ((0<=z1.2.1/\z1.2.1<((n0:Nat):Int))/\∃ q4:Addr,a0=some q4 /\
 LoadA w2 (q4.add (z1.2.1.toNat*3)) [.int .i64,.bool,.sl] λ(x5:Int×Bool×SlV×Unit)=>
 NewV #[.int .i64 0,.bool false,.slice none 0 0] 88 w2 λb6 w7=>
 StoreV w7 ⟨b6,0,none⟩ [.int .i64 x5.1,.bool x5.2.1,.slice x5.2.2.1.a x5.2.2.1.n x5.2.2.1.c] λw8=>
 NewV #[] 5 w8 λb9 w10=>
 LoadS w10 ⟨b6,2,none⟩ .sl λ(x11:SlV)=>
 AppS w10 x11.a x11.n 1 λns16=>
 AppV w10 5 1 1 (some ⟨b9,0,none⟩) 0 0 ns16 x11.n λa12 n13 c14 w15=>
 StoreV w15 ⟨b6,2,none⟩ [.slice a12 n13 c14] λw17=>
 LoadA w17 ⟨b6,0,none⟩ [.int .i64,.bool,.sl] λ(x18:Int×Bool×SlV×Unit)=>
 NewV #[.int .i64 x18.1,.bool x18.2.1,.slice x18.2.2.1.a x18.2.2.1.n x18.2.2.1.c] 88 w17 λb19 w20=>
 AppS w20 (some ⟨b19,0,none⟩) 1 3 λns25=>
 AppV w20 88 3 40 z1.1.a z1.1.n z1.1.c ns25 1 λa21 n22 c23 w24=>
 Rng .i64 (z1.2.1+1) /\
 K3 ((⟨a21,n22,c23⟩:SlV),z1.2.1+1,()) w24)
 (K (z1.1,()) w2)
theorem fault_Copy.vc (a0:Option Addr) (n0 c0:Nat) (w:World) (K:SlV×Unit->World->Prop) (h:fault_Copy.P a0 n0 c0 w K):CallV Tryz.prog 144 #[.slice a0 n0 c0] w [.one .sl] K:=by
 refine vcFun.of (A:=fault_Copy.A) (wr:=false) okf_ok follows h Tryz.func144 ?_
 kernel_rfl
def fault_cleared.A:Ann:=.two .no (.two .no (.two (.two .no (.one (.loop [6,12,13,14,15,16,17,18,19,20,21,22,23,24,25,26,27] [(12,.one (.int .i64))] (.two .no (.two .no (.two (.one (.two .no (.draw (.take 0 (.take 1 (.take 2 (.take 3 (.take 4 (.take 5 (.take 6 (.take 7 (.take 8 (.take 9 (.take 10 (.take 11 (.eff 12 (.done))))))))))))))))) .no)))))) .no))
def fault_cleared.P (a0:Option Addr) (n0 c0:Nat) (a1:Option Addr) (n1 c1:Nat) (w:World) (K:SlV×Unit->World->Prop):Prop:=
 ((0:Int)<=(((n0:Nat):Int):Int)/\(((n0:Nat):Int):Int)<=(((n0:Nat):Int):Int)/\(((n0:Nat):Int):Int)<=9223372036854775807/\((1:Nat):Int)*(((n0:Nat):Int):Int)<=140737488355328) /\
 NewV (List.replicate (((n0:Nat):Int).toNat) [.int .u8 0]).flatten.toArray 5 w λb1 w2=>
 LoopV [.one (.int .i64)] ((0:Int),()) w2 λ(z3:Int×Unit) w4 (K5:Int×Unit->World->Prop)=>
 cond (decide (z3.1<((((n0:Nat):Int).toNat:Nat):Int)))
 (DrawV λD6=>
 (0<=z3.1/\z3.1<((n0:Nat):Int))/\∃ q7:Addr,a0=some q7 /\
 (D6 (q7.add (z3.1.toNat*1)).block/\LoadS w4.drew (q7.add (z3.1.toNat*1)) (.int .u8) λ(x8:Int)=>
 (0<=z3.1/\z3.1<((n1:Nat):Int))/\∃ q9:Addr,a1=some q9 /\
 (D6 (q9.add (z3.1.toNat*1)).block/\LoadS w4.drew (q9.add (z3.1.toNat*1)) (.int .u8) λ(x10:Int)=>
 (0<=z3.1/\z3.1<((((n0:Nat):Int).toNat:Nat):Int))/\∃ q11:Addr,(some ⟨b1,0,none⟩)=some q11 /\
 StoreV w4.drew (q11.add (z3.1.toNat*1)) [.int .u8 (Go.bits .andNot .u8 x8 x10)] λw12=>
 KeepOn D6 w4.drew w12 /\
 Rng .i64 (z3.1+1) /\
 K5 (z3.1+1,()) w12)))
 (K ((⟨(some ⟨b1,0,none⟩),((n0:Nat):Int).toNat,((n0:Nat):Int).toNat⟩:SlV),()) w4)
theorem fault_cleared.vc (a0:Option Addr) (n0 c0:Nat) (a1:Option Addr) (n1 c1:Nat) (w:World) (K:SlV×Unit->World->Prop) (h:fault_cleared.P a0 n0 c0 a1 n1 c1 w K):CallV Tryz.prog 259 #[.slice a0 n0 c0,.slice a1 n1 c1] w [.one .sl] K:=by
 refine vcFun.of (A:=fault_cleared.A) (wr:=false) okf_ok follows h Tryz.func259 ?_
 kernel_rfl
def fault_turned_1.A:Ann:=.no
def fault_turned_1.P (p0:Int) (cq0 cq1 cq2:Addr) (w:World) (K:Bool×Unit->World->Prop):Prop:=
 LoadS w cq0 (.int .i64) λ(x1:Int)=>
 cond (p0 != x1)
 (LoadS w cq1 .sl λ(x2:SlV)=>
 8≠(0:Int)/\Rng .i64 (Int.tdiv p0 8) /\
 (0<=(Int.tdiv p0 8)/\(Int.tdiv p0 8)<((x2.n:Nat):Int))/\∃ q3:Addr,x2.a=some q3 /\
 LoadS w (q3.add ((Int.tdiv p0 8).toNat*1)) (.int .u8) λ(x4:Int)=>
 8≠(0:Int) /\
 (0:Int)<=(Int.tmod p0 8) /\
 cond ((Go.bits .and .u8 (Int.fdiv x4 (2 ^ (Nat.min ((Int.tmod p0 8)).toNat 8))) 1) == 1)
 (LoadS w cq2 .sl λ(x5:SlV)=>
 CallV Tryz.prog 284 #[.slice x5.a x5.n x5.c,.int .i64 p0] w [.one .bool] λ(r6:Bool×Unit) w7=>
 K (r6.1,()) w7)
 (K (false,()) w))
 (K (false,()) w)
theorem fault_turned_1.vc (p0:Int) (cq0 cq1 cq2:Addr) (w:World) (K:Bool×Unit->World->Prop) (h:fault_turned_1.P p0 cq0 cq1 cq2 w K):CallV Tryz.prog 283 #[.int .i64 p0,.pointer (some cq0),.pointer (some cq1),.pointer (some cq2)] w [.one .bool] K:=by
 refine vcFun.of (A:=fault_turned_1.A) (wr:=false) okf_ok follows h Tryz.func283 ?_
 kernel_rfl
end Go.Proofs.YtbaojfchlhlaeaaGreat.Vc
namespace Go.Proofs.YtbaojfchlhlaeaaGreat.Vc
open Go Go.Eng Go.RowKit
theorem appU {w:World} {a a2:Option Addr} {n c m c2:Nat} {xs ys:List Int} {B:Nat} {K:Option Addr->Nat->Nat->World->Prop} (ho:Own w B 5 1 a n c (xs.map (Value.int .u8))) (hy:Ints w .u8 a2 m c2 ys) (hB:B<=w.heap.size) (hn:n+m<=100000000)
  (hk:∀ a' c' w',Own w' B 5 1 a' (n+m) c' ((xs++ys).map (Value.int .u8))->Below B w w'->K a' (n+m) c' w') :
  AppS w a2 m 1 λns=>AppV w 5 1 1 a n c ns m K:=by
 refine AppS.of (news:=ys.map (Value.int .u8)) (by rw [List.length_map,hy.len];omega) hy.rd ?_
 refine AppV.own ho hB (by rw [List.length_map,hy.len];omega) (oneAll.ints _ _) (by omega) (by omega) λa' c' w' h1 h2 _ _=>?_
 refine hk a' c' w' ?_ h2
 rw [List.map_append]
 exact h1
theorem newU {w:World} {K:Nat->World->Prop} (h:∀ b w1,Ext w w1->Own w1 w.heap.size 5 1 (some ⟨b,0,none⟩) 0 0 []->K b w1):NewV #[] 5 w K:=by
 rintro b w1 rfl rfl
 exact h _ _ (Ext.alloc _ _) (Own.zeros (w:=w) (B:=w.heap.size) (e:=5) (n:=0) (c:=0) (z:=.int .u8 0) (Nat.le_refl _) (Nat.zero_le _) (by omega) rfl)
theorem tdiv8 (i:Nat):Int.tdiv (i:Int) 8=((i / 8:Nat):Int):=by rw [Int.tdiv_eq_ediv_of_nonneg (by omega)];omega
theorem tmod8 (i:Nat):Int.tmod (i:Int) 8=((i % 8:Nat):Int):=by rw [Int.tmod_eq_emod_of_nonneg (by omega)];omega
theorem mod8 (i:Nat):i % 8<8:=Nat.mod_lt _ (by omega)
def mBitZ (ms:List Int) (i:Int):Bool:=if i<0 then false else mBit ms i.toNat
theorem mBitZ_nat (ms:List Int) (i:Nat):mBitZ ms (i:Int)=mBit ms i:=by unfold mBitZ;rw [if_neg (by omega),Int.toNat_natCast]
theorem mask_at {i n:Nat}:Int.tmod ((i / 8:Nat):Int) ((n:Nat):Int)=((i / 8 % n:Nat):Int):=by rw [Int.tmod_eq_emod_of_nonneg (by omega)];rfl
theorem Bit_c {w:World} {a:Option Addr} {n c:Nat} {xs:List Int} (hx:Ints w .u8 a n c xs) (bx:Byt xs) {i:Int} (hi:i<=9223372036854775807) :
  CallV Tryz.prog 284 #[.slice a n c,.int .i64 i] w [.one .bool] λr w'=>r.1=mBitZ xs i/\w'=w:=by
 refine fault_Bit.vc _ _ _ _ _ _ ?_
 unfold fault_Bit.P
 have ln:=hx.len
 refine cond_d (λh=>⟨by unfold mBitZ;rw [if_pos h],rfl⟩) (λh=>?_)
 obtain ⟨i,rfl⟩:∃ k:Nat,i=(k:Int):=⟨i.toNat,by omega⟩
 rw [mBitZ_nat]
 refine cond_eq (λh0=>⟨by unfold mBit;rw [if_pos (by omega)],rfl⟩) (λh0=>?_)
 rw [tdiv8,tmod8,mask_at]
 have hlt:i / 8 % n<n:=Nat.mod_lt _ (by omega)
 refine ⟨by omega,Rng.i64 (by omega) (by omega),h0,?_⟩
 refine hx.idx (by omega) (by omega) ?_
 rw [Int.toNat_natCast,Int.toNat_natCast]
 refine ⟨by omega,by omega,?_,rfl⟩
 rw [f1 (bx.getD _) (mod8 i)]
 unfold mBit
 rw [if_neg (by omega),ln]
theorem cleared_c {w:World} {a a2:Option Addr} {n c c2:Nat} {xs ys:List Int} (hx:Ints w .u8 a n c xs) (hy:Ints w .u8 a2 n c2 ys) (hn:n<=100000) :
  CallV Tryz.prog 259 #[.slice a n c,.slice a2 n c2] w [.one .sl] λr w'=>Res w w' r.1 (clrL xs ys):=by
 refine fault_cleared.vc _ _ _ _ _ _ _ _ ?_
 unfold fault_cleared.P
 have lx:=hx.len
 have ly:=hy.len
 refine ⟨by omega,?_⟩
 rintro b1 w1 rfl rfl
 rw [Int.toNat_natCast]
 have hnew:=Own.zeros (w:=w) (B:=w.heap.size) (e:=5) (n:=n) (c:=n) (z:=.int .u8 0) (Nat.le_refl _) (Nat.le_refl _) (by omega) rfl
 refine Loop1 (λ(y:Int×Unit) w'=>∃ i:Nat,y.1=(i:Int)/\i<=n/\Ext w w'/\Own w' w.heap.size 5 1 (some ⟨w.heap.size,0,none⟩) n n (((clrL xs ys).map (Value.int .u8)).take i++List.replicate (n-i) (.int .u8 0)))
  (λ(y:Int×Unit) _=>((n:Int)-y.1).toNat) ⟨0,rfl,by omega,Ext.alloc _ _,by simpa using hnew⟩ ?_
 rintro ⟨(y:Int),⟨⟩⟩ w2 ⟨i,hy',hi,e2,o2⟩
 dsimp only at hy' ⊢
 subst hy'
 refine cond_d (λhlt=>?_) (λhge=>?_)
 ·refine DrawV.base w.heap.size w2 λD hD hkeep=>?_
  have e2':=e2.trans (Ext.drew w2)
  refine hx.idxD e2' (by omega) hlt hD ?_
  refine hy.idxD e2' (by omega) (by omega) hD ?_
  rw [Int.toNat_natCast]
  refine fill_round (w0:=w) (S:=clrL xs ys) (by rw [clrL_length];exact lx) (by omega) (by simp [clrL]) (o2.ext (Ext.drew w2)) λw3 o3 b3=>?_
  exact ⟨hkeep _ (Below.trans (Below.mono (Ext.drew w2) e2.size) b3),Rng.i64 (by omega) (by omega),⟨i+1,by push_cast;rfl,by omega,Below.trans e2' b3,o3⟩,by omega⟩
 ·have:i=n:=by omega
  subst this
  rw [List.take_of_length_le (by rw [List.length_map,clrL_length];omega),Nat.sub_self,List.replicate_zero,List.append_nil] at o2
  exact ⟨e2,o2⟩
end Go.Proofs.YtbaojfchlhlaeaaGreat.Vc
namespace Go.Proofs.YtbaojfchlhlaeaaGreat.Vc
open Go Go.Eng
def fault_turned.A:Ann:=.two .no (.two .no (.two (.two .no (.two (.two .no (.one (.loop [10,18,19,20,21,22,23,24,25,26,27,28,29,30,31,32] [(18,.one (.int .i64))] .no))) .no)) (.two .no (.two .no (.two (.two .no (.one (.loop [13,40,41,42,43,44,45,46,47,48,49,50,51,52,53,54,55,56] [(40,.one (.int .i64))] (.two .no (.two .no (.two (.one (.two .no (.two .no (.two (.draw (.take 0 (.take 1 (.take 2 (.take 3 (.take 5 (.take 6 (.take 7 (.eff 4 (.take 8 (.take 9 (.eff 10 (.done))))))))))))) .no)))) .no)))))) .no)))))
def fault_turned.P (a0:Option Addr) (n0 c0:Nat) (a1:Option Addr) (n1 c1:Nat) (a2:Option Addr) (n2 c2:Nat) (p3:Bool) (w:World) (K:SlV×Unit->World->Prop):Prop:=
 NewV #[.slice a1 n1 c1] 63 w λb1 w2=>
 NewV #[.slice a2 n2 c2] 63 w2 λb3 w4=>
 NewV #[.int .i64 0] 3 w4 λb5 w6=>
 StoreV w6 ⟨b5,0,none⟩ [.int .i64 (-1)] λw7=>
 cond p3
 (LoadS w7 ⟨b1,0,none⟩ .sl λ(x8:SlV)=>
 Rng .i64 ((8:Int)*((x8.n:Nat):Int)) /\
 LoopV [.one (.int .i64)] ((0:Int),()) w7 λ(z9:Int×Unit) w10 (K11:Int×Unit->World->Prop)=>
 cond (decide (z9.1<((8:Int)*((x8.n:Nat):Int))))
 (LoadS w10 ⟨b1,0,none⟩ .sl λ(x12:SlV)=>
 8≠(0:Int)/\Rng .i64 (Int.tdiv z9.1 8) /\
 (0<=(Int.tdiv z9.1 8)/\(Int.tdiv z9.1 8)<((x12.n:Nat):Int))/\∃ q13:Addr,x12.a=some q13 /\
 LoadS w10 (q13.add ((Int.tdiv z9.1 8).toNat*1)) (.int .u8) λ(x14:Int)=>
 8≠(0:Int) /\
 (0:Int)<=(Int.tmod z9.1 8) /\
 cond ((Go.bits .and .u8 (Int.fdiv x14 (2 ^ (Nat.min ((Int.tmod z9.1 8)).toNat 8))) 1) == 1)
 (StoreV w10 ⟨b5,0,none⟩ [.int .i64 z9.1] λw15=>
 Rng .i64 (z9.1+1) /\
 K11 (z9.1+1,()) w15)
 (Rng .i64 (z9.1+1) /\
 K11 (z9.1+1,()) w10))
 (NewV #[] 5 w10 λb16 w17=>
 AppS w17 a0 n0 1 λns22=>
 AppV w17 5 1 1 (some ⟨b16,0,none⟩) 0 0 ns22 n0 λa18 n19 c20 w21=>
 Rng .i64 ((8:Int)*((n19:Nat):Int)) /\
 LoopV [.one (.int .i64)] ((0:Int),()) w21 λ(z23:Int×Unit) w24 (K25:Int×Unit->World->Prop)=>
 cond (decide (z23.1<((8:Int)*((n19:Nat):Int))))
 (CallV Tryz.prog 283 #[.int .i64 z23.1,.pointer (some ⟨b5,0,none⟩),.pointer (some ⟨b1,0,none⟩),.pointer (some ⟨b3,0,none⟩)] w24 [.one .bool] λ(r26:Bool×Unit) w27=>
 cond r26.1
 (DrawV λD28=>
 8≠(0:Int)/\Rng .i64 (Int.tdiv z23.1 8) /\
 (0<=(Int.tdiv z23.1 8)/\(Int.tdiv z23.1 8)<((n19:Nat):Int))/\∃ q29:Addr,a18=some q29 /\
 8≠(0:Int) /\
 (0:Int)<=(Int.tmod z23.1 8) /\
 LoadS w27.drew (q29.add ((Int.tdiv z23.1 8).toNat*1)) (.int .u8) λ(x30:Int)=>
 KeepOn D28 w27.drew w27.drew /\
 (0<=(Int.tdiv z23.1 8)/\(Int.tdiv z23.1 8)<((n19:Nat):Int))/\∃ q31:Addr,a18=some q31 /\
 StoreV w27.drew (q31.add ((Int.tdiv z23.1 8).toNat*1)) [.int .u8 (Go.bits .xor .u8 x30 (IntKind.u8.wrap ((1:Int)*(2 ^ (Nat.min ((Int.tmod z23.1 8)).toNat 8)))))] λw32=>
 KeepOn D28 w27.drew w32 /\
 Rng .i64 (z23.1+1) /\
 K25 (z23.1+1,()) w32)
 (Rng .i64 (z23.1+1) /\
 K25 (z23.1+1,()) w27))
 (K ((⟨a18,n19,c20⟩:SlV),()) w24)))
 (NewV #[] 5 w7 λb33 w34=>
 AppS w34 a0 n0 1 λns39=>
 AppV w34 5 1 1 (some ⟨b33,0,none⟩) 0 0 ns39 n0 λa35 n36 c37 w38=>
 Rng .i64 ((8:Int)*((n36:Nat):Int)) /\
 LoopV [.one (.int .i64)] ((0:Int),()) w38 λ(z40:Int×Unit) w41 (K42:Int×Unit->World->Prop)=>
 cond (decide (z40.1<((8:Int)*((n36:Nat):Int))))
 (CallV Tryz.prog 283 #[.int .i64 z40.1,.pointer (some ⟨b5,0,none⟩),.pointer (some ⟨b1,0,none⟩),.pointer (some ⟨b3,0,none⟩)] w41 [.one .bool] λ(r43:Bool×Unit) w44=>
 cond r43.1
 (DrawV λD45=>
 8≠(0:Int)/\Rng .i64 (Int.tdiv z40.1 8) /\
 (0<=(Int.tdiv z40.1 8)/\(Int.tdiv z40.1 8)<((n36:Nat):Int))/\∃ q46:Addr,a35=some q46 /\
 8≠(0:Int) /\
 (0:Int)<=(Int.tmod z40.1 8) /\
 LoadS w44.drew (q46.add ((Int.tdiv z40.1 8).toNat*1)) (.int .u8) λ(x47:Int)=>
 KeepOn D45 w44.drew w44.drew /\
 (0<=(Int.tdiv z40.1 8)/\(Int.tdiv z40.1 8)<((n36:Nat):Int))/\∃ q48:Addr,a35=some q48 /\
 StoreV w44.drew (q48.add ((Int.tdiv z40.1 8).toNat*1)) [.int .u8 (Go.bits .xor .u8 x47 (IntKind.u8.wrap ((1:Int)*(2 ^ (Nat.min ((Int.tmod z40.1 8)).toNat 8)))))] λw49=>
 KeepOn D45 w44.drew w49 /\
 Rng .i64 (z40.1+1) /\
 K42 (z40.1+1,()) w49)
 (Rng .i64 (z40.1+1) /\
 K42 (z40.1+1,()) w44))
 (K ((⟨a35,n36,c37⟩:SlV),()) w41))
theorem fault_turned.vc (a0:Option Addr) (n0 c0:Nat) (a1:Option Addr) (n1 c1:Nat) (a2:Option Addr) (n2 c2:Nat) (p3:Bool) (w:World) (K:SlV×Unit->World->Prop) (h:fault_turned.P a0 n0 c0 a1 n1 c1 a2 n2 c2 p3 w K):CallV Tryz.prog 257 #[.slice a0 n0 c0,.slice a1 n1 c1,.slice a2 n2 c2,.bool p3] w [.one .sl] K:=by
 refine vcFun.of (A:=fault_turned.A) (wr:=false) okf_ok follows h Tryz.func257 ?_
 kernel_rfl
end Go.Proofs.YtbaojfchlhlaeaaGreat.Vc
namespace Go.Proofs.YtbaojfchlhlaeaaGreat.Vc
open Go Go.Eng Go.RowKit
theorem DrawV.none' {body:(Nat->Prop)->Prop} (h:∀ D:Nat->Prop,(∀ w w',KeepOn D w w')->body D):DrawV body:=⟨λ_=>False,h _ λ_ _ _ hk=>hk.elim⟩
theorem flip_at {w:World} {B:Nat} {a:Option Addr} {n c:Nat} {xs:List Int} {i:Nat} {X:Int} {K:World->Prop} (ho:Own w B 5 1 a n c (xs.map (Value.int .u8))) (hi:i<8*n) (hX:X=xor8 (xs.getD (i / 8) 0) (2 ^ (i % 8)))
  (hk:∀ w',Own w' B 5 1 a n c ((flip1 xs i).map (Value.int .u8))->Below B w w'->K w') :
  (0<=((i / 8:Nat):Int)/\((i / 8:Nat):Int)<((n:Nat):Int))/\∃ q,a=some q/\StoreV w (q.add ((((i / 8:Nat):Int)).toNat*1)) [.int .u8 X] K:=by
 refine ho.store (by omega) (by omega) rfl λw2 ho2 hb2 _ _=>hk w2 ?_ hb2
 rw [Int.toNat_natCast] at ho2
 unfold flip1
 rw [List.map_set,<- hX]
 exact ho2
theorem load_at {w:World} {B:Nat} {a:Option Addr} {n c:Nat} {xs:List Int} {i:Nat} (ho:Own w B 5 1 a n c (xs.map (Value.int .u8))) (hi:i<8*n) :
  ∃ q,a=some q/\∀ {K:Int->Prop},K (xs.getD (i / 8) 0)->LoadS w (q.add ((((i / 8:Nat):Int)).toNat*1)) (.int .u8) K:=by
 obtain ⟨q,h1,_,h3⟩:=ho.ints.at (i:=((i / 8:Nat):Int)) (by omega) (by omega)
 rw [Int.toNat_natCast (i / 8)] at h3
 refine ⟨q,h1,λ{K} hk=>⟨_,?_,hk⟩⟩
 rw [Int.toNat_natCast]
 exact h3
theorem tflip {x:Int} (hx:0<=x/\x<256) {j:Nat} (hj:j<8):Go.bits .xor .u8 x (IntKind.u8.wrap ((1:Int)*(2 ^ (Nat.min j 8))))=xor8 x (2 ^ j):=by
 have:=f2_0 ⟨j,hj⟩
 dsimp only at this
 rw [this]
 rfl
theorem turned2 {w7:World} {a0:Option Addr} {n0 c0 b1 b3 b5:Nat} {xs:List Int} {F:Nat->Bool} {K:SlV×Unit->World->Prop} (hx:Ints w7 .u8 a0 n0 c0 xs) (bx:Byt xs) (hn:n0<=100000)
  (hcall:∀ (w':World) (i:Nat),Ext w7 w'->i<8*n0->CallV Tryz.prog 283 #[.int .i64 (i:Int),.pointer (some ⟨b5,0,none⟩),.pointer (some ⟨b1,0,none⟩),.pointer (some ⟨b3,0,none⟩)] w' [.one .bool] λr w2=>r.1=F i/\w2=w')
  (hK:∀ (s:SlV) (w':World),Ext w7 w'->Own w' w7.heap.size 5 1 s.a s.n s.c ((turn xs F (8*n0)).map (Value.int .u8))->K (s,()) w') :
 NewV #[] 5 w7 λb33 w34=>
 AppS w34 a0 n0 1 λns39=>
 AppV w34 5 1 1 (some ⟨b33,0,none⟩) 0 0 ns39 n0 λa35 n36 c37 w38=>
 Rng .i64 ((8:Int)*((n36:Nat):Int)) /\
 LoopV [.one (.int .i64)] ((0:Int),()) w38 λ(z40:Int×Unit) w41 (K42:Int×Unit->World->Prop)=>
 cond (decide (z40.1<((8:Int)*((n36:Nat):Int))))
 (CallV Tryz.prog 283 #[.int .i64 z40.1,.pointer (some ⟨b5,0,none⟩),.pointer (some ⟨b1,0,none⟩),.pointer (some ⟨b3,0,none⟩)] w41 [.one .bool] λ(r43:Bool×Unit) w44=>
 cond r43.1
 (DrawV λD45=>
 8≠(0:Int)/\Rng .i64 (Int.tdiv z40.1 8) /\
 (0<=(Int.tdiv z40.1 8)/\(Int.tdiv z40.1 8)<((n36:Nat):Int))/\∃ q46:Addr,a35=some q46 /\
 8≠(0:Int) /\
 (0:Int)<=(Int.tmod z40.1 8) /\
 LoadS w44.drew (q46.add ((Int.tdiv z40.1 8).toNat*1)) (.int .u8) λ(x47:Int)=>
 KeepOn D45 w44.drew w44.drew /\
 (0<=(Int.tdiv z40.1 8)/\(Int.tdiv z40.1 8)<((n36:Nat):Int))/\∃ q48:Addr,a35=some q48 /\
 StoreV w44.drew (q48.add ((Int.tdiv z40.1 8).toNat*1)) [.int .u8 (Go.bits .xor .u8 x47 (IntKind.u8.wrap ((1:Int)*(2 ^ (Nat.min ((Int.tmod z40.1 8)).toNat 8)))))] λw49=>
 KeepOn D45 w44.drew w49 /\
 Rng .i64 (z40.1+1) /\
 K42 (z40.1+1,()) w49)
 (Rng .i64 (z40.1+1) /\
 K42 (z40.1+1,()) w44))
 (K ((⟨a35,n36,c37⟩:SlV),()) w41):=by
 have lx:=hx.len
 refine newU λb1 w1 e1 o1=>?_
 refine appU (xs:=[]) o1 (hx.ext e1) e1.size (by omega) λa2 c2 w2 o2 b2=>?_
 have e2:Ext w7 w2:=Below.trans e1 b2
 rw [Nat.zero_add] at o2 ⊢
 rw [List.nil_append] at o2
 refine ⟨Rng.i64 (by omega) (by omega),?_⟩
 refine Loop1 (λ(y:Int×Unit) w'=>∃ i:Nat,y.1=(i:Int)/\i<=8*n0/\Ext w7 w'/\Own w' w7.heap.size 5 1 a2 n0 c2 ((turn xs F i).map (Value.int .u8)))
  (λ(y:Int×Unit) _=>(8*(n0:Int)-y.1).toNat) ⟨0,rfl,by omega,e2,o2⟩ ?_
 rintro ⟨(y:Int),⟨⟩⟩ w3 ⟨i,hy,hi,e3,o3⟩
 dsimp only at hy ⊢
 subst hy
 refine cond_d (λhlt=>?_) (λhge=>?_)
 ·have hlt':i<8*n0:=by omega
  refine (hcall w3 i e3 hlt').mono ?_
  rintro ⟨(r4:Bool),⟨⟩⟩ w4 ⟨h4,rfl⟩
  dsimp only at h4 ⊢
  subst h4
  refine cond_of (λhF=>?_) (λhF=>?_)
  ·refine DrawV.none' λD hkeep=>?_
   rw [tdiv8,tmod8]
   have o4:=o3.ext (Ext.drew w4)
   obtain ⟨q,hq,hload⟩:=load_at o4 hlt'
   refine ⟨by omega,Rng.i64 (by omega) (by omega),by omega,q,hq,by omega,by omega,hload ⟨hkeep _ _,?_⟩⟩
   rw [Int.toNat_natCast (i % 8)]
   refine flip_at o4 hlt' (tflip ((turn_byt bx F i).getD _) (mod8 i)) λw5 o5 b5=>?_
   refine ⟨hkeep _ _,Rng.i64 (by omega) (by omega),⟨i+1,by push_cast;rfl,by omega,Below.trans (e3.trans (Ext.drew w4)) b5,?_⟩,by omega⟩
   unfold turn
   rw [if_pos hF]
   exact o5
  ·refine ⟨Rng.i64 (by omega) (by omega),⟨i+1,by push_cast;rfl,by omega,e3,?_⟩,by omega⟩
   unfold turn
   rw [if_neg (by rw [hF];simp)]
   exact o3
 ·have:i=8*n0:=by omega
  subst this
  exact hK _ _ e3 o3
def neZ (i:Nat) (z:Int):Bool:=!decide ((i:Int)=z)
def turnF (ys ms:List Int) (last:Int) (i:Nat):Bool:=neZ i last && (hasL ys i && mBit ms i)
theorem turned1_c {w:World} {b1 b3 b5 B1 B3 B5:Nat} {t1 t3 t5:TypeId} {a1 a2:Option Addr} {n1 c1 n2 c2:Nat} {ys ms:List Int} {last:Int} (h5:Box w B5 b5 t5 [.int .i64 last]) (h1:Box w B1 b1 t1 [.slice a1 n1 c1]) (h3:Box w B3 b3 t3 [.slice a2 n2 c2])
  (hy:Ints w .u8 a1 n1 c1 ys) (by':Byt ys) (hm:Ints w .u8 a2 n2 c2 ms) (bm:Byt ms) {i:Nat} (hi:i<8*n1) (hn:n1<=100000) :
  CallV Tryz.prog 283 #[.int .i64 (i:Int),.pointer (some ⟨b5,0,none⟩),.pointer (some ⟨b1,0,none⟩),.pointer (some ⟨b3,0,none⟩)] w [.one .bool] λr w2=>r.1=turnF ys ms last i/\w2=w:=by
 refine fault_turned_1.vc _ _ _ _ _ _ ?_
 unfold fault_turned_1.P
 refine h5.ld (i:=0) (h:=.int .i64) (x:=last) rfl ?_
 unfold turnF neZ
 refine cond_ne (λhne=>?_) (λheq=>⟨by rw [decide_eq_true heq];rfl,rfl⟩)
 rw [decide_eq_false hne]
 refine h1.ld (i:=0) (h:=.sl) (x:=(⟨a1,n1,c1⟩:SlV)) rfl ?_
 rw [tdiv8,tmod8]
 refine ⟨by omega,Rng.i64 (by omega) (by omega),?_⟩
 refine hy.idx (by omega) (by omega) ?_
 rw [Int.toNat_natCast,Int.toNat_natCast]
 refine ⟨by omega,by omega,?_⟩
 rw [f1 (by'.getD _) (mod8 i)]
 refine cond_of (λhb=>?_) (λhb=>⟨?_,rfl⟩)
 ·refine h3.ld (i:=0) (h:=.sl) (x:=(⟨a2,n2,c2⟩:SlV)) rfl ?_
  refine (Bit_c hm bm (by omega)).mono ?_
  rintro ⟨(r4:Bool),⟨⟩⟩ w4 ⟨h4,rfl⟩
  refine ⟨?_,rfl⟩
  dsimp only at h4 ⊢
  rw [h4,mBitZ_nat]
  unfold hasL
  rw [hb]
  rfl
 ·show false=_
  unfold hasL
  rw [hb]
  rfl
theorem turned_c {w:World} {a0 a1 a2:Option Addr} {n c0 c1 n2 c2:Nat} {xs ys ms:List Int} {keep:Bool} (hx:Ints w .u8 a0 n c0 xs) (bx:Byt xs) (hy:Ints w .u8 a1 n c1 ys) (by':Byt ys) (hm:Ints w .u8 a2 n2 c2 ms) (bm:Byt ms) (hn:n<=100000) :
  CallV Tryz.prog 257 #[.slice a0 n c0,.slice a1 n c1,.slice a2 n2 c2,.bool keep] w [.one .sl] λr w'=>Res w w' r.1 (turn xs (turnF ys ms (if keep then lastOf (hasL ys) (8*n) else -1)) (8*n)):=by
 refine fault_turned.vc _ _ _ _ _ _ _ _ _ _ _ _ ?_
 unfold fault_turned.P
 refine newBox (vs:=[.slice a1 n c1]) λb1 w1 e1 hb1=>?_
 refine newBox (vs:=[.slice a2 n2 c2]) λb3 w2 e2 hb3=>?_
 refine newBox (vs:=[.int .i64 0]) λb5 w3 e3 hb5=>?_
 refine hb5.store 0 (by simp) λw4 hb5' bel4 _ _=>?_
 have i1:=hb1.ext e2
 have e4:Ext w2 w4:=Below.trans e3 bel4
 have E2:=e1.trans e2
 have fin:∀ (w7:World) (last:Int),Ext w2 w7->Box w7 w2.heap.size b5 3 [.int .i64 last]->(last=if keep then lastOf (hasL ys) (8*n) else -1) ->
   ∀ (w':World) (i:Nat),Ext w7 w'->i<8*n->CallV Tryz.prog 283 #[.int .i64 (i:Int),.pointer (some ⟨b5,0,none⟩),.pointer (some ⟨b1,0,none⟩),.pointer (some ⟨b3,0,none⟩)] w' [.one .bool] λr w2=>r.1=turnF ys ms (if keep then lastOf (hasL ys) (8*n) else -1) i/\w2=w':=by
  intro w7 last e7 h7 hlast w' i e8 hi
  rw [<-hlast]
  exact turned1_c (h7.ext e8) (i1.ext (e7.trans e8)) (hb3.ext (e7.trans e8)) (hy.ext (E2.trans (e7.trans e8))) by' (hm.ext (E2.trans (e7.trans e8))) bm hi hn
 refine cond_of (λhk=>?_) (λhk=>?_)
 ·refine (i1.ext e4).ld (i:=0) (h:=.sl) (x:=(⟨a1,n,c1⟩:SlV)) rfl ?_
  dsimp only
  refine ⟨Rng.i64 (by omega) (by omega),?_⟩
  refine Loop1 (λ(y:Int×Unit) w'=>∃ i:Nat,y.1=(i:Int)/\i<=8*n/\Ext w2 w'/\Box w' w2.heap.size b5 3 [.int .i64 (lastOf (hasL ys) i)])
   (λ(y:Int×Unit) _=>(8*(n:Int)-y.1).toNat) ⟨0,rfl,by omega,e4,hb5'⟩ ?_
  rintro ⟨(y:Int),⟨⟩⟩ w5 ⟨i,hy',hi,e5,h5⟩
  dsimp only at hy' ⊢
  subst hy'
  refine cond_d (λhlt=>?_) (λhge=>?_)
  ·refine (i1.ext e5).ld (i:=0) (h:=.sl) (x:=(⟨a1,n,c1⟩:SlV)) rfl ?_
   rw [tdiv8,tmod8]
   refine ⟨by omega,Rng.i64 (by omega) (by omega),?_⟩
   refine (hy.ext (E2.trans e5)).idx (by omega) (by omega) ?_
   rw [Int.toNat_natCast,Int.toNat_natCast]
   refine ⟨by omega,by omega,?_⟩
   rw [f1 (by'.getD _) (mod8 i)]
   refine cond_of (λhb=>?_) (λhb=>?_)
   ·refine h5.store 0 (by simp) λw6 h6 bel6 _ _=>?_
    refine ⟨Rng.i64 (by omega) (by omega),⟨i+1,by push_cast;rfl,by omega,Below.trans e5 bel6,?_⟩,by omega⟩
    have:lastOf (hasL ys) (i+1)=(i:Int):=by unfold lastOf;rw [if_pos (show hasL ys i=true from hb)]
    rw [this]
    exact h6
   ·refine ⟨Rng.i64 (by omega) (by omega),⟨i+1,by push_cast;rfl,by omega,e5,?_⟩,by omega⟩
    have:lastOf (hasL ys) (i+1)=lastOf (hasL ys) i:=by
     show (if hasL ys i=true then (i:Int) else lastOf (hasL ys) i)=_
     rw [if_neg (by rw [show hasL ys i=false from hb];simp)]
    rw [this]
    exact h5
  ·have:i=8*n:=by omega
   subst this
   refine turned2 (K:=λs w'=>Res w w' s.1 (turn xs (turnF ys ms (if keep then lastOf (hasL ys) (8*n) else -1)) (8*n))) (F:=turnF ys ms (if keep then lastOf (hasL ys) (8*n) else -1)) (hx.ext (E2.trans e5)) bx hn (fin w5 _ e5 h5 (by rw [if_pos hk])) λs w' e o=>?_
   exact ⟨E2.trans (e5.trans e),o.mono (E2.trans e5).size⟩
 ·refine turned2 (K:=λs w'=>Res w w' s.1 (turn xs (turnF ys ms (if keep then lastOf (hasL ys) (8*n) else -1)) (8*n))) (F:=turnF ys ms (if keep then lastOf (hasL ys) (8*n) else -1)) (hx.ext (E2.trans e4)) bx hn (fin w4 _ e4 hb5' (by rw [hk];rfl)) λs w' e o=>?_
  exact ⟨E2.trans (e4.trans e),o.mono (E2.trans e4).size⟩
def erF (xs ms:List Int) (i:Nat):Bool:=!hasL xs i && mBit ms i
def prC (xs ys:List Int) (i:Nat):Bool:=hasL xs i && !hasL ys i
def prF (xs ys ms:List Int) (fails:Bool) (n:Nat) (i:Nat):Bool:=prC xs ys i && (mBit ms i && !(fails && decide ((i:Int)=lastOf (prC xs ys) (8*n))))
theorem turnF_clr {xs ys ms:List Int} (bx:Byt xs) (by':Byt ys) {n:Nat} (hl:xs.length=n) (keep:Bool) {i:Nat} (hi:i<8*n) :
  turnF (clrL xs ys) ms (if keep then lastOf (hasL (clrL xs ys)) (8*n) else -1) i=prF xs ys ms keep n i:=by
 have hc:∀ j,j<8*n->hasL (clrL xs ys) j=prC xs ys j:=λj hj=>hasL_clr bx by' (by omega)
 have hlast:lastOf (hasL (clrL xs ys)) (8*n)=lastOf (prC xs ys) (8*n):=lastOf_congr hc
 unfold turnF prF neZ
 rw [hc i hi,hlast]
 cases keep
 ·rw [if_neg (by simp),decide_eq_false (by omega:¬ ((i:Int)=-1))]
  cases prC xs ys i <;> cases mBit ms i <;> rfl
 ·rw [if_pos rfl]
  cases prC xs ys i <;> cases mBit ms i <;> cases decide ((i:Int)=lastOf (prC xs ys) (8*n)) <;> rfl
theorem Clear_c {w:World} {a0 a1 a2:Option Addr} {n c0 c1 n2 c2:Nat} {xs ys ms:List Int} (hx:Ints w .u8 a0 n c0 xs) (bx:Byt xs) (hy:Ints w .u8 a1 n c1 ys) (by':Byt ys) (hm:Ints w .u8 a2 n2 c2 ms) (bm:Byt ms) (hn:n<=100000) :
  CallV Tryz.prog 222 #[.slice a0 n c0,.slice a1 n c1,.slice a2 n2 c2] w [.one .sl,.one (.int .i64)] λr w'=>Res w w' r.1 (turn xs (prF xs ys ms false n) (8*n))/\r.2.1=(0:Int):=by
 refine fault_Clear.vc _ _ _ _ _ _ _ _ _ _ _ ?_
 unfold fault_Clear.P
 refine cond_ne (λh=>absurd rfl h) (λ_=>?_)
 refine (cleared_c hx hy hn).mono ?_
 rintro ⟨⟨sa,sn,sc⟩,⟨⟩⟩ w1 h1
 have l1:=h1.ints.len
 rw [clrL_length,hx.len] at l1
 dsimp only at l1 ⊢
 subst l1
 refine (turned_c (keep:=false) (hx.ext h1.ext) bx h1.ints (clrL_byt xs ys) (hm.ext h1.ext) bm hn).mono ?_
 rintro ⟨(s2:SlV),⟨⟩⟩ w2 h2
 dsimp only at h2 ⊢
 rw [turn_congr (λi hi=>turnF_clr bx by' hx.len false hi)] at h2
 exact ⟨h2.after h1.ext,rfl⟩
theorem Fail_c {w:World} {a0 a1 a2:Option Addr} {n c0 c1 n2 c2:Nat} {xs ys ms:List Int} (hx:Ints w .u8 a0 n c0 xs) (bx:Byt xs) (hy:Ints w .u8 a1 n c1 ys) (by':Byt ys) (hm:Ints w .u8 a2 n2 c2 ms) (bm:Byt ms) (hn:n<=100000) :
  CallV Tryz.prog 253 #[.slice a0 n c0,.slice a1 n c1,.slice a2 n2 c2] w [.one .sl,.one (.int .i64)] λr w'=>Res w w' r.1 (turn xs (prF xs ys ms true n) (8*n))/\r.2.1=(0:Int):=by
 refine fault_Fail.vc _ _ _ _ _ _ _ _ _ _ _ ?_
 unfold fault_Fail.P
 refine cond_ne (λh=>absurd rfl h) (λ_=>?_)
 refine (cleared_c hx hy hn).mono ?_
 rintro ⟨⟨sa,sn,sc⟩,⟨⟩⟩ w1 h1
 have l1:=h1.ints.len
 rw [clrL_length,hx.len] at l1
 dsimp only at l1 ⊢
 subst l1
 refine (turned_c (keep:=true) (hx.ext h1.ext) bx h1.ints (clrL_byt xs ys) (hm.ext h1.ext) bm hn).mono ?_
 rintro ⟨(s2:SlV),⟨⟩⟩ w2 h2
 dsimp only at h2 ⊢
 rw [turn_congr (λi hi=>turnF_clr bx by' hx.len true hi)] at h2
 exact ⟨h2.after h1.ext,rfl⟩
theorem Set_c {w:World} {a0 a1:Option Addr} {n c0 n1 c1:Nat} {xs ms:List Int} (hx:Ints w .u8 a0 n c0 xs) (bx:Byt xs) (hm:Ints w .u8 a1 n1 c1 ms) (bm:Byt ms) (hn:n<=60000) :
  CallV Tryz.prog 215 #[.slice a0 n c0,.slice a1 n1 c1] w [.one .sl] λr w'=>Res w w' r.1 (turn xs (erF xs ms) (8*n)):=by
 refine fault_Set.vc _ _ _ _ _ _ _ _ ?_
 unfold fault_Set.P
 refine (Invert_c hx (by omega)).mono ?_
 rintro ⟨⟨sa,sn,sc⟩,⟨⟩⟩ w1 h1
 have l1:=h1.ints.len
 rw [show (invL xs).length=n by rw [<-hx.len];simp [invL]] at l1
 dsimp only at l1 ⊢
 subst l1
 refine (turned_c (keep:=false) (hx.ext h1.ext) bx h1.ints (invL_byt xs) (hm.ext h1.ext) bm (by omega)).mono ?_
 rintro ⟨(s2:SlV),⟨⟩⟩ w2 h2
 dsimp only at h2 ⊢
 rw [turn_congr (f':=erF xs ms) (λi hi=>by
  unfold turnF erF neZ
  rw [hasL_inv bx (by have:=hx.len;omega),if_neg (by simp),decide_eq_false (by omega:¬ ((i:Int)=-1))]
  rfl)] at h2
 exact h2.after h1.ext
end Go.Proofs.YtbaojfchlhlaeaaGreat.Vc
namespace Go.Proofs.YtbaojfchlhlaeaaGreat.Vc
open Go Go.Eng Go.RowKit Go.ChangeShapes
theorem wfRng {k:IntKind} {n:Int} (h:(Lit.int k n).wf=true):Rng k n:=by
 simpa [Lit.wf,Rng] using h
structure SlI (W:World) (k:IntKind) (a:Option Addr) (n c:Nat) (l:List Int) (b:Nat):Prop where
 ints:Ints W k a n c l
 rng:∀ x∈l,Rng k x
 size:n*b<=140737488351232
theorem openInts {H:Type} {enc:TypeId×Value->H} {P:Program} {W:World} {t e:TypeId} {k:IntKind} (ht:P.underlying t=some (.slice e)) (he:P.underlying e=some (.int k)) (hc:P.cellsOf e=1)
  {ts:List TypeId} {ds:List (DataW H)} {j:Nat} {d:DataW H} (htj:ts[j]? = some t) (hdj:ds[j]? = some d) (hsz:(DataW.weightsEach P ts ds).all (·<=reachBytes)=true)
  {a:Option Addr} {n c:Nat} {ps:List MemPlace} (h:DataW.Trod enc P W 0 (λ_=>true) true t (.slice a n c) d ps):∃ l,SlI W k a n c l (P.bytesOf e):=by
 obtain ⟨fuel,hf⟩:=h
 rcases open_ints ht he hc hf with ⟨hcs,hx⟩ | ⟨x,len,cap,zs,hcs,_,hl,hm,hz,hx,hcell,hwz⟩
 ·simp [Value.cells] at hcs
  obtain ⟨rfl,rfl,rfl⟩:=hcs
  exact ⟨[],⟨rfl,Nat.le_refl _,by omega,.inl ⟨rfl,rfl⟩⟩,by simp,by simp⟩
 ·simp [Value.cells] at hcs
  obtain ⟨rfl,rfl,rfl⟩:=hcs
  simp only [if_true] at hz
  have hdd:d=.slice (lits k (zs.take n)) (lits k (zs.drop n)):=congrArg Prod.fst hx
  subst hdd
  have hb:=sized_slice hsz htj hdj ht
  rw [show (lits k (zs.take n):List (DataW H)).length+(lits k (zs.drop n):List (DataW H)).length=c by simp [lits];omega] at hb
  have hml:maxLen=9223372036854775807:=by decide
  have hll:(zs.take n).length=n:=by simp;omega
  refine ⟨zs.take n,⟨hll,hl,by omega,.inr ⟨x,rfl,λi v hv=>?_⟩⟩,λy hy=>wfRng (hwz y (List.mem_of_mem_take hy)),?_⟩
  ·obtain ⟨hi,rfl⟩:=List.getElem?_eq_some_iff.1 hv
   rw [List.length_map,hll] at hi
   rw [hcell i (by omega),List.getElem_map,List.getElem_take,List.getD_eq_getElem?_getD,List.getElem?_eq_getElem (by omega),Option.getD_some]
  ·refine Nat.le_trans (Nat.mul_le_mul_right _ hl) ?_
   exact hb
theorem rng_u8 {x:Int} (h:Rng .u8 x):0<=x/\x<256:=by
 unfold Rng at h
 have e1:IntKind.u8.min=0:=by decide
 have e2:IntKind.u8.max=255:=by decide
 omega
inductive Ty where
 | int (k:IntKind)
 | bool
 | str
 | sl (e:Ty)
 | nil
 | cons (a r:Ty)
structure SlP (α:Type) where
 a:Option Addr
 n:Nat
 c:Nat
 l:List α
@[reducible] def Ty.T:Ty->Type
 | .int _=>Int
 | .bool=>Bool
 | .str=>ByteArray
 | .sl e=>SlP e.T
 | .nil=>Unit
 | .cons a r=>a.T×r.T
def Ty.vs:(t:Ty)->t.T->List Value
 | .int k,(x:Int)=>[.int k x]
 | .bool,(x:Bool)=>[.bool x]
 | .str,(x:ByteArray)=>[.string x]
 | .sl e,(x:SlP e.T)=>[.slice x.a x.n x.c]
 | .nil,_=>[]
 | .cons a r,(x:a.T×r.T)=>a.vs x.1++r.vs x.2
def Ty.ok (w:World):(t:Ty)->t.T->Prop
 | .int k,(x:Int)=>Rng k x
 | .bool,_=>True
 | .str,(x:ByteArray)=>x.size<=maxLen
 | .sl e,(x:SlP e.T)=>x.l.length=x.n/\x.n<=x.c/\x.c<=maxLen/\RdC w x.a (x.l.flatMap e.vs)/\∀ y∈x.l,e.ok w y
 | .nil,_=>True
 | .cons a r,(x:a.T×r.T)=>a.ok w x.1/\r.ok w x.2
def Ty.n:Ty->Nat
 | .nil=>0
 | .cons a r=>a.n+r.n
 | _=>1
theorem Ty.vs_length:∀ (t:Ty) (x:t.T),(t.vs x).length=t.n
 | .int k,x=>rfl
 | .bool,x=>rfl
 | .str,x=>rfl
 | .sl e,x=>rfl
 | .nil,x=>rfl
 | .cons a r,x=>by
  show (a.vs x.1++r.vs x.2).length=_
  rw [List.length_append,Ty.vs_length a,Ty.vs_length r];rfl
def confF (P:Program) (cf:Ty->TypeId->Bool):Ty->List Field->Nat->Bool
 | .nil,[],_=>true
 | .cons a r,f::fs,o=>f.offset == o && cf a f.type && P.cellsOf f.type == a.n && confF P cf r fs (o+a.n)
 | _,_,_=>false
def confA (P:Program) (cf:Ty->TypeId->Bool) (e:TypeId):Ty->Nat->Bool
 | .nil,0=>true
 | .cons a r,n+1=>cf a e && P.cellsOf e == a.n && confA P cf e r n
 | _,_=>false
def conf (P:Program):Nat->Ty->TypeId->Bool
 | 0,_,_=>false
 | d+1,t,i=>
  match P.underlying i,t with
  | some (.int k),.int k'=>decide (k=k')
  | some .bool,.bool=>true
  | some .string,.str=>true
  | some (.slice e),.sl t=>conf P d t e && P.cellsOf e == t.n
  | some (.struct fs),t=>confF P (conf P d) t fs.toList 0 && P.cellsOf i == t.n
  | some (.array n e),t=>confA P (conf P d) e t n && P.cellsOf i == t.n
  | _,_=>false
theorem CellsAt.append' {w:World} {p:Addr} {xs ys:List Value} (h:CellsAt w p xs) (h':CellsAt w (p.add xs.length) ys):CellsAt w p (xs++ys):=by
 intro j v hv
 by_cases hj:j<xs.length
 ·rw [List.getElem?_append_left hj] at hv;exact h j v hv
 ·rw [List.getElem?_append_right (by omega)] at hv
  have:=h' _ v hv
  rwa [add_add,show xs.length+(j-xs.length)=j by omega] at this
section
variable {H:Type} {enc:TypeId×Value->H} {P:Program} {w:World}
def Opens (enc:TypeId×Value->H) (P:Program) (w:World) (d:Nat):Prop:=
 ∀ (ty:Ty) (t:TypeId) (fuel:Nat) (cs:List Value) (x:DataW H×List MemPlace),conf P d ty t=true->DataW.trod enc P w 0 (λ_=>true) true fuel t cs=some x->∃ v:ty.T,cs=ty.vs v/\ty.ok w v
theorem openF {d:Nat} (ih:Opens enc P w d) {n:Nat} {cs:List Value}:∀ (ty:Ty) (fs:List Field) (o:Nat),confF P (conf P d) ty fs o=true->cs.length=o+ty.n ->
  (∀ f∈fs,∃ y,DataW.trod enc P w 0 (λ_=>true) true n f.type ((cs.drop f.offset).take (P.cellsOf f.type))=some y)->∃ v:ty.T,cs.drop o=ty.vs v/\ty.ok w v
 | .nil,[],o,hc,hl,hf=>⟨(),by simp [Ty.vs,hl,Ty.n],trivial⟩
 | .cons a r,f::fs,o,hc,hl,hf=>by
  simp only [confF,Bool.and_eq_true,beq_iff_eq] at hc
  obtain ⟨⟨⟨h1,h2⟩,h3⟩,h4⟩:=hc
  obtain ⟨y,hy⟩:=hf f (List.mem_cons_self ..)
  obtain ⟨v1,e1,o1⟩:=ih a f.type n _ y h2 hy
  obtain ⟨v2,e2,o2⟩:=openF ih r fs (o+a.n) h4 (by rw [hl];simp [Ty.n];omega) (λf' hf'=>hf f' (List.mem_cons_of_mem _ hf'))
  refine ⟨(v1,v2),?_,o1,o2⟩
  show _=a.vs v1++r.vs v2
  rw [<-e1,<- e2,h1,h3,<- List.drop_drop,List.take_append_drop]
 | .int _,[],_,hc,_,_=>by simp [confF] at hc
 | .int _,_::_,_,hc,_,_=>by simp [confF] at hc
 | .bool,[],_,hc,_,_=>by simp [confF] at hc
 | .bool,_::_,_,hc,_,_=>by simp [confF] at hc
 | .str,[],_,hc,_,_=>by simp [confF] at hc
 | .str,_::_,_,hc,_,_=>by simp [confF] at hc
 | .sl _,[],_,hc,_,_=>by simp [confF] at hc
 | .sl _,_::_,_,hc,_,_=>by simp [confF] at hc
 | .nil,_::_,_,hc,_,_=>by simp [confF] at hc
 | .cons _ _,[],_,hc,_,_=>by simp [confF] at hc
theorem openA {d:Nat} (ih:Opens enc P w d) {n:Nat} {cs:List Value} {e:TypeId}:∀ (ty:Ty) (m:Nat) (i:Nat),confA P (conf P d) e ty m=true->cs.length=i*P.cellsOf e+ty.n ->
  (∀ j,j<i+m->∃ y,DataW.trod enc P w 0 (λ_=>true) true n e ((cs.drop (j*P.cellsOf e)).take (P.cellsOf e))=some y)->∃ v:ty.T,cs.drop (i*P.cellsOf e)=ty.vs v/\ty.ok w v
 | .nil,0,i,hc,hl,hf=>⟨(),by simp [Ty.vs,hl,Ty.n],trivial⟩
 | .cons a r,m+1,i,hc,hl,hf=>by
  simp only [confA,Bool.and_eq_true,beq_iff_eq] at hc
  obtain ⟨⟨h2,h3⟩,h4⟩:=hc
  obtain ⟨y,hy⟩:=hf i (by omega)
  obtain ⟨v1,e1,o1⟩:=ih a e n _ y h2 hy
  obtain ⟨v2,e2,o2⟩:=openA ih r m (i+1) h4 (by rw [hl,Nat.add_mul,h3];simp [Ty.n];omega) (λj hj=>hf j (by omega))
  refine ⟨(v1,v2),?_,o1,o2⟩
  show _=a.vs v1++r.vs v2
  rw [<-e1,<- e2,Nat.add_mul,Nat.one_mul,<- List.drop_drop,List.take_append_drop]
 | .int _,0,_,hc,_,_=>by simp [confA] at hc
 | .int _,_+1,_,hc,_,_=>by simp [confA] at hc
 | .bool,0,_,hc,_,_=>by simp [confA] at hc
 | .bool,_+1,_,hc,_,_=>by simp [confA] at hc
 | .str,0,_,hc,_,_=>by simp [confA] at hc
 | .str,_+1,_,hc,_,_=>by simp [confA] at hc
 | .sl _,0,_,hc,_,_=>by simp [confA] at hc
 | .sl _,_+1,_,hc,_,_=>by simp [confA] at hc
 | .nil,_+1,_,hc,_,_=>by simp [confA] at hc
 | .cons _ _,0,_,hc,_,_=>by simp [confA] at hc
theorem openS {d:Nat} (ih:Opens enc P w d) {ty:Ty} {e:TypeId} (hc:conf P d ty e=true) (hn:P.cellsOf e=ty.n) {a:Addr} {len m:Nat}
  (h:∀ i,i<len->∃ y,(w.cells? 0 (a.add (i*P.cellsOf e)) (P.cellsOf e)).bind (DataW.trod enc P w 0 (λ_=>true) true m e)=some y) :
  ∃ l:List ty.T,l.length=len/\CellsAt w a (l.flatMap ty.vs)/\∀ y∈l,ty.ok w y:=by
 induction len with
 | zero=>exact ⟨[],rfl,λj v hv=>by simp at hv,λy hy=>(List.not_mem_nil hy).elim⟩
 | succ k ih2=>
  obtain ⟨l,hl,hcl,hol⟩:=ih2 λi hi=>h i (by omega)
  obtain ⟨y,hy⟩:=h k (by omega)
  obtain ⟨c,hcs,ht⟩:=Option.bind_eq_some_iff.1 hy
  obtain ⟨v,e1,o1⟩:=ih ty e m c y hc ht
  obtain ⟨_,hlen,hcell⟩:=World.cells?_some hcs
  refine ⟨l++[v],by simp [hl],?_,?_⟩
  ·rw [List.flatMap_append,List.flatMap_singleton]
   refine CellsAt.append' hcl ?_
   have:(l.flatMap ty.vs).length=k*P.cellsOf e:=by
    rw [hn,<- hl]
    clear hcl hol hl
    induction l with
    | nil=>simp
    | cons z l ih3=>rw [List.flatMap_cons,List.length_append,Ty.vs_length,ih3,List.length_cons,Nat.add_mul];omega
   rw [this]
   intro j u hu
   rw [<-e1] at hu
   have hj:j<P.cellsOf e:=by rw [<-hlen];exact (List.getElem?_eq_some_iff.1 hu).1
   rw [hcell j hj,hu]
  ·intro y hy
   rcases List.mem_append.1 hy with h1 | h1
   ·exact hol y h1
   ·rw [List.mem_singleton.1 h1];exact o1
theorem opens:∀ d:Nat,Opens enc P w d
 | 0=>λty t fuel cs x hc=>by simp [conf] at hc
 | d+1=>by
  have ih:=opens d
  intro ty t fuel cs x hc h
  unfold conf at hc
  split at hc
  ·rename_i k k' ht
   obtain ⟨n,rfl,_,hw⟩:=DataW.trod_int ht h
   have:=of_decide_eq_true hc
   subst this
   exact ⟨n,rfl,wfRng hw⟩
  ·rename_i ht
   obtain ⟨b,rfl,_⟩:=DataW.trod_bool ht h
   exact ⟨b,rfl,trivial⟩
  ·rename_i ht
   obtain ⟨s,rfl,_,hs⟩:=DataW.trod_string ht h
   exact ⟨s,rfl,hs⟩
  ·rename_i e t' ht
   simp only [Bool.and_eq_true,beq_iff_eq] at hc
   obtain ⟨hc1,hc2⟩:=hc
   rcases DataW.trod_slice ht h with ⟨rfl,_⟩ | ⟨a,len,cap,elems,rest,n,_,rfl,rfl,hb,hl,hm,hlen,hel,_⟩
   ·exact ⟨⟨none,0,0,[]⟩,rfl,rfl,Nat.le_refl _,Nat.zero_le _,.inl ⟨rfl,rfl⟩,λy hy=>(List.not_mem_nil hy).elim⟩
   ·obtain ⟨l,h1,h2,h3⟩:=openS ih hc1 hc2 (a:=a) (len:=len) (m:=n) λi hi=>⟨elems[i]'(by omega),by rw [hel i hi,List.getElem?_eq_getElem (by omega)]⟩
    exact ⟨⟨some a,len,cap,l⟩,rfl,h1,hl,hm,.inr ⟨a,rfl,h2⟩,h3⟩
  ·rename_i ty _ _ fs ht
   simp only [Bool.and_eq_true,beq_iff_eq] at hc
   obtain ⟨xs,n,_,_,hl,hlen,hf⟩:=DataW.trod_struct ht h
   have:=openF ih (n:=n) (cs:=cs) ty fs.toList 0 hc.1 (by rw [hl,hc.2];omega) λf hmem=>by
    obtain ⟨i,hi,rfl⟩:=List.mem_iff_getElem.1 hmem
    have:=hf i fs.toList[i] (by simp at hi⊢)
    refine ⟨xs[i]'(by simp at hi;omega),?_⟩
    rw [this,List.getElem?_eq_getElem (by simp at hi;omega)]
   simpa using this
  ·rename_i ty _ _ n e ht
   simp only [Bool.and_eq_true,beq_iff_eq] at hc
   obtain ⟨xs,m,_,_,hl,hlen,hf⟩:=DataW.trod_array ht h
   have:=openA ih (n:=m) (cs:=cs) ty n 0 hc.1 (by rw [hl,hc.2];omega) λj hj=>⟨xs[j]'(by omega),by rw [hf j (by omega),List.getElem?_eq_getElem (by omega)]⟩
   simpa using this
  ·cases hc
theorem openAgg {ty:Ty} {t:TypeId} {cs:Array Value} {d:Nat} {x:DataW H} {ps:List MemPlace} (hc:conf P d ty t=true) (h:DataW.Trod enc P w 0 (λ_=>true) true t (.agg cs) x ps):∃ v:ty.T,Value.agg cs=.agg (ty.vs v).toArray/\ty.ok w v:=by
 obtain ⟨fuel,hf⟩:=h
 obtain ⟨v,e,o⟩:=opens d ty t fuel _ _ hc hf
 refine ⟨v,?_,o⟩
 rw [<-e]
 simp [Value.cells]
end
end Go.Proofs.YtbaojfchlhlaeaaGreat.Vc
namespace Go.Proofs.YtbaojfchlhlaeaaGreat.Vc
open Go Go.Eng Go.RowKit
def Kp (G:Nat->Prop) (w w':World):Prop:=∀ k,G k->k<w.heap.size->w'.heap[k]? = w.heap[k]?
abbrev All:Nat->Prop:=λ_=>True
theorem Ext_kp {w w':World} (e:Ext w w') (G:Nat->Prop):Kp G w w':=λk _ hk=>e.block k hk
theorem cells_kp {w w':World} {p:Addr} {vs:List Value} (hc:CellsAt w p vs) (h:vs≠[]->w'.heap[p.block]? = w.heap[p.block]?):CellsAt w' p vs:=by
 cases vs with
 | nil=>exact CellsAt.nil
 | cons v vs=>exact cells_same (h (by simp)) hc
def RdG (w:World) (G:Nat->Prop) (a:Option Addr) (vs:List Value):Prop:=(a=none/\vs=[])\/∃ p,a=some p/\CellsAt w p vs/\(vs≠[]->G p.block)
theorem RdG.rdc {w:World} {G:Nat->Prop} {a:Option Addr} {vs:List Value} (h:RdG w G a vs):RdC w a vs:=h.imp id λ⟨p,h1,h2,_⟩=>⟨p,h1,h2⟩
theorem RdG.of {w:World} {a:Option Addr} {vs:List Value} (h:RdC w a vs):RdG w All a vs:=h.imp id λ⟨p,h1,h2⟩=>⟨p,h1,h2,λ_=>trivial⟩
theorem RdG.kp {w w':World} {G:Nat->Prop} {a:Option Addr} {vs:List Value} (h:RdG w G a vs) (k:Kp G w w'):RdG w' G a vs:=by
 rcases h with h | ⟨p,h1,h2,h3⟩
 ·exact .inl h
 ·refine .inr ⟨p,h1,cells_kp h2 λhne=>?_,h3⟩
  cases vs with
  | nil=>exact absurd rfl hne
  | cons v vs=>exact k _ (h3 hne) (cells_lt h2)
theorem RdG.mono {w:World} {G G':Nat->Prop} {a:Option Addr} {vs:List Value} (h:RdG w G a vs) (hg:∀ k,G k->k<w.heap.size->G' k):RdG w G' a vs:=by
 rcases h with h | ⟨p,h1,h2,h3⟩
 ·exact .inl h
 ·refine .inr ⟨p,h1,h2,λhne=>?_⟩
  cases vs with
  | nil=>exact absurd rfl hne
  | cons v vs=>exact hg _ (h3 hne) (cells_lt h2)
def Ty.rd (w:World) (G:Nat->Prop):(t:Ty)->t.T->Prop
 | .int k,(x:Int)=>Rng k x
 | .bool,_=>True
 | .str,(x:ByteArray)=>x.size<=maxLen
 | .sl e,(x:SlP e.T)=>x.l.length=x.n/\x.n<=x.c/\x.n<=maxLen/\RdG w G x.a (x.l.flatMap e.vs)/\∀ y∈x.l,e.rd w G y
 | .nil,_=>True
 | .cons a r,(x:a.T×r.T)=>a.rd w G x.1/\r.rd w G x.2
@[reducible] def Ty.D:Ty->Type
 | .int _=>Int
 | .bool=>Bool
 | .str=>ByteArray
 | .sl e=>List e.D
 | .nil=>Unit
 | .cons a r=>a.D×r.D
def Ty.dat:(t:Ty)->t.T->t.D
 | .int _,(x:Int)=>x
 | .bool,(x:Bool)=>x
 | .str,(x:ByteArray)=>x
 | .sl e,(x:SlP e.T)=>x.l.map e.dat
 | .nil,_=>()
 | .cons a r,(x:a.T×r.T)=>(a.dat x.1,r.dat x.2)
theorem Ty.rd_of {w:World}:∀ (t:Ty) {x:t.T},t.ok w x->t.rd w All x
 | .int _,_,h=>h
 | .bool,_,_=>trivial
 | .str,_,h=>h
 | .sl e,x,h=>⟨h.1,h.2.1,Nat.le_trans h.2.1 h.2.2.1,.of h.2.2.2.1,λy hy=>e.rd_of (h.2.2.2.2 y hy)⟩
 | .nil,_,_=>trivial
 | .cons a r,x,h=>⟨a.rd_of h.1,r.rd_of h.2⟩
theorem Ty.rd_kp {w w':World} {G:Nat->Prop} (k:Kp G w w'):∀ (t:Ty) {x:t.T},t.rd w G x->t.rd w' G x
 | .int _,_,h=>h
 | .bool,_,_=>trivial
 | .str,_,h=>h
 | .sl e,x,h=>⟨h.1,h.2.1,h.2.2.1,h.2.2.2.1.kp k,λy hy=>e.rd_kp k (h.2.2.2.2 y hy)⟩
 | .nil,_,_=>trivial
 | .cons a r,x,h=>⟨a.rd_kp k h.1,r.rd_kp k h.2⟩
theorem Ty.rd_mono {w:World} {G G':Nat->Prop} (hg:∀ k,G k->k<w.heap.size->G' k):∀ (t:Ty) {x:t.T},t.rd w G x->t.rd w G' x
 | .int _,_,h=>h
 | .bool,_,_=>trivial
 | .str,_,h=>h
 | .sl e,x,h=>⟨h.1,h.2.1,h.2.2.1,h.2.2.2.1.mono hg,λy hy=>e.rd_mono hg (h.2.2.2.2 y hy)⟩
 | .nil,_,_=>trivial
 | .cons a r,x,h=>⟨a.rd_mono hg h.1,r.rd_mono hg h.2⟩
theorem Ty.rd_ext {w w':World} {G:Nat->Prop} (e:Ext w w') (t:Ty) {x:t.T} (h:t.rd w G x):t.rd w' G x:=t.rd_kp (Ext_kp e G) h
theorem flat_len {α:Type} {f:α->List Value} {m:Nat} (hm:∀ x,(f x).length=m):∀ (l:List α),(l.flatMap f).length=l.length*m
 | []=>by simp
 | x::l=>by rw [List.flatMap_cons,List.length_append,hm,flat_len hm l,List.length_cons,Nat.add_mul];omega
theorem flat_get {α:Type} {f:α->List Value} {m:Nat} (hm:∀ x,(f x).length=m):∀ {l:List α} {i:Nat} {y:α},l[i]? = some y->∀ {j:Nat} {v:Value},(f y)[j]? = some v->(l.flatMap f)[i*m+j]? = some v
 | [],i,y,h,j,v,hv=>by simp at h
 | x::l,0,y,h,j,v,hv=>by
  simp at h;subst h
  rw [List.flatMap_cons,Nat.zero_mul,Nat.zero_add,List.getElem?_append_left (List.getElem?_eq_some_iff.1 hv).1]
  exact hv
 | x::l,i+1,y,h,j,v,hv=>by
  rw [List.getElem?_cons_succ] at h
  rw [List.flatMap_cons,List.getElem?_append_right (by rw [hm,Nat.add_mul];omega),hm,show (i+1)*m+j-m=i*m+j by rw [Nat.add_mul];omega]
  exact flat_get hm h hv
theorem CellsAt.nth {w:World} {p:Addr} {α:Type} {f:α->List Value} {m:Nat} (hm:∀ x,(f x).length=m) {l:List α} (h:CellsAt w p (l.flatMap f)) {i:Nat} {y:α} (hy:l[i]? = some y):CellsAt w (p.add (i*m)) (f y):=by
 intro j v hv
 rw [add_add]
 exact h _ _ (flat_get hm hy hv)
theorem Ty.nth {w:World} {G:Nat->Prop} {e:Ty} {x:SlP e.T} (h:(Ty.sl e).rd w G x) {i:Int} (h0:0<=i) (h1:i<(x.n:Int)) (he:0<e.n) :
  ∃ q y,x.a=some q/\x.l[i.toNat]? = some y/\CellsAt w (q.add (i.toNat*e.n)) (e.vs y)/\e.rd w G y/\G q.block/\q.block<w.heap.size:=by
 obtain ⟨hl,_,_,hr,hy⟩:=h
 have hi:i.toNat<x.l.length:=by omega
 have hget:x.l[i.toNat]? = some x.l[i.toNat]:=List.getElem?_eq_getElem hi
 rcases hr with ⟨_,h2⟩ | ⟨q,hq,hc,hG⟩
 ·have:=flat_len (λz=>e.vs_length z) x.l
  have h3:=Nat.mul_pos (show 0<x.l.length by omega) he
  rw [h2,List.length_nil] at this
  omega
 ·have hne:x.l.flatMap e.vs≠[]:=by
   intro hh
   have:=flat_len (λz=>e.vs_length z) x.l
   have h3:=Nat.mul_pos (show 0<x.l.length by omega) he
   rw [hh,List.length_nil] at this
   omega
  refine ⟨q,x.l[i.toNat],hq,hget,CellsAt.nth (λz=>e.vs_length z) hc hget,hy _ (List.getElem_mem hi),hG hne,?_⟩
  cases hf:x.l.flatMap e.vs with
  | nil=>exact absurd hf hne
  | cons v vs=>rw [hf] at hc;exact cells_lt hc
theorem flat_ints (k:IntKind) (l:List Int):l.flatMap (Ty.int k).vs=l.map (Value.int k):=by
 induction l with
 | nil=>rfl
 | cons x l ih=>rw [List.flatMap_cons,ih];rfl
theorem Ty.ints {w:World} {G:Nat->Prop} {k:IntKind} {x:SlP Int} (h:(Ty.sl (.int k)).rd w G x):Ints w k x.a x.n x.c x.l:=by
 obtain ⟨hl,hc,hm,hr,_⟩:=h
 have hml:maxLen=9223372036854775807:=by decide
 refine ⟨hl,hc,by omega,?_⟩
 have:=hr.rdc
 rw [show x.l.flatMap (Ty.int k).vs=x.l.map (Value.int k) from flat_ints k x.l] at this
 exact this
theorem Ty.byt {w:World} {G:Nat->Prop} {x:SlP Int} (h:(Ty.sl (.int .u8)).rd w G x):Byt x.l:=λy hy=>rng_u8 (h.2.2.2.2 y hy)
theorem dat_ints {k:IntKind} (l:List Int):l.map (Ty.int k).dat=l:=by
 induction l with
 | nil=>rfl
 | cons x l ih=>rw [List.map_cons,ih];rfl
abbrev TF:Ty:=.cons (.int .i64) (.cons .bool (.cons (.sl (.int .u8)) .nil))
abbrev LF:Ty:=.sl TF
abbrev FD:Type:=Int×Bool×List Int×Unit
def FRight (l:List FD):Prop:=(∀ f∈l,0<=f.1/\f.2.2.1.length<=64)/\l.length<=64
instance (l:List FD):Decidable (FRight l):=by unfold FRight;infer_instance
def atF (l:List FD) (n:Int):Option FD:=l.find? λf=>f.1 == n
def atI (l:List FD) (n:Int):Option Nat:=l.findIdx? λf=>f.1 == n
theorem TF_dat (f:TF.T):TF.dat f=(f.1,f.2.1,f.2.2.1.l,()):=by
 show (f.1,f.2.1,f.2.2.1.l.map _,())=_
 rw [show f.2.2.1.l.map (Ty.int .u8).dat=f.2.2.1.l from dat_ints f.2.2.1.l]
theorem ldF {w:World} {p:Addr} {f:TF.T} (hc:CellsAt w p (TF.vs f)) {K:Int×Bool×SlV×Unit->Prop} (hk:K (f.1,f.2.1,⟨f.2.2.1.a,f.2.2.1.n,f.2.2.1.c⟩,())):LoadA w p [.int .i64,.bool,.sl] K:=
 ldaC (l:=[.int .i64,.bool,.sl]) hc (f.1,f.2.1,⟨f.2.2.1.a,f.2.2.1.n,f.2.2.1.c⟩,()) rfl hk
theorem LF_nth {w:World} {G:Nat->Prop} {x:SlP TF.T} (h:LF.rd w G x) {i:Int} (h0:0<=i) (h1:i<(x.n:Int)) :
  ∃ q y,x.a=some q/\x.l[i.toNat]? = some y/\CellsAt w (q.add (i.toNat*3)) (TF.vs y)/\TF.rd w G y/\G q.block/\q.block<w.heap.size:=Ty.nth (e:=TF) h h0 h1 (by decide)
theorem TF_len {w:World} {G:Nat->Prop} {y:TF.T} (h:TF.rd w G y):y.2.2.1.l.length=y.2.2.1.n:=h.2.2.1.1
def fds (x:SlP TF.T):List FD:=LF.dat x
theorem LF_len {w:World} {G:Nat->Prop} {x:SlP TF.T} (h:LF.rd w G x):(fds x).length=x.n:=by show (x.l.map TF.dat).length=_;rw [List.length_map];exact h.1
theorem LF_lim {w:World} {G:Nat->Prop} {x:SlP TF.T} (h:LF.rd w G x):x.n<=9223372036854775807:=by have h1:=h.2.2.1;have h2:maxLen=9223372036854775807:=(by decide);omega
theorem LF_get {x:SlP TF.T} {i:Nat} {y:TF.T} (h:x.l[i]? = some y):(fds x)[i]? = some (y.1,y.2.1,y.2.2.1.l,()):=by rw [<-TF_dat];show (x.l.map TF.dat)[i]? = _;rw [List.getElem?_map,h];rfl
theorem find_step {l:List FD} {n:Int} {i:Nat} (h:∀ (j:Nat) (f:FD),j<i->l[j]? = some f->f.1≠n) {f:FD} (hf:l[i]? = some f) (hn:f.1=n):atF l n=some f/\atI l n=some i:=by
 induction i generalizing l with
 | zero=>
  cases l with
  | nil=>simp at hf
  | cons x l=>simp at hf;subst hf;subst hn;simp [atF,atI,List.findIdx?_cons]
 | succ i ih=>
  cases l with
  | nil=>simp at hf
  | cons x l=>
   have h0:=h 0 x (by omega) rfl
   have hb:(x.1 == n)=false:=by simpa using h0
   obtain ⟨h1,h2⟩:=ih (l:=l) (λj f hj hf=>h (j+1) f (by omega) (by simpa using hf)) (by simpa using hf)
   unfold atF atI at *
   simp only [List.find?_cons,List.findIdx?_cons,hb,h1,h2,Bool.false_eq_true,if_false,Option.map_some]
   exact ⟨trivial,trivial⟩
theorem find_none {l:List FD} {n:Int} (h:∀ (j:Nat) (f:FD),l[j]? = some f->f.1≠n):atF l n=none/\atI l n=none:=by
 have h1:∀ f∈l,¬ (f.1 == n)=true:=λf hf=>by
  obtain ⟨j,hj,rfl⟩:=List.mem_iff_getElem.1 hf
  simpa using h j _ (List.getElem?_eq_getElem hj)
 exact ⟨List.find?_eq_none.2 h1,List.findIdx?_eq_none_iff.2 λf hf=>by simpa using h1 f hf⟩
theorem FRight_iff {l:List FD}:FRight l↔(∀ (j:Nat) (f:FD),l[j]? = some f->0<=f.1/\f.2.2.1.length<=64)/\l.length<=64:=by
 unfold FRight
 refine and_congr_left λ_=>⟨λh j f hf=>h f (List.mem_of_getElem? hf),λh f hf=>?_⟩
 obtain ⟨j,hj,rfl⟩:=List.mem_iff_getElem.1 hf
 exact h j _ (List.getElem?_eq_getElem hj)
abbrev zF:List Value:=[.int .i64 0,.bool false,.slice none 0 0]
theorem newF {w:World} {K:Nat->World->Prop} (h:∀ b w1,Ext w w1->Box w1 w.heap.size b 88 zF->K b w1):NewV #[.int .i64 0,.bool false,.slice none 0 0] 88 w K:=newBox h
theorem FCheck_c {w:World} {G:Nat->Prop} {x:SlP TF.T} (hx:LF.rd w G x):CallV Tryz.prog 142 #[.slice x.a x.n x.c] w [.one (.int .i64)] λr w'=>r.1=(if FRight (fds x) then (0:Int) else 2)/\Ext w w':=by
 refine fault_Check.vc _ _ _ _ _ ?_
 unfold fault_Check.P
 have hl:=LF_len hx
 have no:∀ {w':World},Ext w w'->¬ FRight (fds x)->((2:Int)=(if FRight (fds x) then (0:Int) else 2)/\Ext w w'):=λe h=>⟨by rw [if_neg h],e⟩
 refine cond_d (λh=>no (Ext.refl _) (λhr=>by have:=hr.2;omega)) (λh64=>?_)
 refine Loop1 (λ(y:Int×Unit) w'=>∃ i:Nat,y.1=(i:Int)/\i<=x.n/\(∀ (j:Nat) (f:FD),j<i->(fds x)[j]? = some f->0<=f.1/\f.2.2.1.length<=64)/\Ext w w') (λ(y:Int×Unit) _=>((x.n:Int)-y.1).toNat) ⟨0,rfl,by omega,λj f h=>by omega,Ext.refl _⟩ ?_
 rintro ⟨(z:Int),⟨⟩⟩ w2 ⟨i,hz,hi,hall,e2⟩
 dsimp only at hz ⊢
 subst hz
 refine cond_d (λhlt=>?_) (λhge=>?_)
 ·obtain ⟨q,y,hq,hy,hc,hr,-⟩:=LF_nth (Ty.rd_ext e2 _ hx) (Int.natCast_nonneg i) hlt
  have hly:=TF_len hr
  have hdy:=LF_get hy
  rw [Int.toNat_natCast] at hdy
  refine ⟨⟨by omega,hlt⟩,q,hq,ldF hc ?_⟩
  refine newF λb6 w7 e7 hb=>?_
  refine hb.store 0 (by simp) λw8 hb8 bel8 _ _=>?_
  have e8:Ext w w8:=e2.trans (Below.trans e7 bel8)
  have bad:¬ ((0:Int)<=y.1/\y.2.2.1.l.length<=64)->¬ FRight (fds x):=λh hr=>h ((FRight_iff.1 hr).1 _ _ hdy)
  refine hb8.ld (i:=0) (h:=.int .i64) (x:=y.1) rfl (cond_d (λc=>no e8 (bad (by omega))) (λc1=>?_))
  refine hb8.ld (i:=2) (h:=.sl) (x:=⟨y.2.2.1.a,y.2.2.1.n,y.2.2.1.c⟩) rfl (cond_d (λc=>no e8 (bad (by dsimp only at c;omega))) (λc2=>?_))
  refine ⟨Rng.i64 (by omega) (by have hlim:=LF_lim hx;omega),⟨i+1,by push_cast;rfl,by omega,λj f hj hf=>?_,e8⟩,by omega⟩
  by_cases hji:j=i
  ·subst hji
   rw [hdy] at hf
   have:=Option.some.inj hf
   subst this
   dsimp only at c2 ⊢
   omega
  ·exact hall j f (by omega) hf
 ·have hR:FRight (fds x):=FRight_iff.2 ⟨λj f hf=>hall j f (by have:=(List.getElem?_eq_some_iff.1 hf).1;omega) hf,by omega⟩
  exact ⟨by rw [if_pos hR],e2⟩
theorem rRight12_c {w:World} {G:Nat->Prop} {x:SlP TF.T} (hx:LF.rd w G x):CallV Tryz.prog 76 #[.slice x.a x.n x.c] w [.one .bool] λr w'=>r.1=decide (FRight (fds x))/\w'=w:=by
 refine ref12_Right.vc _ _ _ _ _ ?_
 unfold ref12_Right.P
 have hl:=LF_len hx
 have no:¬ FRight (fds x)->(false=decide (FRight (fds x))/\w=w):=λh=>⟨(decide_eq_false h).symm,rfl⟩
 refine Loop1 (λ(y:Int×Unit) w'=>∃ i:Nat,y.1=(i:Int)/\i<=x.n/\(∀ (j:Nat) (f:FD),j<i->(fds x)[j]? = some f->0<=f.1/\f.2.2.1.length<=64)/\w'=w) (λ(y:Int×Unit) _=>((x.n:Int)-y.1).toNat) ⟨0,rfl,by omega,λj f h=>by omega,rfl⟩ ?_
 rintro ⟨(z:Int),⟨⟩⟩ w2 ⟨i,hz,hi,hall,rfl⟩
 dsimp only at hz ⊢
 subst hz
 refine cond_d (λhlt=>?_) (λhge=>?_)
 ·obtain ⟨q,y,hq,hy,hc,hr,-⟩:=LF_nth hx (Int.natCast_nonneg i) hlt
  have hly:=TF_len hr
  have hdy:=LF_get hy
  rw [Int.toNat_natCast] at hdy
  have bad:¬ ((0:Int)<=y.1/\y.2.2.1.l.length<=64)->¬ FRight (fds x):=λh hr=>h ((FRight_iff.1 hr).1 _ _ hdy)
  refine ⟨⟨by omega,hlt⟩,q,hq,ldp0 hc (h:=.int .i64) (x:=y.1) rfl (cond_d (λc=>no (bad (by omega))) (λc1=>?_))⟩
  refine ⟨⟨by omega,hlt⟩,q,hq,ldp hc 2 (h:=.sl) (x:=⟨y.2.2.1.a,y.2.2.1.n,y.2.2.1.c⟩) rfl (cond_d (λc=>no (bad (by dsimp only at c;omega))) (λc2=>?_))⟩
  refine ⟨Rng.i64 (by omega) (by have hlim:=LF_lim hx;omega),⟨i+1,by push_cast;rfl,by omega,λj f hj hf=>?_,rfl⟩,by omega⟩
  by_cases hji:j=i
  ·subst hji
   rw [hdy] at hf
   have:=Option.some.inj hf
   subst this
   dsimp only at c2 ⊢
   omega
  ·exact hall j f (by omega) hf
 ·refine ⟨decide_eq_decide.2 ⟨λh=>FRight_iff.2 ⟨λj f hf=>hall j f (by have:=(List.getElem?_eq_some_iff.1 hf).1;omega) hf,by omega⟩,λh=>?_⟩,rfl⟩
  have:=h.2
  omega
theorem appM {w:World} {a a2:Option Addr} {n c m c2:Nat} {xs ys:List Int} {B:Nat} {K:Option Addr->Nat->Nat->World->Prop} (ho:Own w B 5 1 a n c (xs.map (Value.int .u8))) (hy:Ints w .u8 a2 m c2 ys) (hB:B<=w.heap.size) (hn:n+m<=140737488351232)
  (hk:∀ a' c' w',Own w' B 5 1 a' (n+m) c' ((xs++ys).map (Value.int .u8))->Below B w w'->Mov w a a'->But a w w'->K a' (n+m) c' w') :
  AppS w a2 m 1 λns=>AppV w 5 1 1 a n c ns m K:=by
 refine AppS.of (news:=ys.map (Value.int .u8)) (by rw [List.length_map,hy.len];omega) hy.rd ?_
 refine AppV.own ho hB (by rw [List.length_map,hy.len];omega) (oneAll.ints _ _) (by omega) (by omega) λa' c' w' h1 h2 h4 h3=>?_
 refine hk a' c' w' ?_ h2 h3 h4
 rw [List.map_append]
 exact h1
def mFit (l:List FD):Prop:=∀ f∈l,f.2.2.1.length<=140737488351232
theorem mFit.at {l:List FD} (h:mFit l) {i:Nat} {f:FD} (hf:l[i]? = some f):f.2.2.1.length<=140737488351232:=h _ (List.mem_of_getElem? hf)
theorem FRight.fit {l:List FD} (h:FRight l):mFit l:=λf hf=>by have:=(h.1 f hf).2;omega
theorem At_c {w:World} {G:Nat->Prop} {x:SlP TF.T} {n:Int} (hx:LF.rd w G x) (hm:mFit (fds x)):CallV Tryz.prog 258 #[.slice x.a x.n x.c,.int .i64 n] w [.agg [.int .i64,.bool,.sl],.one .bool] λr w'=>
  Ext w w'/\match atF (fds x) n with
   | some f=>r.2.1=true/\r.1.1=f.1/\r.1.2.1=f.2.1/\Res w w' r.1.2.2.1 f.2.2.1
   | none=>r.2.1=false/\r.1=((0:Int),false,(⟨none,0,0⟩:SlV),()):=by
 refine fault_At.vc _ _ _ _ _ _ ?_
 unfold fault_At.P
 have hl:=LF_len hx
 refine newF λb1 w1 e1 hb1=>?_
 refine Loop1 (λ(y:Int×Unit) w'=>∃ i:Nat,y.1=(i:Int)/\i<=x.n/\(∀ (j:Nat) (f:FD),j<i->(fds x)[j]? = some f->f.1≠n)/\Ext w1 w') (λ(y:Int×Unit) _=>((x.n:Int)-y.1).toNat) ⟨0,rfl,by omega,λj f h=>by omega,Ext.refl _⟩ ?_
 rintro ⟨(z:Int),⟨⟩⟩ w2 ⟨i,hz,hi,hall,e2⟩
 dsimp only at hz ⊢
 subst hz
 refine cond_d (λhlt=>?_) (λhge=>?_)
 ·obtain ⟨q,y,hq,hy,hc,hr,-⟩:=LF_nth (Ty.rd_ext (e1.trans e2) _ hx) (Int.natCast_nonneg i) hlt
  have hdy:=LF_get hy
  rw [Int.toNat_natCast] at hdy
  refine ⟨⟨by omega,hlt⟩,q,hq,ldF hc ?_⟩
  refine newF λb6 w7 e7 hb=>?_
  refine hb.store 0 (by simp) λw8 hb8 bel8 _ _=>?_
  have x8:Ext w2 w8:=Below.trans e7 bel8
  have e8:Ext w1 w8:=e2.trans x8
  refine hb8.ld (i:=0) (h:=.int .i64) (x:=y.1) rfl (cond_eq (λc=>?_) (λc1=>?_))
  ·obtain ⟨h1,-⟩:=find_step hall hdy c
   have hmy:=hm.at hdy
   have hly:=TF_len hr
   dsimp only at hmy
   refine newU λb9 w9 e9 o9=>?_
   refine (hb8.ext e9).ld (i:=2) (h:=.sl) (x:=⟨y.2.2.1.a,y.2.2.1.n,y.2.2.1.c⟩) rfl ?_
   dsimp only
   refine appM (xs:=[]) o9 (Ty.ints (Ty.rd_ext (x8.trans e9) _ hr.2.2.1)) e9.size (by omega) λa' c' w10 o10 b10 m10 _=>?_
   have x10:Ext w8 w10:=Below.trans e9 b10
   have hb10:=hb8.ext x10
   have hlt8:b6<w8.heap.size:=hb8.lt
   have hne:∀ p,a'=some p->p.block≠b6:=by
    intro p hp
    rcases o10.at_ with ⟨h1,_⟩ | ⟨b,cs,h1,h2,_⟩
    ·rw [h1] at hp;cases hp
    ·rw [h1] at hp;cases hp;show b≠b6;omega
   refine hb10.store 2 (by simp) λw11 hb11 bel11 but11 _=>?_
   have o11:=o10.other (w':=w11) (λp hp=>but11 _ (hne p hp))
   refine ldF (f:=(y.1,y.2.1,⟨a',0+y.2.2.1.n,c',y.2.2.1.l⟩,())) hb11.cells ?_
   have X11:Ext w1 w11:=Below.trans (Ext.trans e8 x10) (Below.mono bel11 e2.size)
   have hb1':=hb1.ext X11
   have hlt1:b1<w1.heap.size:=hb1.lt
   refine hb1'.store 0 (by simp) λw12 hb12 bel12 but12 _=>?_
   refine ldF (f:=(y.1,y.2.1,⟨a',0+y.2.2.1.n,c',y.2.2.1.l⟩,())) hb12.cells ?_
   have o12:=o11.other (w':=w12) (λp hp=>but12 _ (by
    rcases o10.at_ with ⟨h1,_⟩ | ⟨b,cs,h1,h2,_⟩
    ·rw [h1] at hp;cases hp
    ·rw [h1] at hp;cases hp;show b≠b1
     have:=e8.size
     omega))
   have E12:Ext w w12:=Below.trans (e1.trans X11) bel12
   rw [h1]
   exact ⟨E12,rfl,rfl,rfl,⟨E12,o12.mono (Nat.le_trans e1.size e8.size)⟩⟩
  ·refine ⟨Rng.i64 (by omega) (by have hlim:=LF_lim hx;omega),⟨i+1,by push_cast;rfl,by omega,λj f hj hf=>?_,e8⟩,by omega⟩
   by_cases hji:j=i
   ·subst hji
    rw [hdy] at hf
    have:=Option.some.inj hf
    subst this
    exact c1
   ·exact hall j f (by omega) hf
 ·obtain ⟨h1,_⟩:=find_none (l:=fds x) (n:=n) λj f hf=>hall j f (by have:=(List.getElem?_eq_some_iff.1 hf).1;omega) hf
  have hb2:=hb1.ext e2
  refine hb2.store 0 (by simp) λw3 hb3 bel3 _ _=>?_
  refine ldF (f:=((0:Int),false,⟨none,0,0,[]⟩,())) hb3.cells ?_
  rw [h1]
  exact ⟨Below.trans (e1.trans e2) bel3,rfl,rfl⟩
end Go.Proofs.YtbaojfchlhlaeaaGreat.Vc
namespace Go.Eng
open Go Go.RowKit
theorem Own.lt {w:World} {B:Nat} {e:TypeId} {sz:Nat} {a:Option Addr} {n c:Nat} {vs:List Value} (h:Own w B e sz a n c vs):∀ p,a=some p->p.block<w.heap.size:=by
 intro p hp
 rcases h.at_ with ⟨h1,_⟩ | ⟨b,cs,h1,_,h3,_⟩
 ·rw [h1] at hp;cases hp
 ·rw [h1] at hp;cases hp;exact (Array.getElem?_eq_some_iff.1 h3).1
theorem Own.ge {w:World} {B:Nat} {e:TypeId} {sz:Nat} {a:Option Addr} {n c:Nat} {vs:List Value} (h:Own w B e sz a n c vs):∀ p,a=some p->B<=p.block:=by
 intro p hp
 rcases h.at_ with ⟨h1,_⟩ | ⟨b,cs,h1,h2,h3,_⟩
 ·rw [h1] at hp;cases hp
 ·rw [h1] at hp;cases hp;exact h2
theorem Mov.ne {w:World} {a a':Option Addr} (h:Mov w a a'):∀ p q:Addr,a'=some p->q.block<w.heap.size->(∀ p',a=some p'->p'.block≠q.block)->p.block≠q.block:=by
 intro p q hp hq hs
 rcases h with h | ⟨b,h1,h2⟩
 ·exact hs p (by rw [<-h];exact hp)
 ·rw [h2] at hp;cases hp;show b≠q.block;omega
end Go.Eng
namespace Go.Proofs.YtbaojfchlhlaeaaGreat.Vc
open Go Go.Eng Go.RowKit
structure MaskOk (w:World) (B:Nat) (a:Option Addr) (f:TF.T):Prop where
 own:Own w B 5 1 f.2.2.1.a f.2.2.1.n f.2.2.1.c (f.2.2.1.l.map (Value.int .u8))
 byt:Byt f.2.2.1.l
 ne:∀ p q,a=some p->f.2.2.1.a=some q->p.block≠q.block
 at_:Rng .i64 f.1
structure CopyR (w w':World) (y:SlP TF.T) (l:List FD):Prop where
 ext:Ext w w'
 own:Own w' w.heap.size 88 3 y.a y.n y.c (y.l.flatMap TF.vs)
 len:y.l.length=y.n
 dat:fds y=l
 msk:∀ f∈y.l,MaskOk w' w.heap.size y.a f
theorem rngU8 {x:Int} (h:0<=x/\x<256):Rng .u8 x:=Rng.u8 h.1 (by omega)
theorem Own_in {w:World} {B:Nat} {e:TypeId} {sz:Nat} {a:Option Addr} {n c:Nat} {vs:List Value} (h:Own w B e sz a n c vs):RdG w (λk=>B<=k) a vs:=by
 rcases h.at_ with ⟨h1,_,h2⟩ | ⟨b,cs,h1,h2,_⟩
 ·exact .inl ⟨h1,h2⟩
 ·rcases h.rd with ⟨h3,_⟩ | ⟨p,h3,h4⟩
  ·rw [h1] at h3;cases h3
  ·refine .inr ⟨p,h3,h4,λ_=>?_⟩
   rw [h1] at h3;cases h3;exact h2
theorem CopyR.rd {w w':World} {y:SlP TF.T} {l:List FD} (h:CopyR w w' y l):LF.rd w' (λk=>w.heap.size<=k) y:=by
 have hml:maxLen=9223372036854775807:=by decide
 refine ⟨h.len,h.own.cap,by have:=h.own.lim;omega,Own_in h.own,λf hf=>?_⟩
 have m:=h.msk f hf
 refine ⟨m.at_,trivial,⟨by have:=m.own.len;simpa using this,m.own.cap,by have:=m.own.lim;omega,?_,λz hz=>rngU8 (m.byt z hz)⟩,trivial⟩
 rw [show f.2.2.1.l.flatMap (Ty.int .u8).vs=f.2.2.1.l.map (Value.int .u8) from flat_ints .u8 _]
 exact Own_in m.own
theorem oneF (f:TF.T):oneAll (TF.vs f):=λu hu=>by
 have hu:u∈[Value.int .i64 f.1,.bool f.2.1,.slice f.2.2.1.a f.2.2.1.n f.2.2.1.c]:=hu
 simp only [List.mem_cons,List.not_mem_nil,or_false] at hu
 rcases hu with rfl | rfl | rfl <;> rfl
theorem Copy_c {w:World} {G:Nat->Prop} {x:SlP TF.T} (hx:LF.rd w G x) (hm:mFit (fds x)) (hn:x.n<=1000):CallV Tryz.prog 144 #[.slice x.a x.n x.c] w [.one .sl] λr w'=>∃ y:SlP TF.T,r.1=(⟨y.a,y.n,y.c⟩:SlV)/\CopyR w w' y (fds x):=by
 refine fault_Copy.vc _ _ _ _ _ ?_
 unfold fault_Copy.P
 have hl:=LF_len hx
 refine Loop1 (λ(y:SlV×Int×Unit) w'=>∃ (i:Nat) (L:List TF.T),y.2.1=(i:Int)/\i<=x.n/\CopyR w w' ⟨y.1.a,y.1.n,y.1.c,L⟩ ((fds x).take i)/\y.1.n=i) (λ(y:SlV×Int×Unit) _=>((x.n:Int)-y.2.1).toNat)
  ⟨0,[],rfl,by omega,⟨Ext.refl _,Own.nil _ _ _ _,rfl,rfl,λf hf=>(List.not_mem_nil hf).elim⟩,rfl⟩ ?_
 rintro ⟨⟨sa,sn,sc⟩,(z:Int),⟨⟩⟩ w2 ⟨i,L,hz,hi,hC,hsn⟩
 dsimp only at hz hC hsn ⊢
 subst hz
 subst hsn
 have e2:=hC.ext
 refine cond_d (λhlt=>?_) (λhge=>?_)
 ·obtain ⟨q,y,hq,hy,hc,hr,-⟩:=LF_nth (Ty.rd_ext e2 _ hx) (Int.natCast_nonneg sn) hlt
  have hdy:=LF_get hy
  rw [Int.toNat_natCast] at hdy
  have hmy:=hm.at hdy
  have hly:=TF_len hr
  dsimp only at hmy
  refine ⟨⟨by omega,hlt⟩,q,hq,ldF hc ?_⟩
  refine newF λb6 w7 e7 hb=>?_
  refine hb.store 0 (by simp) λw8 hb8 bel8 _ _=>?_
  have x8:Ext w2 w8:=Below.trans e7 bel8
  refine newU λb9 w9 e9 o9=>?_
  refine (hb8.ext e9).ld (i:=2) (h:=.sl) (x:=⟨y.2.2.1.a,y.2.2.1.n,y.2.2.1.c⟩) rfl ?_
  dsimp only
  refine appM (xs:=[]) o9 (Ty.ints (Ty.rd_ext (x8.trans e9) _ hr.2.2.1)) e9.size (by omega) λa' c' w10 o10 b10 m10 _=>?_
  have x10:Ext w8 w10:=Below.trans e9 b10
  have hb10:=hb8.ext x10
  have hlt8:b6<w8.heap.size:=hb8.lt
  have hblk:∀ p,a'=some p->w8.heap.size<=p.block:=o10.ge
  refine hb10.store 2 (by simp) λw11 hb11 bel11 but11 _=>?_
  have o11:=o10.other (w':=w11) (λp hp=>but11 _ (by have:=hblk p hp;omega))
  have X11:Ext w2 w11:=Below.trans (Ext.trans x8 x10) bel11
  generalize hf':((y.1,y.2.1,⟨a',0+y.2.2.1.n,c',y.2.2.1.l⟩,()):TF.T)=f'
  have hvs:TF.vs f'=[.int .i64 y.1,.bool y.2.1,.slice a' (0+y.2.2.1.n) c']:=by rw [<-hf'];rfl
  refine ldF (f:=f') (by rw [hvs];exact hb11.cells) ?_
  subst hf'
  dsimp only
  refine newBox (vs:=[.int .i64 y.1,.bool y.2.1,.slice a' (0+y.2.2.1.n) c']) λb12 w12 e12 hb12=>?_
  have X12:Ext w2 w12:=X11.trans e12
  have o12:=hC.own.ext X12
  generalize hf':((y.1,y.2.1,⟨a',0+y.2.2.1.n,c',y.2.2.1.l⟩,()):TF.T)=f' at hvs
  refine AppS.of (news:=TF.vs f') (by rw [hvs];rfl) (.inr ⟨_,rfl,by rw [hvs];exact hb12.cells⟩) ?_
  refine AppV.own o12 (Nat.le_trans e2.size X12.size) (by rw [hvs];rfl) (oneF f') (by omega) (by omega) λa13 c13 w13 o13 b13 but13 m13=>?_
  have hsa:∀ p,sa=some p->p.block<w2.heap.size:=hC.own.lt
  have hmlt:∀ f∈L,∀ p,f.2.2.1.a=some p->p.block<w2.heap.size:=λf hf=>(hC.msk f hf).own.lt
  refine ⟨Rng.i64 (by omega) (by have hlim:=LF_lim hx;omega),⟨sn+1,L++[f'],by push_cast;rfl,by omega,⟨Below.trans (Ext.trans e2 X12) b13,?_,?_,?_,?_⟩,rfl⟩,by omega⟩
  ·show Own w13 _ _ 3 a13 (sn+1) c13 ((L++[f']).flatMap TF.vs)
   rw [List.flatMap_append,List.flatMap_singleton]
   exact o13
  ·have:=hC.len
   simp only at this
   rw [List.length_append,this];rfl
  ·have hd:=hC.dat
   show (L++[f']).map TF.dat=_
   have hd':L.map TF.dat=(fds x).take sn:=hd
   rw [List.map_append,hd',List.take_add_one,hdy,List.map_singleton,TF_dat,<- hf']
   rfl
  ·intro f hf
   have hnew:=m13.ne
   rcases List.mem_append.1 hf with h | h
   ·have m:=hC.msk f h
    refine ⟨but13.own (m.own.ext X12) (m.ne),m.byt,λp q hp hq=>?_,m.at_⟩
    have:=hmlt f h q hq
    exact hnew p q hp (Nat.lt_of_lt_of_le this X12.size) λp' hp'=>m.ne p' q hp' hq
   ·rw [List.mem_singleton.1 h,<- hf']
    have hq':∀ q:Addr,a'=some q->w2.heap.size<=q.block/\q.block<w12.heap.size:=by
     intro q hq
     have h1:=hblk q hq
     have h2:=x8.size
     have h3:=o11.lt q hq
     have h4:=e12.size
     omega
    have hne:∀ p q,sa=some p->a'=some q->p.block≠q.block:=by
     intro p q hp hq
     have h1:=hsa p hp
     have h2:=hq' q hq
     omega
    refine ⟨?_,show Byt y.2.2.1.l from Ty.byt hr.2.2.1,λp q hp hq=>hnew p q hp (hq' q hq).2 λp' hp'=>hne p' q hp' hq,hr.1⟩
    have:=but13.own (o11.ext e12) hne
    rw [List.nil_append] at this
    exact this.mono (by have:=e2.size;have:=x8.size;omega)
 ·have:sn=x.n:=by omega
  refine ⟨⟨sa,sn,sc,L⟩,rfl,?_⟩
  rw [List.take_of_length_le (by omega)] at hC
  exact hC
end Go.Proofs.YtbaojfchlhlaeaaGreat.Vc
namespace Go.Proofs.YtbaojfchlhlaeaaGreat.Vc
open Go Go.Eng
def ref11_in.A:Ann:=.no
def ref11_in.P (p0 p1 p2:Int) (w:World) (K:Bool×Unit->World->Prop):Prop:=
 cond (decide (p0≥p1))
 (K (decide (p0<=p2),()) w)
 (K (false,()) w)
theorem ref11_in.vc (p0 p1 p2:Int) (w:World) (K:Bool×Unit->World->Prop) (h:ref11_in.P p0 p1 p2 w K):CallV Tryz.prog 140 #[.int .i64 p0,.int .i64 p1,.int .i64 p2] w [.one .bool] K:=by
 refine vcFun.of (A:=ref11_in.A) (wr:=false) okf_ok follows h Tryz.func140 ?_
 kernel_rfl
def ref11_Right.A:Ann:=.two .no (.two .no (.two (.draw (.take 0 (.take 1 (.take 2 (.take 3 (.take 4 (.take 5 (.take 7 (.take 8 (.eff 6 (.take 9 (.take 10 (.take 11 (.take 12 (.take 13 (.take 14 (.take 15 (.take 16 (.take 17 (.take 18 (.take 19 (.take 20 (.done))))))))))))))))))))))) .no))
def ref11_Right.P (p0_0 p0_1 p0_2 p0_3 p0_4 p0_5:Int) (w:World) (K:Bool×Unit->World->Prop):Prop:=
 NewV #[.int .i64 p0_0,.int .i64 p0_1,.int .i64 p0_2,.int .i64 p0_3,.int .i64 p0_4,.int .i64 p0_5] 23 w λb1 w2=>
 LoadS w2 ⟨b1,0,none⟩ (.int .i64) λ(x3:Int)=>
 CallV Tryz.prog 140 #[.int .i64 x3,.int .i64 7,.int .i64 64] w2 [.one .bool] λ(r4:Bool×Unit) w5=>
 cond (!r4.1)
 (K (false,()) w5)
 (LoadS w5 ⟨b1,1,none⟩ (.int .i64) λ(x6:Int)=>
 CallV Tryz.prog 140 #[.int .i64 x6,.int .i64 4,.int .i64 32] w5 [.one .bool] λ(r7:Bool×Unit) w8=>
 cond (!r7.1)
 (K (false,()) w8)
 (LoadS w8 ⟨b1,2,none⟩ (.int .i64) λ(x9:Int)=>
 CallV Tryz.prog 140 #[.int .i64 x9,.int .i64 32,.int .i64 4096] w8 [.one .bool] λ(r10:Bool×Unit) w11=>
 cond (!r10.1)
 (K (false,()) w11)
 (LoadS w11 ⟨b1,3,none⟩ (.int .i64) λ(x12:Int)=>
 CallV Tryz.prog 140 #[.int .i64 x12,.int .i64 0,.int .i64 8] w11 [.one .bool] λ(r13:Bool×Unit) w14=>
 cond (!r13.1)
 (K (false,()) w14)
 (LoadS w14 ⟨b1,4,none⟩ (.int .i64) λ(x15:Int)=>
 CallV Tryz.prog 140 #[.int .i64 x15,.int .i64 1,.int .i64 1000] w14 [.one .bool] λ(r16:Bool×Unit) w17=>
 cond (!r16.1)
 (K (false,()) w17)
 (LoadS w17 ⟨b1,5,none⟩ (.int .i64) λ(x18:Int)=>
 CallV Tryz.prog 140 #[.int .i64 x18,.int .i64 1,.int .i64 1000] w17 [.one .bool] λ(r19:Bool×Unit) w20=>
 cond (!r19.1)
 (K (false,()) w20)
 (DrawV λD21=>
 (D21 b1/\LoadS w20.drew ⟨b1,2,none⟩ (.int .i64) λ(x22:Int)=>
 16≠(0:Int) /\
 cond ((Int.tmod x22 16) == 0)
 ((D21 b1/\LoadA w20.drew ⟨b1,0,none⟩ [.int .i64,.int .i64,.int .i64,.int .i64,.int .i64,.int .i64] λ(x23:Int×Int×Int×Int×Int×Int×Unit)=>
 (D21 b1/\LoadS w20.drew ⟨b1,1,none⟩ (.int .i64) λ(x24:Int)=>
 CallV Tryz.prog 141 #[.agg #[.int .i64 x23.1,.int .i64 x23.2.1,.int .i64 x23.2.2.1,.int .i64 x23.2.2.2.1,.int .i64 x23.2.2.2.2.1,.int .i64 x23.2.2.2.2.2.1]] w20.drew [.one (.int .i64)] λ(r25:Int×Unit) w26=>
 KeepOn D21 w20.drew w26 /\
 cond (decide (r25.1<=x24))
 ((D21 b1/\LoadS w20.drew ⟨b1,0,none⟩ (.int .i64) λ(x27:Int)=>
 Rng .i64 (x27-4) /\
 (D21 b1/\LoadS w20.drew ⟨b1,3,none⟩ (.int .i64) λ(x28:Int)=>
 Rng .i64 (x28+3) /\
 K (decide ((x27-4)≥(x28+3)),()) w26)))
 (K (false,()) w26))))
 (K (false,()) w20.drew))))))))
theorem ref11_Right.vc (p0_0 p0_1 p0_2 p0_3 p0_4 p0_5:Int) (w:World) (K:Bool×Unit->World->Prop) (h:ref11_Right.P p0_0 p0_1 p0_2 p0_3 p0_4 p0_5 w K):CallV Tryz.prog 75 #[.agg #[.int .i64 p0_0,.int .i64 p0_1,.int .i64 p0_2,.int .i64 p0_3,.int .i64 p0_4,.int .i64 p0_5]] w [.one .bool] K:=by
 refine vcFun.of (A:=ref11_Right.A) (wr:=false) okf_ok follows h Tryz.func75 ?_
 kernel_rfl
def ref11_Chunks.A:Ann:=.two .no (.two .no (.two (.one (.loop [3,4,5,6,7,8,9,10] [(3,.one (.int .i64))] .no)) .no))
def ref11_Chunks.P (p0_0 p0_1 p0_2 p0_3 p0_4 p0_5:Int) (w:World) (K:Int×Unit->World->Prop):Prop:=
 NewV #[.int .i64 p0_0,.int .i64 p0_1,.int .i64 p0_2,.int .i64 p0_3,.int .i64 p0_4,.int .i64 p0_5] 23 w λb1 w2=>
 LoopV [.one (.int .i64)] ((0:Int),()) w2 λ(z3:Int×Unit) w4 (K5:Int×Unit->World->Prop)=>
 LoadS w4 ⟨b1,2,none⟩ (.int .i64) λ(x6:Int)=>
 Rng .i64 (z3.1*x6) /\
 cond (decide ((z3.1*x6)<624))
 (Rng .i64 (z3.1+1) /\
 K5 (z3.1+1,()) w4)
 (K (z3.1,()) w4)
theorem ref11_Chunks.vc (p0_0 p0_1 p0_2 p0_3 p0_4 p0_5:Int) (w:World) (K:Int×Unit->World->Prop) (h:ref11_Chunks.P p0_0 p0_1 p0_2 p0_3 p0_4 p0_5 w K):CallV Tryz.prog 141 #[.agg #[.int .i64 p0_0,.int .i64 p0_1,.int .i64 p0_2,.int .i64 p0_3,.int .i64 p0_4,.int .i64 p0_5]] w [.one (.int .i64)] K:=by
 refine vcFun.of (A:=ref11_Chunks.A) (wr:=false) okf_ok follows h Tryz.func141 ?_
 kernel_rfl
def ref11_Quota.A:Ann:=.two .no (.two .no (.two (.one (.loop [5,6,7,8,9,10,11,12,13,14] [(5,.one (.int .i64))] .no)) .no))
def ref11_Quota.P (p0_0 p0_1 p0_2 p0_3 p0_4 p0_5 p1:Int) (w:World) (K:Int×Unit->World->Prop):Prop:=
 NewV #[.int .i64 p0_0,.int .i64 p0_1,.int .i64 p0_2,.int .i64 p0_3,.int .i64 p0_4,.int .i64 p0_5] 23 w λb1 w2=>
 LoopV [.one (.int .i64)] ((0:Int),()) w2 λ(z3:Int×Unit) w4 (K5:Int×Unit->World->Prop)=>
 LoadS w4 ⟨b1,1,none⟩ (.int .i64) λ(x6:Int)=>
 Rng .i64 (x6-1) /\
 Rng .i64 (z3.1*(x6-1)) /\
 cond (decide ((z3.1*(x6-1))<p1))
 (Rng .i64 (z3.1+1) /\
 K5 (z3.1+1,()) w4)
 (Rng .i64 (z3.1+2) /\
 K (z3.1+2,()) w4)
theorem ref11_Quota.vc (p0_0 p0_1 p0_2 p0_3 p0_4 p0_5 p1:Int) (w:World) (K:Int×Unit->World->Prop) (h:ref11_Quota.P p0_0 p0_1 p0_2 p0_3 p0_4 p0_5 p1 w K):CallV Tryz.prog 38 #[.agg #[.int .i64 p0_0,.int .i64 p0_1,.int .i64 p0_2,.int .i64 p0_3,.int .i64 p0_4,.int .i64 p0_5],.int .i64 p1] w [.one (.int .i64)] K:=by
 refine vcFun.of (A:=ref11_Quota.A) (wr:=false) okf_ok follows h Tryz.func38 ?_
 kernel_rfl
def ref11_Fit.A:Ann:=.two .no (.two .no (.two (.two .no (.one (.loop [4,5,6,9,10,11,12,13,14,15,16,17,18,19,20,21,22,23,24,25,26,27,28,29,30] [(5,.one (.int .i64)),(6,.one (.int .i64))] (.two .no (.two (.one (.two .no (.two .no (.two (.draw (.take 0 (.take 1 (.take 2 (.take 3 (.take 4 (.take 5 (.eff 6 (.take 7 (.take 8 (.done))))))))))) .no)))) .no))))) .no))
def ref11_Fit.P (p0_0 p0_1 p0_2 p0_3 p0_4 p0_5:Int) (a1:Option Addr) (n1 c1:Nat) (w:World) (K:Int×Unit->World->Prop):Prop:=
 NewV #[.int .i64 p0_0,.int .i64 p0_1,.int .i64 p0_2,.int .i64 p0_3,.int .i64 p0_4,.int .i64 p0_5] 23 w λb1 w2=>
 LoadS w2 ⟨b1,3,none⟩ (.int .i64) λ(x3:Int)=>
 LoopV [.one (.int .i64),.one (.int .i64)] (x3,(0:Int),()) w2 λ(z4:Int×Int×Unit) w5 (K6:Int×Int×Unit->World->Prop)=>
 cond (decide (z4.2.1<((n1:Nat):Int)))
 ((0<=z4.2.1/\z4.2.1<((n1:Nat):Int))/\∃ q7:Addr,a1=some q7 /\
 LoadS w5 (q7.add (z4.2.1.toNat*1)) (.int .i64) λ(x8:Int)=>
 CallV Tryz.prog 140 #[.int .i64 x8,.int .i64 1,.int .i64 65535] w5 [.one .bool] λ(r9:Bool×Unit) w10=>
 cond (!r9.1)
 (K ((13:Int),()) w10)
 (cond (decide (z4.1<=64))
 (DrawV λD11=>
 (D11 b1/\LoadA w10.drew ⟨b1,0,none⟩ [.int .i64,.int .i64,.int .i64,.int .i64,.int .i64,.int .i64] λ(x12:Int×Int×Int×Int×Int×Int×Unit)=>
 (0<=z4.2.1/\z4.2.1<((n1:Nat):Int))/\∃ q13:Addr,a1=some q13 /\
 (D11 (q13.add (z4.2.1.toNat*1)).block/\LoadS w10.drew (q13.add (z4.2.1.toNat*1)) (.int .i64) λ(x14:Int)=>
 CallV Tryz.prog 38 #[.agg #[.int .i64 x12.1,.int .i64 x12.2.1,.int .i64 x12.2.2.1,.int .i64 x12.2.2.2.1,.int .i64 x12.2.2.2.2.1,.int .i64 x12.2.2.2.2.2.1],.int .i64 x14] w10.drew [.one (.int .i64)] λ(r15:Int×Unit) w16=>
 KeepOn D11 w10.drew w16 /\
 Rng .i64 (z4.1+r15.1) /\
 Rng .i64 (z4.2.1+1) /\
 K6 (z4.1+r15.1,z4.2.1+1,()) w16)))
 (Rng .i64 (z4.2.1+1) /\
 K6 (z4.1,z4.2.1+1,()) w10)))
 (cond (decide (((n1:Nat):Int)>4))
 (K ((14:Int),()) w5)
 (LoadS w5 ⟨b1,0,none⟩ (.int .i64) λ(x17:Int)=>
 Rng .i64 (x17-4) /\
 cond (decide (z4.1>(x17-4)))
 (K ((14:Int),()) w5)
 (K ((0:Int),()) w5)))
theorem ref11_Fit.vc (p0_0 p0_1 p0_2 p0_3 p0_4 p0_5:Int) (a1:Option Addr) (n1 c1:Nat) (w:World) (K:Int×Unit->World->Prop) (h:ref11_Fit.P p0_0 p0_1 p0_2 p0_3 p0_4 p0_5 a1 n1 c1 w K):CallV Tryz.prog 77 #[.agg #[.int .i64 p0_0,.int .i64 p0_1,.int .i64 p0_2,.int .i64 p0_3,.int .i64 p0_4,.int .i64 p0_5],.slice a1 n1 c1] w [.one (.int .i64)] K:=by
 refine vcFun.of (A:=ref11_Fit.A) (wr:=false) okf_ok follows h Tryz.func77 ?_
 kernel_rfl
def geometry_kept.A:Ann:=.two .no (.two (.two .no (.one (.loop [2,4,24,25,26,27,28,29,30,31,32,33,34,35,36,37,38,39] [(24,.one (.int .i64))] .no))) .no)
def geometry_kept.P (p0_0 p0_1 p0_2 p0_3 p0_4 p0_5:Int) (w:World) (K:Bool×Unit->World->Prop):Prop:=
 NewV #[.int .i64 p0_0,.int .i64 p0_1,.int .i64 p0_2,.int .i64 p0_3,.int .i64 p0_4,.int .i64 p0_5] 23 w λb1 w2=>
 LoadS w2 ⟨b1,0,none⟩ (.int .i64) λ(x3:Int)=>
 LoadS w2 ⟨b1,1,none⟩ (.int .i64) λ(x4:Int)=>
 LoadS w2 ⟨b1,2,none⟩ (.int .i64) λ(x5:Int)=>
 LoadS w2 ⟨b1,3,none⟩ (.int .i64) λ(x6:Int)=>
 LoadS w2 ⟨b1,4,none⟩ (.int .i64) λ(x7:Int)=>
 LoadS w2 ⟨b1,5,none⟩ (.int .i64) λ(x8:Int)=>
 LoopV [.one (.int .i64)] ((0:Int),()) w2 λ(z9:Int×Unit) w10 (K11:Int×Unit->World->Prop)=>
 cond (decide (z9.1<6))
 ((0<=z9.1/\z9.1<(6:Int))/\∃ y12:Int×Int×Int×Unit,(List.take 3 (List.drop (z9.1.toNat*3) ([.int .i64 x3,.int .i64 7,.int .i64 64,.int .i64 x4,.int .i64 4,.int .i64 32,.int .i64 x5,.int .i64 32,.int .i64 4096,.int .i64 x6,.int .i64 0,.int .i64 8,.int .i64 x7,.int .i64 1,.int .i64 1000,.int .i64 x8,.int .i64 1,.int .i64 1000]:List Value)))=[.int .i64 y12.1,.int .i64 y12.2.1,.int .i64 y12.2.2.1] /\
 NewV #[.int .i64 0,.int .i64 0,.int .i64 0] 259 w10 λb13 w14=>
 StoreV w14 ⟨b13,0,none⟩ [.int .i64 y12.1,.int .i64 y12.2.1,.int .i64 y12.2.2.1] λw15=>
 LoadS w15 ⟨b13,0,none⟩ (.int .i64) λ(x16:Int)=>
 LoadS w15 ⟨b13,1,none⟩ (.int .i64) λ(x17:Int)=>
 cond (decide (x16<x17))
 (K (false,()) w15)
 (LoadS w15 ⟨b13,0,none⟩ (.int .i64) λ(x18:Int)=>
 LoadS w15 ⟨b13,2,none⟩ (.int .i64) λ(x19:Int)=>
 cond (decide (x18>x19))
 (K (false,()) w15)
 (Rng .i64 (z9.1+1) /\
 K11 (z9.1+1,()) w15)))
 (LoadS w10 ⟨b1,2,none⟩ (.int .i64) λ(x20:Int)=>
 16≠(0:Int) /\
 K (((Int.tmod x20 16) == 0),()) w10)
theorem geometry_kept.vc (p0_0 p0_1 p0_2 p0_3 p0_4 p0_5:Int) (w:World) (K:Bool×Unit->World->Prop) (h:geometry_kept.P p0_0 p0_1 p0_2 p0_3 p0_4 p0_5 w K):CallV Tryz.prog 156 #[.agg #[.int .i64 p0_0,.int .i64 p0_1,.int .i64 p0_2,.int .i64 p0_3,.int .i64 p0_4,.int .i64 p0_5]] w [.one .bool] K:=by
 refine vcFun.of (A:=geometry_kept.A) (wr:=false) okf_ok follows h Tryz.func156 ?_
 kernel_rfl
def geometry_chunks.A:Ann:=.no
def geometry_chunks.P (p0:Int) (w:World) (K:Int×Unit->World->Prop):Prop:=
 Rng .i64 ((624:Int)+p0) /\
 Rng .i64 (((624:Int)+p0)-1) /\
 p0≠(0:Int)/\Rng .i64 (Int.tdiv (((624:Int)+p0)-1) p0) /\
 K (Int.tdiv (((624:Int)+p0)-1) p0,()) w
theorem geometry_chunks.vc (p0:Int) (w:World) (K:Int×Unit->World->Prop) (h:geometry_chunks.P p0 w K):CallV Tryz.prog 157 #[.int .i64 p0] w [.one (.int .i64)] K:=by
 refine vcFun.of (A:=geometry_chunks.A) (wr:=false) okf_ok follows h Tryz.func157 ?_
 kernel_rfl
def geometry_Check.A:Ann:=.two .no (.two (.two (.draw (.take 0 (.eff 1 (.take 2 (.take 3 (.take 4 (.take 5 (.take 7 (.take 8 (.eff 6 (.take 9 (.take 10 (.take 11 (.take 12 (.take 13 (.take 14 (.take 15 (.take 16 (.take 17 (.take 18 (.take 19 (.done)))))))))))))))))))))) .no) .no)
def geometry_Check.P (p0_0 p0_1 p0_2 p0_3 p0_4 p0_5:Int) (w:World) (K:Int×Unit->World->Prop):Prop:=
 NewV #[.int .i64 p0_0,.int .i64 p0_1,.int .i64 p0_2,.int .i64 p0_3,.int .i64 p0_4,.int .i64 p0_5] 23 w λb1 w2=>
 DrawV λD3=>
 (D3 b1/\LoadA w2.drew ⟨b1,0,none⟩ [.int .i64,.int .i64,.int .i64,.int .i64,.int .i64,.int .i64] λ(x4:Int×Int×Int×Int×Int×Int×Unit)=>
 CallV Tryz.prog 156 #[.agg #[.int .i64 x4.1,.int .i64 x4.2.1,.int .i64 x4.2.2.1,.int .i64 x4.2.2.2.1,.int .i64 x4.2.2.2.2.1,.int .i64 x4.2.2.2.2.2.1]] w2.drew [.one .bool] λ(r5:Bool×Unit) w6=>
 KeepOn D3 w2.drew w6 /\
 cond (!r5.1)
 (K ((2:Int),()) w6)
 ((D3 b1/\LoadS w2.drew ⟨b1,2,none⟩ (.int .i64) λ(x7:Int)=>
 (D3 b1/\LoadS w2.drew ⟨b1,1,none⟩ (.int .i64) λ(x8:Int)=>
 CallV Tryz.prog 157 #[.int .i64 x7] w6 [.one (.int .i64)] λ(r9:Int×Unit) w10=>
 KeepOn D3 w2.drew w10 /\
 cond (decide (r9.1>x8))
 (K ((2:Int),()) w10)
 ((D3 b1/\LoadS w2.drew ⟨b1,0,none⟩ (.int .i64) λ(x11:Int)=>
 Rng .i64 (x11-4) /\
 (D3 b1/\LoadS w2.drew ⟨b1,3,none⟩ (.int .i64) λ(x12:Int)=>
 Rng .i64 (x12+3) /\
 cond (decide ((x11-4)<(x12+3)))
 (K ((2:Int),()) w10)
 (K ((0:Int),()) w10))))))))
theorem geometry_Check.vc (p0_0 p0_1 p0_2 p0_3 p0_4 p0_5:Int) (w:World) (K:Int×Unit->World->Prop) (h:geometry_Check.P p0_0 p0_1 p0_2 p0_3 p0_4 p0_5 w K):CallV Tryz.prog 110 #[.agg #[.int .i64 p0_0,.int .i64 p0_1,.int .i64 p0_2,.int .i64 p0_3,.int .i64 p0_4,.int .i64 p0_5]] w [.one (.int .i64)] K:=by
 refine vcFun.of (A:=geometry_Check.A) (wr:=false) okf_ok follows h Tryz.func110 ?_
 kernel_rfl
def geometry_told.A:Ann:=.no
def geometry_told.P (p0_0 p0_1 p0_2 p0_3 p0_4 p0_5:Int) (g1:FuncId) (cap1:Array Value) (w:World) (K:Int×Unit->World->Prop):Prop:=
 NewV #[.int .i64 p0_0,.int .i64 p0_1,.int .i64 p0_2,.int .i64 p0_3,.int .i64 p0_4,.int .i64 p0_5] 23 w λb1 w2=>
 LoadA w2 ⟨b1,0,none⟩ [.int .i64,.int .i64,.int .i64,.int .i64,.int .i64,.int .i64] λ(x3:Int×Int×Int×Int×Int×Int×Unit)=>
 CallV Tryz.prog 110 #[.agg #[.int .i64 x3.1,.int .i64 x3.2.1,.int .i64 x3.2.2.1,.int .i64 x3.2.2.2.1,.int .i64 x3.2.2.2.2.1,.int .i64 x3.2.2.2.2.2.1]] w2 [.one (.int .i64)] λ(r4:Int×Unit) w5=>
 cond (r4.1 != 0)
 (K ((0:Int),()) w5)
 (cond (okf g1)
 (CallV Tryz.prog g1 ([]++([]++(cap1).toList)).toArray w5 [.one (.int .i64)] λ(r6:Int×Unit) w7=>
 K (r6.1,()) w7)
 False)
theorem geometry_told.vc (p0_0 p0_1 p0_2 p0_3 p0_4 p0_5:Int) (g1:FuncId) (cap1:Array Value) (w:World) (K:Int×Unit->World->Prop) (h:geometry_told.P p0_0 p0_1 p0_2 p0_3 p0_4 p0_5 g1 cap1 w K):CallV Tryz.prog 145 #[.agg #[.int .i64 p0_0,.int .i64 p0_1,.int .i64 p0_2,.int .i64 p0_3,.int .i64 p0_4,.int .i64 p0_5],.func (.func g1) #[] cap1] w [.one (.int .i64)] K:=by
 refine vcFun.of (A:=geometry_told.A) (wr:=false) okf_ok follows h Tryz.func145 ?_
 kernel_rfl
def geometry_Data.A:Ann:=.no
def geometry_Data.P (p0_0 p0_1 p0_2 p0_3 p0_4 p0_5:Int) (w:World) (K:Int×Unit->World->Prop):Prop:=
 NewV #[.int .i64 p0_0,.int .i64 p0_1,.int .i64 p0_2,.int .i64 p0_3,.int .i64 p0_4,.int .i64 p0_5] 23 w λb1 w2=>
 LoadA w2 ⟨b1,0,none⟩ [.int .i64,.int .i64,.int .i64,.int .i64,.int .i64,.int .i64] λ(x3:Int×Int×Int×Int×Int×Int×Unit)=>
 CallV Tryz.prog 145 #[.agg #[.int .i64 x3.1,.int .i64 x3.2.1,.int .i64 x3.2.2.1,.int .i64 x3.2.2.2.1,.int .i64 x3.2.2.2.2.1,.int .i64 x3.2.2.2.2.2.1],.func (.func 146) #[] #[.pointer (some ⟨b1,0,none⟩)]] w2 [.one (.int .i64)] λ(r4:Int×Unit) w5=>
 K (r4.1,()) w5
theorem geometry_Data.vc (p0_0 p0_1 p0_2 p0_3 p0_4 p0_5:Int) (w:World) (K:Int×Unit->World->Prop) (h:geometry_Data.P p0_0 p0_1 p0_2 p0_3 p0_4 p0_5 w K):CallV Tryz.prog 80 #[.agg #[.int .i64 p0_0,.int .i64 p0_1,.int .i64 p0_2,.int .i64 p0_3,.int .i64 p0_4,.int .i64 p0_5]] w [.one (.int .i64)] K:=by
 refine vcFun.of (A:=geometry_Data.A) (wr:=false) okf_ok follows h Tryz.func80 ?_
 kernel_rfl
def geometry_Data_1.A:Ann:=.no
def geometry_Data_1.P (cq0:Addr) (w:World) (K:Int×Unit->World->Prop):Prop:=
 LoadS w cq0 (.int .i64) λ(x1:Int)=>
 Rng .i64 (x1-4) /\
 K (x1-4,()) w
theorem geometry_Data_1.vc (cq0:Addr) (w:World) (K:Int×Unit->World->Prop) (h:geometry_Data_1.P cq0 w K):CallV Tryz.prog 146 #[.pointer (some cq0)] w [.one (.int .i64)] K:=by
 refine vcFun.of (A:=geometry_Data_1.A) (wr:=false) okf_ok follows h Tryz.func146 ?_
 kernel_rfl
def geometry_PageSize.A:Ann:=.no
def geometry_PageSize.P (p0_0 p0_1 p0_2 p0_3 p0_4 p0_5:Int) (w:World) (K:Int×Unit->World->Prop):Prop:=
 NewV #[.int .i64 p0_0,.int .i64 p0_1,.int .i64 p0_2,.int .i64 p0_3,.int .i64 p0_4,.int .i64 p0_5] 23 w λb1 w2=>
 LoadA w2 ⟨b1,0,none⟩ [.int .i64,.int .i64,.int .i64,.int .i64,.int .i64,.int .i64] λ(x3:Int×Int×Int×Int×Int×Int×Unit)=>
 CallV Tryz.prog 145 #[.agg #[.int .i64 x3.1,.int .i64 x3.2.1,.int .i64 x3.2.2.1,.int .i64 x3.2.2.2.1,.int .i64 x3.2.2.2.2.1,.int .i64 x3.2.2.2.2.2.1],.func (.func 193) #[] #[.pointer (some ⟨b1,0,none⟩)]] w2 [.one (.int .i64)] λ(r4:Int×Unit) w5=>
 K (r4.1,()) w5
theorem geometry_PageSize.vc (p0_0 p0_1 p0_2 p0_3 p0_4 p0_5:Int) (w:World) (K:Int×Unit->World->Prop) (h:geometry_PageSize.P p0_0 p0_1 p0_2 p0_3 p0_4 p0_5 w K):CallV Tryz.prog 143 #[.agg #[.int .i64 p0_0,.int .i64 p0_1,.int .i64 p0_2,.int .i64 p0_3,.int .i64 p0_4,.int .i64 p0_5]] w [.one (.int .i64)] K:=by
 refine vcFun.of (A:=geometry_PageSize.A) (wr:=false) okf_ok follows h Tryz.func143 ?_
 kernel_rfl
def geometry_PageSize_1.A:Ann:=.no
def geometry_PageSize_1.P (cq0:Addr) (w:World) (K:Int×Unit->World->Prop):Prop:=
 LoadS w (cq0.add 2) (.int .i64) λ(x1:Int)=>
 Rng .i64 (x1+88) /\
 K (x1+88,()) w
theorem geometry_PageSize_1.vc (cq0:Addr) (w:World) (K:Int×Unit->World->Prop) (h:geometry_PageSize_1.P cq0 w K):CallV Tryz.prog 193 #[.pointer (some cq0)] w [.one (.int .i64)] K:=by
 refine vcFun.of (A:=geometry_PageSize_1.A) (wr:=false) okf_ok follows h Tryz.func193 ?_
 kernel_rfl
def geometry_Index.A:Ann:=.no
def geometry_Index.P (p0_0 p0_1 p0_2 p0_3 p0_4 p0_5 p1_0 p1_1:Int) (w:World) (K:Int×Int×Unit->World->Prop):Prop:=
 NewV #[.int .i64 p0_0,.int .i64 p0_1,.int .i64 p0_2,.int .i64 p0_3,.int .i64 p0_4,.int .i64 p0_5] 23 w λb1 w2=>
 NewV #[.int .i64 p1_0,.int .i64 p1_1] 81 w2 λb3 w4=>
 LoadA w4 ⟨b1,0,none⟩ [.int .i64,.int .i64,.int .i64,.int .i64,.int .i64,.int .i64] λ(x5:Int×Int×Int×Int×Int×Int×Unit)=>
 CallV Tryz.prog 110 #[.agg #[.int .i64 x5.1,.int .i64 x5.2.1,.int .i64 x5.2.2.1,.int .i64 x5.2.2.2.1,.int .i64 x5.2.2.2.2.1,.int .i64 x5.2.2.2.2.2.1]] w4 [.one (.int .i64)] λ(r6:Int×Unit) w7=>
 cond (r6.1 != 0)
 (K ((0:Int),(2:Int),()) w7)
 (LoadS w7 ⟨b3,0,none⟩ (.int .i64) λ(x8:Int)=>
 cond (decide (x8<0))
 (K ((0:Int),(2:Int),()) w7)
 (LoadS w7 ⟨b3,0,none⟩ (.int .i64) λ(x9:Int)=>
 LoadS w7 ⟨b1,0,none⟩ (.int .i64) λ(x10:Int)=>
 cond (decide (x9≥x10))
 (K ((0:Int),(2:Int),()) w7)
 (LoadS w7 ⟨b3,1,none⟩ (.int .i64) λ(x11:Int)=>
 cond (decide (x11<0))
 (K ((0:Int),(2:Int),()) w7)
 (LoadS w7 ⟨b3,1,none⟩ (.int .i64) λ(x12:Int)=>
 LoadS w7 ⟨b1,1,none⟩ (.int .i64) λ(x13:Int)=>
 cond (decide (x12≥x13))
 (K ((0:Int),(2:Int),()) w7)
 (LoadS w7 ⟨b3,0,none⟩ (.int .i64) λ(x14:Int)=>
 LoadS w7 ⟨b1,1,none⟩ (.int .i64) λ(x15:Int)=>
 Rng .i64 (x14*x15) /\
 LoadS w7 ⟨b3,1,none⟩ (.int .i64) λ(x16:Int)=>
 Rng .i64 ((x14*x15)+x16) /\
 K ((x14*x15)+x16,(0:Int),()) w7)))))
theorem geometry_Index.vc (p0_0 p0_1 p0_2 p0_3 p0_4 p0_5 p1_0 p1_1:Int) (w:World) (K:Int×Int×Unit->World->Prop) (h:geometry_Index.P p0_0 p0_1 p0_2 p0_3 p0_4 p0_5 p1_0 p1_1 w K):CallV Tryz.prog 187 #[.agg #[.int .i64 p0_0,.int .i64 p0_1,.int .i64 p0_2,.int .i64 p0_3,.int .i64 p0_4,.int .i64 p0_5],.agg #[.int .i64 p1_0,.int .i64 p1_1]] w [.one (.int .i64),.one (.int .i64)] K:=by
 refine vcFun.of (A:=geometry_Index.A) (wr:=false) okf_ok follows h Tryz.func187 ?_
 kernel_rfl
def geometry_Quota.A:Ann:=.no
def geometry_Quota.P (p0_0 p0_1 p0_2 p0_3 p0_4 p0_5 p1:Int) (w:World) (K:Int×Int×Unit->World->Prop):Prop:=
 NewV #[.int .i64 p0_0,.int .i64 p0_1,.int .i64 p0_2,.int .i64 p0_3,.int .i64 p0_4,.int .i64 p0_5] 23 w λb1 w2=>
 LoadA w2 ⟨b1,0,none⟩ [.int .i64,.int .i64,.int .i64,.int .i64,.int .i64,.int .i64] λ(x3:Int×Int×Int×Int×Int×Int×Unit)=>
 CallV Tryz.prog 110 #[.agg #[.int .i64 x3.1,.int .i64 x3.2.1,.int .i64 x3.2.2.1,.int .i64 x3.2.2.2.1,.int .i64 x3.2.2.2.2.1,.int .i64 x3.2.2.2.2.2.1]] w2 [.one (.int .i64)] λ(r4:Int×Unit) w5=>
 cond (r4.1 != 0)
 (K ((0:Int),r4.1,()) w5)
 (cond (decide (p1<1))
 (K ((0:Int),(13:Int),()) w5)
 (cond (decide (p1>65535))
 (K ((0:Int),(13:Int),()) w5)
 (LoadS w5 ⟨b1,1,none⟩ (.int .i64) λ(x6:Int)=>
 Rng .i64 (x6-1) /\
 Rng .i64 (p1+(x6-1)) /\
 Rng .i64 ((p1+(x6-1))-1) /\
 (x6-1)≠(0:Int)/\Rng .i64 (Int.tdiv ((p1+(x6-1))-1) (x6-1)) /\
 Rng .i64 ((Int.tdiv ((p1+(x6-1))-1) (x6-1))+2) /\
 K ((Int.tdiv ((p1+(x6-1))-1) (x6-1))+2,(0:Int),()) w5)))
theorem geometry_Quota.vc (p0_0 p0_1 p0_2 p0_3 p0_4 p0_5 p1:Int) (w:World) (K:Int×Int×Unit->World->Prop) (h:geometry_Quota.P p0_0 p0_1 p0_2 p0_3 p0_4 p0_5 p1 w K):CallV Tryz.prog 199 #[.agg #[.int .i64 p0_0,.int .i64 p0_1,.int .i64 p0_2,.int .i64 p0_3,.int .i64 p0_4,.int .i64 p0_5],.int .i64 p1] w [.one (.int .i64),.one (.int .i64)] K:=by
 refine vcFun.of (A:=geometry_Quota.A) (wr:=false) okf_ok follows h Tryz.func199 ?_
 kernel_rfl
end Go.Proofs.YtbaojfchlhlaeaaGreat.Vc
namespace Go.Proofs.YtbaojfchlhlaeaaGreat.Vc
open Go Go.Eng Go.RowKit
structure Geo where
 b:Int
 p:Int
 s:Int
 sp:Int
 wr:Int
 ro:Int
abbrev Geo.vs (g:Geo):List Value:=[.int .i64 g.b,.int .i64 g.p,.int .i64 g.s,.int .i64 g.sp,.int .i64 g.wr,.int .i64 g.ro]
abbrev Geo.val (g:Geo):Value:=.agg #[.int .i64 g.b,.int .i64 g.p,.int .i64 g.s,.int .i64 g.sp,.int .i64 g.wr,.int .i64 g.ro]
abbrev Geo.tup (g:Geo):Int×Int×Int×Int×Int×Int×Unit:=(g.b,g.p,g.s,g.sp,g.wr,g.ro,())
def Kept (g:Geo):Prop:=(7<=g.b/\g.b<=64)/\(4<=g.p/\g.p<=32)/\(32<=g.s/\g.s<=4096)/\(0<=g.sp/\g.sp<=8)/\(1<=g.wr/\g.wr<=1000)/\(1<=g.ro/\g.ro<=1000)/\g.s % 16=0
def cei (m u:Int):Int:=(m+u-1) / u
def Right (g:Geo):Prop:=Kept g/\cei 624 g.s<=g.p/\g.sp+3<=g.b-4
instance (g:Geo):Decidable (Kept g):=by unfold Kept;infer_instance
instance (g:Geo):Decidable (Right g):=by unfold Right;infer_instance
theorem cei_uniq {z u m:Int} (hu:0<u) (hm:0<m) (h1:m<=z*u) (h2:z=0\/(z-1)*u<m):z=cei m u:=by
 have h3:(z-1)*u<m:=by
  rcases h2 with rfl | h
  ·simp at h1;omega
  ·exact h
 have e:(z-1)*u=z*u-u:=by rw [Int.sub_mul,Int.one_mul]
 have e2:(z+1)*u=z*u+u:=by rw [Int.add_mul,Int.one_mul]
 unfold cei
 have a:=Int.le_ediv_of_mul_le hu (show z*u<=m+u-1 by omega)
 have b:=Int.ediv_lt_of_lt_mul hu (show m+u-1<(z+1)*u by omega)
 omega
theorem cei_bd {u m:Int} (hu:0<u) (hm:0<m):1<=cei m u/\cei m u<=m:=by
 unfold cei
 have a:=Int.le_ediv_of_mul_le hu (show 1*u<=m+u-1 by omega)
 have hp:m+u-1<(m+1)*u:=by
  have:m*1<=m*u:=Int.mul_le_mul_of_nonneg_left (by omega) (by omega)
  rw [Int.add_mul,Int.one_mul];omega
 have b:=Int.ediv_lt_of_lt_mul hu hp
 omega
theorem in11_c {w:World} {n a b:Int}:CallV Tryz.prog 140 #[.int .i64 n,.int .i64 a,.int .i64 b] w [.one .bool] λr w'=>r.1=decide (a<=n/\n<=b)/\w'=w:=by
 refine ref11_in.vc _ _ _ _ _ ?_
 unfold ref11_in.P
 refine cond_d (λh=>⟨?_,rfl⟩) (λh=>⟨?_,rfl⟩)
 ·show decide (n<=b)=_
  apply decide_eq_decide.2
  omega
 ·show false=_
  exact (decide_eq_false (by omega)).symm
theorem rChunks_c {w:World} {g:Geo} (h:32<=g.s/\g.s<=4096):CallV Tryz.prog 141 #[g.val] w [.one (.int .i64)] λr w'=>r.1=cei 624 g.s/\Ext w w':=by
 refine ref11_Chunks.vc _ _ _ _ _ _ _ _ ?_
 unfold ref11_Chunks.P
 rintro b1 w1 rfl rfl
 have hb:Box (w.alloc (.cells g.vs.toArray 23)) w.heap.size w.heap.size 23 g.vs:=Box.new (Nat.le_refl _) _ _
 refine Loop1 (λ(y:Int×Unit) w'=>0<=y.1/\(y.1=0\/(y.1-1)*g.s<624)/\Ext w w'/\Box w' w.heap.size w.heap.size 23 g.vs) (λ(y:Int×Unit) _=>(21-y.1).toNat) ⟨Int.le_refl _,.inl rfl,Ext.alloc _ _,hb⟩ ?_
 rintro ⟨(z:Int),⟨⟩⟩ w' ⟨h0,h1,he,hb'⟩
 dsimp only at h0 h1 ⊢
 refine hb'.ld (i:=2) (h:=.int .i64) (x:=g.s) rfl ?_
 have hz:z<=20:=by
  rcases h1 with rfl | h1
  ·omega
  ·apply Decidable.byContradiction
   intro hh
   have:=mul_bd (a:=20) (A:=z-1) (b:=32) (B:=g.s) (by omega) (by omega) (by omega) h.1
   omega
 have hr:=mul_bd h0 hz (by omega:(0:Int)<=g.s) h.2
 refine ⟨Rng.i64 (by omega) (by omega),?_⟩
 refine cond_d (λhlt=>?_) (λhge=>?_)
 ·exact ⟨Rng.i64 (by omega) (by omega),⟨by omega,.inr (by rw [show z+1-1=z by omega];exact hlt),he,hb'⟩,by omega⟩
 ·exact ⟨cei_uniq (by omega) (by omega) (by omega) h1,he⟩
theorem rQuota_c {w:World} {g:Geo} {m:Int} (h:4<=g.p/\g.p<=32) (hm:1<=m/\m<=65535):CallV Tryz.prog 38 #[g.val,.int .i64 m] w [.one (.int .i64)] λr w'=>r.1=cei m (g.p-1)+2/\Ext w w':=by
 refine ref11_Quota.vc _ _ _ _ _ _ _ _ _ ?_
 unfold ref11_Quota.P
 rintro b1 w1 rfl rfl
 have hb:Box (w.alloc (.cells g.vs.toArray 23)) w.heap.size w.heap.size 23 g.vs:=Box.new (Nat.le_refl _) _ _
 refine Loop1 (λ(y:Int×Unit) w'=>0<=y.1/\(y.1=0\/(y.1-1)*(g.p-1)<m)/\Ext w w'/\Box w' w.heap.size w.heap.size 23 g.vs) (λ(y:Int×Unit) _=>(65536-y.1).toNat) ⟨Int.le_refl _,.inl rfl,Ext.alloc _ _,hb⟩ ?_
 rintro ⟨(z:Int),⟨⟩⟩ w' ⟨h0,h1,he,hb'⟩
 dsimp only at h0 h1 ⊢
 refine hb'.ld (i:=1) (h:=.int .i64) (x:=g.p) rfl ?_
 have hz:z<=65535:=by
  rcases h1 with rfl | h1
  ·omega
  ·apply Decidable.byContradiction
   intro hh
   have:=mul_bd (a:=65535) (A:=z-1) (b:=1) (B:=g.p-1) (by omega) (by omega) (by omega) (by omega)
   omega
 have hr:=mul_bd h0 hz (by omega:(0:Int)<=g.p-1) (show g.p-1<=31 by omega)
 refine ⟨Rng.i64 (by omega) (by omega),Rng.i64 (by omega) (by omega),?_⟩
 refine cond_d (λhlt=>?_) (λhge=>?_)
 ·exact ⟨Rng.i64 (by omega) (by omega),⟨by omega,.inr (by rw [show z+1-1=z by omega];exact hlt),he,hb'⟩,by omega⟩
 ·refine ⟨Rng.i64 (by omega) (by omega),?_,he⟩
  show z+2=_
  rw [cei_uniq (by omega) (by omega) (by omega) h1]
  rfl
theorem chunks_c {w:World} {s:Int} (h:32<=s/\s<=4096):CallV Tryz.prog 157 #[.int .i64 s] w [.one (.int .i64)] λr w'=>r.1=cei 624 s/\w'=w:=by
 refine geometry_chunks.vc _ _ _ ?_
 unfold geometry_chunks.P
 have hd:Int.tdiv (((624:Int)+s)-1) s=cei 624 s:=Int.tdiv_eq_ediv_of_nonneg (by omega)
 have:=cei_bd (u:=s) (m:=624) (by omega) (by omega)
 rw [hd]
 exact ⟨Rng.i64 (by omega) (by omega),Rng.i64 (by omega) (by omega),by omega,Rng.i64 (by omega) (by omega),rfl,rfl⟩
def Geo.rown (g:Geo):Nat->Int
 | 0=>g.b | 1=>g.p | 2=>g.s | 3=>g.sp | 4=>g.wr | _=>g.ro
def rowf:Nat->Int
 | 0=>7 | 1=>4 | 2=>32 | 3=>0 | 4=>1 | _=>1
def rowt:Nat->Int
 | 0=>64 | 1=>32 | 2=>4096 | 3=>8 | 4=>1000 | _=>1000
theorem kept_iff (g:Geo):(∀ i,i<6->rowf i<=g.rown i/\g.rown i<=rowt i)/\g.s % 16=0↔Kept g:=by
 unfold Kept
 constructor
 ·rintro ⟨h,h'⟩
  exact ⟨h 0 (by omega),h 1 (by omega),h 2 (by omega),h 3 (by omega),h 4 (by omega),h 5 (by omega),h'⟩
 ·rintro ⟨h0,h1,h2,h3,h4,h5,h6⟩
  refine ⟨λi hi=>?_,h6⟩
  match i,hi with
  | 0,_=>exact h0
  | 1,_=>exact h1
  | 2,_=>exact h2
  | 3,_=>exact h3
  | 4,_=>exact h4
  | 5,_=>exact h5
theorem kept_c {w:World} {g:Geo}:CallV Tryz.prog 156 #[g.val] w [.one .bool] λr w'=>r.1=decide (Kept g)/\Ext w w':=by
 refine geometry_kept.vc _ _ _ _ _ _ _ _ ?_
 unfold geometry_kept.P
 rintro b1 w1 rfl rfl
 have hb:Box (w.alloc (.cells g.vs.toArray 23)) w.heap.size w.heap.size 23 g.vs:=Box.new (Nat.le_refl _) _ _
 refine hb.ld (i:=0) (h:=.int .i64) (x:=g.b) rfl ?_
 refine hb.ld (i:=1) (h:=.int .i64) (x:=g.p) rfl ?_
 refine hb.ld (i:=2) (h:=.int .i64) (x:=g.s) rfl ?_
 refine hb.ld (i:=3) (h:=.int .i64) (x:=g.sp) rfl ?_
 refine hb.ld (i:=4) (h:=.int .i64) (x:=g.wr) rfl ?_
 refine hb.ld (i:=5) (h:=.int .i64) (x:=g.ro) rfl ?_
 refine Loop1 (λ(y:Int×Unit) w'=>∃ i:Nat,y.1=(i:Int)/\i<=6/\(∀ j,j<i->rowf j<=g.rown j/\g.rown j<=rowt j)/\Ext w w'/\Box w' w.heap.size w.heap.size 23 g.vs) (λ(y:Int×Unit) _=>(6-y.1).toNat) ⟨0,rfl,by omega,λj hj=>absurd hj (by omega),Ext.alloc _ _,hb⟩ ?_
 rintro ⟨(z:Int),⟨⟩⟩ w' ⟨i,hz,h6,hr,he,hb'⟩
 dsimp only at hz ⊢
 subst hz
 refine cond_d (λhlt=>?_) (λhge=>?_)
 ·refine ⟨⟨by omega,hlt⟩,(g.rown i,rowf i,rowt i,()),?_,?_⟩
  ·rw [Int.toNat_natCast]
   match i,hlt with
   | 0,_=>rfl
   | 1,_=>rfl
   | 2,_=>rfl
   | 3,_=>rfl
   | 4,_=>rfl
   | 5,_=>rfl
   | n+6,h=>exact absurd h (by omega)
  ·rintro b2 w2 rfl rfl
   dsimp only
   have hb2:=Box.new (w:=w') (B:=w'.heap.size) (Nat.le_refl _) 259 [.int .i64 0,.int .i64 0,.int .i64 0]
   refine hb2.store 0 (by simp) λw3 hb3 bl3 _ _=>?_
   have e3:Ext w' w3:=Below.trans (Ext.alloc w' _) bl3
   refine hb3.ld (i:=0) (h:=.int .i64) (x:=g.rown i) rfl ?_
   refine hb3.ld (i:=1) (h:=.int .i64) (x:=rowf i) rfl ?_
   refine cond_d (λhc=>?_) (λhc=>?_)
   ·refine ⟨?_,he.trans e3⟩
    show false=_
    exact (decide_eq_false (λhk=>by have:=((kept_iff g).2 hk).1 i (by omega);omega)).symm
   refine hb3.ld (i:=0) (h:=.int .i64) (x:=g.rown i) rfl ?_
   refine hb3.ld (i:=2) (h:=.int .i64) (x:=rowt i) rfl ?_
   refine cond_d (λhc'=>?_) (λhc'=>?_)
   ·refine ⟨?_,he.trans e3⟩
    show false=_
    exact (decide_eq_false (λhk=>by have:=((kept_iff g).2 hk).1 i (by omega);omega)).symm
   refine ⟨Rng.i64 (by omega) (by omega),⟨i+1,by push_cast;rfl,by omega,λj hj=>?_,he.trans e3,hb'.ext e3⟩,by omega⟩
   by_cases hji:j=i
   ·subst hji;omega
   ·exact hr j (by omega)
 ·have:i=6:=by omega
  subst this
  refine hb'.ld (i:=2) (h:=.int .i64) (x:=g.s) rfl ?_
  refine ⟨by omega,?_,he⟩
  show (Int.tmod g.s 16 == 0)=_
  have h2:=hr 2 (by omega)
  have h2':0<=g.s:=by have:(32:Int)<=g.s:=h2.1;omega
  rw [Int.tmod_eq_emod_of_nonneg h2']
  by_cases hm:g.s % 16=0
  ·rw [hm,decide_eq_true ((kept_iff g).1 ⟨hr,hm⟩)];rfl
  ·rw [decide_eq_false (λhk=>hm ((kept_iff g).2 hk).2)]
   simpa using hm
theorem newG {w:World} {g:Geo} {K:Nat->World->Prop} (h:∀ b w1,Ext w w1->Box w1 w.heap.size b 23 g.vs->K b w1):NewV #[.int .i64 g.b,.int .i64 g.p,.int .i64 g.s,.int .i64 g.sp,.int .i64 g.wr,.int .i64 g.ro] 23 w K:=newBox h
theorem ldG {w:World} {g:Geo} {B b:Nat} {e:TypeId} (hb:Box w B b e g.vs) {K:Int×Int×Int×Int×Int×Int×Unit->Prop} (hk:K g.tup):LoadA w ⟨b,0,none⟩ [.int .i64,.int .i64,.int .i64,.int .i64,.int .i64,.int .i64] K:=hb.lda (l:=[.int .i64,.int .i64,.int .i64,.int .i64,.int .i64,.int .i64]) g.tup rfl hk
def chkE (g:Geo):Int:=if Right g then 0 else 2
theorem Check_c {w:World} {g:Geo}:CallV Tryz.prog 110 #[g.val] w [.one (.int .i64)] λr w'=>r.1=chkE g/\Ext w w':=by
 refine geometry_Check.vc _ _ _ _ _ _ _ _ ?_
 unfold geometry_Check.P
 refine newG λb1 w1 e1 hb=>?_
 refine DrawV.old w1 λD hD hkeep=>?_
 have hD1:=hD _ hb.lt
 have hd:=hb.ext (Ext.drew _)
 have no:∀ {w':World},¬ Right g->Ext w w'->((2:Int)=chkE g/\Ext w w'):=λhr he=>⟨by unfold chkE;rw [if_neg hr],he⟩
 refine ⟨hD1,ldG hd ?_⟩
 dsimp only
 refine (kept_c (g:=g)).mono ?_
 rintro ⟨(r1:Bool),⟨⟩⟩ w2 ⟨h1,e2⟩
 have E2:=(Ext.drew _).trans e2
 refine ⟨hkeep _ E2,?_⟩
 dsimp only at h1 ⊢
 subst h1
 have F2:=e1.trans E2
 by_cases hk:Kept g
 ·refine cond_f (by rw [decide_eq_true hk];rfl) ?_
  refine ⟨hD1,hd.ld (i:=2) (h:=.int .i64) (x:=g.s) rfl ?_⟩
  refine ⟨hD1,hd.ld (i:=1) (h:=.int .i64) (x:=g.p) rfl ?_⟩
  have hk':=hk
  unfold Kept at hk'
  refine (chunks_c (by omega)).mono ?_
  rintro ⟨(r2:Int),⟨⟩⟩ w3 ⟨h2,rfl⟩
  refine ⟨hkeep _ E2,?_⟩
  dsimp only at h2 ⊢
  subst h2
  refine cond_d (λhc=>no (λhr=>by unfold Right at hr;omega) F2) (λhc=>?_)
  refine ⟨hD1,hd.ld (i:=0) (h:=.int .i64) (x:=g.b) rfl ?_⟩
  refine ⟨Rng.i64 (by omega) (by omega),?_⟩
  refine ⟨hD1,hd.ld (i:=3) (h:=.int .i64) (x:=g.sp) rfl ?_⟩
  refine ⟨Rng.i64 (by omega) (by omega),?_⟩
  refine cond_d (λhc2=>no (λhr=>by unfold Right at hr;omega) F2) (λhc2=>?_)
  have hr:Right g:=⟨hk,by omega,by omega⟩
  exact ⟨by unfold chkE;rw [if_pos hr],F2⟩
 ·refine cond_t (by rw [decide_eq_false hk];rfl) (no (λhr=>hk hr.1) F2)
theorem told_c {w:World} {g:Geo} {f:FuncId} {cap:Array Value} {v:Int} (hf:okf f=true) (h:Right g->∀ w',Ext w w'->CallV Tryz.prog f cap w' [.one (.int .i64)] λr w2=>r.1=v/\Ext w' w2) :
  CallV Tryz.prog 145 #[g.val,.func (.func f) #[] cap] w [.one (.int .i64)] λr w'=>r.1=(if Right g then v else (0:Int))/\Ext w w':=by
 refine geometry_told.vc _ _ _ _ _ _ _ _ _ _ ?_
 unfold geometry_told.P
 refine newG λb1 w1 e1 hb=>?_
 refine ldG hb ?_
 refine (Check_c (g:=g)).mono ?_
 rintro ⟨(r1:Int),⟨⟩⟩ w2 ⟨h1,e2⟩
 have E2:=e1.trans e2
 dsimp only at h1 ⊢
 subst h1
 by_cases hr:Right g
 ·refine cond_f (by unfold chkE;rw [if_pos hr];rfl) (cond_t hf ?_)
  have hcap:(([]:List Value)++(([]:List Value)++cap.toList)).toArray=cap:=by simp
  have:=h hr w2 E2
  rw [<-hcap] at this
  refine this.mono ?_
  rintro ⟨(r2:Int),⟨⟩⟩ w3 ⟨h2,e3⟩
  exact ⟨by rw [if_pos hr];exact h2,E2.trans e3⟩
 ·refine cond_t (by unfold chkE;rw [if_neg hr];rfl) ⟨by rw [if_neg hr],E2⟩
theorem Data_c {w:World} {g:Geo}:CallV Tryz.prog 80 #[g.val] w [.one (.int .i64)] λr w'=>r.1=(if Right g then g.b-4 else (0:Int))/\Ext w w':=by
 refine geometry_Data.vc _ _ _ _ _ _ _ _ ?_
 unfold geometry_Data.P
 refine newG λb1 w1 e1 hb=>?_
 refine ldG hb ?_
 refine (told_c (g:=g) (v:=g.b-4) (by kernel_rfl) λhr w' e=>?_).mono ?_
 ·refine geometry_Data_1.vc _ _ _ ?_
  unfold geometry_Data_1.P
  unfold Right Kept at hr
  refine (hb.ext e).ld (i:=0) (h:=.int .i64) (x:=g.b) rfl ?_
  exact ⟨Rng.i64 (by omega) (by omega),rfl,Ext.refl _⟩
 ·rintro ⟨(r2:Int),⟨⟩⟩ w3 ⟨h2,e3⟩
  exact ⟨h2,e1.trans e3⟩
theorem PageSize_c {w:World} {g:Geo}:CallV Tryz.prog 143 #[g.val] w [.one (.int .i64)] λr w'=>r.1=(if Right g then g.s+88 else (0:Int))/\Ext w w':=by
 refine geometry_PageSize.vc _ _ _ _ _ _ _ _ ?_
 unfold geometry_PageSize.P
 refine newG λb1 w1 e1 hb=>?_
 refine ldG hb ?_
 refine (told_c (g:=g) (v:=g.s+88) (by kernel_rfl) λhr w' e=>?_).mono ?_
 ·refine geometry_PageSize_1.vc _ _ _ ?_
  unfold geometry_PageSize_1.P
  unfold Right Kept at hr
  refine ldp (hb.ext e).cells 2 (h:=.int .i64) (x:=g.s) rfl ?_
  exact ⟨Rng.i64 (by omega) (by omega),rfl,Ext.refl _⟩
 ·rintro ⟨(r2:Int),⟨⟩⟩ w3 ⟨h2,e3⟩
  exact ⟨h2,e1.trans e3⟩
def plOk (g:Geo) (b p:Int):Prop:=Right g/\(0<=b/\b<g.b)/\(0<=p/\p<g.p)
instance (g:Geo) (b p:Int):Decidable (plOk g b p):=by unfold plOk;infer_instance
theorem Index_c {w:World} {g:Geo} {b p:Int}:CallV Tryz.prog 187 #[g.val,.agg #[.int .i64 b,.int .i64 p]] w [.one (.int .i64),.one (.int .i64)] λr w'=>
  r.1=(if plOk g b p then b*g.p+p else (0:Int))/\r.2.1=(if plOk g b p then (0:Int) else 2)/\Ext w w':=by
 refine geometry_Index.vc _ _ _ _ _ _ _ _ _ _ ?_
 unfold geometry_Index.P
 refine newG λb1 w1 e1 hb=>?_
 refine newBox (vs:=[.int .i64 b,.int .i64 p]) λb2 w1' e1' hb2=>?_
 have hb':=hb.ext e1'
 refine ldG hb' ?_
 refine (Check_c (g:=g)).mono ?_
 rintro ⟨(r1:Int),⟨⟩⟩ w2 ⟨h1,e2⟩
 dsimp only at h1 ⊢
 subst h1
 have E2:Ext w w2:=e1.trans (e1'.trans e2)
 have i1:=hb'.ext e2
 have i2:=hb2.ext e2
 have no:¬ plOk g b p->((0:Int)=(if plOk g b p then b*g.p+p else 0)/\(2:Int)=(if plOk g b p then 0 else 2)/\Ext w w2):=λhr=>by rw [if_neg hr,if_neg hr];exact ⟨rfl,rfl,E2⟩
 by_cases hr:Right g
 ·refine cond_f (by unfold chkE;rw [if_pos hr];rfl) ?_
  refine i2.ld (i:=0) (h:=.int .i64) (x:=b) rfl ?_
  refine cond_d (λhc=>no (λh=>by unfold plOk at h;omega)) (λh3=>?_)
  refine i2.ld (i:=0) (h:=.int .i64) (x:=b) rfl ?_
  refine i1.ld (i:=0) (h:=.int .i64) (x:=g.b) rfl ?_
  refine cond_d (λhc=>no (λh=>by unfold plOk at h;omega)) (λh4=>?_)
  refine i2.ld (i:=1) (h:=.int .i64) (x:=p) rfl ?_
  refine cond_d (λhc=>no (λh=>by unfold plOk at h;omega)) (λh5=>?_)
  refine i2.ld (i:=1) (h:=.int .i64) (x:=p) rfl ?_
  refine i1.ld (i:=1) (h:=.int .i64) (x:=g.p) rfl ?_
  refine cond_d (λhc=>no (λh=>by unfold plOk at h;omega)) (λh6=>?_)
  refine i2.ld (i:=0) (h:=.int .i64) (x:=b) rfl ?_
  refine i1.ld (i:=1) (h:=.int .i64) (x:=g.p) rfl ?_
  have hok:plOk g b p:=⟨hr,by omega,by omega⟩
  unfold Right Kept at hr
  have hm:=mul_bd (show (0:Int)<=b by omega) (show b<=64 by omega) (show (0:Int)<=g.p by omega) (show g.p<=32 by omega)
  refine ⟨Rng.i64 (by omega) (by omega),?_⟩
  refine i2.ld (i:=1) (h:=.int .i64) (x:=p) rfl ?_
  refine ⟨Rng.i64 (by omega) (by omega),?_⟩
  rw [if_pos hok,if_pos hok]
  exact ⟨rfl,rfl,E2⟩
 ·exact cond_t (by unfold chkE;rw [if_neg hr];rfl) (no (λh=>hr h.1))
def quo (g:Geo) (m:Int):Int:=cei m (g.p-1)+2
def quoE (g:Geo) (m:Int):Int:=if Right g then (if 1<=m/\m<=65535 then 0 else 13) else 2
theorem quo_bd {g:Geo} (hr:Right g) {m:Int} (hm:1<=m/\m<=65535):3<=quo g m/\quo g m<=65537:=by
 unfold Right Kept at hr
 have:=cei_bd (u:=g.p-1) (m:=m) (by omega) (by omega)
 unfold quo
 omega
theorem Quota_c {w:World} {g:Geo} {m:Int}:CallV Tryz.prog 199 #[g.val,.int .i64 m] w [.one (.int .i64),.one (.int .i64)] λr w'=>
  r.1=(if quoE g m=0 then quo g m else (0:Int))/\r.2.1=quoE g m/\Ext w w':=by
 refine geometry_Quota.vc _ _ _ _ _ _ _ _ _ ?_
 unfold geometry_Quota.P
 refine newG λb1 w1 e1 hb=>?_
 refine ldG hb ?_
 refine (Check_c (g:=g)).mono ?_
 rintro ⟨(r1:Int),⟨⟩⟩ w2 ⟨h1,e2⟩
 dsimp only at h1 ⊢
 subst h1
 have E2:Ext w w2:=e1.trans e2
 by_cases hr:Right g
 ·refine cond_f (by unfold chkE;rw [if_pos hr];rfl) ?_
  have no:¬ (1<=m/\m<=65535)->((0:Int)=(if quoE g m=0 then quo g m else 0)/\(13:Int)=quoE g m/\Ext w w2):=λh=>by
   have:quoE g m=13:=by unfold quoE;rw [if_pos hr,if_neg h]
   rw [this];exact ⟨rfl,rfl,E2⟩
  refine cond_d (λhc=>no (by omega)) (λh3=>cond_d (λhc=>no (by omega)) (λh4=>?_))
  have hm:1<=m/\m<=65535:=by omega
  have hq:quoE g m=0:=by unfold quoE;rw [if_pos hr,if_pos hm]
  have hqb:=quo_bd hr hm
  unfold quo at hqb
  refine (hb.ext e2).ld (i:=1) (h:=.int .i64) (x:=g.p) rfl ?_
  have hr':=hr
  unfold Right Kept at hr'
  have hd:Int.tdiv ((m+(g.p-1))-1) (g.p-1)=cei m (g.p-1):=Int.tdiv_eq_ediv_of_nonneg (by omega)
  rw [hd]
  refine ⟨Rng.i64 (by omega) (by omega),Rng.i64 (by omega) (by omega),Rng.i64 (by omega) (by omega),by omega,Rng.i64 (by omega) (by omega),Rng.i64 (by omega) (by omega),?_⟩
  rw [hq]
  exact ⟨rfl,rfl,E2⟩
 ·refine cond_t (by unfold chkE;rw [if_neg hr];rfl) ?_
  have:quoE g m=2:=by unfold quoE;rw [if_neg hr]
  rw [this]
  refine ⟨rfl,?_,E2⟩
  show chkE g=2
  unfold chkE;rw [if_neg hr]
end Go.Proofs.YtbaojfchlhlaeaaGreat.Vc
namespace Go.Eng
open Go Go.RowKit
abbrev NoB:Nat->Prop:=λ_=>False
structure Fr (E:Nat->Prop) (w w':World):Prop where
 os:w'.os=w.os
 tape:w'.tape=w.tape
 output:w'.output=w.output
 size:w.heap.size<=w'.heap.size
 block:∀ k,k<w.heap.size->¬ E k->w'.heap[k]? = w.heap[k]?
theorem Fr.refl (E:Nat->Prop) (w:World):Fr E w w:=⟨rfl,rfl,rfl,Nat.le_refl _,λ_ _ _=>rfl⟩
theorem Fr.trans' {E E':Nat->Prop} {a b c:World} (h:Fr E a b) (k:Fr E' b c) (he:∀ i,E' i->E i\/a.heap.size<=i):Fr E a c:=
 ⟨k.os.trans h.os,k.tape.trans h.tape,k.output.trans h.output,Nat.le_trans h.size k.size,λi hi hn=>
  (k.block i (Nat.lt_of_lt_of_le hi h.size) λx=>(he i x).elim hn λy=>by omega).trans (h.block i hi hn)⟩
theorem Fr.trans {E:Nat->Prop} {a b c:World} (h:Fr E a b) (k:Fr E b c):Fr E a c:=h.trans' k λ_=>.inl
theorem Fr.mono {E E':Nat->Prop} {w w':World} (h:Fr E w w') (he:∀ k,E k->E' k):Fr E' w w':=⟨h.os,h.tape,h.output,h.size,λk hk hn=>h.block k hk λx=>hn (he k x)⟩
theorem Fr.of {w w':World} (h:Ext w w'):Fr NoB w w':=⟨h.os,h.tape,h.output,h.size,λk hk _=>h.block k hk⟩
theorem Fr.ext {w w':World} (h:Fr NoB w w'):Ext w w':=⟨h.os,h.tape,h.output,h.size,λk hk=>h.block k hk λx=>x⟩
theorem Fr.any {E:Nat->Prop} {w w':World} (h:Fr NoB w w'):Fr E w w':=h.mono λ_ x=>x.elim
theorem Fr.drew (E:Nat->Prop) (w:World):Fr E w w.drew:=⟨rfl,rfl,rfl,Nat.le_refl _,λ_ _ _=>rfl⟩
theorem Fr.keep {E D:Nat->Prop} {w w':World} (h:Fr E w w') (hd:∀ k,D k->k<w.heap.size/\¬ E k):KeepOn D w w':=λk hk=>h.block k (hd k hk).1 (hd k hk).2
theorem DrawV.but {body:(Nat->Prop)->Prop} (X:Nat->Prop) (w:World) (h:∀ D:Nat->Prop,(∀ b,b<w.heap.size->¬ X b->D b)->(∀ w',Fr X w.drew w'->KeepOn D w.drew w')->body D):DrawV body:=
 ⟨λb=>b<w.heap.size/\¬ X b,h _ (λb h1 h2=>⟨h1,h2⟩) λw' f=>f.keep λk hk=>hk⟩
theorem DrawV.reg {body:(Nat->Prop)->Prop} (w:World) (h:∀ D:Nat->Prop,(∀ b,b<w.heap.size->D b)->(∀ w',Fr NoB w.drew w'->KeepOn D w.drew w')->body D):DrawV body:=
 DrawV.but NoB w λD hD hk=>h D (λb hb=>hD b hb λx=>x) hk
structure Asr where
 p:World->(Nat->Prop)->Prop
 st:∀ {w w':World} {F:Nat->Prop},p w F->(∀ k,F k->w'.heap[k]? = w.heap[k]?)->p w' F
def StarP (w:World):List Asr->(Nat->Prop)->Prop
 | [],_=>True
 | R::Rs,F=>∃ F1 F2:Nat->Prop,R.p w F1/\StarP w Rs F2/\(∀ k,F1 k->¬ F2 k)/\(∀ k,F1 k->F k)/\(∀ k,F2 k->F k)
theorem StarP.st {w w':World}:∀ {Rs:List Asr} {F:Nat->Prop},StarP w Rs F->(∀ k,F k->w'.heap[k]? = w.heap[k]?)->StarP w' Rs F
 | [],_,_,_=>trivial
 | R::Rs,F,⟨F1,F2,h1,h2,h3,h4,h5⟩,h=>⟨F1,F2,R.st h1 λk hk=>h k (h4 k hk),StarP.st h2 λk hk=>h k (h5 k hk),h3,h4,h5⟩
theorem StarP.sub {w:World}:∀ {Rs:List Asr} {F F':Nat->Prop},StarP w Rs F->(∀ k,F k->F' k)->StarP w Rs F'
 | [],_,_,_,_=>trivial
 | R::Rs,F,F',⟨F1,F2,h1,h2,h3,h4,h5⟩,h=>⟨F1,F2,h1,h2,h3,λk hk=>h k (h4 k hk),λk hk=>h k (h5 k hk)⟩
theorem StarP.app {w:World}:∀ {Rs Ts:List Asr} {F:Nat->Prop},StarP w (Rs++Ts) F↔∃ F1 F2:Nat->Prop,StarP w Rs F1/\StarP w Ts F2/\(∀ k,F1 k->¬ F2 k)/\(∀ k,F1 k->F k)/\(∀ k,F2 k->F k)
 | [],Ts,F=>⟨λh=>⟨NoB,F,trivial,h,λ_ x=>x.elim,λ_ x=>x.elim,λ_ x=>x⟩,λ⟨_,F2,_,h,_,_,h5⟩=>StarP.sub h h5⟩
 | R::Rs,Ts,F=>by
  constructor
  ·rintro ⟨F1,F2,h1,h2,h3,h4,h5⟩
   obtain ⟨G1,G2,g1,g2,g3,g4,g5⟩:=(StarP.app (Rs:=Rs) (Ts:=Ts)).1 h2
   exact ⟨λk=>F1 k\/G1 k,G2,⟨F1,G1,h1,g1,λk hk hg=>h3 k hk (g4 k hg),λk=>.inl,λk=>.inr⟩,g2,λk hk hg=>hk.elim (λx=>h3 k x (g5 k hg)) (λx=>g3 k x hg),λk hk=>hk.elim (h4 k) (λx=>h5 k (g4 k x)),λk hk=>h5 k (g5 k hk)⟩
  ·rintro ⟨F1,F2,⟨G1,G2,g1,g2,g3,g4,g5⟩,h2,h3,h4,h5⟩
   exact ⟨G1,λk=>G2 k\/F2 k,g1,(StarP.app (Rs:=Rs) (Ts:=Ts)).2 ⟨G2,F2,g2,h2,λk hk=>h3 k (g5 k hk),λk=>.inl,λk=>.inr⟩,λk hk hg=>hg.elim (g3 k hk) (h3 k (g4 k hk)),λk hk=>h4 k (g4 k hk),λk hk=>hk.elim (λx=>h4 k (g5 k x)) (h5 k)⟩
theorem StarP.perm {w:World} {Rs Ts:List Asr} (h:Rs.Perm Ts):∀ {F:Nat->Prop},StarP w Rs F->StarP w Ts F:=by
 induction h with
 | nil=>exact λh=>h
 | cons R _ ih=>rintro F ⟨F1,F2,h1,h2,h3⟩;exact ⟨F1,F2,h1,ih h2,h3⟩
 | swap R T l=>
  rintro F ⟨F1,F2,h1,⟨G1,G2,g1,g2,g3,g4,g5⟩,h3,h4,h5⟩
  exact ⟨G1,λk=>F1 k\/G2 k,g1,⟨F1,G2,h1,g2,λk hk hg=>h3 k hk (g5 k hg),λk=>.inl,λk=>.inr⟩,λk hk hg=>hg.elim (λx=>h3 k x (g4 k hk)) (g3 k hk),λk hk=>h5 k (g4 k hk),λk hk=>hk.elim (h4 k) (λx=>h5 k (g5 k x))⟩
 | trans _ _ ih1 ih2=>exact λh=>ih2 (ih1 h)
theorem StarP.get {w:World}:∀ {Rs:List Asr} {i:Nat} {R:Asr} {F:Nat->Prop},Rs[i]? = some R->StarP w Rs F->∃ F1,R.p w F1/\∀ k,F1 k->F k
 | [],i,R,F,h,_=>by simp at h
 | T::Rs,0,R,F,h,⟨F1,F2,h1,h2,h3,h4,h5⟩=>by simp at h;subst h;exact ⟨F1,h1,h4⟩
 | T::Rs,i+1,R,F,h,⟨F1,F2,h1,h2,h3,h4,h5⟩=>by
  obtain ⟨G,g1,g2⟩:=StarP.get (i:=i) (by simpa using h) h2
  exact ⟨G,g1,λk hk=>h5 k (g2 k hk)⟩
def StarA (Rs:List Asr):Asr:=⟨λw F=>StarP w Rs F,λh k=>h.st k⟩
structure Sep (E:Nat->Prop) (w0 w:World) (Rs:List Asr):Prop where
 fr:Fr E w0 w
 ex:∃ F:Nat->Prop,StarP w Rs F/\∀ k,F k->(E k\/w0.heap.size<=k)/\k<w.heap.size
section
variable {E:Nat->Prop} {w0 w w':World} {Rs Ts:List Asr}
theorem Sep.ext (S:Sep NoB w0 w Rs):Ext w0 w:=S.fr.ext
theorem Sep.start (E:Nat->Prop) (w:World):Sep E w w []:=⟨Fr.refl _ _,NoB,trivial,λ_ x=>x.elim⟩
theorem Sep.begin {E:Nat->Prop} {w:World} {Rs:List Asr} (h:StarP w Rs E) (hE:∀ k,E k->k<w.heap.size):Sep E w w Rs:=⟨Fr.refl _ _,E,h,λk hk=>⟨.inl hk,hE k hk⟩⟩
theorem Sep.perm (S:Sep E w0 w Rs) (h:Rs.Perm Ts):Sep E w0 w Ts:=⟨S.fr,S.ex.imp λF ⟨h1,h2⟩=>⟨h1.perm h,h2⟩⟩
theorem Sep.drop (S:Sep E w0 w (Rs++Ts)):Sep E w0 w Ts:=by
 obtain ⟨F,h,hb⟩:=S.ex
 obtain ⟨F1,F2,h1,h2,h3,h4,h5⟩:=StarP.app.1 h
 exact ⟨S.fr,F2,h2,λk hk=>hb k (h5 k hk)⟩
theorem Sep.take (S:Sep E w0 w (Rs++Ts)):Sep E w0 w Rs:=by
 obtain ⟨F,h,hb⟩:=S.ex
 obtain ⟨F1,F2,h1,h2,h3,h4,h5⟩:=StarP.app.1 h
 exact ⟨S.fr,F1,h1,λk hk=>hb k (h4 k hk)⟩
theorem Sep.take1 {R:Asr} (S:Sep E w0 w (R::Rs)):Sep E w0 w [R]:=Sep.take (Rs:=[R]) S
theorem Sep.tail {R:Asr} (S:Sep E w0 w (R::Rs)):Sep E w0 w Rs:=Sep.drop (Rs:=[R]) S
theorem Sep.fold {Rs Ts:List Asr} (S:Sep E w0 w (Rs++Ts)):Sep E w0 w (StarA Rs::Ts):=by
 obtain ⟨F,h,hb⟩:=S.ex
 obtain ⟨F1,F2,h1,h2,h3⟩:=StarP.app.1 h
 exact ⟨S.fr,F,⟨F1,F2,h1,h2,h3⟩,hb⟩
theorem Sep.unfold {Rs Ts:List Asr} (S:Sep E w0 w (StarA Rs::Ts)):Sep E w0 w (Rs++Ts):=by
 obtain ⟨F,⟨F1,F2,h1,h2,h3⟩,hb⟩:=S.ex
 exact ⟨S.fr,F,StarP.app.2 ⟨F1,F2,h1,h2,h3⟩,hb⟩
theorem Sep.conv {R R':Asr} (S:Sep E w0 w (R::Rs)) (h:∀ F,R.p w F->(∀ k,F k->k<w.heap.size)->R'.p w F):Sep E w0 w (R'::Rs):=by
 obtain ⟨F,⟨F1,F2,h1,h2,h3,h4,h5⟩,hb⟩:=S.ex
 exact ⟨S.fr,F,⟨F1,F2,h F1 h1 λk hk=>(hb k (h4 k hk)).2,h2,h3,h4,h5⟩,hb⟩
theorem Sep.conv2 {R1 R2 R':Asr} (S:Sep E w0 w (R1::R2::Rs)) (h:∀ F1 F2,R1.p w F1->R2.p w F2->(∀ k,F1 k\/F2 k->k<w.heap.size)->R'.p w (λk=>F1 k\/F2 k)):Sep E w0 w (R'::Rs):=by
 obtain ⟨F,⟨F1,_,h1,⟨F2,F3,h2,h3,d2,u2,u3⟩,d1,u1,u0⟩,hb⟩:=S.ex
 exact ⟨S.fr,F,⟨λk=>F1 k\/F2 k,F3,h F1 F2 h1 h2 λk hk=>hk.elim (λx=>(hb k (u1 k x)).2) (λx=>(hb k (u0 k (u2 k x))).2),h3,λk hk hg=>hk.elim (λx=>d1 k x (u3 k hg)) (λx=>d2 k x hg),λk hk=>hk.elim (u1 k) (λx=>u0 k (u2 k x)),λk hk=>u0 k (u3 k hk)⟩,hb⟩
theorem Sep.get (S:Sep E w0 w Rs) {i:Nat} {R:Asr} (hi:Rs[i]? = some R):∃ F,R.p w F/\∀ k,F k->(E k\/w0.heap.size<=k)/\k<w.heap.size:=by
 obtain ⟨F,h,hb⟩:=S.ex
 obtain ⟨F1,h1,h2⟩:=StarP.get hi h
 exact ⟨F1,h1,λk hk=>hb k (h2 k hk)⟩
theorem Sep.frame (S:Sep E w0 w (Rs++Ts)):∃ F,StarP w Rs F/\(∀ k,F k->k<w.heap.size)/\∀ w' Ls,Sep F w w' Ls->Sep E w0 w' (Ls++Ts):=by
 obtain ⟨F,h,hb⟩:=S.ex
 obtain ⟨F1,F2,h1,h2,h3,h4,h5⟩:=StarP.app.1 h
 refine ⟨F1,h1,λk hk=>(hb k (h4 k hk)).2,λw' Ls S'=>?_⟩
 obtain ⟨G,g1,g2⟩:=S'.ex
 refine ⟨S.fr.trans' S'.fr λk hk=>(hb k (h4 k hk)).1,λk=>G k\/F2 k,StarP.app.2 ⟨G,F2,g1,h2.st λk hk=>S'.fr.block k (hb k (h5 k hk)).2 λx=>h3 k x hk,λk hk hf=>?_,λk=>.inl,λk=>.inr⟩,λk hk=>?_⟩
 ·rcases (g2 k hk).1 with x | x
  ·exact h3 k x hf
  ·have:=(hb k (h5 k hf)).2;omega
 ·rcases hk with hk | hk
  ·refine ⟨?_,(g2 k hk).2⟩
   rcases (g2 k hk).1 with x | x
   ·exact (hb k (h4 k x)).1
   ·have:=S.fr.size;exact .inr (by omega)
  ·exact ⟨(hb k (h5 k hk)).1,Nat.lt_of_lt_of_le (hb k (h5 k hk)).2 S'.fr.size⟩
theorem Sep.frame1 {R:Asr} (S:Sep E w0 w (R::Ts)):∃ F,R.p w F/\(∀ k,F k->k<w.heap.size)/\∀ w' Ls,Sep F w w' Ls->Sep E w0 w' (Ls++Ts):=by
 obtain ⟨F,⟨F1,F2,h1,h2,h3,h4,h5⟩,hb,hk⟩:=Sep.frame (Rs:=[R]) S
 refine ⟨F1,h1,λk hk=>hb k (h4 k hk),λw' Ls S'=>hk w' Ls ⟨S'.fr.mono h4,S'.ex.imp λG ⟨g1,g2⟩=>⟨g1,λk hk=>⟨(g2 k hk).1.imp (h4 k) id,(g2 k hk).2⟩⟩⟩⟩
theorem Sep.frame0 (S:Sep E w0 w Ts) {Ls:List Asr} (h:Sep NoB w w' Ls):Sep E w0 w' (Ls++Ts):=by
 obtain ⟨F,h1,h2,h3⟩:=Sep.frame (Rs:=[]) S
 refine h3 w' Ls ⟨h.fr.any,h.ex.imp λG ⟨g1,g2⟩=>⟨g1,λk hk=>⟨.inr ((g2 k hk).1.elim (λx=>x.elim) id),(g2 k hk).2⟩⟩⟩
theorem Sep.step0 (S:Sep E w0 w Rs) (h:Fr NoB w w'):Sep E w0 w' Rs:=S.frame0 (Ls:=[]) ⟨h,NoB,trivial,λ_ x=>x.elim⟩
theorem Sep.stepE (S:Sep E w0 w Rs) (h:Ext w w'):Sep E w0 w' Rs:=S.step0 (.of h)
theorem Sep.drew (S:Sep E w0 w Rs):Sep E w0 w.drew Rs:=S.step0 (.drew _ _)
theorem Sep.push (S:Sep E w0 w Rs) {R:Asr} {F:Nat->Prop} (h:Fr NoB w w') (hp:R.p w' F) (hF:∀ k,F k->w.heap.size<=k/\k<w'.heap.size):Sep E w0 w' (R::Rs):=
 S.frame0 (Ls:=[R]) ⟨h,F,⟨F,NoB,hp,trivial,λ_ _ x=>x,λ_ x=>x,λ_ x=>x.elim⟩,λk hk=>⟨.inr (hF k hk).1,(hF k hk).2⟩⟩
theorem Sep.reg (S:Sep E w0 w Rs) {body:(Nat->Prop)->Prop} (h:∀ D:Nat->Prop,(∀ b,b<w.heap.size->D b)->(∀ w',Fr NoB w.drew w'->KeepOn D w.drew w')->Sep E w0 w.drew Rs->Sep NoB w.drew w.drew []->body D):DrawV body:=
 DrawV.reg w λD hD hk=>h D hD hk S.drew (Sep.start _ _)
theorem Sep.regX (S:Sep E w0 w Rs) (X:Nat->Prop) {body:(Nat->Prop)->Prop} (h:∀ D:Nat->Prop,(∀ b,b<w.heap.size->¬ X b->D b)->(∀ w',Fr X w.drew w'->KeepOn D w.drew w')->Sep E w0 w.drew Rs->Sep NoB w.drew w.drew []->body D):DrawV body:=
 DrawV.but X w λD hD hk=>h D hD hk S.drew (Sep.start _ _)
theorem perm_front {Rs:List Asr} {i:Nat} {R:Asr} (hi:Rs[i]? = some R):Rs.Perm (R::Rs.eraseIdx i):=by
 induction Rs generalizing i with
 | nil=>simp at hi
 | cons T Rs ih=>
  cases i with
  | zero=>simp at hi;subst hi;exact List.Perm.refl _
  | succ i=>
   simp only [List.getElem?_cons_succ] at hi
   exact ((ih hi).cons T).trans (List.Perm.swap R T _)
theorem perm_set {Rs:List Asr} {i:Nat} {R R':Asr} (hi:Rs[i]? = some R):(R'::Rs.eraseIdx i).Perm (Rs.set i R'):=by
 have h:(Rs.set i R')[i]? = some R':=by
  have:=(List.getElem?_eq_some_iff.1 hi).1
  simp [this]
 have:=perm_front h
 rw [List.eraseIdx_set_eq] at this
 exact this.symm
def pickL:List Asr->List Nat->Option (List Asr)
 | _,[]=>some []
 | Rs,i::is=>match Rs[i]? with | none=>none | some R=>(pickL (Rs.eraseIdx i) is).map (R::·)
theorem pickL_perm:∀ {is:List Nat} {Rs Ts:List Asr},pickL Rs is=some Ts->∃ Us,Rs.Perm (Ts++Us)
 | [],Rs,Ts,h=>by simp [pickL] at h;subst h;exact ⟨Rs,List.Perm.refl _⟩
 | i::is,Rs,Ts,h=>by
  simp only [pickL] at h
  split at h
  ·cases h
  ·rename_i R hR
   obtain ⟨Vs,hV,rfl⟩:=Option.map_eq_some_iff.1 h
   obtain ⟨Us,hU⟩:=pickL_perm hV
   exact ⟨Us,(perm_front hR).trans (hU.cons R)⟩
theorem Sep.sel (S:Sep E w0 w Rs) (is:List Nat) {Ts:List Asr} (h:pickL Rs is=some Ts):Sep E w0 w Ts:=by
 obtain ⟨Us,hU⟩:=pickL_perm h
 exact (S.perm hU).take
theorem Sep.step (S:Sep E w0 w Rs) {i:Nat} {R:Asr} (hi:Rs[i]? = some R):∃ F,R.p w F/\(∀ k,F k->k<w.heap.size)/\∀ w' F' (R':Asr),R'.p w' F'->Fr F w w'->(∀ k,F' k->(F k\/w.heap.size<=k)/\k<w'.heap.size)->Sep E w0 w' (Rs.set i R'):=by
 obtain ⟨F,h1,h2,h3⟩:=(S.perm (perm_front hi)).frame1
 refine ⟨F,h1,h2,λw' F' R' hp hf hF=>(h3 w' [R'] ⟨hf,F',⟨F',NoB,hp,trivial,λ_ _ x=>x,λ_ x=>x,λ_ x=>x.elim⟩,hF⟩).perm (perm_set hi)⟩
end
def BoxA (b:Nat) (e:TypeId) (vs:List Value):Asr:=⟨λw F=>F b/\w.heap[b]? = some (.cells vs.toArray e),λh k=>⟨h.1,by rw [k _ h.1];exact h.2⟩⟩
def OwnA (e:TypeId) (sz:Nat) (a:Option Addr) (n c:Nat) (vs:List Value):Asr:=
 ⟨λw F=>Own w 0 e sz a n c vs/\∀ q:Addr,a=some q->F q.block,λh k=>⟨h.1.other λq hq=>k _ (h.2 q hq),h.2⟩⟩
section
variable {E:Nat->Prop} {w0 w w':World} {Rs Ts:List Asr} {b:Nat} {e:TypeId} {vs:List Value}
theorem Sep.newB (S:Sep E w0 w Rs) {K:Nat->World->Prop} (hk:∀ b w',Sep E w0 w' (BoxA b e vs::Rs)->Fr NoB w w'->w.heap.size<=b->K b w'):NewV vs.toArray e w K:=by
 rintro b w1 rfl rfl
 have f:Fr NoB w (w.alloc (.cells vs.toArray e)):=.of (Ext.alloc _ _)
 refine hk _ _ (S.push (F:=λk=>k=w.heap.size) f ⟨rfl,heap_new w _⟩ λk hk=>?_) f (Nat.le_refl _)
 subst hk
 exact ⟨Nat.le_refl _,by have:=(Array.getElem?_eq_some_iff.1 (heap_new w (.cells vs.toArray e))).1;exact this⟩
theorem Sep.cells (S:Sep E w0 w Rs) (i:Nat) (hi:Rs[i]? = some (BoxA b e vs)):CellsAt w ⟨b,0,none⟩ vs:=by
 obtain ⟨F,⟨_,h⟩,_⟩:=S.get hi
 exact CellsAt.of_heap (cs:=vs.toArray) (e:=e) (fr:=(0,0)) h (λj v hv=>by simpa using hv)
theorem Sep.ne (S:Sep E w0 w Rs) (i j:Nat) {b2:Nat} {e2:TypeId} {vs2:List Value} (hij:i<j) (hi:Rs[i]? = some (BoxA b e vs)) (hj:Rs[j]? = some (BoxA b2 e2 vs2)):b≠b2:=by
 obtain ⟨F,h,_⟩:=S.ex
 obtain ⟨F1,F2,h1,h2,h3,_⟩:=StarP.perm (perm_front hi) h
 have:(Rs.eraseIdx i)[j-1]? = some (BoxA b2 e2 vs2):=by rw [List.getElem?_eraseIdx_of_ge (by omega),show j-1+1=j by omega];exact hj
 obtain ⟨G,g1,g2⟩:=StarP.get this h2
 intro e
 subst e
 exact h3 b h1.1 (g2 b g1.1)
theorem Sep.lt (S:Sep E w0 w Rs) (i:Nat) (hi:Rs[i]? = some (BoxA b e vs)):b<w.heap.size:=by
 obtain ⟨F,⟨h,_⟩,h2⟩:=S.get hi
 exact (h2 b h).2
theorem Sep.ld (S:Sep E w0 w Rs) (i:Nat) (hi:Rs[i]? = some (BoxA b e vs)) {j:Nat} {h:SS} (x:h.T) (hv:vs[j]? = some (h.v x)) {K:h.T->Prop} (hk:K x):LoadS w ⟨b,j,none⟩ h K:=by
 refine ⟨x,?_,hk⟩
 have:=S.cells i hi j _ hv
 rwa [show (⟨b,0,none⟩:Addr).add j=⟨b,j,none⟩ by simp [Addr.add_lit]] at this
theorem Sep.lda (S:Sep E w0 w Rs) (i:Nat) (hi:Rs[i]? = some (BoxA b e vs)) {l:List SS} (x:Tup l) (hv:tupV l x=vs) {K:Tup l->Prop} (hk:K x):LoadA w ⟨b,0,none⟩ l K:=
 ⟨x,by rw [hv];exact S.cells i hi,hk⟩
theorem Sep.ldaN (S:Sep E w0 w Rs) (i:Nat) (hi:Rs[i]? = some (BoxA b e vs)) (o:Nat) {l:List SS} (x:Tup l) (hv:tupV l x=(vs.drop o).take l.length) {K:Tup l->Prop} (hk:K x):LoadA w ⟨b,o,none⟩ l K:=by
 refine ⟨x,?_,hk⟩
 rw [hv]
 have:=((S.cells i hi).drop o).take l.length
 rwa [show (⟨b,0,none⟩:Addr).add o=⟨b,o,none⟩ by simp [Addr.add_lit]] at this
theorem Sep.store (S:Sep E w0 w Rs) (i:Nat) (hi:Rs[i]? = some (BoxA b e vs)) (o:Nat) {news:List Value} (hl:o+news.length<=vs.length) {K:World->Prop}
  (hk:∀ w',Sep E w0 w' (Rs.set i (BoxA b e (vs.take o++(news++vs.drop (o+news.length)))))->Fr (λk=>k=b) w w'->K w'):StoreV w ⟨b,o,none⟩ news K:=by
 obtain ⟨F,⟨h1,h2⟩,h3,h4⟩:=S.step hi
 refine ⟨rfl,Free.of_heap h2 (by simpa using hl),?_⟩
 rintro w' rfl
 obtain ⟨r1,r2,r3,r4⟩:=setCells_rest news w b o
 have fr:Fr (λk=>k=b) w (w.setCells b o news):=⟨r1,r2,r3,by rw [r4];exact Nat.le_refl _,λk hk hn=>setCells_other _ _ _ _ _ hn⟩
 refine hk _ (h4 _ F _ ⟨h1,?_⟩ (fr.mono λk hk=>by subst hk;exact h1) λk hk=>⟨.inl hk,by rw [r4];exact h3 k hk⟩) fr
 rw [setCells_heap _ _ _ _ _ _ _ h2]
 have:=splice_toList news vs.toArray o (by simpa using hl)
 rw [List.toList_toArray] at this
 rw [<-this,Array.toArray_toList]
theorem Sep.asOwn (S:Sep E w0 w (BoxA b e vs::Rs)) {sz n:Nat} (hl:vs.length=n*sz) (hn:n<=9223372036854775807) (h1:oneAll vs):Sep E w0 w (OwnA e sz (some ⟨b,0,none⟩) n n vs::Rs):=
 S.conv λF ⟨hF,h⟩ _=>⟨⟨hl,Nat.le_refl _,hn,h1,.inr ⟨b,vs.toArray,rfl,Nat.zero_le _,h,by simpa using hl,by simp⟩⟩,λq hq=>by cases hq;exact hF⟩
theorem Sep.nilOwn (S:Sep E w0 w Rs) (e:TypeId) (sz:Nat):Sep E w0 w (OwnA e sz none 0 0 []::Rs):=
 S.push (F:=NoB) (Fr.refl _ _) ⟨Own.nil w 0 e sz,λq hq=>by cases hq⟩ λ_ x=>x.elim
theorem Sep.own (S:Sep E w0 w Rs) (i:Nat) {sz:Nat} {a:Option Addr} {n c:Nat} (hi:Rs[i]? = some (OwnA e sz a n c vs)):Own w 0 e sz a n c vs:=by
 obtain ⟨F,⟨h,_⟩,_⟩:=S.get hi
 exact h
theorem Sep.ints (S:Sep E w0 w Rs) (i:Nat) {a:Option Addr} {n c:Nat} {k:IntKind} {xs:List Int} (hi:Rs[i]? = some (OwnA e 1 a n c (xs.map (Value.int k)))):Ints w k a n c xs:=(S.own i hi).ints
theorem Sep.pushO (S:Sep E w0 w Rs) {sz:Nat} {a:Option Addr} {n c:Nat} (x:Ext w w') (h:Own w' w.heap.size e sz a n c vs):Sep E w0 w' (OwnA e sz a n c vs::Rs):=
 S.push (F:=λk=>∃ q:Addr,a=some q/\k=q.block) (.of x) ⟨h.mono (Nat.zero_le _),λq hq=>⟨q,hq,rfl⟩⟩ λk ⟨q,hq,hk⟩=>by subst hk;exact ⟨h.ge q hq,h.lt q hq⟩
theorem Sep.app (S:Sep E w0 w Rs) (i:Nat) {sz by':Nat} {a:Option Addr} {n c m:Nat} {news:List Value} (hi:Rs[i]? = some (OwnA e sz a n c vs)) (hl:news.length=m*sz) (h1:oneAll news) (hby:(2*(n+m)+256)*by'<=281474976710656) (h63:n+m<=9223372036854775807)
  {K:Option Addr->Nat->Nat->World->Prop} (hk:∀ a' c' w',Sep E w0 w' (Rs.set i (OwnA e sz a' (n+m) c' (vs++news)))->Fr (λk=>∃ q:Addr,a=some q/\k=q.block) w w'->K a' (n+m) c' w'):AppV w e sz by' a n c news m K:=by
 obtain ⟨F,⟨ho,hF⟩,h3,h4⟩:=S.step hi
 refine AppV.own ho (Nat.zero_le _) hl h1 hby h63 λa' c' w' o' b' but mov=>?_
 have fr:Fr (λk=>∃ q:Addr,a=some q/\k=q.block) w w':=⟨b'.os,b'.tape,b'.output,b'.size,λk hk hn=>but k hk λp hp e=>hn ⟨p,hp,e⟩⟩
 refine hk a' c' w' (h4 w' (λk=>∃ q:Addr,a'=some q/\k=q.block) _ ⟨o',λq hq=>⟨q,hq,rfl⟩⟩ (fr.mono λk ⟨q,hq,hk⟩=>by subst hk;exact hF q hq) λk ⟨q,hq,hk⟩=>?_) fr
 subst hk
 refine ⟨?_,o'.lt q hq⟩
 rcases mov with m | ⟨bb,m1,m2⟩
 ·exact .inl (hF q (by rw [<-m];exact hq))
 ·rw [m2] at hq;cases hq;exact .inr m1
theorem Sep.put (S:Sep E w0 w Rs) (i:Nat) {a:Option Addr} {n c:Nat} (hi:Rs[i]? = some (OwnA e 1 a n c vs)) {j:Int} (h0:0<=j) (h1:j<(n:Int)) {v:Value} (hv:v.oneCell'=true) {K:World->Prop}
  (hk:∀ w',Sep E w0 w' (Rs.set i (OwnA e 1 a n c (vs.set j.toNat v)))->Fr (λk=>∃ q:Addr,a=some q/\k=q.block) w w'->K w') :
  (0<=j/\j<(n:Int))/\∃ q,a=some q/\StoreV w (q.add (j.toNat*1)) [v] K:=by
 obtain ⟨F,⟨ho,hF⟩,h3,h4⟩:=S.step hi
 refine Own.store ho h0 h1 hv λw' o' b' but hs=>?_
 have fr:Fr (λk=>∃ q:Addr,a=some q/\k=q.block) w w':=⟨b'.os,b'.tape,b'.output,b'.size,λk hk hn=>but k hk λp hp e=>hn ⟨p,hp,e⟩⟩
 exact hk w' (h4 w' F _ ⟨o',hF⟩ (fr.mono λk ⟨q,hq,hk⟩=>by subst hk;exact hF q hq) λk hk=>⟨.inl hk,by rw [hs];exact h3 k hk⟩) fr
end
section
variable {E:Nat->Prop} {w0 w w':World} {Rs:List Asr} {b:Nat} {e:TypeId} {vs:List Value}
theorem Sep.ldR {i:Nat} (S:Sep E w0 w Rs) (hi:Rs[i]? = some (BoxA b e vs)) {j:Nat} {h:SS} {v:Value} {x:h.T} (hv:vs[j]? = some v) (hr:h.rd v=some x) {K:h.T->Prop} (hk:K x):LoadS w ⟨b,j,none⟩ h K:=
 S.ld i hi x (by rw [hv,SS.rd_v hr]) hk
theorem Sep.ldaR {i:Nat} (S:Sep E w0 w Rs) (hi:Rs[i]? = some (BoxA b e vs)) {l:List SS} {x:Tup l} (hr:tupR l vs=some x) {K:Tup l->Prop} (hk:K x):LoadA w ⟨b,0,none⟩ l K:=
 S.lda i hi x (tupR_v hr).symm hk
theorem Sep.ldaRN {i:Nat} (S:Sep E w0 w Rs) (hi:Rs[i]? = some (BoxA b e vs)) {o:Nat} {l:List SS} {x:Tup l} (hr:tupR l ((vs.drop o).take l.length)=some x) {K:Tup l->Prop} (hk:K x):LoadA w ⟨b,o,none⟩ l K:=
 S.ldaN i hi o x (tupR_v hr).symm hk
theorem Sep.storeR {i:Nat} (S:Sep E w0 w Rs) (hi:Rs[i]? = some (BoxA b e vs)) {news:List Value} (hl:vs.length=news.length) {K:World->Prop}
  (hk:∀ w',Sep E w0 w' (Rs.set i (BoxA b e news))->Fr (λk=>k=b) w w'->K w'):StoreV w ⟨b,0,none⟩ news K:=
 S.store i hi 0 (by omega) λw' S' f=>hk w' (by rw [show vs.take 0++(news++vs.drop (0+news.length))=news by rw [List.take_zero,List.drop_eq_nil_of_le (by omega)];simp] at S';exact S') f
theorem Sep.storeR1 {i:Nat} (S:Sep E w0 w Rs) (hi:Rs[i]? = some (BoxA b e vs)) {j:Nat} {v:Value} (hl:j<vs.length) {K:World->Prop}
  (hk:∀ w',Sep E w0 w' (Rs.set i (BoxA b e (vs.set j v)))->Fr (λk=>k=b) w w'->K w'):StoreV w ⟨b,j,none⟩ [v] K:=
 S.store i hi j (by simp;omega) λw' S' f=>hk w' (by
  rw [show vs.take j++([v]++vs.drop (j+[v].length))=vs.set j v by
   rw [List.set_eq_take_append_cons_drop,if_pos hl];rfl] at S'
  exact S') f
theorem Sep.ld0 (S:Sep E w0 w (BoxA b e vs::Rs)) {j:Nat} {h:SS} {v:Value} {x:h.T} (hv:vs[j]? = some v) (hr:h.rd v=some x) {K:h.T->Prop} (hk:K x):LoadS w ⟨b,j,none⟩ h K:=S.ldR (i:=0) rfl hv hr hk
theorem Sep.la0 (S:Sep E w0 w (BoxA b e vs::Rs)) {l:List SS} {x:Tup l} (hr:tupR l vs=some x) {K:Tup l->Prop} (hk:K x):LoadA w ⟨b,0,none⟩ l K:=S.ldaR (i:=0) rfl hr hk
theorem Sep.lb0 (S:Sep E w0 w (BoxA b e vs::Rs)) {o:Nat} {l:List SS} {x:Tup l} (hr:tupR l ((vs.drop o).take l.length)=some x) {K:Tup l->Prop} (hk:K x):LoadA w ⟨b,o,none⟩ l K:=S.ldaRN (i:=0) rfl hr hk
theorem Sep.st0 (S:Sep E w0 w (BoxA b e vs::Rs)) {news:List Value} (hl:vs.length=news.length) {K:World->Prop} (hk:∀ w',Sep E w0 w' (BoxA b e news::Rs)->Fr (λk=>k=b) w w'->K w'):StoreV w ⟨b,0,none⟩ news K:=S.storeR (i:=0) rfl hl hk
theorem Sep.su0 (S:Sep E w0 w (BoxA b e vs::Rs)) {j:Nat} {v:Value} (hl:Nat.blt j vs.length=true) {K:World->Prop} (hk:∀ w',Sep E w0 w' (BoxA b e (vs.set j v)::Rs)->Fr (λk=>k=b) w w'->K w'):StoreV w ⟨b,j,none⟩ [v] K:=S.storeR1 (i:=0) rfl (by simpa [Nat.blt_eq] using hl) hk
theorem Sep.bl0 (S:Sep E w0 w (BoxA b e vs::Rs)):b<w.heap.size:=S.lt 0 rfl
theorem Sep.ap0 {sz by':Nat} {a:Option Addr} {n c m:Nat} {news:List Value} (S:Sep E w0 w (OwnA e sz a n c vs::Rs)) (hl:news.length=m*sz) (h1:oneAll news) (hby:(2*(n+m)+256)*by'<=281474976710656) (h63:n+m<=9223372036854775807) {K:Option Addr->Nat->Nat->World->Prop} (hk:∀ a' c' w',Sep E w0 w' (OwnA e sz a' (n+m) c' (vs++news)::Rs)->Fr (λk=>∃ q:Addr,a=some q/\k=q.block) w w'->K a' (n+m) c' w'):AppV w e sz by' a n c news m K:=S.app 0 rfl hl h1 hby h63 hk
theorem Sep.pu0 {a:Option Addr} {n c:Nat} (S:Sep E w0 w (OwnA e 1 a n c vs::Rs)) {j:Int} (h0:0<=j) (h1:j<(n:Int)) {v:Value} (hv:v.oneCell'=true) {K:World->Prop} (hk:∀ w',Sep E w0 w' (OwnA e 1 a n c (vs.set j.toNat v)::Rs)->Fr (λk=>∃ q:Addr,a=some q/\k=q.block) w w'->K w'):(0<=j/\j<(n:Int))/\∃ q,a=some q/\StoreV w (q.add (j.toNat*1)) [v] K:=S.put 0 rfl h0 h1 hv hk
theorem Sep.ab0 {a:Option Addr} {n c m:Nat} {xs ys:List Int} {a2:Option Addr} {c2:Nat} (S:Sep E w0 w (OwnA e 1 a n c (xs.map (Value.int .u8))::Rs)) (hy:Ints w .u8 a2 m c2 ys) (hn:n+m<=140737488351232) {K:Option Addr->Nat->Nat->World->Prop} (hk:∀ a' c' w',Sep E w0 w' (OwnA e 1 a' (n+m) c' ((xs++ys).map (Value.int .u8))::Rs)->Fr (λk=>∃ q:Addr,a=some q/\k=q.block) w w'->K a' (n+m) c' w'):AppS w a2 m 1 λns=>AppV w e 1 1 a n c ns m K:=
 AppS.of (news:=ys.map (Value.int .u8)) (by rw [List.length_map,hy.len];omega) hy.rd (S.ap0 (by rw [List.length_map,hy.len];omega) (oneAll.ints _ _) (by omega) (by omega) λa' c' w' S' f=>hk a' c' w' (by rw [List.map_append];exact S') f)
theorem Sep.ld1 {R0:Asr} (S:Sep E w0 w (R0::BoxA b e vs::Rs)) {j:Nat} {h:SS} {v:Value} {x:h.T} (hv:vs[j]? = some v) (hr:h.rd v=some x) {K:h.T->Prop} (hk:K x):LoadS w ⟨b,j,none⟩ h K:=S.ldR (i:=1) rfl hv hr hk
theorem Sep.la1 {R0:Asr} (S:Sep E w0 w (R0::BoxA b e vs::Rs)) {l:List SS} {x:Tup l} (hr:tupR l vs=some x) {K:Tup l->Prop} (hk:K x):LoadA w ⟨b,0,none⟩ l K:=S.ldaR (i:=1) rfl hr hk
theorem Sep.lb1 {R0:Asr} (S:Sep E w0 w (R0::BoxA b e vs::Rs)) {o:Nat} {l:List SS} {x:Tup l} (hr:tupR l ((vs.drop o).take l.length)=some x) {K:Tup l->Prop} (hk:K x):LoadA w ⟨b,o,none⟩ l K:=S.ldaRN (i:=1) rfl hr hk
theorem Sep.st1 {R0:Asr} (S:Sep E w0 w (R0::BoxA b e vs::Rs)) {news:List Value} (hl:vs.length=news.length) {K:World->Prop} (hk:∀ w',Sep E w0 w' (R0::BoxA b e news::Rs)->Fr (λk=>k=b) w w'->K w'):StoreV w ⟨b,0,none⟩ news K:=S.storeR (i:=1) rfl hl hk
theorem Sep.su1 {R0:Asr} (S:Sep E w0 w (R0::BoxA b e vs::Rs)) {j:Nat} {v:Value} (hl:Nat.blt j vs.length=true) {K:World->Prop} (hk:∀ w',Sep E w0 w' (R0::BoxA b e (vs.set j v)::Rs)->Fr (λk=>k=b) w w'->K w'):StoreV w ⟨b,j,none⟩ [v] K:=S.storeR1 (i:=1) rfl (by simpa [Nat.blt_eq] using hl) hk
theorem Sep.bl1 {R0:Asr} (S:Sep E w0 w (R0::BoxA b e vs::Rs)):b<w.heap.size:=S.lt 1 rfl
theorem Sep.ap1 {R0:Asr} {sz by':Nat} {a:Option Addr} {n c m:Nat} {news:List Value} (S:Sep E w0 w (R0::OwnA e sz a n c vs::Rs)) (hl:news.length=m*sz) (h1:oneAll news) (hby:(2*(n+m)+256)*by'<=281474976710656) (h63:n+m<=9223372036854775807) {K:Option Addr->Nat->Nat->World->Prop} (hk:∀ a' c' w',Sep E w0 w' (R0::OwnA e sz a' (n+m) c' (vs++news)::Rs)->Fr (λk=>∃ q:Addr,a=some q/\k=q.block) w w'->K a' (n+m) c' w'):AppV w e sz by' a n c news m K:=S.app 1 rfl hl h1 hby h63 hk
theorem Sep.in1 {R0:Asr} {a:Option Addr} {n c:Nat} {k:IntKind} {xs:List Int} (S:Sep E w0 w (R0::OwnA e 1 a n c (xs.map (Value.int k))::Rs)):Ints w k a n c xs:=S.ints 1 rfl
theorem Sep.ld2 {R0 R1:Asr} (S:Sep E w0 w (R0::R1::BoxA b e vs::Rs)) {j:Nat} {h:SS} {v:Value} {x:h.T} (hv:vs[j]? = some v) (hr:h.rd v=some x) {K:h.T->Prop} (hk:K x):LoadS w ⟨b,j,none⟩ h K:=S.ldR (i:=2) rfl hv hr hk
theorem Sep.la2 {R0 R1:Asr} (S:Sep E w0 w (R0::R1::BoxA b e vs::Rs)) {l:List SS} {x:Tup l} (hr:tupR l vs=some x) {K:Tup l->Prop} (hk:K x):LoadA w ⟨b,0,none⟩ l K:=S.ldaR (i:=2) rfl hr hk
theorem Sep.lb2 {R0 R1:Asr} (S:Sep E w0 w (R0::R1::BoxA b e vs::Rs)) {o:Nat} {l:List SS} {x:Tup l} (hr:tupR l ((vs.drop o).take l.length)=some x) {K:Tup l->Prop} (hk:K x):LoadA w ⟨b,o,none⟩ l K:=S.ldaRN (i:=2) rfl hr hk
theorem Sep.st2 {R0 R1:Asr} (S:Sep E w0 w (R0::R1::BoxA b e vs::Rs)) {news:List Value} (hl:vs.length=news.length) {K:World->Prop} (hk:∀ w',Sep E w0 w' (R0::R1::BoxA b e news::Rs)->Fr (λk=>k=b) w w'->K w'):StoreV w ⟨b,0,none⟩ news K:=S.storeR (i:=2) rfl hl hk
theorem Sep.su2 {R0 R1:Asr} (S:Sep E w0 w (R0::R1::BoxA b e vs::Rs)) {j:Nat} {v:Value} (hl:Nat.blt j vs.length=true) {K:World->Prop} (hk:∀ w',Sep E w0 w' (R0::R1::BoxA b e (vs.set j v)::Rs)->Fr (λk=>k=b) w w'->K w'):StoreV w ⟨b,j,none⟩ [v] K:=S.storeR1 (i:=2) rfl (by simpa [Nat.blt_eq] using hl) hk
theorem Sep.bl2 {R0 R1:Asr} (S:Sep E w0 w (R0::R1::BoxA b e vs::Rs)):b<w.heap.size:=S.lt 2 rfl
theorem Sep.ap2 {R0 R1:Asr} {sz by':Nat} {a:Option Addr} {n c m:Nat} {news:List Value} (S:Sep E w0 w (R0::R1::OwnA e sz a n c vs::Rs)) (hl:news.length=m*sz) (h1:oneAll news) (hby:(2*(n+m)+256)*by'<=281474976710656) (h63:n+m<=9223372036854775807) {K:Option Addr->Nat->Nat->World->Prop} (hk:∀ a' c' w',Sep E w0 w' (R0::R1::OwnA e sz a' (n+m) c' (vs++news)::Rs)->Fr (λk=>∃ q:Addr,a=some q/\k=q.block) w w'->K a' (n+m) c' w'):AppV w e sz by' a n c news m K:=S.app 2 rfl hl h1 hby h63 hk
theorem Sep.in2 {R0 R1:Asr} {a:Option Addr} {n c:Nat} {k:IntKind} {xs:List Int} (S:Sep E w0 w (R0::R1::OwnA e 1 a n c (xs.map (Value.int k))::Rs)):Ints w k a n c xs:=S.ints 2 rfl
theorem Sep.ld3 {R0 R1 R2:Asr} (S:Sep E w0 w (R0::R1::R2::BoxA b e vs::Rs)) {j:Nat} {h:SS} {v:Value} {x:h.T} (hv:vs[j]? = some v) (hr:h.rd v=some x) {K:h.T->Prop} (hk:K x):LoadS w ⟨b,j,none⟩ h K:=S.ldR (i:=3) rfl hv hr hk
theorem Sep.la3 {R0 R1 R2:Asr} (S:Sep E w0 w (R0::R1::R2::BoxA b e vs::Rs)) {l:List SS} {x:Tup l} (hr:tupR l vs=some x) {K:Tup l->Prop} (hk:K x):LoadA w ⟨b,0,none⟩ l K:=S.ldaR (i:=3) rfl hr hk
theorem Sep.lb3 {R0 R1 R2:Asr} (S:Sep E w0 w (R0::R1::R2::BoxA b e vs::Rs)) {o:Nat} {l:List SS} {x:Tup l} (hr:tupR l ((vs.drop o).take l.length)=some x) {K:Tup l->Prop} (hk:K x):LoadA w ⟨b,o,none⟩ l K:=S.ldaRN (i:=3) rfl hr hk
theorem Sep.su3 {R0 R1 R2:Asr} (S:Sep E w0 w (R0::R1::R2::BoxA b e vs::Rs)) {j:Nat} {v:Value} (hl:Nat.blt j vs.length=true) {K:World->Prop} (hk:∀ w',Sep E w0 w' (R0::R1::R2::BoxA b e (vs.set j v)::Rs)->Fr (λk=>k=b) w w'->K w'):StoreV w ⟨b,j,none⟩ [v] K:=S.storeR1 (i:=3) rfl (by simpa [Nat.blt_eq] using hl) hk
theorem Sep.ap3 {R0 R1 R2:Asr} {sz by':Nat} {a:Option Addr} {n c m:Nat} {news:List Value} (S:Sep E w0 w (R0::R1::R2::OwnA e sz a n c vs::Rs)) (hl:news.length=m*sz) (h1:oneAll news) (hby:(2*(n+m)+256)*by'<=281474976710656) (h63:n+m<=9223372036854775807) {K:Option Addr->Nat->Nat->World->Prop} (hk:∀ a' c' w',Sep E w0 w' (R0::R1::R2::OwnA e sz a' (n+m) c' (vs++news)::Rs)->Fr (λk=>∃ q:Addr,a=some q/\k=q.block) w w'->K a' (n+m) c' w'):AppV w e sz by' a n c news m K:=S.app 3 rfl hl h1 hby h63 hk
theorem Sep.ld4 {R0 R1 R2 R3:Asr} (S:Sep E w0 w (R0::R1::R2::R3::BoxA b e vs::Rs)) {j:Nat} {h:SS} {v:Value} {x:h.T} (hv:vs[j]? = some v) (hr:h.rd v=some x) {K:h.T->Prop} (hk:K x):LoadS w ⟨b,j,none⟩ h K:=S.ldR (i:=4) rfl hv hr hk
theorem Sep.su4 {R0 R1 R2 R3:Asr} (S:Sep E w0 w (R0::R1::R2::R3::BoxA b e vs::Rs)) {j:Nat} {v:Value} (hl:Nat.blt j vs.length=true) {K:World->Prop} (hk:∀ w',Sep E w0 w' (R0::R1::R2::R3::BoxA b e (vs.set j v)::Rs)->Fr (λk=>k=b) w w'->K w'):StoreV w ⟨b,j,none⟩ [v] K:=S.storeR1 (i:=4) rfl (by simpa [Nat.blt_eq] using hl) hk
theorem Sep.bl4 {R0 R1 R2 R3:Asr} (S:Sep E w0 w (R0::R1::R2::R3::BoxA b e vs::Rs)):b<w.heap.size:=S.lt 4 rfl
theorem Sep.ld5 {R0 R1 R2 R3 R4:Asr} (S:Sep E w0 w (R0::R1::R2::R3::R4::BoxA b e vs::Rs)) {j:Nat} {h:SS} {v:Value} {x:h.T} (hv:vs[j]? = some v) (hr:h.rd v=some x) {K:h.T->Prop} (hk:K x):LoadS w ⟨b,j,none⟩ h K:=S.ldR (i:=5) rfl hv hr hk
theorem Sep.lb5 {R0 R1 R2 R3 R4:Asr} (S:Sep E w0 w (R0::R1::R2::R3::R4::BoxA b e vs::Rs)) {o:Nat} {l:List SS} {x:Tup l} (hr:tupR l ((vs.drop o).take l.length)=some x) {K:Tup l->Prop} (hk:K x):LoadA w ⟨b,o,none⟩ l K:=S.ldaRN (i:=5) rfl hr hk
theorem Sep.ap5 {R0 R1 R2 R3 R4:Asr} {sz by':Nat} {a:Option Addr} {n c m:Nat} {news:List Value} (S:Sep E w0 w (R0::R1::R2::R3::R4::OwnA e sz a n c vs::Rs)) (hl:news.length=m*sz) (h1:oneAll news) (hby:(2*(n+m)+256)*by'<=281474976710656) (h63:n+m<=9223372036854775807) {K:Option Addr->Nat->Nat->World->Prop} (hk:∀ a' c' w',Sep E w0 w' (R0::R1::R2::R3::R4::OwnA e sz a' (n+m) c' (vs++news)::Rs)->Fr (λk=>∃ q:Addr,a=some q/\k=q.block) w w'->K a' (n+m) c' w'):AppV w e sz by' a n c news m K:=S.app 5 rfl hl h1 hby h63 hk
theorem Sep.ld6 {R0 R1 R2 R3 R4 R5:Asr} (S:Sep E w0 w (R0::R1::R2::R3::R4::R5::BoxA b e vs::Rs)) {j:Nat} {h:SS} {v:Value} {x:h.T} (hv:vs[j]? = some v) (hr:h.rd v=some x) {K:h.T->Prop} (hk:K x):LoadS w ⟨b,j,none⟩ h K:=S.ldR (i:=6) rfl hv hr hk
theorem Sep.la6 {R0 R1 R2 R3 R4 R5:Asr} (S:Sep E w0 w (R0::R1::R2::R3::R4::R5::BoxA b e vs::Rs)) {l:List SS} {x:Tup l} (hr:tupR l vs=some x) {K:Tup l->Prop} (hk:K x):LoadA w ⟨b,0,none⟩ l K:=S.ldaR (i:=6) rfl hr hk
theorem Sep.bl6 {R0 R1 R2 R3 R4 R5:Asr} (S:Sep E w0 w (R0::R1::R2::R3::R4::R5::BoxA b e vs::Rs)):b<w.heap.size:=S.lt 6 rfl
theorem Sep.ap6 {R0 R1 R2 R3 R4 R5:Asr} {sz by':Nat} {a:Option Addr} {n c m:Nat} {news:List Value} (S:Sep E w0 w (R0::R1::R2::R3::R4::R5::OwnA e sz a n c vs::Rs)) (hl:news.length=m*sz) (h1:oneAll news) (hby:(2*(n+m)+256)*by'<=281474976710656) (h63:n+m<=9223372036854775807) {K:Option Addr->Nat->Nat->World->Prop} (hk:∀ a' c' w',Sep E w0 w' (R0::R1::R2::R3::R4::R5::OwnA e sz a' (n+m) c' (vs++news)::Rs)->Fr (λk=>∃ q:Addr,a=some q/\k=q.block) w w'->K a' (n+m) c' w'):AppV w e sz by' a n c news m K:=S.app 6 rfl hl h1 hby h63 hk
theorem Sep.ld7 {R0 R1 R2 R3 R4 R5 R6:Asr} (S:Sep E w0 w (R0::R1::R2::R3::R4::R5::R6::BoxA b e vs::Rs)) {j:Nat} {h:SS} {v:Value} {x:h.T} (hv:vs[j]? = some v) (hr:h.rd v=some x) {K:h.T->Prop} (hk:K x):LoadS w ⟨b,j,none⟩ h K:=S.ldR (i:=7) rfl hv hr hk
theorem Sep.la7 {R0 R1 R2 R3 R4 R5 R6:Asr} (S:Sep E w0 w (R0::R1::R2::R3::R4::R5::R6::BoxA b e vs::Rs)) {l:List SS} {x:Tup l} (hr:tupR l vs=some x) {K:Tup l->Prop} (hk:K x):LoadA w ⟨b,0,none⟩ l K:=S.ldaR (i:=7) rfl hr hk
theorem Sep.lb7 {R0 R1 R2 R3 R4 R5 R6:Asr} (S:Sep E w0 w (R0::R1::R2::R3::R4::R5::R6::BoxA b e vs::Rs)) {o:Nat} {l:List SS} {x:Tup l} (hr:tupR l ((vs.drop o).take l.length)=some x) {K:Tup l->Prop} (hk:K x):LoadA w ⟨b,o,none⟩ l K:=S.ldaRN (i:=7) rfl hr hk
theorem Sep.bl7 {R0 R1 R2 R3 R4 R5 R6:Asr} (S:Sep E w0 w (R0::R1::R2::R3::R4::R5::R6::BoxA b e vs::Rs)):b<w.heap.size:=S.lt 7 rfl
theorem Sep.ld8 {R0 R1 R2 R3 R4 R5 R6 R7:Asr} (S:Sep E w0 w (R0::R1::R2::R3::R4::R5::R6::R7::BoxA b e vs::Rs)) {j:Nat} {h:SS} {v:Value} {x:h.T} (hv:vs[j]? = some v) (hr:h.rd v=some x) {K:h.T->Prop} (hk:K x):LoadS w ⟨b,j,none⟩ h K:=S.ldR (i:=8) rfl hv hr hk
theorem Sep.ld9 {R0 R1 R2 R3 R4 R5 R6 R7 R8:Asr} (S:Sep E w0 w (R0::R1::R2::R3::R4::R5::R6::R7::R8::BoxA b e vs::Rs)) {j:Nat} {h:SS} {v:Value} {x:h.T} (hv:vs[j]? = some v) (hr:h.rd v=some x) {K:h.T->Prop} (hk:K x):LoadS w ⟨b,j,none⟩ h K:=S.ldR (i:=9) rfl hv hr hk
end
end Go.Eng
namespace Go.Eng
open Go
def emp:Asr:=⟨λ_ _=>True,λ_ _=>trivial⟩
section
variable {E:Nat->Prop} {w0 w w':World} {Rs Ts:List Asr}
theorem Sep.emp (S:Sep E w0 w Rs):Sep E w0 w (Go.Eng.emp::Rs):=S.push (F:=NoB) (Fr.refl _ _) trivial λ_ x=>x.elim
theorem Sep.call {P:Program} {g:FuncId} {args:Array Value} {l:List Sh} (Rs:List Asr) {Ts:List Asr} (S:Sep E w0 w (Rs++Ts)) {C:(Nat->Prop)->RT l->World->Prop}
  (hc:∀ F,Sep F w w Rs->CallV P g args w l λr w'=>C F r w') {K:RT l->World->Prop}
  (hk:∀ F,(∀ w' Ls,Sep F w w' Ls->Sep E w0 w' (Ls++Ts))->∀ r w',C F r w'->K r w'):CallV P g args w l K:=by
 obtain ⟨F,h1,h2,h3⟩:=S.frame
 exact (hc F (Sep.begin h1 h2)).mono λr w' h=>hk F h3 r w' h
theorem Sep.focus {e:TypeId} {sz:Nat} {a:Option Addr} {n c:Nat} {vs:List Value} (S:Sep E w0 w (OwnA e sz a n c vs::Rs)) (hn:vs≠[]) :
  ∃ b tl,a=some ⟨b,0,none⟩/\vs.length=n*sz/\(vs++tl).length=c*sz/\n<=c/\n<=9223372036854775807/\oneAll vs/\Sep E w0 w (BoxA b e (vs++tl)::Rs):=by
 have ho:=S.own 0 rfl
 rcases ho.at_ with ⟨_,_,h⟩ | ⟨b,cs,h1,h2,h3,h4,h5⟩
 ·exact absurd h hn
 ·have he:vs++cs.toList.drop vs.length=cs.toList:=by conv=>rhs;rw [<-List.take_append_drop vs.length cs.toList,h5]
  refine ⟨b,cs.toList.drop vs.length,h1,ho.len,by rw [he];exact h4,ho.cap,ho.lim,ho.one,S.conv λF h _=>⟨h.2 _ h1,?_⟩⟩
  rw [he,Array.toArray_toList]
  exact h3
theorem Sep.unfocus {e:TypeId} {sz:Nat} {n c b:Nat} {vs tl:List Value} (S:Sep E w0 w (BoxA b e (vs++tl)::Rs)) (h1:vs.length=n*sz) (h2:(vs++tl).length=c*sz) (h3:n<=c) (h4:n<=9223372036854775807) (h5:oneAll vs):Sep E w0 w (OwnA e sz (some ⟨b,0,none⟩) n c vs::Rs):=
 S.conv λF ⟨hF,h⟩ _=>⟨⟨h1,h3,h4,h5,.inr ⟨b,(vs++tl).toArray,rfl,Nat.zero_le _,h,by simpa using h2,by simp⟩⟩,λq hq=>by cases hq;exact hF⟩
theorem splice_mid {pre xs post news:List Value} {o j:Nat} (ho:o=pre.length) (h:j+news.length<=xs.length) :
  (pre++(xs++post)).take (o+j)++(news++(pre++(xs++post)).drop (o+j+news.length))=pre++((xs.take j++(news++xs.drop (j+news.length)))++post):=by
 subst ho
 rw [List.take_append,List.take_of_length_le (by omega),show pre.length+j-pre.length=j by omega,List.take_append_of_le_length (by omega),show pre.length+j+news.length=pre.length+(j+news.length) by omega,
  <- List.drop_drop,List.drop_append_of_le_length (Nat.le_refl _),List.drop_length,List.nil_append,List.drop_append_of_le_length h]
 simp
variable {b o:Nat} {e:TypeId} {pre xs post:List Value}
theorem Sep.stM (i:Nat) (j:Nat) (S:Sep E w0 w Rs) (hi:Rs[i]? = some (BoxA b e (pre++(xs++post)))) (ho:o=pre.length) {news:List Value} (hl:j+news.length<=xs.length) {K:World->Prop}
  (hk:∀ w',Sep E w0 w' (Rs.set i (BoxA b e (pre++((xs.take j++(news++xs.drop (j+news.length)))++post))))->Fr (λk=>k=b) w w'->K w'):StoreV w ((⟨b,o,none⟩:Addr).add j) news K:=by
 rw [show (⟨b,o,none⟩:Addr).add j=⟨b,o+j,none⟩ by simp [Addr.add_lit]]
 refine S.store i hi (o+j) (by subst ho;simp only [List.length_append];omega) λw' S f=>hk w' ?_ f
 rw [<-splice_mid ho hl]
 exact S
theorem Sep.stM0 (i:Nat) (S:Sep E w0 w Rs) (hi:Rs[i]? = some (BoxA b e (pre++(xs++post)))) (ho:o=pre.length) {news:List Value} (hl:news.length<=xs.length) {K:World->Prop}
  (hk:∀ w',Sep E w0 w' (Rs.set i (BoxA b e (pre++((news++xs.drop news.length)++post))))->Fr (λk=>k=b) w w'->K w'):StoreV w (⟨b,o,none⟩:Addr) news K:=by
 have:=S.stM i 0 hi ho (news:=news) (by omega) (K:=K) (by simpa using hk)
 rwa [show (⟨b,o,none⟩:Addr).add 0=⟨b,o,none⟩ by simp [Addr.add_lit]] at this
theorem Sep.cellsM (i:Nat) (S:Sep E w0 w Rs) (hi:Rs[i]? = some (BoxA b e (pre++(xs++post)))) (ho:o=pre.length):CellsAt w ⟨b,o,none⟩ xs:=by
 have h:=(S.cells i hi)
 intro j v hv
 have hj:j<xs.length:=(List.getElem?_eq_some_iff.1 hv).1
 have:=h (pre.length+j) v (by rw [List.getElem?_append_right (by omega),show pre.length+j-pre.length=j by omega,List.getElem?_append_left hj];exact hv)
 rw [show (⟨b,0,none⟩:Addr).add (pre.length+j)=(⟨b,o,none⟩:Addr).add j by subst ho;simp [Addr.add_lit]] at this
 exact this
theorem Sep.ldM (i:Nat) (j:Nat) (S:Sep E w0 w Rs) (hi:Rs[i]? = some (BoxA b e (pre++(xs++post)))) (ho:o=pre.length) {h:SS} {v:Value} {x:h.T} (hv:xs[j]? = some v) (hr:h.rd v=some x) {K:h.T->Prop} (hk:K x):LoadS w ((⟨b,o,none⟩:Addr).add j) h K:=
 ⟨x,by rw [<-SS.rd_v hr];exact S.cellsM i hi ho j v hv,hk⟩
end
theorem flat_mid {α β:Type} {f:α->List β} {L:List α} {i:Nat} {y z:α} (hy:L[i]? = some y):L.flatMap f=(L.take i).flatMap f++(f y++(L.drop (i+1)).flatMap f)/\(L.set i z).flatMap f=(L.take i).flatMap f++(f z++(L.drop (i+1)).flatMap f):=by
 have hi:i<L.length:=(List.getElem?_eq_some_iff.1 hy).1
 have he:L[i]=y:=(List.getElem?_eq_some_iff.1 hy).2
 constructor
 ·conv=>lhs;rw [<-List.take_append_drop i L,List.drop_eq_getElem_cons hi,he]
  rw [List.flatMap_append,List.flatMap_cons]
 ·rw [List.set_eq_take_append_cons_drop,if_pos hi,List.flatMap_append,List.flatMap_cons]
section
variable {E:Nat->Prop} {w0 w w':World} {Rs Ts:List Asr} {α:Type} {f:α->List Value} {m:Nat} {e:TypeId} {a:Option Addr} {n c:Nat} {L:List α}
theorem flatF_len (hm:∀ x,(f x).length=m) (L:List α):(L.flatMap f).length=L.length*m:=by
 induction L with
 | nil=>simp
 | cons x L ih=>rw [List.flatMap_cons,List.length_append,hm,ih,List.length_cons,Nat.add_mul];omega
theorem flatF_one (h1:∀ x,oneAll (f x)) (L:List α):oneAll (L.flatMap f):=λu hu=>by
 obtain ⟨x,-,hx⟩:=List.mem_flatMap.1 hu
 exact h1 x u hx
theorem Sep.nthF (i:Nat) (S:Sep E w0 w Rs) (hi:Rs[i]? = some (OwnA e m a n c (L.flatMap f))) (hm:∀ x,(f x).length=m) (hp:0<m) {j:Int} (h0:0<=j) (h1:j<(n:Int)) :
  ∃ q x,a=some q/\L[j.toNat]? = some x/\CellsAt w (q.add (j.toNat*m)) (f x):=by
 have ho:=S.own i hi
 have hl:=ho.len
 rw [flatF_len hm] at hl
 have hl:L.length=n:=Nat.eq_of_mul_eq_mul_right hp hl
 have hj:j.toNat<L.length:=by omega
 rcases ho.rd with ⟨_,h2⟩ | ⟨q,h2,h3⟩
 ·have:=congrArg List.length h2
  rw [flatF_len hm,List.length_nil] at this
  rcases Nat.mul_eq_zero.1 this with h | h <;> omega
 ·refine ⟨q,L[j.toNat],h2,List.getElem?_eq_getElem hj,?_⟩
  obtain ⟨m1,-⟩:=flat_mid (f:=f) (z:=L[j.toNat]) (List.getElem?_eq_getElem hj)
  rw [m1] at h3
  have h4:=(h3.drop (j.toNat*m)).take m
  rw [List.drop_append_of_le_length (by rw [flatF_len hm,List.length_take,Nat.min_eq_left (by omega)];exact Nat.le_refl _),List.drop_eq_nil_of_le (by rw [flatF_len hm,List.length_take,Nat.min_eq_left (by omega)];exact Nat.le_refl _),List.nil_append,List.take_append_of_le_length (by rw [hm];exact Nat.le_refl _),List.take_of_length_le (by rw [hm];exact Nat.le_refl _)] at h4
  exact h4
theorem Sep.putF (S:Sep E w0 w (OwnA e m a n c (L.flatMap f)::Rs)) (hm:∀ x,(f x).length=m) (h1:∀ x,oneAll (f x)) (hp:0<m) {j:Int} (hj:0<=j/\j<(n:Int)) (y:α) {K:World->Prop}
  (hk:∀ w',Sep E w0 w' (OwnA e m a n c ((L.set j.toNat y).flatMap f)::Rs)->Fr (λk=>∃ q:Addr,a=some q/\k=q.block) w w'->K w'):∃ q,a=some q/\StoreV w (q.add (j.toNat*m)) (f y) K:=by
 have hl:=(S.own 0 rfl).len
 rw [flatF_len hm] at hl
 have hl:L.length=n:=Nat.eq_of_mul_eq_mul_right hp hl
 have hj':j.toNat<L.length:=by omega
 obtain ⟨m1,m2⟩:=flat_mid (f:=f) (z:=y) (List.getElem?_eq_getElem hj')
 obtain ⟨b,tl,ha,q1,q2,q3,q4,q5,S1⟩:=S.focus (by
  intro h
  have:=congrArg List.length h
  rw [flatF_len hm,List.length_nil] at this
  rcases Nat.mul_eq_zero.1 this with h | h <;> omega)
 subst ha
 refine ⟨_,rfl,?_⟩
 rw [show (⟨b,0,none⟩:Addr).add (j.toNat*m)=⟨b,j.toNat*m,none⟩ by simp [Addr.add_lit]]
 rw [m1,List.append_assoc,List.append_assoc] at S1
 refine S1.stM0 0 rfl (by rw [flatF_len hm,List.length_take,Nat.min_eq_left (by omega)]) (by rw [hm,hm];exact Nat.le_refl _) λw' S2 f2=>hk w' ?_ (f2.mono λk hk=>⟨_,rfl,hk⟩)
 have S2:Sep E w0 w' (BoxA b e (((L.set j.toNat y).flatMap f)++tl)::Rs):=by
  rw [m2,List.append_assoc,List.append_assoc]
  have hd:(f L[j.toNat]).drop (f y).length=[]:=List.drop_eq_nil_of_le (by rw [hm,hm];exact Nat.le_refl _)
  rw [hd,List.append_nil] at S2
  exact S2
 have hl2:((L.set j.toNat y).flatMap f).length=n*m:=by rw [flatF_len hm,List.length_set,hl]
 exact S2.unfocus (n:=n) (c:=c) (sz:=m) hl2 (by rw [List.length_append,hl2,<- q2,List.length_append,q1]) q3 q4 (flatF_one h1 _)
end
section
variable {E:Nat->Prop} {w0 w w':World} {Rs:List Asr}
theorem Sep.neO (S:Sep E w0 w Rs) (i j:Nat) {b:Nat} {e e2:TypeId} {vs us:List Value} {sz n c:Nat} {a:Option Addr} (hij:i≠j) (hi:Rs[i]? = some (BoxA b e vs)) (hj:Rs[j]? = some (OwnA e2 sz a n c us)) (q:Addr) (hq:a=some q):b≠q.block:=by
 obtain ⟨F,h,_⟩:=S.ex
 obtain ⟨F1,F2,h1,h2,h3,_⟩:=StarP.perm (perm_front hi) h
 have:(Rs.eraseIdx i)[if j<i then j else j-1]? = some (OwnA e2 sz a n c us):=by
  split
  ·rw [List.getElem?_eraseIdx_of_lt (by omega)];exact hj
  ·rw [List.getElem?_eraseIdx_of_ge (by omega),show j-1+1=j by omega];exact hj
 obtain ⟨G,g1,g2⟩:=StarP.get this h2
 intro e
 exact h3 b h1.1 (g2 b (by rw [e];exact g1.2 q hq))
theorem Sep.cpM (i:Nat) {b o:Nat} {e:TypeId} {pre xs post news:List Value} (S:Sep E w0 w Rs) (hi:Rs[i]? = some (BoxA b e (pre++(xs++post)))) (ho:o=pre.length) {src:Option Addr} {k:Nat} (hk:k=xs.length) (hl:news.length=xs.length) (hr:RdC w src news) (h1:oneAll news) {K:World->Prop}
  (hK:∀ w',Sep E w0 w' (Rs.set i (BoxA b e (pre++(news++post))))->Fr (λk=>k=b) w w'->K w'):CopyV w (some ⟨b,o,none⟩) src k 1 K:=by
 refine ⟨news,by omega,hr,h1,.inr ⟨_,rfl,?_⟩⟩
 refine S.stM0 i hi ho (news:=news) (by omega) λw' S' f=>hK w' ?_ f
 rw [hl,List.drop_length,List.append_nil] at S'
 exact S'
theorem Sep.intsM (i:Nat) {b o:Nat} {e:TypeId} {k:IntKind} {pre post:List Value} {xs:List Int} (S:Sep E w0 w Rs) (hi:Rs[i]? = some (BoxA b e (pre++(xs.map (Value.int k)++post)))) (ho:o=pre.length) {n c:Nat} (hn:n=xs.length) (hc:n<=c) (hlim:n<=9223372036854775807):Ints w k (some ⟨b,o,none⟩) n c xs:=
 ⟨hn.symm,hc,hlim,.inr ⟨_,rfl,S.cellsM i hi ho⟩⟩
end
end Go.Eng
namespace Go.Proofs.YtbaojfchlhlaeaaGreat.Vc
open Go Go.Eng Go.RowKit
section
variable {α β:Type} {f:α->List β} {m:Nat}
theorem fl_len:∀ {l:List α},(∀ x∈l,(f x).length=m)->(l.flatMap f).length=l.length*m
 | [],_=>by simp
 | x::l,h=>by rw [List.flatMap_cons,List.length_append,h x List.mem_cons_self,fl_len λy hy=>h y (List.mem_cons_of_mem _ hy),List.length_cons,Nat.add_mul];omega
theorem fl_split {l:List α} {i:Nat} {x:α} (hi:l[i]? = some x):l.flatMap f=(l.take i).flatMap f++(f x++(l.drop (i+1)).flatMap f):=(flat_mid (z:=x) hi).1
theorem fl_set {l:List α} {i:Nat} {x y:α} (hi:l[i]? = some x):(l.set i y).flatMap f=(l.take i).flatMap f++(f y++(l.drop (i+1)).flatMap f):=(flat_mid (z:=y) hi).2
theorem fl_take {l:List α} (h:∀ x∈l,(f x).length=m) {i:Nat} (hi:i<=l.length):((l.take i).flatMap f).length=i*m:=by
 rw [fl_len λx hx=>h x (List.mem_of_mem_take hx),List.length_take,Nat.min_eq_left hi]
theorem fl_get {l:List α} (h:∀ x∈l,(f x).length=m) {i j:Nat} {x:α} (hi:l[i]? = some x) (hj:j<m):(l.flatMap f)[i*m+j]? = (f x)[j]?:=by
 have hl:i<l.length:=(List.getElem?_eq_some_iff.1 hi).1
 have hx:=h x (List.mem_of_getElem? hi)
 rw [fl_split hi,List.getElem?_append_right (by rw [fl_take h (by omega)];omega),fl_take h (by omega),List.getElem?_append_left (by omega)]
 congr 1
 omega
theorem fl_put {l:List α} (h:∀ x∈l,(f x).length=m) {i j:Nat} {x y:α} {v:β} (hi:l[i]? = some x) (hj:j<m) (hy:f y=(f x).set j v):(l.set i y).flatMap f=(l.flatMap f).set (i*m+j) v:=by
 have hl:i<l.length:=(List.getElem?_eq_some_iff.1 hi).1
 have hx:=h x (List.mem_of_getElem? hi)
 rw [fl_set hi,fl_split hi,List.set_append_right _ _ (by rw [fl_take h (by omega)];omega),fl_take h (by omega),List.set_append_left _ _ (by omega),hy]
 congr 3
 omega
end
theorem getD_some {α:Type} {l:List α} {i:Nat} {d x:α} (h:l[i]? = some x):l.getD i d=x:=by rw [List.getD_eq_getElem?_getD,h];rfl
theorem some_getD {α:Type} {l:List α} {i:Nat} {d:α} (h:i<l.length):l[i]? = some (l.getD i d):=by rw [List.getD_eq_getElem?_getD,List.getElem?_eq_getElem h];rfl
structure BD where
 pg:List (List Int)
 us:List Int
 la:Int
 sc:Bool
 er:Int
instance:Inhabited BD:=⟨⟨[],[],0,false,0⟩⟩
structure CD where
 g:Geo
 bs:List BD
 pl:List FD
 off:Bool
 ops:Nat
 tr:List (Int×Int)
abbrev szP (g:Geo):Nat:=(g.s+88).toNat
def LG (g:Geo):Prop:=g.b<=16/\g.p<=20/\g.s<=128
instance (g:Geo):Decidable (LG g):=by unfold LG;infer_instance
structure BOk (g:Geo) (m:Nat) (x:BD):Prop where
 pl:x.pg.length=g.p.toNat
 pb:∀ q∈x.pg,q.length=szP g/\Byt q
 ul:x.us.length=g.p.toNat
 ub:∀ u∈x.us,0<=u/\u<=2
 la:-1<=x.la/\x.la<g.p
 er:0<=x.er/\x.er<=m
structure COk (C:CD):Prop where
 g:Right C.g
 lg:LG C.g
 bl:C.bs.length=C.g.b.toNat
 bo:∀ x∈C.bs,BOk C.g C.ops x
 pm:∀ f∈C.pl,Byt f.2.2.1/\f.2.2.1.length<=140737488351232
 ops:C.ops<=1000000000000
def blankB (g:Geo):BD:=⟨List.replicate g.p.toNat (List.replicate (szP g) 255),List.replicate g.p.toNat 0,-1,false,0⟩
def newC (g:Geo) (pl:List FD):CD:=⟨g,List.replicate g.b.toNat (blankB g),pl,false,0,[]⟩
theorem blankB_ok (g:Geo) (h:Right g) (m:Nat):BOk g m (blankB g):=by
 have h1:=h.1.2.1
 refine ⟨by simp [blankB],λq hq=>?_,by simp [blankB],λu hu=>?_,⟨by show (-1:Int)<=-1;omega,by show (-1:Int)<g.p;omega⟩,⟨by show (0:Int)<=0;omega,by show (0:Int)<=_;omega⟩⟩
 ·rw [(List.mem_replicate.1 hq).2]
  exact ⟨by simp,Byt.replicate (by decide) (by decide) _⟩
 ·rw [(List.mem_replicate.1 hu).2];decide
theorem newC_ok {g:Geo} {pl:List FD} (h:Right g) (hl:LG g) (hp:∀ f∈pl,Byt f.2.2.1/\f.2.2.1.length<=140737488351232):COk (newC g pl):=
 ⟨h,hl,by simp [newC],λx hx=>by rw [(List.mem_replicate.1 hx).2];exact blankB_ok g h _,hp,by show 0<=1000000000000;omega⟩
def codeC (C:CD):Int×List Int×Bool:=match atF C.pl (C.ops:Int) with | none=>(0,[],false) | some f=>(if f.2.1 then 4 else 5,f.2.2.1,f.2.1)
def progL (was b ms:List Int) (fails:Bool):List Int:=turn was (prF was b ms fails was.length) (8*was.length)
def eraL (xs ms:List Int):List Int:=turn xs (erF xs ms) (8*xs.length)
def cutL (all:List Int) (p:Nat):List (List Int):=(List.range p).map λi=>(all.drop (i*(all.length / p))).take (all.length / p)
def inC (C:CD) (bl pa:Int):Prop:=(0<=bl/\bl<C.g.b)/\(0<=pa/\pa<C.g.p)
instance (C:CD) (bl pa:Int):Decidable (inC C bl pa):=by unfold inC;infer_instance
abbrev blkC (C:CD) (bl:Int):BD:=C.bs.getD bl.toNat default
abbrev usC (C:CD) (bl pa:Int):Int:=(blkC C bl).us.getD pa.toNat 0
abbrev pgC13 (C:CD) (bl pa:Int):List Int:=(blkC C bl).pg.getD pa.toNat []
def refC (C:CD) (bl pa:Int) (n:Nat):Int:=
 if C.off=true then 4 else if ¬ (inC C bl pa/\n=szP C.g) then 2 else if (blkC C bl).sc=true\/2<=usC C bl pa then 7 else if usC C bl pa=0/\pa<=(blkC C bl).la then 6 else 0
def progX (C:CD) (bl pa:Int) (b:List Int):CD:=
 {C with bs:=C.bs.set bl.toNat {blkC C bl with pg:=(blkC C bl).pg.set pa.toNat (if (codeC C).1=0 then andL (pgC13 C bl pa) b else progL (pgC13 C bl pa) b (codeC C).2.1 (!(codeC C).2.2)),us:=(blkC C bl).us.set pa.toNat (usC C bl pa+1),la:=max (blkC C bl).la pa},off:=(codeC C).2.2,ops:=C.ops+1,tr:=C.tr++[(1,(codeC C).1)]}
def progC (C:CD) (bl pa:Int) (b:List Int):CD×Int:=if refC C bl pa b.length=0 then (progX C bl pa b,(codeC C).1) else (C,refC C bl pa b.length)
def mayC (C:CD) (n:Int):Int:=if C.off=true then 4 else if ¬ (0<=n/\n<C.g.b) then 2 else 0
def eraX (C:CD) (n:Int):CD:=
 {C with bs:=C.bs.set n.toNat (if (codeC C).1=0 then {blankB C.g with er:=(blkC C n).er+1} else {blkC C n with pg:=cutL (eraL (blkC C n).pg.flatten (codeC C).2.1) C.g.p.toNat,er:=(blkC C n).er+1}),off:=(codeC C).2.2,ops:=C.ops+1,tr:=C.tr++[(2,(codeC C).1)]}
def eraC (C:CD) (n:Int):CD×Int:=if mayC C n=0 then (eraX C n,(codeC C).1) else (C,mayC C n)
def scrX (C:CD) (n:Int):CD:=
 let all:=(blkC C n).pg.flatten
 {C with bs:=C.bs.set n.toNat {blkC C n with sc:=true,pg:=cutL (if (codeC C).1=0 then List.replicate all.length 0 else progL all (List.replicate all.length 0) (codeC C).2.1 false) C.g.p.toNat},off:=(codeC C).2.2,ops:=C.ops+1,tr:=C.tr++[(3,(codeC C).1)]}
def scrC (C:CD) (n:Int):CD×Int:=if mayC C n=0 then (scrX C n,(codeC C).1) else (C,mayC C n)
theorem Right.sec {g:Geo} (h:Right g):32<=g.s/\g.s<=4096:=by unfold Right Kept at h;omega
theorem fill_sec {g:Geo} (hs:32<=g.s/\g.s<=4096):(max 0 (min (65536:Int) g.s)).toNat=g.s.toNat:=by generalize hL:(65536:Int)=L;omega
theorem _root_.Go.Eng.Sep.res {E:Nat->Prop} {w0 w w':World} {Rs:List Asr} {s:SlV} {xs:List Int} (S:Sep E w0 w Rs) (h:Res w w' s xs):Sep E w0 w' (OwnA 5 1 s.a s.n s.c (xs.map (Value.int .u8))::Rs):=S.pushO h.ext h.own
theorem _root_.Go.Eng.Sep.out {w0 w:World} {Rs:List Asr} {a:Option Addr} {n c:Nat} {xs:List Int} (S:Sep NoB w0 w (OwnA 5 1 a n c (xs.map (Value.int .u8))::Rs)):Res w0 w ⟨a,n,c⟩ xs:=by
 obtain ⟨F,⟨h,hF⟩,hb⟩:=S.get (i:=0) rfl
 refine ⟨S.ext,⟨h.len,h.cap,h.lim,h.one,h.at_.imp id λ⟨b,cs,h1,h2,h3,h4⟩=>⟨b,cs,h1,?_,h3,h4⟩⟩⟩
 exact ((hb _ (hF _ h1)).1.elim (λx=>x.elim) id)
theorem chunks_join (xs:List Int) (s:Nat):∀ n:Nat,((List.range n).map λi=>(xs.drop (i*s)).take s).flatten=xs.take (n*s)
 | 0=>by simp
 | n+1=>by
  rw [List.range_succ,List.map_append,List.flatten_append,chunks_join xs s n,Nat.add_mul,Nat.one_mul,List.take_add]
  simp
theorem intsNil {w:World}:Ints w .u8 none 0 0 []:=⟨rfl,Nat.le_refl _,by omega,.inl ⟨rfl,rfl⟩⟩
abbrev TB:Ty:=.sl (.int .u8)
abbrev TBB:Ty:=.sl TB
def RdL (L:List (SlP Int)):Asr:=⟨λw F=>∀ x∈L,TB.rd w F x,λh k x hx=>TB.rd_kp (λi hi _=>k i hi) (h x hx)⟩
theorem maxLen_eq:maxLen=9223372036854775807:=by decide
theorem own_rd {w:World} {F:Nat->Prop} {a:Option Addr} {n c:Nat} {xs:List Int} (h:(OwnA 5 1 a n c (xs.map (Value.int .u8))).p w F) (bx:Byt xs):TB.rd w F ⟨a,n,c,xs⟩:=by
 obtain ⟨ho,hF⟩:=h
 have hm:=maxLen_eq
 refine ⟨by have:=ho.len;simpa using this,ho.cap,by have:=ho.lim;show n<=maxLen;omega,?_,λy hy=>rngU8 (bx y hy)⟩
 rw [show xs.flatMap (Ty.int .u8).vs=xs.map (Value.int .u8) from flat_ints .u8 _]
 rcases ho.rd with h | ⟨p,h1,h2⟩
 ·exact .inl h
 ·exact .inr ⟨p,h1,h2,λ_=>hF p h1⟩
theorem _root_.Go.Eng.Sep.addL {E:Nat->Prop} {w0 w:World} {Rs:List Asr} {a:Option Addr} {n c:Nat} {xs:List Int} {L:List (SlP Int)} (S:Sep E w0 w (OwnA 5 1 a n c (xs.map (Value.int .u8))::RdL L::Rs)) (bx:Byt xs):Sep E w0 w (RdL (L++[⟨a,n,c,xs⟩])::Rs):=
 S.conv2 λF1 F2 h1 h2 _ x hx=>by
  rcases List.mem_append.1 hx with h | h
  ·exact TB.rd_mono (λk hk _=>.inr hk) (h2 x h)
  ·rw [List.mem_singleton.1 h]
   exact TB.rd_mono (λk hk _=>.inl hk) (own_rd h1 bx)
theorem _root_.Go.Eng.Sep.nilL {E:Nat->Prop} {w0 w:World} {Rs:List Asr} (S:Sep E w0 w Rs):Sep E w0 w (RdL []::Rs):=
 S.push (F:=NoB) (Fr.refl _ _) (λx hx=>(List.not_mem_nil hx).elim) λ_ x=>x.elim
end Go.Proofs.YtbaojfchlhlaeaaGreat.Vc
