/- Texts in one: The plans of functions as plain statements, printed by wip/tools/vcgen.py; the kernel holds each to the code. The contracts of layer 1 (octet): reading functions. Plain laws of numbers and lists for layer 1. The contracts of layer 1 (octet), numbers and fills. Values of several cells in memory of their own: read and written whole, and cell by cell. The plans of functions as plain statements, printed by wip/tools/vcgen.py; the kernel holds each to the code. The contracts of layer 11 (geometry). The contracts of layer 11 (geometry), second part. Parts and results. The contracts of layer 1 (octet): numbers out of bytes, both ways round. The contracts of layer 1 (octet): byte by byte. The plans of functions as plain statements, printed by wip/tools/vcgen.py; the kernel holds each to the code. The contracts of layer 14 (head): a head's bytes. What the parameters of a law are known to be, out of the row's input: whole numbers in their range, slices of whole numbers as cells. What any parameter of a law is known to be, out of the row's input: structs, arrays and slices of whole numbers, texts, and of each other. The law HeadBytes of layer 14: each call gives true, and what it read stays. The contracts of layer 14 (head): an end's bytes, and is it committed. Plain laws for layer 14 (head): numbers of bytes, back as bytes. Parts of plans, cut out by wip/tools/vccut.py. The contracts of layer 14 (head): what an end tells. The contract of head.Read. Heads are the same where all their numbers are. The law HeadEnds of layer 14: each call gives true, and what it read stays. Plain laws of bits of bytes, for layer 12 (fault). The plans of functions as plain statements, printed by wip/tools/vcgen.py; the kernel holds each to the code. -/
import Derived.Test.YtcekmdehjnlkpaaGreatZScanBlocksa
set_option linter.unusedVariables false
set_option linter.unusedSimpArgs false
namespace Go.Proofs.YtcekmdehjnlkpaaGreat.Vc
open Go Go.Eng
def ref01_SameBytes.A:Ann:=.two .no (.two .no (.two (.two .no (.one (.loop [4,5,11,12,13,14,15,16,17,18,19,20,21,22,23,24,25] [(5,.one (.int .i64))] (.two .no (.two (.one (.two (.draw (.take 0 (.take 1 (.take 2 (.take 3 (.take 4 (.take 5 (.take 6 (.take 7 (.take 8 (.done))))))))))) .no)) .no))))) .no))
def ref01_SameBytes.P (a0:Option Addr) (n0 c0:Nat) (a1:Option Addr) (n1 c1:Nat) (w:World) (K:Bool×Unit->World->Prop):Prop:=
 cond (((n0:Nat):Int) != ((n1:Nat):Int))
 (K (false,()) w)
 (LoopV [.one (.int .i64)] ((0:Int),()) w λ(z1:Int×Unit) w2 (K3:Int×Unit->World->Prop)=>
 cond (decide (z1.1<((n0:Nat):Int)))
 (DrawV λD4=>
 (0<=z1.1/\z1.1<((n0:Nat):Int))/\∃ q5:Addr,a0=some q5 /\
 (D4 (q5.add (z1.1.toNat*1)).block/\LoadS w2.drew (q5.add (z1.1.toNat*1)) (.int .u8) λ(x6:Int)=>
 (0<=z1.1/\z1.1<((n1:Nat):Int))/\∃ q7:Addr,a1=some q7 /\
 (D4 (q7.add (z1.1.toNat*1)).block/\LoadS w2.drew (q7.add (z1.1.toNat*1)) (.int .u8) λ(x8:Int)=>
 cond (x6 != x8)
 (K (false,()) w2.drew)
 (Rng .i64 (z1.1+1) /\
 K3 (z1.1+1,()) w2.drew))))
 (K (true,()) w2))
theorem ref01_SameBytes.vc (a0:Option Addr) (n0 c0:Nat) (a1:Option Addr) (n1 c1:Nat) (w:World) (K:Bool×Unit->World->Prop) (h:ref01_SameBytes.P a0 n0 c0 a1 n1 c1 w K):CallV Tryz.prog 102 #[.slice a0 n0 c0,.slice a1 n1 c1] w [.one .bool] K:=by
 refine vcFun.of (A:=ref01_SameBytes.A) (wr:=false) okf_ok follows h Tryz.func102 ?_
 kernel_rfl
def ref01_Fill.A:Ann:=.two .no (.two .no (.two (.two .no (.one (.loop [5,6,8,9,10,11,12,13,14,15,16,17,18,19,20] [(5,.one .sl),(6,.one (.int .i64))] .no))) .no))
def ref01_Fill.P (p0 p1:Int) (w:World) (K:SlV×Unit->World->Prop):Prop:=
 NewV #[] 5 w λb1 w2=>
 LoopV [.one .sl,.one (.int .i64)] ((⟨(some ⟨b1,0,none⟩),0,0⟩:SlV),(0:Int),()) w2 λ(z3:SlV×Int×Unit) w4 (K5:SlV×Int×Unit->World->Prop)=>
 cond (decide (z3.2.1<p1))
 (cond (decide (z3.2.1<65536))
 (NewV #[.int .u8 p0] 5 w4 λb6 w7=>
 AppS w7 (some ⟨b6,0,none⟩) 1 1 λns12=>
 AppV w7 5 1 1 z3.1.a z3.1.n z3.1.c ns12 1 λa8 n9 c10 w11=>
 Rng .i64 (z3.2.1+1) /\
 K5 ((⟨a8,n9,c10⟩:SlV),z3.2.1+1,()) w11)
 (K (z3.1,()) w4))
 (K (z3.1,()) w4)
theorem ref01_Fill.vc (p0 p1:Int) (w:World) (K:SlV×Unit->World->Prop) (h:ref01_Fill.P p0 p1 w K):CallV Tryz.prog 86 #[.int .u8 p0,.int .i64 p1] w [.one .sl] K:=by
 refine vcFun.of (A:=ref01_Fill.A) (wr:=false) okf_ok follows h Tryz.func86 ?_
 kernel_rfl
def ref01_Back.A:Ann:=.two .no (.two .no (.two (.two .no (.one (.loop [3,4,9,10,11,12,13,14,15,16,17,18,19] [(3,.one .sl),(4,.one (.int .i64))] .no))) .no))
def ref01_Back.P (a0:Option Addr) (n0 c0:Nat) (w:World) (K:SlV×Unit->World->Prop):Prop:=
 NewV #[] 5 w λb1 w2=>
 Rng .i64 (((n0:Nat):Int)-1) /\
 LoopV [.one .sl,.one (.int .i64)] ((⟨(some ⟨b1,0,none⟩),0,0⟩:SlV),((n0:Nat):Int)-1,()) w2 λ(z3:SlV×Int×Unit) w4 (K5:SlV×Int×Unit->World->Prop)=>
 cond (decide (z3.2.1≥0))
 ((0<=z3.2.1/\z3.2.1<((n0:Nat):Int))/\∃ q6:Addr,a0=some q6 /\
 LoadS w4 (q6.add (z3.2.1.toNat*1)) (.int .u8) λ(x7:Int)=>
 NewV #[.int .u8 x7] 5 w4 λb8 w9=>
 AppS w9 (some ⟨b8,0,none⟩) 1 1 λns14=>
 AppV w9 5 1 1 z3.1.a z3.1.n z3.1.c ns14 1 λa10 n11 c12 w13=>
 Rng .i64 (z3.2.1-1) /\
 K5 ((⟨a10,n11,c12⟩:SlV),z3.2.1-1,()) w13)
 (K (z3.1,()) w4)
theorem ref01_Back.vc (a0:Option Addr) (n0 c0:Nat) (w:World) (K:SlV×Unit->World->Prop) (h:ref01_Back.P a0 n0 c0 w K):CallV Tryz.prog 126 #[.slice a0 n0 c0] w [.one .sl] K:=by
 refine vcFun.of (A:=ref01_Back.A) (wr:=false) okf_ok follows h Tryz.func126 ?_
 kernel_rfl
def ref01_Little.A:Ann:=.two .no (.two .no (.two (.two .no (.one (.loop [0,5,6,8,9,10,11,12,13,14,15,16,17,18,19,20,21,22,23,24] [(0,.one (.int .u64)),(5,.one .sl),(6,.one (.int .i64))] .no))) .no))
def ref01_Little.P (p0 p1:Int) (w:World) (K:SlV×Unit->World->Prop):Prop:=
 NewV #[] 5 w λb1 w2=>
 LoopV [.one (.int .u64),.one .sl,.one (.int .i64)] (p0,(⟨(some ⟨b1,0,none⟩),0,0⟩:SlV),(0:Int),()) w2 λ(z3:Int×SlV×Int×Unit) w4 (K5:Int×SlV×Int×Unit->World->Prop)=>
 cond (decide (z3.2.2.1<p1))
 (cond (decide (z3.2.2.1<8))
 (256≠(0:Int) /\
 NewV #[.int .u8 (IntKind.u8.wrap (Int.tmod z3.1 256))] 5 w4 λb6 w7=>
 AppS w7 (some ⟨b6,0,none⟩) 1 1 λns12=>
 AppV w7 5 1 1 z3.2.1.a z3.2.1.n z3.2.1.c ns12 1 λa8 n9 c10 w11=>
 256≠(0:Int)/\Rng .u64 (Int.tdiv z3.1 256) /\
 Rng .i64 (z3.2.2.1+1) /\
 K5 (Int.tdiv z3.1 256,(⟨a8,n9,c10⟩:SlV),z3.2.2.1+1,()) w11)
 (K (z3.2.1,()) w4))
 (K (z3.2.1,()) w4)
theorem ref01_Little.vc (p0 p1:Int) (w:World) (K:SlV×Unit->World->Prop) (h:ref01_Little.P p0 p1 w K):CallV Tryz.prog 142 #[.int .u64 p0,.int .i64 p1] w [.one .sl] K:=by
 refine vcFun.of (A:=ref01_Little.A) (wr:=false) okf_ok follows h Tryz.func142 ?_
 kernel_rfl
def ref01_Big.A:Ann:=.no
def ref01_Big.P (p0 p1:Int) (w:World) (K:SlV×Unit->World->Prop):Prop:=
 CallV Tryz.prog 142 #[.int .u64 p0,.int .i64 p1] w [.one .sl] λ(r1:SlV×Unit) w2=>
 CallV Tryz.prog 126 #[.slice r1.1.a r1.1.n r1.1.c] w2 [.one .sl] λ(r3:SlV×Unit) w4=>
 K (r3.1,()) w4
theorem ref01_Big.vc (p0 p1:Int) (w:World) (K:SlV×Unit->World->Prop) (h:ref01_Big.P p0 p1 w K):CallV Tryz.prog 127 #[.int .u64 p0,.int .i64 p1] w [.one .sl] K:=by
 refine vcFun.of (A:=ref01_Big.A) (wr:=false) okf_ok follows h Tryz.func127 ?_
 kernel_rfl
def ref01_NumLittle.A:Ann:=.two .no (.two .no (.two (.two .no (.one (.loop [3,4,9,10,11,12,13,14,15,16,17,18,19,20] [(3,.one (.int .u64)),(4,.one (.int .i64))] .no))) .no))
def ref01_NumLittle.P (a0:Option Addr) (n0 c0:Nat) (w:World) (K:Int×Unit->World->Prop):Prop:=
 Rng .i64 (((n0:Nat):Int)-1) /\
 NameI (min (7:Int) (((n0:Nat):Int)-1)) λz1=>
 LoopV [.one (.int .u64),.one (.int .i64)] ((0:Int),z1,()) w λ(z2:Int×Int×Unit) w3 (K4:Int×Int×Unit->World->Prop)=>
 cond (decide (z2.2.1≥0))
 ((0<=z2.2.1/\z2.2.1<((n0:Nat):Int))/\∃ q5:Addr,a0=some q5 /\
 LoadS w3 (q5.add (z2.2.1.toNat*1)) (.int .u8) λ(x6:Int)=>
 Rng .i64 (z2.2.1-1) /\
 K4 (IntKind.u64.wrap ((IntKind.u64.wrap (z2.1*256))+(IntKind.u64.wrap x6)),z2.2.1-1,()) w3)
 (K (z2.1,()) w3)
theorem ref01_NumLittle.vc (a0:Option Addr) (n0 c0:Nat) (w:World) (K:Int×Unit->World->Prop) (h:ref01_NumLittle.P a0 n0 c0 w K):CallV Tryz.prog 125 #[.slice a0 n0 c0] w [.one (.int .u64)] K:=by
 refine vcFun.of (A:=ref01_NumLittle.A) (wr:=false) okf_ok follows h Tryz.func125 ?_
 kernel_rfl
def ref01_Num.A:Ann:=.no
def ref01_Num.P (a0:Option Addr) (n0 c0:Nat) (w:World) (K:Int×Unit->World->Prop):Prop:=
 CallV Tryz.prog 126 #[.slice a0 n0 c0] w [.one .sl] λ(r1:SlV×Unit) w2=>
 CallV Tryz.prog 125 #[.slice r1.1.a r1.1.n r1.1.c] w2 [.one (.int .u64)] λ(r3:Int×Unit) w4=>
 K (r3.1,()) w4
theorem ref01_Num.vc (a0:Option Addr) (n0 c0:Nat) (w:World) (K:Int×Unit->World->Prop) (h:ref01_Num.P a0 n0 c0 w K):CallV Tryz.prog 101 #[.slice a0 n0 c0] w [.one (.int .u64)] K:=by
 refine vcFun.of (A:=ref01_Num.A) (wr:=false) okf_ok follows h Tryz.func101 ?_
 kernel_rfl
def ref01_Xor.A:Ann:=.two .no (.two .no (.two (.two .no (.one (.loop [5,6,8,9,10,11,12,13,14,15,16,17,18,19,20,21,22,23,24,25] [(5,.one .sl),(6,.one (.int .i64))] (.two .no (.two (.one (.draw (.take 0 (.take 1 (.take 2 (.take 3 (.take 4 (.take 5 (.take 6 (.take 7 (.take 8 (.take 9 (.eff 10 (.eff 11 (.take 12 (.done)))))))))))))))) .no))))) .no))
def ref01_Xor.P (a0:Option Addr) (n0 c0:Nat) (a1:Option Addr) (n1 c1:Nat) (w:World) (K:SlV×Unit->World->Prop):Prop:=
 NewV #[] 5 w λb1 w2=>
 LoopV [.one .sl,.one (.int .i64)] ((⟨(some ⟨b1,0,none⟩),0,0⟩:SlV),(0:Int),()) w2 λ(z3:SlV×Int×Unit) w4 (K5:SlV×Int×Unit->World->Prop)=>
 cond (decide (z3.2.1<((n0:Nat):Int)))
 (DrawV λD6=>
 (0<=z3.2.1/\z3.2.1<((n0:Nat):Int))/\∃ q7:Addr,a0=some q7 /\
 (D6 (q7.add (z3.2.1.toNat*1)).block/\LoadS w4.drew (q7.add (z3.2.1.toNat*1)) (.int .u8) λ(x8:Int)=>
 (0<=z3.2.1/\z3.2.1<((n1:Nat):Int))/\∃ q9:Addr,a1=some q9 /\
 (D6 (q9.add (z3.2.1.toNat*1)).block/\LoadS w4.drew (q9.add (z3.2.1.toNat*1)) (.int .u8) λ(x10:Int)=>
 NewV #[.int .u8 (Go.bits .xor .u8 x8 x10)] 5 w4.drew λb11 w12=>
 KeepOn D6 w4.drew w12 /\
 AppS w12 (some ⟨b11,0,none⟩) 1 1 λns17=>
 AppV w12 5 1 1 z3.1.a z3.1.n z3.1.c ns17 1 λa13 n14 c15 w16=>
 KeepOn D6 w4.drew w16 /\
 Rng .i64 (z3.2.1+1) /\
 K5 ((⟨a13,n14,c15⟩:SlV),z3.2.1+1,()) w16)))
 (K (z3.1,()) w4)
theorem ref01_Xor.vc (a0:Option Addr) (n0 c0:Nat) (a1:Option Addr) (n1 c1:Nat) (w:World) (K:SlV×Unit->World->Prop) (h:ref01_Xor.P a0 n0 c0 a1 n1 c1 w K):CallV Tryz.prog 128 #[.slice a0 n0 c0,.slice a1 n1 c1] w [.one .sl] K:=by
 refine vcFun.of (A:=ref01_Xor.A) (wr:=false) okf_ok follows h Tryz.func128 ?_
 kernel_rfl
def ref01_Invert.A:Ann:=.no
def ref01_Invert.P (a0:Option Addr) (n0 c0:Nat) (w:World) (K:SlV×Unit->World->Prop):Prop:=
 CallV Tryz.prog 86 #[.int .u8 255,.int .i64 ((n0:Nat):Int)] w [.one .sl] λ(r1:SlV×Unit) w2=>
 CallV Tryz.prog 128 #[.slice a0 n0 c0,.slice r1.1.a r1.1.n r1.1.c] w2 [.one .sl] λ(r3:SlV×Unit) w4=>
 K (r3.1,()) w4
theorem ref01_Invert.vc (a0:Option Addr) (n0 c0:Nat) (w:World) (K:SlV×Unit->World->Prop) (h:ref01_Invert.P a0 n0 c0 w K):CallV Tryz.prog 104 #[.slice a0 n0 c0] w [.one .sl] K:=by
 refine vcFun.of (A:=ref01_Invert.A) (wr:=false) okf_ok follows h Tryz.func104 ?_
 kernel_rfl
def octet_Fill.A:Ann:=.two .no (.two .no (.two (.two .no (.one (.loop [6,13,14,15,16,17,18,19,20] [(13,.one (.int .i64))] .no))) .no))
def octet_Fill.P (p0 p1:Int) (w:World) (K:SlV×Unit->World->Prop):Prop:=
 NameI (min (65536:Int) p1) λz1=>
 NameI (max (0:Int) z1) λz2=>
 ((0:Int)<=(z2:Int)/\(z2:Int)<=(z2:Int)/\(z2:Int)<=9223372036854775807/\((1:Nat):Int)*(z2:Int)<=140737488355328) /\
 NewV (List.replicate z2.toNat [.int .u8 0]).flatten.toArray 5 w λb3 w4=>
 LoopV [.one (.int .i64)] ((0:Int),()) w4 λ(z5:Int×Unit) w6 (K7:Int×Unit->World->Prop)=>
 cond (decide (z5.1<((z2.toNat:Nat):Int)))
 ((0<=z5.1/\z5.1<((z2.toNat:Nat):Int))/\∃ q8:Addr,(some ⟨b3,0,none⟩)=some q8 /\
 StoreV w6 (q8.add (z5.1.toNat*1)) [.int .u8 p0] λw9=>
 Rng .i64 (z5.1+1) /\
 K7 (z5.1+1,()) w9)
 (K ((⟨(some ⟨b3,0,none⟩),z2.toNat,z2.toNat⟩:SlV),()) w6)
theorem octet_Fill.vc (p0 p1:Int) (w:World) (K:SlV×Unit->World->Prop) (h:octet_Fill.P p0 p1 w K):CallV Tryz.prog 117 #[.int .u8 p0,.int .i64 p1] w [.one .sl] K:=by
 refine vcFun.of (A:=octet_Fill.A) (wr:=false) okf_ok follows h Tryz.func117 ?_
 kernel_rfl
def octet_Num.A:Ann:=.two .no (.two .no (.two (.two .no (.one (.loop [3,5,13,14,15,16,17,18,19,20,21,22] [(3,.one (.int .u64)),(13,.one (.int .i64))] .no))) .no))
def octet_Num.P (a0:Option Addr) (n0 c0:Nat) (w:World) (K:Int×Unit->World->Prop):Prop:=
 Rng .i64 (((n0:Nat):Int)-8) /\
 NameI (max (0:Int) (((n0:Nat):Int)-8)) λz1=>
 ((0:Int)<=z1/\z1<=((n0:Nat):Int)) /\
 SubK a0 z1.toNat c0 1 λa2=>
 LoopV [.one (.int .u64),.one (.int .i64)] ((0:Int),(0:Int),()) w λ(z3:Int×Int×Unit) w4 (K5:Int×Int×Unit->World->Prop)=>
 cond (decide (z3.2.1<((n0-z1.toNat:Nat):Int)))
 ((0<=z3.2.1/\z3.2.1<((n0-z1.toNat:Nat):Int))/\∃ q6:Addr,a2=some q6 /\
 LoadS w4 (q6.add (z3.2.1.toNat*1)) (.int .u8) λ(x7:Int)=>
 (0:Int)<=8 /\
 Rng .i64 (z3.2.1+1) /\
 K5 (Go.bits .or .u64 (IntKind.u64.wrap (z3.1*256)) (IntKind.u64.wrap x7),z3.2.1+1,()) w4)
 (K (z3.1,()) w4)
theorem octet_Num.vc (a0:Option Addr) (n0 c0:Nat) (w:World) (K:Int×Unit->World->Prop) (h:octet_Num.P a0 n0 c0 w K):CallV Tryz.prog 114 #[.slice a0 n0 c0] w [.one (.int .u64)] K:=by
 refine vcFun.of (A:=octet_Num.A) (wr:=false) okf_ok follows h Tryz.func114 ?_
 kernel_rfl
def octet_Invert.A:Ann:=.two .no (.two .no (.two (.two .no (.one (.loop [4,5,11,12,13,14,15,16,17,18,19,20,21] [(11,.one (.int .i64))] .no))) .no))
def octet_Invert.P (a0:Option Addr) (n0 c0:Nat) (w:World) (K:SlV×Unit->World->Prop):Prop:=
 ((0:Int)<=(((n0:Nat):Int):Int)/\(((n0:Nat):Int):Int)<=(((n0:Nat):Int):Int)/\(((n0:Nat):Int):Int)<=9223372036854775807/\((1:Nat):Int)*(((n0:Nat):Int):Int)<=140737488355328) /\
 NewV (List.replicate (((n0:Nat):Int).toNat) [.int .u8 0]).flatten.toArray 5 w λb1 w2=>
 LoopV [.one (.int .i64)] ((0:Int),()) w2 λ(z3:Int×Unit) w4 (K5:Int×Unit->World->Prop)=>
 cond (decide (z3.1<((n0:Nat):Int)))
 ((0<=z3.1/\z3.1<((n0:Nat):Int))/\∃ q6:Addr,a0=some q6 /\
 LoadS w4 (q6.add (z3.1.toNat*1)) (.int .u8) λ(x7:Int)=>
 (0<=z3.1/\z3.1<((((n0:Nat):Int).toNat:Nat):Int))/\∃ q8:Addr,(some ⟨b1,0,none⟩)=some q8 /\
 StoreV w4 (q8.add (z3.1.toNat*1)) [.int .u8 (Go.bits .xor .u8 255 x7)] λw9=>
 Rng .i64 (z3.1+1) /\
 K5 (z3.1+1,()) w9)
 (K ((⟨(some ⟨b1,0,none⟩),((n0:Nat):Int).toNat,((n0:Nat):Int).toNat⟩:SlV),()) w4)
theorem octet_Invert.vc (a0:Option Addr) (n0 c0:Nat) (w:World) (K:SlV×Unit->World->Prop) (h:octet_Invert.P a0 n0 c0 w K):CallV Tryz.prog 116 #[.slice a0 n0 c0] w [.one .sl] K:=by
 refine vcFun.of (A:=octet_Invert.A) (wr:=false) okf_ok follows h Tryz.func116 ?_
 kernel_rfl
def octet_Same.A:Ann:=.two .no (.two .no (.two .no (.two (.two .no (.one (.loop [5,6,14,15,16,17,18,19,20,21,22,23,24,25,26,27,28] [(5,.one (.int .u8)),(14,.one (.int .i64))] (.two .no (.two .no (.two (.one (.two .no (.draw (.take 0 (.take 1 (.take 2 (.take 3 (.take 4 (.take 5 (.take 6 (.take 7 (.take 8 (.take 9 (.take 10 (.take 11 (.done)))))))))))))))) .no)))))) .no)))
def octet_Same.P (a0:Option Addr) (n0 c0:Nat) (a1:Option Addr) (n1 c1:Nat) (w:World) (K:Bool×Unit->World->Prop):Prop:=
 cond (((n0:Nat):Int) != ((n1:Nat):Int))
 (K (false,()) w)
 (LoopV [.one (.int .u8),.one (.int .i64)] ((0:Int),(0:Int),()) w λ(z1:Int×Int×Unit) w2 (K3:Int×Int×Unit->World->Prop)=>
 cond (decide (z1.2.1<((n0:Nat):Int)))
 (DrawV λD4=>
 (0<=z1.2.1/\z1.2.1<((n0:Nat):Int))/\∃ q5:Addr,a0=some q5 /\
 (D4 (q5.add (z1.2.1.toNat*1)).block/\LoadS w2.drew (q5.add (z1.2.1.toNat*1)) (.int .u8) λ(x6:Int)=>
 (0<=z1.2.1/\z1.2.1<((n1:Nat):Int))/\∃ q7:Addr,a1=some q7 /\
 (D4 (q7.add (z1.2.1.toNat*1)).block/\LoadS w2.drew (q7.add (z1.2.1.toNat*1)) (.int .u8) λ(x8:Int)=>
 Rng .i64 (z1.2.1+1) /\
 K3 (Go.bits .or .u8 z1.1 (Go.bits .xor .u8 x6 x8),z1.2.1+1,()) w2.drew)))
 (K ((z1.1 == 0),()) w2))
theorem octet_Same.vc (a0:Option Addr) (n0 c0:Nat) (a1:Option Addr) (n1 c1:Nat) (w:World) (K:Bool×Unit->World->Prop) (h:octet_Same.P a0 n0 c0 a1 n1 c1 w K):CallV Tryz.prog 115 #[.slice a0 n0 c0,.slice a1 n1 c1] w [.one .bool] K:=by
 refine vcFun.of (A:=octet_Same.A) (wr:=false) okf_ok follows h Tryz.func115 ?_
 kernel_rfl
end Go.Proofs.YtcekmdehjnlkpaaGreat.Vc
namespace Go.Proofs.YtcekmdehjnlkpaaGreat.Vc
open Go Go.Eng Go.RowKit
theorem SameBytes_c {w:World} {a b:Option Addr} {n c m d:Nat} {xs ys:List Int} (hx:Ints w .u8 a n c xs) (hy:Ints w .u8 b m d ys) :
  CallV Tryz.prog 102 #[.slice a n c,.slice b m d] w [.one .bool] λr w'=>r.1=decide (xs=ys)/\Ext w w':=by
 refine ref01_SameBytes.vc _ _ _ _ _ _ _ _ ?_
 unfold ref01_SameBytes.P
 have l1:=hx.len
 have l2:=hy.len
 refine cond_ne (λhne=>?_) (λheq=>?_)
 ·refine ⟨?_,Ext.refl w⟩
  show false=decide (xs=ys)
  symm
  rw [decide_eq_false_iff_not]
  rintro rfl
  omega
 ·refine Loop1 (λ(x:Int×Unit) w'=>0<=x.1/\x.1<=n/\(∀ j:Nat,j<x.1.toNat->xs.getD j 0=ys.getD j 0)/\Ext w w') (λ(x:Int×Unit) _=>((n:Int)-x.1).toNat) ⟨Int.le_refl _,by dsimp only;omega,λj hj=>by dsimp only at hj;omega,Ext.refl w⟩ ?_
  rintro ⟨(i:Int),⟨⟩⟩ w' ⟨h0,h1,hj,he⟩
  dsimp only at h0 h1 hj ⊢
  have hli:=hx.lim
  refine cond_d (λhlt=>?_) (λhge=>?_)
  ·refine DrawV.any λD hD=>?_
   have he':=he.trans (Ext.drew w')
   refine hx.idxD he' h0 hlt (λb _=>hD b) ?_
   refine hy.idxD he' h0 (by omega) (λb _=>hD b) ?_
   refine cond_ne (λhne=>?_) (λheq'=>?_)
   ·refine ⟨?_,he'⟩
    show false=decide (xs=ys)
    symm
    rw [decide_eq_false_iff_not]
    rintro rfl
    exact hne rfl
   ·refine ⟨Rng.i64 (by omega) (by omega),⟨by omega,by omega,?_,he'⟩,by omega⟩
    intro j hj'
    by_cases hji:j=i.toNat
    ·rw [hji];exact heq'
    ·exact hj j (by omega)
  ·refine ⟨?_,he⟩
   show true=decide (xs=ys)
   symm
   rw [decide_eq_true_eq]
   apply List.ext_getElem (by omega)
   intro j h1 h2
   have:=hj j (by omega)
   simpa [List.getD_eq_getElem?_getD,h1,h2] using this
end Go.Proofs.YtcekmdehjnlkpaaGreat.Vc
namespace Go.Eng
open Go
def Byt (xs:List Int):Prop:=∀ x∈xs,0<=x/\x<256
theorem u8_wrap (z:Int):IntKind.u8.wrap z=z % 256:=by simp [IntKind.wrap,IntKind.signed,IntKind.bits]
theorem u32_wrap (z:Int):IntKind.u32.wrap z=z % 4294967296:=by simp [IntKind.wrap,IntKind.signed,IntKind.bits]
theorem u64_wrap (z:Int):IntKind.u64.wrap z=z % 18446744073709551616:=by simp [IntKind.wrap,IntKind.signed,IntKind.bits]
theorem u64_id {z:Int} (h0:0<=z) (h1:z<18446744073709551616):IntKind.u64.wrap z=z:=by rw [u64_wrap];omega
theorem i64_id {z:Int} (h0:-9223372036854775808<=z) (h1:z<=9223372036854775807):IntKind.i64.wrap z=z:=wrap_rng (Rng.i64 h0 h1)
theorem Byt.getD {xs:List Int} (h:Byt xs) (i:Nat):0<=xs.getD i 0/\xs.getD i 0<256:=by
 rw [List.getD_eq_getElem?_getD]
 cases hi:xs[i]? with
 | none=>simp
 | some v=>exact h v (List.mem_of_getElem? hi)
theorem Byt.take {xs:List Int} (h:Byt xs) (k:Nat):Byt (xs.take k):=λx hx=>h x (List.mem_of_mem_take hx)
theorem Byt.drop {xs:List Int} (h:Byt xs) (k:Nat):Byt (xs.drop k):=λx hx=>h x (List.mem_of_mem_drop hx)
theorem Byt.append {xs ys:List Int} (h:Byt xs) (h':Byt ys):Byt (xs++ys):=λx hx=>(List.mem_append.1 hx).elim (h x) (h' x)
theorem Byt.reverse {xs:List Int} (h:Byt xs):Byt xs.reverse:=λx hx=>h x (List.mem_reverse.1 hx)
theorem Byt.replicate {x:Int} (h0:0<=x) (h1:x<256) (n:Nat):Byt (List.replicate n x):=λy hy=>by rw [(List.mem_replicate.1 hy).2];exact ⟨h0,h1⟩
theorem Byt.nil:Byt []:=λx hx=>(List.not_mem_nil hx).elim
theorem Byt.cons {x:Int} {xs:List Int} (h0:0<=x/\x<256) (h:Byt xs):Byt (x::xs):=λy hy=>by rcases List.mem_cons.1 hy with rfl | hy;exact h0;exact h y hy
theorem set_step (S:List Value) (z:Value) {k i:Nat} (hk:S.length=k) (hi:i<k):((S.take i++List.replicate (k-i) z).set i (S[i]'(by omega)))=S.take (i+1)++List.replicate (k-(i+1)) z:=by
 rw [List.set_append_right _ _ (by simp;omega),List.length_take,Nat.min_eq_left (by omega),Nat.sub_self]
 rw [show k-i=(k-(i+1))+1 by omega,List.replicate_succ,List.set_cons_zero,List.take_succ_eq_append_getElem (by omega),List.append_assoc]
 rfl
def cl8 (k:Int):Nat:=(max 0 (min 8 k)).toNat
def leL (n:Int) (k:Nat):List Int:=(List.range k).map λi=>n / 256 ^ i % 256
theorem leL_length (n:Int) (k:Nat):(leL n k).length=k:=by simp [leL]
theorem leL_get (n:Int) (k i:Nat) (h:i<(leL n k).length):(leL n k)[i]=n / 256 ^ i % 256:=by simp [leL]
theorem leL_byt (n:Int) (k:Nat):Byt (leL n k):=by
 intro x hx
 simp only [leL,List.mem_map] at hx
 obtain ⟨i,_,rfl⟩:=hx
 exact ⟨Int.emod_nonneg _ (by omega),Int.emod_lt_of_pos _ (by omega)⟩
theorem leL_succ (n:Int) (k:Nat):leL n (k+1)=leL n k++[n / 256 ^ k % 256]:=by simp [leL,List.range_succ]
theorem div_step (n:Int) (h:0<=n) (i:Nat):Int.tdiv (n / 256 ^ i) 256=n / 256 ^ (i+1):=by
 have hp:(0:Int)<256 ^ i:=Int.pow_pos (by omega)
 rw [Int.tdiv_eq_ediv_of_nonneg (Int.ediv_nonneg h (by omega)),Int.ediv_ediv_of_nonneg (Int.le_of_lt hp),Int.pow_succ]
def leN:List Int->Int
 | []=>0
 | x::xs=>x+256*leN xs
theorem leN_bd:∀ {xs:List Int},Byt xs->0<=leN xs/\leN xs<256 ^ xs.length
 | [],_=>by simp [leN]
 | x::xs,h=>by
  have h1:=leN_bd (xs:=xs) λy hy=>h y (List.mem_cons_of_mem _ hy)
  have h2:=h x (List.mem_cons_self)
  simp only [leN,List.length_cons,Int.pow_succ]
  omega
def numL (xs:List Int):Int:=leN (xs.take 8)
def numB (xs:List Int):Int:=leN (xs.reverse.take 8)
theorem pow_mono {a b:Nat} (h:a<=b):(256:Int) ^ a<=256 ^ b:=by
 induction h with
 | refl=>exact Int.le_refl _
 | step _ ih=>rw [Int.pow_succ];have:=Int.pow_pos (n:=256) (m:=a) (by omega);omega
theorem cast_pow2 (k:Nat):((2 ^ k:Nat):Int)=(2:Int) ^ k:=by
 induction k with
 | zero=>rfl
 | succ k ih=>rw [Int.pow_succ,Nat.pow_succ,Int.natCast_mul,ih];rfl
theorem bits_or (a b:Int):Go.bits .or .u64 a b=IntKind.u64.wrap (((BitVec.ofInt 64 a) ||| (BitVec.ofInt 64 b)).toNat:Int):=rfl
theorem ofInt64 (x:Nat) (h:x<18446744073709551616):(BitVec.ofInt 64 (x:Int)).toNat=x:=by
 rw [BitVec.toNat_ofInt]
 have:(2 ^ 64:Nat)=18446744073709551616:=by decide
 rw [this]
 omega
theorem or_disj {a b:Int} {k:Nat} (h0:0<=a) (h1:a<2 ^ k) (h2:0<=b) (h3:a+b*2 ^ k<18446744073709551616):Go.bits .or .u64 a (b*2 ^ k)=a+b*2 ^ k:=by
 obtain ⟨x,rfl⟩:=Int.eq_ofNat_of_zero_le h0
 obtain ⟨y,rfl⟩:=Int.eq_ofNat_of_zero_le h2
 rw [<-cast_pow2] at h1 h3 ⊢
 rw [<-Int.natCast_mul] at h3 ⊢
 have h1':x<2 ^ k:=by omega
 have h3':x+y*2 ^ k<18446744073709551616:=by omega
 have hor:x ||| (y*2 ^ k)=x+y*2 ^ k:=by
  rw [Nat.or_comm,<- Nat.shiftLeft_eq,<- Nat.shiftLeft_add_eq_or_of_lt h1',Nat.shiftLeft_eq,Nat.add_comm]
 rw [bits_or,BitVec.toNat_or,ofInt64 x (by omega),ofInt64 _ (by omega),hor,u64_wrap]
 omega
theorem byte_or {a b:Int} (h0:0<=a) (h1:a<72057594037927936) (h2:0<=b) (h3:b<256):Go.bits .or .u64 (IntKind.u64.wrap (a*256)) (IntKind.u64.wrap b)=a*256+b:=by
 rw [u64_id (by omega) (by omega),u64_id (by omega) (by omega)]
 have hc:Go.bits .or .u64 (a*256) b=Go.bits .or .u64 b (a*256):=by
  rw [bits_or,bits_or,BitVec.or_comm]
 rw [hc]
 have:=or_disj (a:=b) (b:=a) (k:=8) h2 (by simpa using h3) h0 (by omega)
 rw [show (2:Int) ^ 8=256 from rfl] at this
 rw [this]
 omega
theorem bits8 (op:BinOp) (a b:Int):Go.bits op .u8 a b=IntKind.u8.wrap ((match op with | .and=>(BitVec.ofInt 8 a) &&& (BitVec.ofInt 8 b) | .or=>(BitVec.ofInt 8 a) ||| (BitVec.ofInt 8 b) | .xor=>(BitVec.ofInt 8 a) ^^^ (BitVec.ofInt 8 b) | _=>(BitVec.ofInt 8 a) &&& ~~~(BitVec.ofInt 8 b):BitVec 8).toNat:Int):=rfl
theorem bits8_byt (op:BinOp) (a b:Int):0<=Go.bits op .u8 a b/\Go.bits op .u8 a b<256:=by
 rw [bits8,u8_wrap]
 exact ⟨Int.emod_nonneg _ (by omega),Int.emod_lt_of_pos _ (by omega)⟩
theorem byte_nat {a:Int} (h:0<=a/\a<256):∃ x:Fin 256,a=(x.val:Int):=⟨⟨a.toNat,by omega⟩,by simp;omega⟩
def xor8 (a b:Int):Int:=Go.bits .xor .u8 a b
theorem ofInt8 (x:Nat) (h:x<256):(BitVec.ofInt 8 (x:Int))=BitVec.ofNat 8 x:=by simp
theorem xor8_nat (x y:Nat) (hx:x<256) (hy:y<256):xor8 (x:Int) (y:Int)=((x ^^^ y:Nat):Int):=by
 unfold xor8
 rw [bits8]
 simp only [ofInt8 x hx,ofInt8 y hy,BitVec.toNat_xor,BitVec.toNat_ofNat,Nat.mod_eq_of_lt hx,Nat.mod_eq_of_lt hy,Nat.reducePow,u8_wrap]
 have:x ^^^ y<256:=Nat.xor_lt_two_pow (n:=8) hx hy
 omega
theorem xor8_comm (a b:Int):xor8 a b=xor8 b a:=by
 unfold xor8
 rw [bits8,bits8]
 simp only [BitVec.xor_comm]
theorem xor8_zero {a b:Int} (ha:0<=a/\a<256) (hb:0<=b/\b<256):xor8 a b=0↔a=b:=by
 obtain ⟨⟨x,hx⟩,rfl⟩:=byte_nat ha
 obtain ⟨⟨y,hy⟩,rfl⟩:=byte_nat hb
 rw [xor8_nat x y hx hy]
 constructor
 ·intro h
  have h0:x ^^^ y=0:=by omega
  have h1:x=(x ^^^ y) ^^^ y:=by rw [Nat.xor_assoc,Nat.xor_self,Nat.xor_zero]
  rw [h0,Nat.zero_xor] at h1
  simp [h1]
 ·intro h
  have:x=y:=by simp only at h;omega
  subst this
  simp
theorem or8_zero {a b:Int} (ha:0<=a/\a<256) (hb:0<=b/\b<256):Go.bits .or .u8 a b=0↔a=0/\b=0:=by
 obtain ⟨⟨x,hx⟩,rfl⟩:=byte_nat ha
 obtain ⟨⟨y,hy⟩,rfl⟩:=byte_nat hb
 rw [bits8]
 simp only [ofInt8 x hx,ofInt8 y hy,BitVec.toNat_or,BitVec.toNat_ofNat,Nat.mod_eq_of_lt hx,Nat.mod_eq_of_lt hy,Nat.reducePow,u8_wrap]
 have hlt:x ||| y<256:=Nat.or_lt_two_pow (n:=8) hx hy
 have h1:x<=x ||| y:=Nat.left_le_or
 have h2:y<=x ||| y:=Nat.right_le_or
 constructor
 ·intro h;omega
 ·rintro ⟨h3,h4⟩
  have e1:x=0:=by omega
  have e2:y=0:=by omega
  subst e1;subst e2
  rfl
def xorL (xs ys:List Int):List Int:=(List.range xs.length).map λi=>xor8 (xs.getD i 0) (ys.getD i 0)
theorem xorL_length (xs ys:List Int):(xorL xs ys).length=xs.length:=by simp [xorL]
theorem xorL_get (xs ys:List Int) (i:Nat) (h:i<(xorL xs ys).length):(xorL xs ys)[i]=xor8 (xs.getD i 0) (ys.getD i 0):=by simp [xorL]
theorem xorL_take_succ (xs ys:List Int) (i:Nat) (h:i<xs.length):(xorL xs ys).take (i+1)=(xorL xs ys).take i++[xor8 (xs.getD i 0) (ys.getD i 0)]:=by
 rw [List.take_succ_eq_append_getElem (by rw [xorL_length];exact h),xorL_get]
theorem getD_get {xs:List Int} {i:Nat} (h:i<xs.length):xs.getD i 0=xs[i]:=by simp [List.getD_eq_getElem?_getD,h]
def invL (xs:List Int):List Int:=xs.map λx=>xor8 255 x
theorem invL_byt (xs:List Int):Byt (invL xs):=by
 intro x hx
 simp only [invL,List.mem_map] at hx
 obtain ⟨y,_,rfl⟩:=hx
 exact bits8_byt _ _ _
theorem invL_xor (xs:List Int) (n:Nat) (h:n=xs.length):xorL xs (List.replicate n 255)=invL xs:=by
 subst h
 apply List.ext_getElem (by simp [xorL,invL])
 intro i h1 h2
 rw [xorL_get,getD_get (by simpa [invL] using h2),getD_get (by simpa [invL] using h2)]
 simp only [List.getElem_replicate,invL,List.getElem_map]
 exact xor8_comm _ _
end Go.Eng
namespace Go.Proofs.YtcekmdehjnlkpaaGreat.Vc
open Go Go.Eng Go.RowKit
structure Res (w w':World) (s:SlV) (xs:List Int):Prop where
 ext:Ext w w'
 own:Own w' w.heap.size 5 1 s.a s.n s.c (xs.map (Value.int .u8))
theorem Res.ints {w w':World} {s:SlV} {xs:List Int} (h:Res w w' s xs):Ints w' .u8 s.a s.n s.c xs:=h.own.ints
theorem Res.after {w w' w2:World} {s:SlV} {xs:List Int} (h:Res w w' s xs) (e:Ext w2 w):Res w2 w' s xs:=⟨e.trans h.ext,h.own.mono e.size⟩
theorem map_get {k:IntKind} {xs:List Int} {i:Nat} (h:i<(xs.map (Value.int k)).length):(xs.map (Value.int k))[i]=.int k (xs[i]'(by simpa using h)):=by simp
theorem Fill_c {w:World} {x n:Int}:CallV Tryz.prog 117 #[.int .u8 x,.int .i64 n] w [.one .sl] λr w'=>Res w w' r.1 (List.replicate (max 0 (min 65536 n)).toNat x):=by
 refine octet_Fill.vc _ _ _ _ ?_
 unfold octet_Fill.P
 intro z1 hz1 z2 hz2
 refine ⟨by omega,?_⟩
 rintro b w1 rfl rfl
 have hk:z2=((max 0 (min 65536 n)).toNat:Int):=by omega
 have hk2:(max 0 (min 65536 n)).toNat<=65536:=by omega
 generalize (max 0 (min 65536 n)).toNat=k at hk hk2 ⊢
 subst hk
 clear hz1 hz2
 rw [Int.toNat_natCast]
 have hS:((List.replicate k x).map (Value.int .u8)).length=k:=by simp
 have hnew:=Own.zeros (w:=w) (B:=w.heap.size) (e:=5) (n:=k) (c:=k) (z:=.int .u8 0) (Nat.le_refl _) (Nat.le_refl _) (by omega) rfl
 have hx0:=Ext.alloc w (.cells (List.replicate k [Value.int .u8 0]).flatten.toArray 5)
 refine Loop1 (λ(y:Int×Unit) w'=>∃ i:Nat,y.1=i/\i<=k/\Ext w w'/\Own w' w.heap.size 5 1 (some ⟨w.heap.size,0,none⟩) k k (((List.replicate k x).map (Value.int .u8)).take i++List.replicate (k-i) (.int .u8 0)))
  (λ(y:Int×Unit) _=>((k:Int)-y.1).toNat) ⟨0,rfl,by omega,hx0,by simpa using hnew⟩ ?_
 rintro ⟨(y:Int),⟨⟩⟩ w' ⟨i,hy,hi,he,ho⟩
 dsimp only at hy ⊢
 subst hy
 refine cond_d (λhlt=>?_) (λhge=>?_)
 ·refine ho.store (by omega) (by omega) rfl λw2 ho2 hb2 _ hs2=>?_
  refine ⟨Rng.i64 (by omega) (by omega),⟨i+1,by push_cast;rfl,by omega,?_,?_⟩,by omega⟩
  ·exact Below.trans he hb2
  ·have:=set_step ((List.replicate k x).map (Value.int .u8)) (.int .u8 0) hS (show i<k by omega)
   rw [Int.toNat_natCast] at ho2
   rw [<-this]
   simpa using ho2
 ·have:i=k:=by omega
  subst this
  refine ⟨he,?_⟩
  have h2:((List.replicate i x).map (Value.int .u8)).take i++List.replicate (i-i) (Value.int .u8 0)=(List.replicate i x).map (Value.int .u8):=by
   rw [Nat.sub_self,List.replicate_zero,List.append_nil,List.take_of_length_le (by simp)]
  rw [h2] at ho
  exact ho
theorem app1 {w:World} {a:Option Addr} {n c:Nat} {xs:List Int} {x:Int} {B b:Nat} {K:Option Addr->Nat->Nat->World->Prop} {w1:World} (ho:Own w B 5 1 a n c (xs.map (Value.int .u8))) (hB:B<=w.heap.size) (hn:n<=100000000)
  (hb:b=w.heap.size) (hw:w1=w.alloc (.cells #[.int .u8 x] 5))
  (hk:∀ a' c' w',Own w' B 5 1 a' (n+1) c' ((xs++[x]).map (Value.int .u8))->Below B w w'->K a' (n+1) c' w') :
  AppS w1 (some ⟨b,0,none⟩) 1 1 λns=>AppV w1 5 1 1 a n c ns 1 K:=by
 subst hb;subst hw
 have hx:Ext w (w.alloc (.cells #[.int .u8 x] 5)):=Ext.alloc _ _
 refine AppS.of (news:=[.int .u8 x]) rfl (.inr ⟨_,rfl,CellsAt.new (cs:=[.int .u8 x])⟩) ?_
 refine AppV.own (ho.ext hx) (Nat.le_trans hB hx.size) rfl (λu hu=>by rw [List.mem_singleton.1 hu];rfl) (by omega) (by omega) λa' c' w' h1 h2 _ _=>?_
 refine hk a' c' w' ?_ ((Below.mono hx hB).trans h2)
 rw [List.map_append]
 exact h1
theorem rFill_c {w:World} {x n:Int}:CallV Tryz.prog 86 #[.int .u8 x,.int .i64 n] w [.one .sl] λr w'=>Res w w' r.1 (List.replicate (max 0 (min 65536 n)).toNat x):=by
 refine ref01_Fill.vc _ _ _ _ ?_
 unfold ref01_Fill.P
 generalize hL:(65536:Int)=L
 rintro b w1 rfl rfl
 have hnew:=Own.new (w:=w) (B:=w.heap.size) (e:=5) (sz:=1) (n:=0) (c:=0) (cs:=[]) (Nat.le_refl _) rfl (Nat.le_refl _) (by omega) oneAll.nil
 refine Loop1 (λ(y:SlV×Int×Unit) w'=>∃ i:Nat,y.2.1=i/\(i:Int)<=max 0 (min L n)/\y.1.n=i/\Ext w w'/\Own w' w.heap.size 5 1 y.1.a y.1.n y.1.c ((List.replicate i x).map (Value.int .u8)))
  (λ(y:SlV×Int×Unit) _=>(L-y.2.1).toNat) ⟨0,rfl,by omega,rfl,Ext.alloc _ _,hnew⟩ ?_
 rintro ⟨(s:SlV),(y:Int),⟨⟩⟩ w' ⟨i,hy,hi,hn,he,ho⟩
 dsimp only at hy hn ho ⊢
 subst hy
 have fin:¬ ((i:Int)<n/\(i:Int)<L)->Res w w' s (List.replicate (max 0 (min L n)).toNat x):=by
  intro h
  have:(max 0 (min L n)).toNat=i:=by omega
  rw [this]
  exact ⟨he,ho⟩
 refine cond_d (λhlt=>?_) (λhge=>fin (λh=>hge h.1))
 refine cond_d (λhlt2=>?_) (λhge=>fin (λh=>hge h.2))
 rintro b2 w2 hb2 hw2
 refine app1 ho he.size (by omega) hb2 hw2 λa' c' w3 ho3 hb3=>?_
 refine ⟨Rng.i64 (by omega) (by omega),⟨i+1,by push_cast;rfl,by omega,by show s.n+1=i+1;omega,?_,?_⟩,by omega⟩
 ·exact Below.trans he hb3
 ·rw [<-List.replicate_succ'] at ho3
  exact ho3
theorem ldC {w:World} {b:Nat} {vs:List Value} (hc:CellsAt w ⟨b,0,none⟩ vs) {i:Nat} {h:SS} {x:h.T} (hv:vs[i]? = some (h.v x)) {K:h.T->Prop} (hk:K x):LoadS w ⟨b,i,none⟩ h K:=by
 refine ⟨x,?_,hk⟩
 have:=hc i _ hv
 rwa [show (⟨b,0,none⟩:Addr).add i=⟨b,i,none⟩ by simp [Addr.add_lit]] at this
theorem ldp {w:World} {p:Addr} {vs:List Value} (hc:CellsAt w p vs) (i:Nat) {h:SS} {x:h.T} (hv:vs[i]? = some (h.v x)) {K:h.T->Prop} (hk:K x):LoadS w (p.add i) h K:=
 ⟨x,hc i _ hv,hk⟩
theorem ldp0 {w:World} {p:Addr} {vs:List Value} (hc:CellsAt w p vs) {h:SS} {x:h.T} (hv:vs[0]? = some (h.v x)) {K:h.T->Prop} (hk:K x):LoadS w p h K:=by
 refine ⟨x,?_,hk⟩
 have:=hc 0 _ hv
 rwa [show p.add 0=p by unfold Addr.add;simp] at this
theorem ldaC {w:World} {p:Addr} {vs:List Value} (hc:CellsAt w p vs) {l:List SS} (x:Tup l) (hv:tupV l x=vs) {K:Tup l->Prop} (hk:K x):LoadA w p l K:=
 ⟨x,by rw [hv];exact hc,hk⟩
structure Box (w:World) (B b:Nat) (e:TypeId) (vs:List Value):Prop where
 base:B<=b
 heap:w.heap[b]? = some (.cells vs.toArray e)
theorem Box.new {w:World} {B:Nat} (hB:B<=w.heap.size) (e:TypeId) (vs:List Value):Box (w.alloc (.cells vs.toArray e)) B w.heap.size e vs:=⟨hB,heap_new w _⟩
theorem Box.ext {w w':World} {B b:Nat} {e:TypeId} {vs:List Value} (h:Box w B b e vs) (x:Ext w w'):Box w' B b e vs:=⟨h.base,x.heap h.heap⟩
theorem Box.cells {w:World} {B b:Nat} {e:TypeId} {vs:List Value} (h:Box w B b e vs):CellsAt w ⟨b,0,none⟩ vs:=
 CellsAt.of_heap (cs:=vs.toArray) (e:=e) (fr:=(0,0)) h.heap (λj v hv=>by simpa using hv)
theorem Box.ld {w:World} {B b:Nat} {e:TypeId} {vs:List Value} (hb:Box w B b e vs) {i:Nat} {h:SS} {x:h.T} (hv:vs[i]? = some (h.v x)) {K:h.T->Prop} (hk:K x):LoadS w ⟨b,i,none⟩ h K:=ldC hb.cells hv hk
theorem Box.lda {w:World} {B b:Nat} {e:TypeId} {vs:List Value} (hb:Box w B b e vs) {l:List SS} (x:Tup l) (hv:tupV l x=vs) {K:Tup l->Prop} (hk:K x):LoadA w ⟨b,0,none⟩ l K:=ldaC hb.cells x hv hk
theorem Box.lt {w:World} {B b:Nat} {e:TypeId} {vs:List Value} (h:Box w B b e vs):b<w.heap.size:=by
 have:=h.heap
 rw [Array.getElem?_eq_some_iff] at this
 exact this.1
theorem Box.store {w:World} {B b:Nat} {e:TypeId} {vs:List Value} (h:Box w B b e vs) (o:Nat) {news:List Value} (hl:o+news.length<=vs.length) {K:World->Prop}
  (hk:∀ w',Box w' B b e (vs.take o++(news++vs.drop (o+news.length)))->Below B w w'->(∀ k,k≠b->w'.heap[k]? = w.heap[k]?)->w'.heap.size=w.heap.size->K w'):StoreV w ⟨b,o,none⟩ news K:=by
 refine ⟨rfl,Free.of_heap h.heap (by simpa using hl),?_⟩
 rintro w' rfl
 refine hk _ ⟨h.base,?_⟩ (Bel.setCells (Below.refl _ _) h.base _ _) (λk hk=>setCells_other _ _ _ _ _ hk) (setCells_rest _ _ _ _).2.2.2
 rw [setCells_heap _ _ _ _ _ _ _ h.heap]
 have:=splice_toList news vs.toArray o (by simpa using hl)
 rw [List.toList_toArray] at this
 rw [<-this,Array.toArray_toList]
theorem newBox {w:World} {vs:List Value} {e:TypeId} {K:Nat->World->Prop} (h:∀ b w1,Ext w w1->Box w1 w.heap.size b e vs->K b w1):NewV vs.toArray e w K:=by
 rintro b w1 rfl rfl
 exact h _ _ (Ext.alloc _ _) (Box.new (Nat.le_refl _) _ _)
theorem mul_bd {a b A B:Int} (h0:0<=a) (h1:a<=A) (h2:0<=b) (h3:b<=B):0<=a*b/\a*b<=A*B:=
 ⟨Int.mul_nonneg h0 h2,Int.le_trans (Int.mul_le_mul_of_nonneg_right h1 h2) (Int.mul_le_mul_of_nonneg_left h3 (Int.le_trans h0 h1))⟩
end Go.Proofs.YtcekmdehjnlkpaaGreat.Vc
namespace Go.Proofs.YtcekmdehjnlkpaaGreat.Vc
open Go Go.Eng
def ref11_in.A:Ann:=.no
def ref11_in.P (p0 p1 p2:Int) (w:World) (K:Bool×Unit->World->Prop):Prop:=
 cond (decide (p0≥p1))
 (K (decide (p0<=p2),()) w)
 (K (false,()) w)
theorem ref11_in.vc (p0 p1 p2:Int) (w:World) (K:Bool×Unit->World->Prop) (h:ref11_in.P p0 p1 p2 w K):CallV Tryz.prog 48 #[.int .i64 p0,.int .i64 p1,.int .i64 p2] w [.one .bool] K:=by
 refine vcFun.of (A:=ref11_in.A) (wr:=false) okf_ok follows h Tryz.func48 ?_
 kernel_rfl
def ref11_Right.A:Ann:=.two .no (.two .no (.two (.draw (.take 0 (.take 1 (.take 2 (.take 3 (.take 4 (.take 5 (.take 7 (.take 8 (.eff 6 (.take 9 (.take 10 (.take 11 (.take 12 (.take 13 (.take 14 (.take 15 (.take 16 (.take 17 (.take 18 (.take 19 (.take 20 (.done))))))))))))))))))))))) .no))
def ref11_Right.P (p0_0 p0_1 p0_2 p0_3 p0_4 p0_5:Int) (w:World) (K:Bool×Unit->World->Prop):Prop:=
 NewV #[.int .i64 p0_0,.int .i64 p0_1,.int .i64 p0_2,.int .i64 p0_3,.int .i64 p0_4,.int .i64 p0_5] 23 w λb1 w2=>
 LoadS w2 ⟨b1,0,none⟩ (.int .i64) λ(x3:Int)=>
 CallV Tryz.prog 48 #[.int .i64 x3,.int .i64 7,.int .i64 64] w2 [.one .bool] λ(r4:Bool×Unit) w5=>
 cond (!r4.1)
 (K (false,()) w5)
 (LoadS w5 ⟨b1,1,none⟩ (.int .i64) λ(x6:Int)=>
 CallV Tryz.prog 48 #[.int .i64 x6,.int .i64 4,.int .i64 32] w5 [.one .bool] λ(r7:Bool×Unit) w8=>
 cond (!r7.1)
 (K (false,()) w8)
 (LoadS w8 ⟨b1,2,none⟩ (.int .i64) λ(x9:Int)=>
 CallV Tryz.prog 48 #[.int .i64 x9,.int .i64 32,.int .i64 4096] w8 [.one .bool] λ(r10:Bool×Unit) w11=>
 cond (!r10.1)
 (K (false,()) w11)
 (LoadS w11 ⟨b1,3,none⟩ (.int .i64) λ(x12:Int)=>
 CallV Tryz.prog 48 #[.int .i64 x12,.int .i64 0,.int .i64 8] w11 [.one .bool] λ(r13:Bool×Unit) w14=>
 cond (!r13.1)
 (K (false,()) w14)
 (LoadS w14 ⟨b1,4,none⟩ (.int .i64) λ(x15:Int)=>
 CallV Tryz.prog 48 #[.int .i64 x15,.int .i64 1,.int .i64 1000] w14 [.one .bool] λ(r16:Bool×Unit) w17=>
 cond (!r16.1)
 (K (false,()) w17)
 (LoadS w17 ⟨b1,5,none⟩ (.int .i64) λ(x18:Int)=>
 CallV Tryz.prog 48 #[.int .i64 x18,.int .i64 1,.int .i64 1000] w17 [.one .bool] λ(r19:Bool×Unit) w20=>
 cond (!r19.1)
 (K (false,()) w20)
 (DrawV λD21=>
 (D21 b1/\LoadS w20.drew ⟨b1,2,none⟩ (.int .i64) λ(x22:Int)=>
 16≠(0:Int) /\
 cond ((Int.tmod x22 16) == 0)
 ((D21 b1/\LoadA w20.drew ⟨b1,0,none⟩ [.int .i64,.int .i64,.int .i64,.int .i64,.int .i64,.int .i64] λ(x23:Int×Int×Int×Int×Int×Int×Unit)=>
 (D21 b1/\LoadS w20.drew ⟨b1,1,none⟩ (.int .i64) λ(x24:Int)=>
 CallV Tryz.prog 49 #[.agg #[.int .i64 x23.1,.int .i64 x23.2.1,.int .i64 x23.2.2.1,.int .i64 x23.2.2.2.1,.int .i64 x23.2.2.2.2.1,.int .i64 x23.2.2.2.2.2.1]] w20.drew [.one (.int .i64)] λ(r25:Int×Unit) w26=>
 KeepOn D21 w20.drew w26 /\
 cond (decide (r25.1<=x24))
 ((D21 b1/\LoadS w20.drew ⟨b1,0,none⟩ (.int .i64) λ(x27:Int)=>
 Rng .i64 (x27-4) /\
 (D21 b1/\LoadS w20.drew ⟨b1,3,none⟩ (.int .i64) λ(x28:Int)=>
 Rng .i64 (x28+3) /\
 K (decide ((x27-4)≥(x28+3)),()) w26)))
 (K (false,()) w26))))
 (K (false,()) w20.drew))))))))
theorem ref11_Right.vc (p0_0 p0_1 p0_2 p0_3 p0_4 p0_5:Int) (w:World) (K:Bool×Unit->World->Prop) (h:ref11_Right.P p0_0 p0_1 p0_2 p0_3 p0_4 p0_5 w K):CallV Tryz.prog 17 #[.agg #[.int .i64 p0_0,.int .i64 p0_1,.int .i64 p0_2,.int .i64 p0_3,.int .i64 p0_4,.int .i64 p0_5]] w [.one .bool] K:=by
 refine vcFun.of (A:=ref11_Right.A) (wr:=false) okf_ok follows h Tryz.func17 ?_
 kernel_rfl
def ref11_Chunks.A:Ann:=.two .no (.two .no (.two (.one (.loop [3,4,5,6,7,8,9,10] [(3,.one (.int .i64))] .no)) .no))
def ref11_Chunks.P (p0_0 p0_1 p0_2 p0_3 p0_4 p0_5:Int) (w:World) (K:Int×Unit->World->Prop):Prop:=
 NewV #[.int .i64 p0_0,.int .i64 p0_1,.int .i64 p0_2,.int .i64 p0_3,.int .i64 p0_4,.int .i64 p0_5] 23 w λb1 w2=>
 LoopV [.one (.int .i64)] ((0:Int),()) w2 λ(z3:Int×Unit) w4 (K5:Int×Unit->World->Prop)=>
 LoadS w4 ⟨b1,2,none⟩ (.int .i64) λ(x6:Int)=>
 Rng .i64 (z3.1*x6) /\
 cond (decide ((z3.1*x6)<624))
 (Rng .i64 (z3.1+1) /\
 K5 (z3.1+1,()) w4)
 (K (z3.1,()) w4)
theorem ref11_Chunks.vc (p0_0 p0_1 p0_2 p0_3 p0_4 p0_5:Int) (w:World) (K:Int×Unit->World->Prop) (h:ref11_Chunks.P p0_0 p0_1 p0_2 p0_3 p0_4 p0_5 w K):CallV Tryz.prog 49 #[.agg #[.int .i64 p0_0,.int .i64 p0_1,.int .i64 p0_2,.int .i64 p0_3,.int .i64 p0_4,.int .i64 p0_5]] w [.one (.int .i64)] K:=by
 refine vcFun.of (A:=ref11_Chunks.A) (wr:=false) okf_ok follows h Tryz.func49 ?_
 kernel_rfl
def geometry_kept.A:Ann:=.two .no (.two (.two .no (.one (.loop [2,4,24,25,26,27,28,29,30,31,32,33,34,35,36,37,38,39] [(24,.one (.int .i64))] .no))) .no)
def geometry_kept.P (p0_0 p0_1 p0_2 p0_3 p0_4 p0_5:Int) (w:World) (K:Bool×Unit->World->Prop):Prop:=
 NewV #[.int .i64 p0_0,.int .i64 p0_1,.int .i64 p0_2,.int .i64 p0_3,.int .i64 p0_4,.int .i64 p0_5] 23 w λb1 w2=>
 LoadS w2 ⟨b1,0,none⟩ (.int .i64) λ(x3:Int)=>
 LoadS w2 ⟨b1,1,none⟩ (.int .i64) λ(x4:Int)=>
 LoadS w2 ⟨b1,2,none⟩ (.int .i64) λ(x5:Int)=>
 LoadS w2 ⟨b1,3,none⟩ (.int .i64) λ(x6:Int)=>
 LoadS w2 ⟨b1,4,none⟩ (.int .i64) λ(x7:Int)=>
 LoadS w2 ⟨b1,5,none⟩ (.int .i64) λ(x8:Int)=>
 LoopV [.one (.int .i64)] ((0:Int),()) w2 λ(z9:Int×Unit) w10 (K11:Int×Unit->World->Prop)=>
 cond (decide (z9.1<6))
 ((0<=z9.1/\z9.1<(6:Int))/\∃ y12:Int×Int×Int×Unit,(List.take 3 (List.drop (z9.1.toNat*3) ([.int .i64 x3,.int .i64 7,.int .i64 64,.int .i64 x4,.int .i64 4,.int .i64 32,.int .i64 x5,.int .i64 32,.int .i64 4096,.int .i64 x6,.int .i64 0,.int .i64 8,.int .i64 x7,.int .i64 1,.int .i64 1000,.int .i64 x8,.int .i64 1,.int .i64 1000]:List Value)))=[.int .i64 y12.1,.int .i64 y12.2.1,.int .i64 y12.2.2.1] /\
 NewV #[.int .i64 0,.int .i64 0,.int .i64 0] 180 w10 λb13 w14=>
 StoreV w14 ⟨b13,0,none⟩ [.int .i64 y12.1,.int .i64 y12.2.1,.int .i64 y12.2.2.1] λw15=>
 LoadS w15 ⟨b13,0,none⟩ (.int .i64) λ(x16:Int)=>
 LoadS w15 ⟨b13,1,none⟩ (.int .i64) λ(x17:Int)=>
 cond (decide (x16<x17))
 (K (false,()) w15)
 (LoadS w15 ⟨b13,0,none⟩ (.int .i64) λ(x18:Int)=>
 LoadS w15 ⟨b13,2,none⟩ (.int .i64) λ(x19:Int)=>
 cond (decide (x18>x19))
 (K (false,()) w15)
 (Rng .i64 (z9.1+1) /\
 K11 (z9.1+1,()) w15)))
 (LoadS w10 ⟨b1,2,none⟩ (.int .i64) λ(x20:Int)=>
 16≠(0:Int) /\
 K (((Int.tmod x20 16) == 0),()) w10)
theorem geometry_kept.vc (p0_0 p0_1 p0_2 p0_3 p0_4 p0_5:Int) (w:World) (K:Bool×Unit->World->Prop) (h:geometry_kept.P p0_0 p0_1 p0_2 p0_3 p0_4 p0_5 w K):CallV Tryz.prog 50 #[.agg #[.int .i64 p0_0,.int .i64 p0_1,.int .i64 p0_2,.int .i64 p0_3,.int .i64 p0_4,.int .i64 p0_5]] w [.one .bool] K:=by
 refine vcFun.of (A:=geometry_kept.A) (wr:=false) okf_ok follows h Tryz.func50 ?_
 kernel_rfl
def geometry_chunks.A:Ann:=.no
def geometry_chunks.P (p0:Int) (w:World) (K:Int×Unit->World->Prop):Prop:=
 Rng .i64 ((624:Int)+p0) /\
 Rng .i64 (((624:Int)+p0)-1) /\
 p0≠(0:Int)/\Rng .i64 (Int.tdiv (((624:Int)+p0)-1) p0) /\
 K (Int.tdiv (((624:Int)+p0)-1) p0,()) w
theorem geometry_chunks.vc (p0:Int) (w:World) (K:Int×Unit->World->Prop) (h:geometry_chunks.P p0 w K):CallV Tryz.prog 51 #[.int .i64 p0] w [.one (.int .i64)] K:=by
 refine vcFun.of (A:=geometry_chunks.A) (wr:=false) okf_ok follows h Tryz.func51 ?_
 kernel_rfl
def geometry_Check.A:Ann:=.two .no (.two (.two (.draw (.take 0 (.eff 1 (.take 2 (.take 3 (.take 4 (.take 5 (.take 7 (.take 8 (.eff 6 (.take 9 (.take 10 (.take 11 (.take 12 (.take 13 (.take 14 (.take 15 (.take 16 (.take 17 (.take 18 (.take 19 (.done)))))))))))))))))))))) .no) .no)
def geometry_Check.P (p0_0 p0_1 p0_2 p0_3 p0_4 p0_5:Int) (w:World) (K:Int×Unit->World->Prop):Prop:=
 NewV #[.int .i64 p0_0,.int .i64 p0_1,.int .i64 p0_2,.int .i64 p0_3,.int .i64 p0_4,.int .i64 p0_5] 23 w λb1 w2=>
 DrawV λD3=>
 (D3 b1/\LoadA w2.drew ⟨b1,0,none⟩ [.int .i64,.int .i64,.int .i64,.int .i64,.int .i64,.int .i64] λ(x4:Int×Int×Int×Int×Int×Int×Unit)=>
 CallV Tryz.prog 50 #[.agg #[.int .i64 x4.1,.int .i64 x4.2.1,.int .i64 x4.2.2.1,.int .i64 x4.2.2.2.1,.int .i64 x4.2.2.2.2.1,.int .i64 x4.2.2.2.2.2.1]] w2.drew [.one .bool] λ(r5:Bool×Unit) w6=>
 KeepOn D3 w2.drew w6 /\
 cond (!r5.1)
 (K ((2:Int),()) w6)
 ((D3 b1/\LoadS w2.drew ⟨b1,2,none⟩ (.int .i64) λ(x7:Int)=>
 (D3 b1/\LoadS w2.drew ⟨b1,1,none⟩ (.int .i64) λ(x8:Int)=>
 CallV Tryz.prog 51 #[.int .i64 x7] w6 [.one (.int .i64)] λ(r9:Int×Unit) w10=>
 KeepOn D3 w2.drew w10 /\
 cond (decide (r9.1>x8))
 (K ((2:Int),()) w10)
 ((D3 b1/\LoadS w2.drew ⟨b1,0,none⟩ (.int .i64) λ(x11:Int)=>
 Rng .i64 (x11-4) /\
 (D3 b1/\LoadS w2.drew ⟨b1,3,none⟩ (.int .i64) λ(x12:Int)=>
 Rng .i64 (x12+3) /\
 cond (decide ((x11-4)<(x12+3)))
 (K ((2:Int),()) w10)
 (K ((0:Int),()) w10))))))))
theorem geometry_Check.vc (p0_0 p0_1 p0_2 p0_3 p0_4 p0_5:Int) (w:World) (K:Int×Unit->World->Prop) (h:geometry_Check.P p0_0 p0_1 p0_2 p0_3 p0_4 p0_5 w K):CallV Tryz.prog 18 #[.agg #[.int .i64 p0_0,.int .i64 p0_1,.int .i64 p0_2,.int .i64 p0_3,.int .i64 p0_4,.int .i64 p0_5]] w [.one (.int .i64)] K:=by
 refine vcFun.of (A:=geometry_Check.A) (wr:=false) okf_ok follows h Tryz.func18 ?_
 kernel_rfl
def geometry_told.A:Ann:=.no
def geometry_told.P (p0_0 p0_1 p0_2 p0_3 p0_4 p0_5:Int) (g1:FuncId) (cap1:Array Value) (w:World) (K:Int×Unit->World->Prop):Prop:=
 NewV #[.int .i64 p0_0,.int .i64 p0_1,.int .i64 p0_2,.int .i64 p0_3,.int .i64 p0_4,.int .i64 p0_5] 23 w λb1 w2=>
 LoadA w2 ⟨b1,0,none⟩ [.int .i64,.int .i64,.int .i64,.int .i64,.int .i64,.int .i64] λ(x3:Int×Int×Int×Int×Int×Int×Unit)=>
 CallV Tryz.prog 18 #[.agg #[.int .i64 x3.1,.int .i64 x3.2.1,.int .i64 x3.2.2.1,.int .i64 x3.2.2.2.1,.int .i64 x3.2.2.2.2.1,.int .i64 x3.2.2.2.2.2.1]] w2 [.one (.int .i64)] λ(r4:Int×Unit) w5=>
 cond (r4.1 != 0)
 (K ((0:Int),()) w5)
 (cond (okf g1)
 (CallV Tryz.prog g1 ([]++([]++(cap1).toList)).toArray w5 [.one (.int .i64)] λ(r6:Int×Unit) w7=>
 K (r6.1,()) w7)
 False)
theorem geometry_told.vc (p0_0 p0_1 p0_2 p0_3 p0_4 p0_5:Int) (g1:FuncId) (cap1:Array Value) (w:World) (K:Int×Unit->World->Prop) (h:geometry_told.P p0_0 p0_1 p0_2 p0_3 p0_4 p0_5 g1 cap1 w K):CallV Tryz.prog 68 #[.agg #[.int .i64 p0_0,.int .i64 p0_1,.int .i64 p0_2,.int .i64 p0_3,.int .i64 p0_4,.int .i64 p0_5],.func (.func g1) #[] cap1] w [.one (.int .i64)] K:=by
 refine vcFun.of (A:=geometry_told.A) (wr:=false) okf_ok follows h Tryz.func68 ?_
 kernel_rfl
def geometry_Data.A:Ann:=.no
def geometry_Data.P (p0_0 p0_1 p0_2 p0_3 p0_4 p0_5:Int) (w:World) (K:Int×Unit->World->Prop):Prop:=
 NewV #[.int .i64 p0_0,.int .i64 p0_1,.int .i64 p0_2,.int .i64 p0_3,.int .i64 p0_4,.int .i64 p0_5] 23 w λb1 w2=>
 LoadA w2 ⟨b1,0,none⟩ [.int .i64,.int .i64,.int .i64,.int .i64,.int .i64,.int .i64] λ(x3:Int×Int×Int×Int×Int×Int×Unit)=>
 CallV Tryz.prog 68 #[.agg #[.int .i64 x3.1,.int .i64 x3.2.1,.int .i64 x3.2.2.1,.int .i64 x3.2.2.2.1,.int .i64 x3.2.2.2.2.1,.int .i64 x3.2.2.2.2.2.1],.func (.func 69) #[] #[.pointer (some ⟨b1,0,none⟩)]] w2 [.one (.int .i64)] λ(r4:Int×Unit) w5=>
 K (r4.1,()) w5
theorem geometry_Data.vc (p0_0 p0_1 p0_2 p0_3 p0_4 p0_5:Int) (w:World) (K:Int×Unit->World->Prop) (h:geometry_Data.P p0_0 p0_1 p0_2 p0_3 p0_4 p0_5 w K):CallV Tryz.prog 31 #[.agg #[.int .i64 p0_0,.int .i64 p0_1,.int .i64 p0_2,.int .i64 p0_3,.int .i64 p0_4,.int .i64 p0_5]] w [.one (.int .i64)] K:=by
 refine vcFun.of (A:=geometry_Data.A) (wr:=false) okf_ok follows h Tryz.func31 ?_
 kernel_rfl
def geometry_Data_1.A:Ann:=.no
def geometry_Data_1.P (cq0:Addr) (w:World) (K:Int×Unit->World->Prop):Prop:=
 LoadS w cq0 (.int .i64) λ(x1:Int)=>
 Rng .i64 (x1-4) /\
 K (x1-4,()) w
theorem geometry_Data_1.vc (cq0:Addr) (w:World) (K:Int×Unit->World->Prop) (h:geometry_Data_1.P cq0 w K):CallV Tryz.prog 69 #[.pointer (some cq0)] w [.one (.int .i64)] K:=by
 refine vcFun.of (A:=geometry_Data_1.A) (wr:=false) okf_ok follows h Tryz.func69 ?_
 kernel_rfl
def geometry_PageSize.A:Ann:=.no
def geometry_PageSize.P (p0_0 p0_1 p0_2 p0_3 p0_4 p0_5:Int) (w:World) (K:Int×Unit->World->Prop):Prop:=
 NewV #[.int .i64 p0_0,.int .i64 p0_1,.int .i64 p0_2,.int .i64 p0_3,.int .i64 p0_4,.int .i64 p0_5] 23 w λb1 w2=>
 LoadA w2 ⟨b1,0,none⟩ [.int .i64,.int .i64,.int .i64,.int .i64,.int .i64,.int .i64] λ(x3:Int×Int×Int×Int×Int×Int×Unit)=>
 CallV Tryz.prog 68 #[.agg #[.int .i64 x3.1,.int .i64 x3.2.1,.int .i64 x3.2.2.1,.int .i64 x3.2.2.2.1,.int .i64 x3.2.2.2.2.1,.int .i64 x3.2.2.2.2.2.1],.func (.func 85) #[] #[.pointer (some ⟨b1,0,none⟩)]] w2 [.one (.int .i64)] λ(r4:Int×Unit) w5=>
 K (r4.1,()) w5
theorem geometry_PageSize.vc (p0_0 p0_1 p0_2 p0_3 p0_4 p0_5:Int) (w:World) (K:Int×Unit->World->Prop) (h:geometry_PageSize.P p0_0 p0_1 p0_2 p0_3 p0_4 p0_5 w K):CallV Tryz.prog 54 #[.agg #[.int .i64 p0_0,.int .i64 p0_1,.int .i64 p0_2,.int .i64 p0_3,.int .i64 p0_4,.int .i64 p0_5]] w [.one (.int .i64)] K:=by
 refine vcFun.of (A:=geometry_PageSize.A) (wr:=false) okf_ok follows h Tryz.func54 ?_
 kernel_rfl
def geometry_PageSize_1.A:Ann:=.no
def geometry_PageSize_1.P (cq0:Addr) (w:World) (K:Int×Unit->World->Prop):Prop:=
 LoadS w (cq0.add 2) (.int .i64) λ(x1:Int)=>
 Rng .i64 (x1+88) /\
 K (x1+88,()) w
theorem geometry_PageSize_1.vc (cq0:Addr) (w:World) (K:Int×Unit->World->Prop) (h:geometry_PageSize_1.P cq0 w K):CallV Tryz.prog 85 #[.pointer (some cq0)] w [.one (.int .i64)] K:=by
 refine vcFun.of (A:=geometry_PageSize_1.A) (wr:=false) okf_ok follows h Tryz.func85 ?_
 kernel_rfl
def geometry_Index.A:Ann:=.no
def geometry_Index.P (p0_0 p0_1 p0_2 p0_3 p0_4 p0_5 p1_0 p1_1:Int) (w:World) (K:Int×Int×Unit->World->Prop):Prop:=
 NewV #[.int .i64 p0_0,.int .i64 p0_1,.int .i64 p0_2,.int .i64 p0_3,.int .i64 p0_4,.int .i64 p0_5] 23 w λb1 w2=>
 NewV #[.int .i64 p1_0,.int .i64 p1_1] 57 w2 λb3 w4=>
 LoadA w4 ⟨b1,0,none⟩ [.int .i64,.int .i64,.int .i64,.int .i64,.int .i64,.int .i64] λ(x5:Int×Int×Int×Int×Int×Int×Unit)=>
 CallV Tryz.prog 18 #[.agg #[.int .i64 x5.1,.int .i64 x5.2.1,.int .i64 x5.2.2.1,.int .i64 x5.2.2.2.1,.int .i64 x5.2.2.2.2.1,.int .i64 x5.2.2.2.2.2.1]] w4 [.one (.int .i64)] λ(r6:Int×Unit) w7=>
 cond (r6.1 != 0)
 (K ((0:Int),(2:Int),()) w7)
 (LoadS w7 ⟨b3,0,none⟩ (.int .i64) λ(x8:Int)=>
 cond (decide (x8<0))
 (K ((0:Int),(2:Int),()) w7)
 (LoadS w7 ⟨b3,0,none⟩ (.int .i64) λ(x9:Int)=>
 LoadS w7 ⟨b1,0,none⟩ (.int .i64) λ(x10:Int)=>
 cond (decide (x9≥x10))
 (K ((0:Int),(2:Int),()) w7)
 (LoadS w7 ⟨b3,1,none⟩ (.int .i64) λ(x11:Int)=>
 cond (decide (x11<0))
 (K ((0:Int),(2:Int),()) w7)
 (LoadS w7 ⟨b3,1,none⟩ (.int .i64) λ(x12:Int)=>
 LoadS w7 ⟨b1,1,none⟩ (.int .i64) λ(x13:Int)=>
 cond (decide (x12≥x13))
 (K ((0:Int),(2:Int),()) w7)
 (LoadS w7 ⟨b3,0,none⟩ (.int .i64) λ(x14:Int)=>
 LoadS w7 ⟨b1,1,none⟩ (.int .i64) λ(x15:Int)=>
 Rng .i64 (x14*x15) /\
 LoadS w7 ⟨b3,1,none⟩ (.int .i64) λ(x16:Int)=>
 Rng .i64 ((x14*x15)+x16) /\
 K ((x14*x15)+x16,(0:Int),()) w7)))))
theorem geometry_Index.vc (p0_0 p0_1 p0_2 p0_3 p0_4 p0_5 p1_0 p1_1:Int) (w:World) (K:Int×Int×Unit->World->Prop) (h:geometry_Index.P p0_0 p0_1 p0_2 p0_3 p0_4 p0_5 p1_0 p1_1 w K):CallV Tryz.prog 93 #[.agg #[.int .i64 p0_0,.int .i64 p0_1,.int .i64 p0_2,.int .i64 p0_3,.int .i64 p0_4,.int .i64 p0_5],.agg #[.int .i64 p1_0,.int .i64 p1_1]] w [.one (.int .i64),.one (.int .i64)] K:=by
 refine vcFun.of (A:=geometry_Index.A) (wr:=false) okf_ok follows h Tryz.func93 ?_
 kernel_rfl
end Go.Proofs.YtcekmdehjnlkpaaGreat.Vc
namespace Go.Proofs.YtcekmdehjnlkpaaGreat.Vc
open Go Go.Eng Go.RowKit
structure Geo where
 b:Int
 p:Int
 s:Int
 sp:Int
 wr:Int
 ro:Int
abbrev Geo.vs (g:Geo):List Value:=[.int .i64 g.b,.int .i64 g.p,.int .i64 g.s,.int .i64 g.sp,.int .i64 g.wr,.int .i64 g.ro]
abbrev Geo.val (g:Geo):Value:=.agg #[.int .i64 g.b,.int .i64 g.p,.int .i64 g.s,.int .i64 g.sp,.int .i64 g.wr,.int .i64 g.ro]
abbrev Geo.tup (g:Geo):Int×Int×Int×Int×Int×Int×Unit:=(g.b,g.p,g.s,g.sp,g.wr,g.ro,())
def Kept (g:Geo):Prop:=(7<=g.b/\g.b<=64)/\(4<=g.p/\g.p<=32)/\(32<=g.s/\g.s<=4096)/\(0<=g.sp/\g.sp<=8)/\(1<=g.wr/\g.wr<=1000)/\(1<=g.ro/\g.ro<=1000)/\g.s % 16=0
def cei (m u:Int):Int:=(m+u-1) / u
def Right (g:Geo):Prop:=Kept g/\cei 624 g.s<=g.p/\g.sp+3<=g.b-4
instance (g:Geo):Decidable (Kept g):=by unfold Kept;infer_instance
instance (g:Geo):Decidable (Right g):=by unfold Right;infer_instance
theorem cei_uniq {z u m:Int} (hu:0<u) (hm:0<m) (h1:m<=z*u) (h2:z=0\/(z-1)*u<m):z=cei m u:=by
 have h3:(z-1)*u<m:=by
  rcases h2 with rfl | h
  ·simp at h1;omega
  ·exact h
 have e:(z-1)*u=z*u-u:=by rw [Int.sub_mul,Int.one_mul]
 have e2:(z+1)*u=z*u+u:=by rw [Int.add_mul,Int.one_mul]
 unfold cei
 have a:=Int.le_ediv_of_mul_le hu (show z*u<=m+u-1 by omega)
 have b:=Int.ediv_lt_of_lt_mul hu (show m+u-1<(z+1)*u by omega)
 omega
theorem cei_bd {u m:Int} (hu:0<u) (hm:0<m):1<=cei m u/\cei m u<=m:=by
 unfold cei
 have a:=Int.le_ediv_of_mul_le hu (show 1*u<=m+u-1 by omega)
 have hp:m+u-1<(m+1)*u:=by
  have:m*1<=m*u:=Int.mul_le_mul_of_nonneg_left (by omega) (by omega)
  rw [Int.add_mul,Int.one_mul];omega
 have b:=Int.ediv_lt_of_lt_mul hu hp
 omega
theorem in11_c {w:World} {n a b:Int}:CallV Tryz.prog 48 #[.int .i64 n,.int .i64 a,.int .i64 b] w [.one .bool] λr w'=>r.1=decide (a<=n/\n<=b)/\w'=w:=by
 refine ref11_in.vc _ _ _ _ _ ?_
 unfold ref11_in.P
 refine cond_d (λh=>⟨?_,rfl⟩) (λh=>⟨?_,rfl⟩)
 ·show decide (n<=b)=_
  apply decide_eq_decide.2
  omega
 ·show false=_
  exact (decide_eq_false (by omega)).symm
theorem rChunks_c {w:World} {g:Geo} (h:32<=g.s/\g.s<=4096):CallV Tryz.prog 49 #[g.val] w [.one (.int .i64)] λr w'=>r.1=cei 624 g.s/\Ext w w':=by
 refine ref11_Chunks.vc _ _ _ _ _ _ _ _ ?_
 unfold ref11_Chunks.P
 rintro b1 w1 rfl rfl
 have hb:Box (w.alloc (.cells g.vs.toArray 23)) w.heap.size w.heap.size 23 g.vs:=Box.new (Nat.le_refl _) _ _
 refine Loop1 (λ(y:Int×Unit) w'=>0<=y.1/\(y.1=0\/(y.1-1)*g.s<624)/\Ext w w'/\Box w' w.heap.size w.heap.size 23 g.vs) (λ(y:Int×Unit) _=>(21-y.1).toNat) ⟨Int.le_refl _,.inl rfl,Ext.alloc _ _,hb⟩ ?_
 rintro ⟨(z:Int),⟨⟩⟩ w' ⟨h0,h1,he,hb'⟩
 dsimp only at h0 h1 ⊢
 refine hb'.ld (i:=2) (h:=.int .i64) (x:=g.s) rfl ?_
 have hz:z<=20:=by
  rcases h1 with rfl | h1
  ·omega
  ·apply Decidable.byContradiction
   intro hh
   have:=mul_bd (a:=20) (A:=z-1) (b:=32) (B:=g.s) (by omega) (by omega) (by omega) h.1
   omega
 have hr:=mul_bd h0 hz (by omega:(0:Int)<=g.s) h.2
 refine ⟨Rng.i64 (by omega) (by omega),?_⟩
 refine cond_d (λhlt=>?_) (λhge=>?_)
 ·exact ⟨Rng.i64 (by omega) (by omega),⟨by omega,.inr (by rw [show z+1-1=z by omega];exact hlt),he,hb'⟩,by omega⟩
 ·exact ⟨cei_uniq (by omega) (by omega) (by omega) h1,he⟩
theorem chunks_c {w:World} {s:Int} (h:32<=s/\s<=4096):CallV Tryz.prog 51 #[.int .i64 s] w [.one (.int .i64)] λr w'=>r.1=cei 624 s/\w'=w:=by
 refine geometry_chunks.vc _ _ _ ?_
 unfold geometry_chunks.P
 have hd:Int.tdiv (((624:Int)+s)-1) s=cei 624 s:=Int.tdiv_eq_ediv_of_nonneg (by omega)
 have:=cei_bd (u:=s) (m:=624) (by omega) (by omega)
 rw [hd]
 exact ⟨Rng.i64 (by omega) (by omega),Rng.i64 (by omega) (by omega),by omega,Rng.i64 (by omega) (by omega),rfl,rfl⟩
def Geo.rown (g:Geo):Nat->Int
 | 0=>g.b | 1=>g.p | 2=>g.s | 3=>g.sp | 4=>g.wr | _=>g.ro
def rowf:Nat->Int
 | 0=>7 | 1=>4 | 2=>32 | 3=>0 | 4=>1 | _=>1
def rowt:Nat->Int
 | 0=>64 | 1=>32 | 2=>4096 | 3=>8 | 4=>1000 | _=>1000
theorem kept_iff (g:Geo):(∀ i,i<6->rowf i<=g.rown i/\g.rown i<=rowt i)/\g.s % 16=0↔Kept g:=by
 unfold Kept
 constructor
 ·rintro ⟨h,h'⟩
  exact ⟨h 0 (by omega),h 1 (by omega),h 2 (by omega),h 3 (by omega),h 4 (by omega),h 5 (by omega),h'⟩
 ·rintro ⟨h0,h1,h2,h3,h4,h5,h6⟩
  refine ⟨λi hi=>?_,h6⟩
  match i,hi with
  | 0,_=>exact h0
  | 1,_=>exact h1
  | 2,_=>exact h2
  | 3,_=>exact h3
  | 4,_=>exact h4
  | 5,_=>exact h5
theorem kept_c {w:World} {g:Geo}:CallV Tryz.prog 50 #[g.val] w [.one .bool] λr w'=>r.1=decide (Kept g)/\Ext w w':=by
 refine geometry_kept.vc _ _ _ _ _ _ _ _ ?_
 unfold geometry_kept.P
 rintro b1 w1 rfl rfl
 have hb:Box (w.alloc (.cells g.vs.toArray 23)) w.heap.size w.heap.size 23 g.vs:=Box.new (Nat.le_refl _) _ _
 refine hb.ld (i:=0) (h:=.int .i64) (x:=g.b) rfl ?_
 refine hb.ld (i:=1) (h:=.int .i64) (x:=g.p) rfl ?_
 refine hb.ld (i:=2) (h:=.int .i64) (x:=g.s) rfl ?_
 refine hb.ld (i:=3) (h:=.int .i64) (x:=g.sp) rfl ?_
 refine hb.ld (i:=4) (h:=.int .i64) (x:=g.wr) rfl ?_
 refine hb.ld (i:=5) (h:=.int .i64) (x:=g.ro) rfl ?_
 refine Loop1 (λ(y:Int×Unit) w'=>∃ i:Nat,y.1=(i:Int)/\i<=6/\(∀ j,j<i->rowf j<=g.rown j/\g.rown j<=rowt j)/\Ext w w'/\Box w' w.heap.size w.heap.size 23 g.vs) (λ(y:Int×Unit) _=>(6-y.1).toNat) ⟨0,rfl,by omega,λj hj=>absurd hj (by omega),Ext.alloc _ _,hb⟩ ?_
 rintro ⟨(z:Int),⟨⟩⟩ w' ⟨i,hz,h6,hr,he,hb'⟩
 dsimp only at hz ⊢
 subst hz
 refine cond_d (λhlt=>?_) (λhge=>?_)
 ·refine ⟨⟨by omega,hlt⟩,(g.rown i,rowf i,rowt i,()),?_,?_⟩
  ·rw [Int.toNat_natCast]
   match i,hlt with
   | 0,_=>rfl
   | 1,_=>rfl
   | 2,_=>rfl
   | 3,_=>rfl
   | 4,_=>rfl
   | 5,_=>rfl
   | n+6,h=>exact absurd h (by omega)
  ·rintro b2 w2 rfl rfl
   dsimp only
   have hb2:=Box.new (w:=w') (B:=w'.heap.size) (Nat.le_refl _) 180 [.int .i64 0,.int .i64 0,.int .i64 0]
   refine hb2.store 0 (by simp) λw3 hb3 bl3 _ _=>?_
   have e3:Ext w' w3:=Below.trans (Ext.alloc w' _) bl3
   refine hb3.ld (i:=0) (h:=.int .i64) (x:=g.rown i) rfl ?_
   refine hb3.ld (i:=1) (h:=.int .i64) (x:=rowf i) rfl ?_
   refine cond_d (λhc=>?_) (λhc=>?_)
   ·refine ⟨?_,he.trans e3⟩
    show false=_
    exact (decide_eq_false (λhk=>by have:=((kept_iff g).2 hk).1 i (by omega);omega)).symm
   refine hb3.ld (i:=0) (h:=.int .i64) (x:=g.rown i) rfl ?_
   refine hb3.ld (i:=2) (h:=.int .i64) (x:=rowt i) rfl ?_
   refine cond_d (λhc'=>?_) (λhc'=>?_)
   ·refine ⟨?_,he.trans e3⟩
    show false=_
    exact (decide_eq_false (λhk=>by have:=((kept_iff g).2 hk).1 i (by omega);omega)).symm
   refine ⟨Rng.i64 (by omega) (by omega),⟨i+1,by push_cast;rfl,by omega,λj hj=>?_,he.trans e3,hb'.ext e3⟩,by omega⟩
   by_cases hji:j=i
   ·subst hji;omega
   ·exact hr j (by omega)
 ·have:i=6:=by omega
  subst this
  refine hb'.ld (i:=2) (h:=.int .i64) (x:=g.s) rfl ?_
  refine ⟨by omega,?_,he⟩
  show (Int.tmod g.s 16 == 0)=_
  have h2:=hr 2 (by omega)
  have h2':0<=g.s:=by have:(32:Int)<=g.s:=h2.1;omega
  rw [Int.tmod_eq_emod_of_nonneg h2']
  by_cases hm:g.s % 16=0
  ·rw [hm,decide_eq_true ((kept_iff g).1 ⟨hr,hm⟩)];rfl
  ·rw [decide_eq_false (λhk=>hm ((kept_iff g).2 hk).2)]
   simpa using hm
theorem newG {w:World} {g:Geo} {K:Nat->World->Prop} (h:∀ b w1,Ext w w1->Box w1 w.heap.size b 23 g.vs->K b w1):NewV #[.int .i64 g.b,.int .i64 g.p,.int .i64 g.s,.int .i64 g.sp,.int .i64 g.wr,.int .i64 g.ro] 23 w K:=newBox h
theorem ldG {w:World} {g:Geo} {B b:Nat} {e:TypeId} (hb:Box w B b e g.vs) {K:Int×Int×Int×Int×Int×Int×Unit->Prop} (hk:K g.tup):LoadA w ⟨b,0,none⟩ [.int .i64,.int .i64,.int .i64,.int .i64,.int .i64,.int .i64] K:=hb.lda (l:=[.int .i64,.int .i64,.int .i64,.int .i64,.int .i64,.int .i64]) g.tup rfl hk
def chkE (g:Geo):Int:=if Right g then 0 else 2
theorem Check_c {w:World} {g:Geo}:CallV Tryz.prog 18 #[g.val] w [.one (.int .i64)] λr w'=>r.1=chkE g/\Ext w w':=by
 refine geometry_Check.vc _ _ _ _ _ _ _ _ ?_
 unfold geometry_Check.P
 refine newG λb1 w1 e1 hb=>?_
 refine DrawV.old w1 λD hD hkeep=>?_
 have hD1:=hD _ hb.lt
 have hd:=hb.ext (Ext.drew _)
 have no:∀ {w':World},¬ Right g->Ext w w'->((2:Int)=chkE g/\Ext w w'):=λhr he=>⟨by unfold chkE;rw [if_neg hr],he⟩
 refine ⟨hD1,ldG hd ?_⟩
 dsimp only
 refine (kept_c (g:=g)).mono ?_
 rintro ⟨(r1:Bool),⟨⟩⟩ w2 ⟨h1,e2⟩
 have E2:=(Ext.drew _).trans e2
 refine ⟨hkeep _ E2,?_⟩
 dsimp only at h1 ⊢
 subst h1
 have F2:=e1.trans E2
 by_cases hk:Kept g
 ·refine cond_f (by rw [decide_eq_true hk];rfl) ?_
  refine ⟨hD1,hd.ld (i:=2) (h:=.int .i64) (x:=g.s) rfl ?_⟩
  refine ⟨hD1,hd.ld (i:=1) (h:=.int .i64) (x:=g.p) rfl ?_⟩
  have hk':=hk
  unfold Kept at hk'
  refine (chunks_c (by omega)).mono ?_
  rintro ⟨(r2:Int),⟨⟩⟩ w3 ⟨h2,rfl⟩
  refine ⟨hkeep _ E2,?_⟩
  dsimp only at h2 ⊢
  subst h2
  refine cond_d (λhc=>no (λhr=>by unfold Right at hr;omega) F2) (λhc=>?_)
  refine ⟨hD1,hd.ld (i:=0) (h:=.int .i64) (x:=g.b) rfl ?_⟩
  refine ⟨Rng.i64 (by omega) (by omega),?_⟩
  refine ⟨hD1,hd.ld (i:=3) (h:=.int .i64) (x:=g.sp) rfl ?_⟩
  refine ⟨Rng.i64 (by omega) (by omega),?_⟩
  refine cond_d (λhc2=>no (λhr=>by unfold Right at hr;omega) F2) (λhc2=>?_)
  have hr:Right g:=⟨hk,by omega,by omega⟩
  exact ⟨by unfold chkE;rw [if_pos hr],F2⟩
 ·refine cond_t (by rw [decide_eq_false hk];rfl) (no (λhr=>hk hr.1) F2)
theorem told_c {w:World} {g:Geo} {f:FuncId} {cap:Array Value} {v:Int} (hf:okf f=true) (h:Right g->∀ w',Ext w w'->CallV Tryz.prog f cap w' [.one (.int .i64)] λr w2=>r.1=v/\Ext w' w2) :
  CallV Tryz.prog 68 #[g.val,.func (.func f) #[] cap] w [.one (.int .i64)] λr w'=>r.1=(if Right g then v else (0:Int))/\Ext w w':=by
 refine geometry_told.vc _ _ _ _ _ _ _ _ _ _ ?_
 unfold geometry_told.P
 refine newG λb1 w1 e1 hb=>?_
 refine ldG hb ?_
 refine (Check_c (g:=g)).mono ?_
 rintro ⟨(r1:Int),⟨⟩⟩ w2 ⟨h1,e2⟩
 have E2:=e1.trans e2
 dsimp only at h1 ⊢
 subst h1
 by_cases hr:Right g
 ·refine cond_f (by unfold chkE;rw [if_pos hr];rfl) (cond_t hf ?_)
  have hcap:(([]:List Value)++(([]:List Value)++cap.toList)).toArray=cap:=by simp
  have:=h hr w2 E2
  rw [<-hcap] at this
  refine this.mono ?_
  rintro ⟨(r2:Int),⟨⟩⟩ w3 ⟨h2,e3⟩
  exact ⟨by rw [if_pos hr];exact h2,E2.trans e3⟩
 ·refine cond_t (by unfold chkE;rw [if_neg hr];rfl) ⟨by rw [if_neg hr],E2⟩
theorem Data_c {w:World} {g:Geo}:CallV Tryz.prog 31 #[g.val] w [.one (.int .i64)] λr w'=>r.1=(if Right g then g.b-4 else (0:Int))/\Ext w w':=by
 refine geometry_Data.vc _ _ _ _ _ _ _ _ ?_
 unfold geometry_Data.P
 refine newG λb1 w1 e1 hb=>?_
 refine ldG hb ?_
 refine (told_c (g:=g) (v:=g.b-4) (by kernel_rfl) λhr w' e=>?_).mono ?_
 ·refine geometry_Data_1.vc _ _ _ ?_
  unfold geometry_Data_1.P
  unfold Right Kept at hr
  refine (hb.ext e).ld (i:=0) (h:=.int .i64) (x:=g.b) rfl ?_
  exact ⟨Rng.i64 (by omega) (by omega),rfl,Ext.refl _⟩
 ·rintro ⟨(r2:Int),⟨⟩⟩ w3 ⟨h2,e3⟩
  exact ⟨h2,e1.trans e3⟩
theorem PageSize_c {w:World} {g:Geo}:CallV Tryz.prog 54 #[g.val] w [.one (.int .i64)] λr w'=>r.1=(if Right g then g.s+88 else (0:Int))/\Ext w w':=by
 refine geometry_PageSize.vc _ _ _ _ _ _ _ _ ?_
 unfold geometry_PageSize.P
 refine newG λb1 w1 e1 hb=>?_
 refine ldG hb ?_
 refine (told_c (g:=g) (v:=g.s+88) (by kernel_rfl) λhr w' e=>?_).mono ?_
 ·refine geometry_PageSize_1.vc _ _ _ ?_
  unfold geometry_PageSize_1.P
  unfold Right Kept at hr
  refine ldp (hb.ext e).cells 2 (h:=.int .i64) (x:=g.s) rfl ?_
  exact ⟨Rng.i64 (by omega) (by omega),rfl,Ext.refl _⟩
 ·rintro ⟨(r2:Int),⟨⟩⟩ w3 ⟨h2,e3⟩
  exact ⟨h2,e1.trans e3⟩
def plOk (g:Geo) (b p:Int):Prop:=Right g/\(0<=b/\b<g.b)/\(0<=p/\p<g.p)
instance (g:Geo) (b p:Int):Decidable (plOk g b p):=by unfold plOk;infer_instance
theorem Index_c {w:World} {g:Geo} {b p:Int}:CallV Tryz.prog 93 #[g.val,.agg #[.int .i64 b,.int .i64 p]] w [.one (.int .i64),.one (.int .i64)] λr w'=>
  r.1=(if plOk g b p then b*g.p+p else (0:Int))/\r.2.1=(if plOk g b p then (0:Int) else 2)/\Ext w w':=by
 refine geometry_Index.vc _ _ _ _ _ _ _ _ _ _ ?_
 unfold geometry_Index.P
 refine newG λb1 w1 e1 hb=>?_
 refine newBox (vs:=[.int .i64 b,.int .i64 p]) λb2 w1' e1' hb2=>?_
 have hb':=hb.ext e1'
 refine ldG hb' ?_
 refine (Check_c (g:=g)).mono ?_
 rintro ⟨(r1:Int),⟨⟩⟩ w2 ⟨h1,e2⟩
 dsimp only at h1 ⊢
 subst h1
 have E2:Ext w w2:=e1.trans (e1'.trans e2)
 have i1:=hb'.ext e2
 have i2:=hb2.ext e2
 have no:¬ plOk g b p->((0:Int)=(if plOk g b p then b*g.p+p else 0)/\(2:Int)=(if plOk g b p then 0 else 2)/\Ext w w2):=λhr=>by rw [if_neg hr,if_neg hr];exact ⟨rfl,rfl,E2⟩
 by_cases hr:Right g
 ·refine cond_f (by unfold chkE;rw [if_pos hr];rfl) ?_
  refine i2.ld (i:=0) (h:=.int .i64) (x:=b) rfl ?_
  refine cond_d (λhc=>no (λh=>by unfold plOk at h;omega)) (λh3=>?_)
  refine i2.ld (i:=0) (h:=.int .i64) (x:=b) rfl ?_
  refine i1.ld (i:=0) (h:=.int .i64) (x:=g.b) rfl ?_
  refine cond_d (λhc=>no (λh=>by unfold plOk at h;omega)) (λh4=>?_)
  refine i2.ld (i:=1) (h:=.int .i64) (x:=p) rfl ?_
  refine cond_d (λhc=>no (λh=>by unfold plOk at h;omega)) (λh5=>?_)
  refine i2.ld (i:=1) (h:=.int .i64) (x:=p) rfl ?_
  refine i1.ld (i:=1) (h:=.int .i64) (x:=g.p) rfl ?_
  refine cond_d (λhc=>no (λh=>by unfold plOk at h;omega)) (λh6=>?_)
  refine i2.ld (i:=0) (h:=.int .i64) (x:=b) rfl ?_
  refine i1.ld (i:=1) (h:=.int .i64) (x:=g.p) rfl ?_
  have hok:plOk g b p:=⟨hr,by omega,by omega⟩
  unfold Right Kept at hr
  have hm:=mul_bd (show (0:Int)<=b by omega) (show b<=64 by omega) (show (0:Int)<=g.p by omega) (show g.p<=32 by omega)
  refine ⟨Rng.i64 (by omega) (by omega),?_⟩
  refine i2.ld (i:=1) (h:=.int .i64) (x:=p) rfl ?_
  refine ⟨Rng.i64 (by omega) (by omega),?_⟩
  rw [if_pos hok,if_pos hok]
  exact ⟨rfl,rfl,E2⟩
 ·exact cond_t (by unfold chkE;rw [if_neg hr];rfl) (no (λh=>hr h.1))
theorem Right.sec {g:Geo} (h:Right g):32<=g.s/\g.s<=4096:=by unfold Right Kept at h;omega
theorem fill_sec {g:Geo} (hs:32<=g.s/\g.s<=4096):(max 0 (min (65536:Int) g.s)).toNat=g.s.toNat:=by generalize hL:(65536:Int)=L;omega
theorem _root_.Go.Eng.Sep.res {E:Nat->Prop} {w0 w w':World} {Rs:List Asr} {s:SlV} {xs:List Int} (S:Sep E w0 w Rs) (h:Res w w' s xs):Sep E w0 w' (OwnA 5 1 s.a s.n s.c (xs.map (Value.int .u8))::Rs):=S.pushO h.ext h.own
theorem _root_.Go.Eng.Sep.out {w0 w:World} {Rs:List Asr} {a:Option Addr} {n c:Nat} {xs:List Int} (S:Sep NoB w0 w (OwnA 5 1 a n c (xs.map (Value.int .u8))::Rs)):Res w0 w ⟨a,n,c⟩ xs:=by
 obtain ⟨F,⟨h,hF⟩,hb⟩:=S.get (i:=0) rfl
 refine ⟨S.ext,⟨h.len,h.cap,h.lim,h.one,h.at_.imp id λ⟨b,cs,h1,h2,h3,h4⟩=>⟨b,cs,h1,?_,h3,h4⟩⟩⟩
 exact ((hb _ (hF _ h1)).1.elim (λx=>x.elim) id)
theorem intsNil {w:World}:Ints w .u8 none 0 0 []:=⟨rfl,Nat.le_refl _,by omega,.inl ⟨rfl,rfl⟩⟩
theorem rLittle_c {w:World} {n k:Int} (h0:0<=n) (h1:n<18446744073709551616):CallV Tryz.prog 142 #[.int .u64 n,.int .i64 k] w [.one .sl] λr w'=>Res w w' r.1 (leL n (cl8 k)):=by
 refine ref01_Little.vc _ _ _ _ ?_
 unfold ref01_Little.P
 rintro b w1 rfl rfl
 have hnew:=Own.new (w:=w) (B:=w.heap.size) (e:=5) (sz:=1) (n:=0) (c:=0) (cs:=[]) (Nat.le_refl _) rfl (Nat.le_refl _) (by omega) oneAll.nil
 have hc8:(cl8 k:Int)=max 0 (min 8 k):=by unfold cl8;omega
 refine Loop1 (λ(y:Int×SlV×Int×Unit) w'=>∃ i:Nat,y.2.2.1=i/\i<=cl8 k/\y.1=n / 256 ^ i/\y.2.1.n=i/\Ext w w'/\Own w' w.heap.size 5 1 y.2.1.a y.2.1.n y.2.1.c ((leL n i).map (Value.int .u8)))
  (λ(y:Int×SlV×Int×Unit) _=>((8:Int)-y.2.2.1).toNat) ⟨0,rfl,by omega,by simp,rfl,Ext.alloc _ _,hnew⟩ ?_
 rintro ⟨(m:Int),(s:SlV),(y:Int),⟨⟩⟩ w' ⟨i,hy,hi,hm,hn,he,ho⟩
 dsimp only at hy hm hn ho ⊢
 subst hy
 have fin:¬ ((i:Int)<k/\(i:Int)<8)->Res w w' s (leL n (cl8 k)):=by
  intro h
  have:cl8 k=i:=by omega
  rw [this]
  exact ⟨he,ho⟩
 refine cond_d (λhlt=>?_) (λhge=>fin (λh=>hge h.1))
 refine cond_d (λhlt2=>?_) (λhge=>fin (λh=>hge h.2))
 have hm0:0<=m:=by rw [hm];exact Int.ediv_nonneg h0 (Int.le_of_lt (Int.pow_pos (by omega)))
 have hm1:m<18446744073709551616:=by
  rw [hm]
  exact Int.lt_of_le_of_lt (Int.ediv_le_self _ h0) h1
 refine ⟨by omega,?_⟩
 rintro b2 w2 hb2 hw2
 refine app1 ho he.size (by omega) hb2 hw2 λa' c' w3 ho3 hb3=>?_
 have hd:Int.tdiv m 256=n / 256 ^ (i+1):=by rw [hm];exact div_step n h0 i
 have hd2:Int.tdiv m 256=m / 256:=Int.tdiv_eq_ediv_of_nonneg hm0
 refine ⟨by omega,Rng.u64 (by omega) (by omega),Rng.i64 (by omega) (by omega),⟨i+1,by push_cast;rfl,by omega,hd,by show s.n+1=i+1;omega,Below.trans he hb3,?_⟩,by omega⟩
 rw [leL_succ,<- hm]
 rw [u8_wrap,Int.tmod_eq_emod_of_nonneg hm0] at ho3
 simpa using ho3
theorem take_rev (xs:List Int) {i:Nat} (h:i<xs.length):xs.reverse.take (xs.length-1-i+1)=xs.reverse.take (xs.length-1-i)++[xs.getD i 0]:=by
 rw [List.take_succ_eq_append_getElem (by simp;omega),List.getElem_reverse,getD_get h]
 congr 3
 omega
theorem Back_c {w:World} {a:Option Addr} {n c:Nat} {xs:List Int} (hx:Ints w .u8 a n c xs) (hn:n<=70000) :
  CallV Tryz.prog 126 #[.slice a n c] w [.one .sl] λr w'=>Res w w' r.1 xs.reverse:=by
 refine ref01_Back.vc _ _ _ _ _ ?_
 unfold ref01_Back.P
 rintro b w1 rfl rfl
 have hl:=hx.len
 refine ⟨Rng.i64 (by omega) (by omega),?_⟩
 have hnew:=Own.new (w:=w) (B:=w.heap.size) (e:=5) (sz:=1) (n:=0) (c:=0) (cs:=[]) (Nat.le_refl _) rfl (Nat.le_refl _) (by omega) oneAll.nil
 refine Loop1 (λ(y:SlV×Int×Unit) w'=>∃ j:Nat,y.2.1=(n:Int)-1-j/\j<=n/\y.1.n=j/\Ext w w'/\Own w' w.heap.size 5 1 y.1.a y.1.n y.1.c ((xs.reverse.take j).map (Value.int .u8)))
  (λ(y:SlV×Int×Unit) _=>(y.2.1+1).toNat) ⟨0,(by simp;rfl),by omega,rfl,Ext.alloc _ _,hnew⟩ ?_
 rintro ⟨(s:SlV),(y:Int),⟨⟩⟩ w' ⟨j,hy,hj,hsn,he,ho⟩
 dsimp only at hy hsn ho ⊢
 refine cond_d (λhlt=>?_) (λhge=>?_)
 ·refine (hx.ext he).idx (by omega) (by omega) ?_
  rintro b2 w2 hb2 hw2
  refine app1 ho he.size (by omega) hb2 hw2 λa' c' w3 ho3 hb3=>?_
  refine ⟨Rng.i64 (by omega) (by omega),⟨j+1,by push_cast;omega,by omega,by show s.n+1=j+1;omega,Below.trans he hb3,?_⟩,by omega⟩
  have:=take_rev xs (i:=y.toNat) (by omega)
  rw [show xs.length-1-y.toNat=j by omega] at this
  rw [this]
  exact ho3
 ·have:j=n:=by omega
  subst this
  refine ⟨he,?_⟩
  rw [List.take_of_length_le (by simp;omega)] at ho
  exact ho
theorem rBig_c {w:World} {n k:Int} (h0:0<=n) (h1:n<18446744073709551616):CallV Tryz.prog 127 #[.int .u64 n,.int .i64 k] w [.one .sl] λr w'=>Res w w' r.1 (leL n (cl8 k)).reverse:=by
 refine ref01_Big.vc _ _ _ _ ?_
 unfold ref01_Big.P
 refine (rLittle_c h0 h1).mono ?_
 rintro ⟨(s:SlV),⟨⟩⟩ w1 hr
 have hlen:=hr.ints.len
 rw [leL_length] at hlen
 have hc8:cl8 k<=8:=by unfold cl8;omega
 refine (Back_c hr.ints (by dsimp only at *;omega)).mono ?_
 rintro ⟨(s2:SlV),⟨⟩⟩ w2 hr2
 exact hr2.after hr.ext
theorem leN_drop {xs:List Int} {i:Nat} (h:i<xs.length):leN (xs.drop i)=xs.getD i 0+256*leN (xs.drop (i+1)):=by
 rw [List.drop_eq_getElem_cons h,getD_get h]
 rfl
theorem pow256 {i:Nat} (h:i<=7):(256:Int) ^ i<=72057594037927936:=by
 have:=pow_mono h
 have e:(256:Int) ^ 7=72057594037927936:=by decide
 omega
theorem rNumLittle_c {w:World} {a:Option Addr} {n c:Nat} {xs:List Int} (hx:Ints w .u8 a n c xs) (hb:Byt xs) :
  CallV Tryz.prog 125 #[.slice a n c] w [.one (.int .u64)] λr w'=>r.1=numL xs/\w'=w:=by
 refine ref01_NumLittle.vc _ _ _ _ _ ?_
 unfold ref01_NumLittle.P
 have hl:=hx.len
 have hli:=hx.lim
 refine ⟨Rng.i64 (by omega) (by omega),?_⟩
 intro z1 hz1
 refine Loop1 (λ(y:Int×Int×Unit) w'=>-1<=y.2.1/\y.2.1<=z1/\y.1=leN ((xs.take 8).drop (y.2.1+1).toNat)/\w'=w) (λ(y:Int×Int×Unit) _=>(y.2.1+1).toNat)
  ⟨by dsimp only;omega,Int.le_refl _,by dsimp only;rw [List.drop_of_length_le (by simp;omega)];rfl,rfl⟩ ?_
 rintro ⟨(m:Int),(y:Int),⟨⟩⟩ w' ⟨h0,h1,hm,rfl⟩
 dsimp only at h0 h1 hm ⊢
 refine cond_d (λhge=>?_) (λhlt=>?_)
 ·refine hx.idx (by omega) (by omega) ?_
  have hlt8:y.toNat<(xs.take 8).length:=by simp;omega
  have hd:=leN_drop hlt8
  rw [show (y+1).toNat=y.toNat+1 by omega] at hm
  rw [<-hm] at hd
  have hbd:=leN_bd ((hb.take 8).drop (y.toNat+1))
  rw [<-hm] at hbd
  have hpw:=pow256 (i:=((xs.take 8).drop (y.toNat+1)).length) (by simp;omega)
  have hg:(xs.take 8).getD y.toNat 0=xs.getD y.toNat 0:=by
   rw [getD_get hlt8,getD_get (by simp at hlt8;omega),List.getElem_take]
  have hbx:=hb.getD y.toNat
  refine ⟨Rng.i64 (by omega) (by omega),⟨by omega,by omega,?_,rfl⟩,by omega⟩
  rw [u64_id (z:=m*256) (by omega) (by omega),u64_id (z:=xs.getD y.toNat 0) (by omega) (by omega),u64_id (by omega) (by omega)]
  rw [show (y-1+1).toNat=y.toNat by omega,hd,hg]
  omega
 ·refine ⟨?_,rfl⟩
  show m=numL xs
  rw [hm,show (y+1).toNat=0 by omega]
  rfl
theorem rNum_c {w:World} {a:Option Addr} {n c:Nat} {xs:List Int} (hx:Ints w .u8 a n c xs) (hb:Byt xs) (hn:n<=70000) :
  CallV Tryz.prog 101 #[.slice a n c] w [.one (.int .u64)] λr w'=>r.1=numB xs/\Ext w w':=by
 refine ref01_Num.vc _ _ _ _ _ ?_
 unfold ref01_Num.P
 refine (Back_c hx hn).mono ?_
 rintro ⟨(s:SlV),⟨⟩⟩ w1 hr
 refine (rNumLittle_c hr.ints hb.reverse).mono ?_
 rintro ⟨(v:Int),⟨⟩⟩ w2 ⟨h1,rfl⟩
 exact ⟨h1,hr.ext⟩
theorem numB_eq (xs:List Int):numB xs=leN (xs.drop (xs.length-8)).reverse:=by
 unfold numB
 congr 1
 rw [List.take_reverse]
theorem Num_c {w:World} {a:Option Addr} {n c:Nat} {xs:List Int} (hx:Ints w .u8 a n c xs) (hb:Byt xs) :
  CallV Tryz.prog 114 #[.slice a n c] w [.one (.int .u64)] λr w'=>r.1=numB xs/\w'=w:=by
 refine octet_Num.vc _ _ _ _ _ ?_
 unfold octet_Num.P
 have hl:=hx.len
 have hli:=hx.lim
 have hcap:=hx.cap
 refine ⟨Rng.i64 (by omega) (by omega),?_⟩
 intro z1 hz1
 refine ⟨by omega,?_⟩
 intro a2 ha2
 have hz:z1.toNat=n-8:=by omega
 have hs:=hx.sub (l:=z1.toNat) (hh:=n) (m:=c) (by omega) (Nat.le_refl _) hcap ha2
 rw [hz] at hs ⊢
 have hys:(xs.drop (n-8)).take (n-(n-8))=xs.drop (n-8):=List.take_of_length_le (by simp;omega)
 rw [hys] at hs
 have hby:=hb.drop (n-8)
 have hly:=hs.len
 rw [numB_eq,hl]
 generalize xs.drop (n-8)=ys at hs hby hly ⊢
 refine Loop1 (λ(y:Int×Int×Unit) w'=>0<=y.2.1/\y.2.1<=(n-(n-8):Nat)/\y.1=leN (ys.take y.2.1.toNat).reverse/\w'=w) (λ(y:Int×Int×Unit) _=>(8-y.2.1).toNat)
  ⟨Int.le_refl _,by dsimp only;omega,rfl,rfl⟩ ?_
 rintro ⟨(m:Int),(y:Int),⟨⟩⟩ w' ⟨h0,h1,hm,rfl⟩
 dsimp only at h0 h1 hm ⊢
 refine cond_d (λhlt=>?_) (λhge=>?_)
 ·refine hs.idx h0 hlt ?_
  have hlt8:y.toNat<ys.length:=by omega
  have hbd:=leN_bd (hby.take y.toNat).reverse
  rw [<-hm] at hbd
  have hpw:=pow256 (i:=(ys.take y.toNat).reverse.length) (by simp;omega)
  have hbx:=hby.getD y.toNat
  refine ⟨by omega,Rng.i64 (by omega) (by omega),⟨by omega,by omega,?_,rfl⟩,by omega⟩
  rw [byte_or (by omega) (by omega) hbx.1 hbx.2,show (y+1).toNat=y.toNat+1 by omega,List.take_succ_eq_append_getElem hlt8,List.reverse_append]
  simp only [List.reverse_cons,List.reverse_nil,List.nil_append,List.singleton_append,leN]
  rw [<-hm,getD_get hlt8]
  omega
 ·refine ⟨?_,rfl⟩
  show m=_
  rw [hm,List.take_of_length_le (by omega)]
theorem fill_round {w0 w:World} {k i:Nat} {S:List Int} {a:Option Addr} {B:Nat} (hS:S.length=k) (hi:i<k) {x:Int} (hx:x=S[i]'(by omega)) {K:World->Prop}
  (ho:Own w B 5 1 a k k ((S.map (Value.int .u8)).take i++List.replicate (k-i) (.int .u8 0)))
  (hk:∀ w',Own w' B 5 1 a k k ((S.map (Value.int .u8)).take (i+1)++List.replicate (k-(i+1)) (.int .u8 0))->Below B w w'->K w') :
  (0<=(i:Int)/\(i:Int)<(k:Int))/\∃ q,a=some q/\StoreV w (q.add ((i:Int).toNat*1)) [.int .u8 x] K:=by
 refine ho.store (by omega) (by omega) rfl λw2 ho2 hb2 _ hs2=>hk w2 ?_ hb2
 have hset:=set_step (S.map (Value.int .u8)) (.int .u8 0) (by simpa using hS) hi
 rw [Int.toNat_natCast] at ho2
 rw [<-hset,map_get,<- hx]
 exact ho2
theorem rXor_c {w:World} {a b:Option Addr} {n c m d:Nat} {xs ys:List Int} (hx:Ints w .u8 a n c xs) (hy:Ints w .u8 b m d ys) (hnm:n<=m) (hn:n<=70000) :
  CallV Tryz.prog 128 #[.slice a n c,.slice b m d] w [.one .sl] λr w'=>Res w w' r.1 (xorL xs ys):=by
 refine ref01_Xor.vc _ _ _ _ _ _ _ _ ?_
 unfold ref01_Xor.P
 have l1:=hx.len
 have l2:=hy.len
 rintro b1 w1 rfl rfl
 have hS:(xorL xs ys).length=n:=by rw [xorL_length];exact l1
 have hnew:=Own.new (w:=w) (B:=w.heap.size) (e:=5) (sz:=1) (n:=0) (c:=0) (cs:=[]) (Nat.le_refl _) rfl (Nat.le_refl _) (by omega) oneAll.nil
 refine Loop1 (λ(y:SlV×Int×Unit) w'=>∃ i:Nat,y.2.1=i/\i<=n/\y.1.n=i/\Ext w w'/\Own w' w.heap.size 5 1 y.1.a y.1.n y.1.c (((xorL xs ys).take i).map (Value.int .u8)))
  (λ(y:SlV×Int×Unit) _=>((n:Int)-y.2.1).toNat) ⟨0,rfl,by omega,rfl,Ext.alloc _ _,hnew⟩ ?_
 rintro ⟨(s:SlV),(y:Int),⟨⟩⟩ w' ⟨i,hy',hi,hsn,he,ho⟩
 dsimp only at hy' hsn ho ⊢
 subst hy'
 refine cond_d (λhlt=>?_) (λhge=>?_)
 ·refine DrawV.base w.heap.size w' λD hD hkeep=>?_
  have he':=he.trans (Ext.drew w')
  refine hx.idxD he' (by omega) hlt hD ?_
  refine hy.idxD he' (by omega) (by omega) hD ?_
  rintro b2 w2 hb2 hw2
  refine ⟨hkeep _ (by subst hw2;exact (Below.drew (Below.refl _ w')).alloc (by exact he.size) _),?_⟩
  refine app1 (ho.ext (Ext.drew w')) (by exact he.size) (by omega) hb2 hw2 λa' c' w3 ho3 hb3=>?_
  refine ⟨hkeep _ ((Below.drew (Below.refl _ w')).trans hb3),Rng.i64 (by omega) (by omega),⟨i+1,by push_cast;rfl,by omega,by show s.n+1=i+1;omega,Below.trans he' hb3,?_⟩,by omega⟩
  rw [xorL_take_succ _ _ _ (by omega)]
  exact ho3
 ·have:i=n:=by omega
  subst this
  refine ⟨he,?_⟩
  rw [List.take_of_length_le (by omega)] at ho
  exact ho
theorem Invert_c {w:World} {a:Option Addr} {n c:Nat} {xs:List Int} (hx:Ints w .u8 a n c xs) (hn:n<=70000) :
  CallV Tryz.prog 116 #[.slice a n c] w [.one .sl] λr w'=>Res w w' r.1 (invL xs):=by
 refine octet_Invert.vc _ _ _ _ _ ?_
 unfold octet_Invert.P
 have l1:=hx.len
 refine ⟨by omega,?_⟩
 rintro b1 w1 rfl rfl
 rw [Int.toNat_natCast]
 have hS:(invL xs).length=n:=by simpa [invL] using l1
 have hnew:=Own.zeros (w:=w) (B:=w.heap.size) (e:=5) (n:=n) (c:=n) (z:=.int .u8 0) (Nat.le_refl _) (Nat.le_refl _) (by omega) rfl
 refine Loop1 (λ(y:Int×Unit) w'=>∃ i:Nat,y.1=i/\i<=n/\Ext w w'/\Own w' w.heap.size 5 1 (some ⟨w.heap.size,0,none⟩) n n (((invL xs).map (Value.int .u8)).take i++List.replicate (n-i) (.int .u8 0)))
  (λ(y:Int×Unit) _=>((n:Int)-y.1).toNat) ⟨0,rfl,by omega,Ext.alloc _ _,by simpa using hnew⟩ ?_
 rintro ⟨(y:Int),⟨⟩⟩ w' ⟨i,hy',hi,he,ho⟩
 dsimp only at hy' ⊢
 subst hy'
 refine cond_d (λhlt=>?_) (λhge=>?_)
 ·refine (hx.ext he).idx (by omega) hlt ?_
  refine fill_round (w0:=w) (S:=invL xs) hS (by omega) (by rw [Int.toNat_natCast,getD_get (by omega)];simp [invL,xor8]) ho λw2 ho2 hb2=>?_
  exact ⟨Rng.i64 (by omega) (by omega),⟨i+1,by push_cast;rfl,by omega,Below.trans he hb2,ho2⟩,by omega⟩
 ·have:i=n:=by omega
  subst this
  refine ⟨he,?_⟩
  rw [Nat.sub_self,List.replicate_zero,List.append_nil,List.take_of_length_le (by simp;omega)] at ho
  exact ho
theorem rInvert_c {w:World} {a:Option Addr} {n c:Nat} {xs:List Int} (hx:Ints w .u8 a n c xs) (hn:n<=65536) :
  CallV Tryz.prog 104 #[.slice a n c] w [.one .sl] λr w'=>Res w w' r.1 (invL xs):=by
 refine ref01_Invert.vc _ _ _ _ _ ?_
 unfold ref01_Invert.P
 refine rFill_c.mono ?_
 rintro ⟨(s:SlV),⟨⟩⟩ w1 hr
 have hk:(max 0 (min 65536 (n:Int))).toNat=n:=by omega
 rw [hk] at hr
 have hl:=hr.ints.len
 simp only [List.length_replicate] at hl
 refine (rXor_c (hx.ext hr.ext) hr.ints (Nat.le_of_eq hl) (by omega)).mono ?_
 rintro ⟨(s2:SlV),⟨⟩⟩ w2 hr2
 have:=hr2.after hr.ext
 rw [invL_xor xs n hx.len.symm] at this
 exact this
theorem Same_c {w:World} {a b:Option Addr} {n c m d:Nat} {xs ys:List Int} (hx:Ints w .u8 a n c xs) (hy:Ints w .u8 b m d ys) (bx:Byt xs) (by':Byt ys) :
  CallV Tryz.prog 115 #[.slice a n c,.slice b m d] w [.one .bool] λr w'=>r.1=decide (xs=ys)/\Ext w w':=by
 refine octet_Same.vc _ _ _ _ _ _ _ _ ?_
 unfold octet_Same.P
 have l1:=hx.len
 have l2:=hy.len
 have hli:=hx.lim
 refine cond_ne (λhne=>?_) (λheq=>?_)
 ·refine ⟨?_,Ext.refl w⟩
  show false=decide (xs=ys)
  symm
  rw [decide_eq_false_iff_not]
  rintro rfl
  omega
 ·refine Loop1 (λ(x:Int×Int×Unit) w'=>0<=x.2.1/\x.2.1<=n/\(0<=x.1/\x.1<256)/\(x.1=0↔∀ j:Nat,j<x.2.1.toNat->xs.getD j 0=ys.getD j 0)/\Ext w w') (λ(x:Int×Int×Unit) _=>((n:Int)-x.2.1).toNat)
   ⟨Int.le_refl _,by dsimp only;omega,by dsimp only;omega,⟨λ_ j hj=>by dsimp only at hj;omega,λ_=>rfl⟩,Ext.refl w⟩ ?_
  rintro ⟨(u:Int),(i:Int),⟨⟩⟩ w' ⟨h0,h1,hu,hj,he⟩
  dsimp only at h0 h1 hj hu ⊢
  refine cond_d (λhlt=>?_) (λhge=>?_)
  ·refine DrawV.any λD hD=>?_
   have he':=he.trans (Ext.drew w')
   refine hx.idxD he' h0 hlt (λb _=>hD b) ?_
   refine hy.idxD he' h0 (by omega) (λb _=>hD b) ?_
   refine ⟨Rng.i64 (by omega) (by omega),⟨by omega,by omega,bits8_byt _ _ _,?_,he'⟩,by omega⟩
   have hb:=bits8_byt .xor (xs.getD i.toNat 0) (ys.getD i.toNat 0)
   have hz:=xor8_zero (bx.getD i.toNat) (by'.getD i.toNat)
   unfold xor8 at hz
   show Go.bits .or .u8 u _=0↔_
   rw [or8_zero hu hb,hz,hj]
   constructor
   ·rintro ⟨h3,h4⟩ j hj'
    by_cases hji:j=i.toNat
    ·rw [hji];exact h4
    ·exact h3 j (by omega)
   ·intro h3
    exact ⟨λj hj'=>h3 j (by omega),h3 i.toNat (by omega)⟩
  ·refine ⟨?_,he⟩
   show (u == 0)=decide (xs=ys)
   have:(u=0)↔xs=ys:=by
    rw [hj]
    constructor
    ·intro h
     apply List.ext_getElem (by omega)
     intro j h1 h2
     have:=h j (by omega)
     rwa [getD_get h1,getD_get h2] at this
    ·rintro rfl j _;rfl
   by_cases hxy:xs=ys
   ·simp [hxy,this.2 hxy]
   ·have:u≠0:=λh=>hxy (this.1 h)
    simp [hxy,this]
end Go.Proofs.YtcekmdehjnlkpaaGreat.Vc
namespace Go.Proofs.YtcekmdehjnlkpaaGreat.Vc
open Go Go.Eng
def ref14_Right.A:Ann:=.no
def ref14_Right.P (p0_0 p0_1 p0_2 p0_3 p0_4 p0_5:Int) (w:World) (K:Bool×Unit->World->Prop):Prop:=
 NewV #[.int .i64 p0_0,.int .i64 p0_1,.int .i64 p0_2,.int .u32 p0_3,.int .u64 p0_4,.int .u64 p0_5] 35 w λb1 w2=>
 LoadS w2 ⟨b1,0,none⟩ (.int .i64) λ(x3:Int)=>
 cond (decide (x3≥1))
 (LoadS w2 ⟨b1,0,none⟩ (.int .i64) λ(x4:Int)=>
 cond (decide (x4<=4))
 (LoadS w2 ⟨b1,1,none⟩ (.int .i64) λ(x5:Int)=>
 cond (decide (x5≥0))
 (LoadS w2 ⟨b1,1,none⟩ (.int .i64) λ(x6:Int)=>
 cond (decide (x6<=255))
 (LoadS w2 ⟨b1,2,none⟩ (.int .i64) λ(x7:Int)=>
 cond (decide (x7≥0))
 (LoadS w2 ⟨b1,2,none⟩ (.int .i64) λ(x8:Int)=>
 K (decide (x8<=255),()) w2)
 (K (false,()) w2))
 (K (false,()) w2))
 (K (false,()) w2))
 (K (false,()) w2))
 (K (false,()) w2)
theorem ref14_Right.vc (p0_0 p0_1 p0_2 p0_3 p0_4 p0_5:Int) (w:World) (K:Bool×Unit->World->Prop) (h:ref14_Right.P p0_0 p0_1 p0_2 p0_3 p0_4 p0_5 w K):CallV Tryz.prog 11 #[.agg #[.int .i64 p0_0,.int .i64 p0_1,.int .i64 p0_2,.int .u32 p0_3,.int .u64 p0_4,.int .u64 p0_5]] w [.one .bool] K:=by
 refine vcFun.of (A:=ref14_Right.A) (wr:=false) okf_ok follows h Tryz.func11 ?_
 kernel_rfl
def ref14_Bytes.A:Ann:=.two .no (.two (.draw (.take 0 (.take 1 (.take 2 (.take 3 (.take 4 (.take 5 (.take 6 (.take 7 (.take 8 (.take 10 (.take 11 (.take 12 (.both 9 (.eff 13 (.eff 14 (.take 15 (.done)))) 13 (.eff 9 (.eff 14 (.take 15 (.done)))))))))))))))))) .no)
def ref14_Bytes.P (p0_0 p0_1 p0_2 p0_3 p0_4 p0_5:Int) (w:World) (K:SlV×Unit->World->Prop):Prop:=
 NewV #[.int .i64 p0_0,.int .i64 p0_1,.int .i64 p0_2,.int .u32 p0_3,.int .u64 p0_4,.int .u64 p0_5] 35 w λb1 w2=>
 DrawV λD3=>
 (D3 b1/\LoadS w2.drew ⟨b1,0,none⟩ (.int .i64) λ(x4:Int)=>
 (D3 b1/\LoadS w2.drew ⟨b1,1,none⟩ (.int .i64) λ(x5:Int)=>
 (D3 b1/\LoadS w2.drew ⟨b1,2,none⟩ (.int .i64) λ(x6:Int)=>
 (D3 b1/\LoadS w2.drew ⟨b1,3,none⟩ (.int .u32) λ(x7:Int)=>
 ((NewV #[.int .u8 (IntKind.u8.wrap x4),.int .u8 (IntKind.u8.wrap x5),.int .u8 (IntKind.u8.wrap x6),.int .u8 0] 5 w2.drew λb8 w9=>
 KeepOn D3 w2.drew w9 /\
 CallV Tryz.prog 127 #[.int .u64 (IntKind.u64.wrap x7),.int .i64 4] w9 [.one .sl] λ(r10:SlV×Unit) w11=>
 KeepOn D3 w2.drew w11 /\
 AppS w11 r10.1.a r10.1.n 1 λns16=>
 AppV w11 5 1 1 (some ⟨b8,0,none⟩) 4 4 ns16 r10.1.n λa12 n13 c14 w15=>
 KeepOn D3 w2.drew w15 /\
 LoadS w15 ⟨b1,4,none⟩ (.int .u64) λ(x17:Int)=>
 CallV Tryz.prog 127 #[.int .u64 x17,.int .i64 8] w15 [.one .sl] λ(r18:SlV×Unit) w19=>
 AppS w19 r18.1.a r18.1.n 1 λns24=>
 AppV w19 5 1 1 a12 n13 c14 ns24 r18.1.n λa20 n21 c22 w23=>
 LoadS w23 ⟨b1,5,none⟩ (.int .u64) λ(x25:Int)=>
 CallV Tryz.prog 127 #[.int .u64 x25,.int .i64 8] w23 [.one .sl] λ(r26:SlV×Unit) w27=>
 AppS w27 r26.1.a r26.1.n 1 λns32=>
 AppV w27 5 1 1 a20 n21 c22 ns32 r26.1.n λa28 n29 c30 w31=>
 K ((⟨a28,n29,c30⟩:SlV),()) w31) /\
 (CallV Tryz.prog 127 #[.int .u64 (IntKind.u64.wrap x7),.int .i64 4] w2.drew [.one .sl] λ(r33:SlV×Unit) w34=>
 KeepOn D3 w2.drew w34 /\
 NewV #[.int .u8 (IntKind.u8.wrap x4),.int .u8 (IntKind.u8.wrap x5),.int .u8 (IntKind.u8.wrap x6),.int .u8 0] 5 w34 λb35 w36=>
 KeepOn D3 w2.drew w36 /\
 AppS w36 r33.1.a r33.1.n 1 λns41=>
 AppV w36 5 1 1 (some ⟨b35,0,none⟩) 4 4 ns41 r33.1.n λa37 n38 c39 w40=>
 KeepOn D3 w2.drew w40 /\
 LoadS w40 ⟨b1,4,none⟩ (.int .u64) λ(x42:Int)=>
 CallV Tryz.prog 127 #[.int .u64 x42,.int .i64 8] w40 [.one .sl] λ(r43:SlV×Unit) w44=>
 AppS w44 r43.1.a r43.1.n 1 λns49=>
 AppV w44 5 1 1 a37 n38 c39 ns49 r43.1.n λa45 n46 c47 w48=>
 LoadS w48 ⟨b1,5,none⟩ (.int .u64) λ(x50:Int)=>
 CallV Tryz.prog 127 #[.int .u64 x50,.int .i64 8] w48 [.one .sl] λ(r51:SlV×Unit) w52=>
 AppS w52 r51.1.a r51.1.n 1 λns57=>
 AppV w52 5 1 1 a45 n46 c47 ns57 r51.1.n λa53 n54 c55 w56=>
 K ((⟨a53,n54,c55⟩:SlV),()) w56))))))
theorem ref14_Bytes.vc (p0_0 p0_1 p0_2 p0_3 p0_4 p0_5:Int) (w:World) (K:SlV×Unit->World->Prop) (h:ref14_Bytes.P p0_0 p0_1 p0_2 p0_3 p0_4 p0_5 w K):CallV Tryz.prog 103 #[.agg #[.int .i64 p0_0,.int .i64 p0_1,.int .i64 p0_2,.int .u32 p0_3,.int .u64 p0_4,.int .u64 p0_5]] w [.one .sl] K:=by
 refine vcFun.of (A:=ref14_Bytes.A) (wr:=false) okf_ok follows h Tryz.func103 ?_
 kernel_rfl
def head_Less.A:Ann:=.no
def head_Less.P (p0_0 p0_1 p0_2 p0_3 p0_4 p0_5 p1_0 p1_1 p1_2 p1_3 p1_4 p1_5:Int) (w:World) (K:Bool×Unit->World->Prop):Prop:=
 NewV #[.int .i64 p0_0,.int .i64 p0_1,.int .i64 p0_2,.int .u32 p0_3,.int .u64 p0_4,.int .u64 p0_5] 35 w λb1 w2=>
 NewV #[.int .i64 p1_0,.int .i64 p1_1,.int .i64 p1_2,.int .u32 p1_3,.int .u64 p1_4,.int .u64 p1_5] 35 w2 λb3 w4=>
 LoadS w4 ⟨b1,4,none⟩ (.int .u64) λ(x5:Int)=>
 LoadS w4 ⟨b3,4,none⟩ (.int .u64) λ(x6:Int)=>
 cond (x5 != x6)
 (LoadS w4 ⟨b1,4,none⟩ (.int .u64) λ(x7:Int)=>
 LoadS w4 ⟨b3,4,none⟩ (.int .u64) λ(x8:Int)=>
 K (decide (x7<x8),()) w4)
 (LoadS w4 ⟨b1,5,none⟩ (.int .u64) λ(x9:Int)=>
 LoadS w4 ⟨b3,5,none⟩ (.int .u64) λ(x10:Int)=>
 K (decide (x9<x10),()) w4)
theorem head_Less.vc (p0_0 p0_1 p0_2 p0_3 p0_4 p0_5 p1_0 p1_1 p1_2 p1_3 p1_4 p1_5:Int) (w:World) (K:Bool×Unit->World->Prop) (h:head_Less.P p0_0 p0_1 p0_2 p0_3 p0_4 p0_5 p1_0 p1_1 p1_2 p1_3 p1_4 p1_5 w K):CallV Tryz.prog 105 #[.agg #[.int .i64 p0_0,.int .i64 p0_1,.int .i64 p0_2,.int .u32 p0_3,.int .u64 p0_4,.int .u64 p0_5],.agg #[.int .i64 p1_0,.int .i64 p1_1,.int .i64 p1_2,.int .u32 p1_3,.int .u64 p1_4,.int .u64 p1_5]] w [.one .bool] K:=by
 refine vcFun.of (A:=head_Less.A) (wr:=false) okf_ok follows h Tryz.func105 ?_
 kernel_rfl
def head_Read.A:Ann:=.two .no (.two .no (.two (.draw (.take 0 (.take 1 (.take 2 (.take 3 (.take 4 (.take 5 (.done)))))))) (.two (.draw (.take 0 (.take 1 (.take 2 (.take 3 (.take 4 (.take 5 (.take 6 (.take 7 (.take 8 (.take 9 (.take 10 (.take 11 (.take 12 (.take 13 (.take 16 (.take 17 (.take 19 (.take 20 (.both 14 (.take 15 (.both 18 (.both 21 (.take 22 (.eff 23 (.eff 24 (.done)))) 23 (.eff 21 (.take 22 (.eff 24 (.done))))) 23 (.eff 18 (.eff 21 (.take 22 (.eff 24 (.done))))))) 23 (.eff 14 (.take 15 (.eff 18 (.eff 21 (.take 22 (.eff 24 (.done))))))))))))))))))))))))))) (.two (.two (.draw (.take 0 (.take 2 (.take 3 (.eff 1 (.eff 4 (.take 5 (.take 6 (.take 7 (.take 8 (.take 9 (.take 10 (.take 11 (.take 12 (.take 13 (.take 14 (.take 15 (.take 16 (.take 17 (.take 18 (.take 19 (.take 20 (.take 21 (.done)))))))))))))))))))))))) .no) (.two (.draw (.take 0 (.take 2 (.eff 1 (.eff 3 (.eff 4 (.take 5 (.take 6 (.done))))))))) .no)))))
def head_Read.P (a0:Option Addr) (n0 c0:Nat) (w:World) (K:(Int×Int×Int×Int×Int×Int×Unit)×SlV×Int×Unit->World->Prop):Prop:=
 NewV #[.int .i64 0,.int .i64 0,.int .i64 0,.int .u32 0,.int .u64 0,.int .u64 0] 35 w λb1 w2=>
 cond (((n0:Nat):Int) != 88)
 (StoreV w2 ⟨b1,0,none⟩ [.int .i64 0,.int .i64 0,.int .i64 0,.int .u32 0,.int .u64 0,.int .u64 0] λw3=>
 LoadA w3 ⟨b1,0,none⟩ [.int .i64,.int .i64,.int .i64,.int .u32,.int .u64,.int .u64] λ(x4:Int×Int×Int×Int×Int×Int×Unit)=>
 K ((x4.1,x4.2.1,x4.2.2.1,x4.2.2.2.1,x4.2.2.2.2.1,x4.2.2.2.2.2.1,()),(⟨none,0,0⟩:SlV),(2:Int),()) w3)
 (DrawV λD5=>
 ((0:Int)<=(24:Int)/\(24:Int)<=((c0:Nat):Int)) /\
 SubK a0 0 c0 1 λa6=>
 ((0:Int)<=(48:Int)/\(48:Int)<=(80:Int)/\(80:Int)<=((c0:Nat):Int)) /\
 SubK a0 48 c0 1 λa7=>
 DrawV λD8=>
 (0<=(0:Int)/\0<((24-0:Nat):Int))/\∃ q9:Addr,a6=some q9 /\
 (D8 (q9.add (0*1)).block/\LoadS w2.drew.drew (q9.add (0*1)) (.int .u8) λ(x10:Int)=>
 (0<=(1:Int)/\1<((24-0:Nat):Int))/\∃ q11:Addr,a6=some q11 /\
 (D8 (q11.add (1*1)).block/\LoadS w2.drew.drew (q11.add (1*1)) (.int .u8) λ(x12:Int)=>
 (0<=(2:Int)/\2<((24-0:Nat):Int))/\∃ q13:Addr,a6=some q13 /\
 (D8 (q13.add (2*1)).block/\LoadS w2.drew.drew (q13.add (2*1)) (.int .u8) λ(x14:Int)=>
 ((0:Int)<=(4:Int)/\(4:Int)<=(8:Int)/\(8:Int)<=((c0-0:Nat):Int)) /\
 SubK a6 4 (c0-0) 1 λa15=>
 ((0:Int)<=(8:Int)/\(8:Int)<=(16:Int)/\(16:Int)<=((c0-0:Nat):Int)) /\
 SubK a6 8 (c0-0) 1 λa16=>
 ((0:Int)<=(16:Int)/\(16:Int)<=(24:Int)/\(24:Int)<=((c0-0:Nat):Int)) /\
 SubK a6 16 (c0-0) 1 λa17=>
 ((CallV Tryz.prog 114 #[.slice a15 (8-4) ((c0-0)-4)] w2.drew.drew [.one (.int .u64)] λ(r18:Int×Unit) w19=>
 KeepOn D8 w2.drew.drew w19 /\
 ((CallV Tryz.prog 114 #[.slice a16 (16-8) ((c0-0)-8)] w19 [.one (.int .u64)] λ(r20:Int×Unit) w21=>
 KeepOn D8 w2.drew.drew w21 /\
 ((CallV Tryz.prog 114 #[.slice a17 (24-16) ((c0-0)-16)] w21 [.one (.int .u64)] λ(r22:Int×Unit) w23=>
 KeepOn D8 w2.drew.drew w23 /\
 NewV #[.int .i64 0,.int .i64 0,.int .i64 0,.int .u32 0,.int .u64 0,.int .u64 0] 35 w23 λb24 w25=>
 KeepOn D8 w2.drew.drew w25 /\
 StoreV w25 ⟨b24,0,none⟩ [.int .i64 (IntKind.i64.wrap x10),.int .i64 (IntKind.i64.wrap x12),.int .i64 (IntKind.i64.wrap x14),.int .u32 (IntKind.u32.wrap r18.1),.int .u64 r20.1,.int .u64 r22.1] λw26=>
 KeepOn D8 w2.drew.drew w26 /\
 DrawV λD27=>
 ((0:Int)<=(24:Int)/\(24:Int)<=(48:Int)/\(48:Int)<=((c0:Nat):Int)) /\
 SubK a0 24 c0 1 λa28=>
 CallV Tryz.prog 116 #[.slice a6 (24-0) (c0-0)] w26.drew [.one .sl] λ(r29:SlV×Unit) w30=>
 KeepOn D27 w26.drew w30 /\
 CallV Tryz.prog 115 #[.slice r29.1.a r29.1.n r29.1.c,.slice a28 (48-24) (c0-24)] w30 [.one .bool] λ(r31:Bool×Unit) w32=>
 KeepOn D27 w26.drew w32 /\
 cond (!r31.1)
 (StoreV w32 ⟨b1,0,none⟩ [.int .i64 0,.int .i64 0,.int .i64 0,.int .u32 0,.int .u64 0,.int .u64 0] λw33=>
 LoadA w33 ⟨b1,0,none⟩ [.int .i64,.int .i64,.int .i64,.int .u32,.int .u64,.int .u64] λ(x34:Int×Int×Int×Int×Int×Int×Unit)=>
 K ((x34.1,x34.2.1,x34.2.2.1,x34.2.2.2.1,x34.2.2.2.2.1,x34.2.2.2.2.2.1,()),(⟨none,0,0⟩:SlV),(1:Int),()) w33)
 ((0<=(3:Int)/\3<((24-0:Nat):Int))/\∃ q35:Addr,a6=some q35 /\
 (D27 (q35.add (3*1)).block/\LoadS w26.drew (q35.add (3*1)) (.int .u8) λ(x36:Int)=>
 cond (x36 != 0)
 (StoreV w32 ⟨b1,0,none⟩ [.int .i64 0,.int .i64 0,.int .i64 0,.int .u32 0,.int .u64 0,.int .u64 0] λw37=>
 LoadA w37 ⟨b1,0,none⟩ [.int .i64,.int .i64,.int .i64,.int .u32,.int .u64,.int .u64] λ(x38:Int×Int×Int×Int×Int×Int×Unit)=>
 K ((x38.1,x38.2.1,x38.2.2.1,x38.2.2.2.1,x38.2.2.2.2.1,x38.2.2.2.2.2.1,()),(⟨none,0,0⟩:SlV),(1:Int),()) w37)
 ((D27 b24/\LoadS w26.drew ⟨b24,0,none⟩ (.int .i64) λ(x39:Int)=>
 cond (decide (x39<1))
 (StoreV w32 ⟨b1,0,none⟩ [.int .i64 0,.int .i64 0,.int .i64 0,.int .u32 0,.int .u64 0,.int .u64 0] λw40=>
 LoadA w40 ⟨b1,0,none⟩ [.int .i64,.int .i64,.int .i64,.int .u32,.int .u64,.int .u64] λ(x41:Int×Int×Int×Int×Int×Int×Unit)=>
 K ((x41.1,x41.2.1,x41.2.2.1,x41.2.2.2.1,x41.2.2.2.2.1,x41.2.2.2.2.2.1,()),(⟨none,0,0⟩:SlV),(1:Int),()) w40)
 ((D27 b24/\LoadS w26.drew ⟨b24,0,none⟩ (.int .i64) λ(x42:Int)=>
 cond (decide (x42>4))
 (StoreV w32 ⟨b1,0,none⟩ [.int .i64 0,.int .i64 0,.int .i64 0,.int .u32 0,.int .u64 0,.int .u64 0] λw43=>
 LoadA w43 ⟨b1,0,none⟩ [.int .i64,.int .i64,.int .i64,.int .u32,.int .u64,.int .u64] λ(x44:Int×Int×Int×Int×Int×Int×Unit)=>
 K ((x44.1,x44.2.1,x44.2.2.1,x44.2.2.2.1,x44.2.2.2.2.1,x44.2.2.2.2.2.1,()),(⟨none,0,0⟩:SlV),(1:Int),()) w43)
 (DrawV λD45=>
 (D45 b24/\LoadA w32.drew ⟨b24,0,none⟩ [.int .i64,.int .i64,.int .i64,.int .u32,.int .u64,.int .u64] λ(x46:Int×Int×Int×Int×Int×Int×Unit)=>
 NewV #[] 5 w32.drew λb47 w48=>
 KeepOn D45 w32.drew w48 /\
 AppS w48 a7 (80-48) 1 λns53=>
 AppV w48 5 1 1 (some ⟨b47,0,none⟩) 0 0 ns53 (80-48) λa49 n50 c51 w52=>
 KeepOn D45 w32.drew w52 /\
 StoreV w52 ⟨b1,0,none⟩ [.int .i64 x46.1,.int .i64 x46.2.1,.int .i64 x46.2.2.1,.int .u32 x46.2.2.2.1,.int .u64 x46.2.2.2.2.1,.int .u64 x46.2.2.2.2.2.1] λw54=>
 KeepOn D45 w32.drew w54 /\
 LoadA w54 ⟨b1,0,none⟩ [.int .i64,.int .i64,.int .i64,.int .u32,.int .u64,.int .u64] λ(x55:Int×Int×Int×Int×Int×Int×Unit)=>
 K ((x55.1,x55.2.1,x55.2.2.1,x55.2.2.2.1,x55.2.2.2.2.1,x55.2.2.2.2.2.1,()),(⟨a49,n50,c51⟩:SlV),(0:Int),()) w54))))))))) /\
 (NewV #[.int .i64 0,.int .i64 0,.int .i64 0,.int .u32 0,.int .u64 0,.int .u64 0] 35 w21 λb56 w57=>
 KeepOn D8 w2.drew.drew w57 /\
 CallV Tryz.prog 114 #[.slice a17 (24-16) ((c0-0)-16)] w57 [.one (.int .u64)] λ(r58:Int×Unit) w59=>
 KeepOn D8 w2.drew.drew w59 /\
 StoreV w59 ⟨b56,0,none⟩ [.int .i64 (IntKind.i64.wrap x10),.int .i64 (IntKind.i64.wrap x12),.int .i64 (IntKind.i64.wrap x14),.int .u32 (IntKind.u32.wrap r18.1),.int .u64 r20.1,.int .u64 r58.1] λw60=>
 KeepOn D8 w2.drew.drew w60 /\
 DrawV λD61=>
 ((0:Int)<=(24:Int)/\(24:Int)<=(48:Int)/\(48:Int)<=((c0:Nat):Int)) /\
 SubK a0 24 c0 1 λa62=>
 CallV Tryz.prog 116 #[.slice a6 (24-0) (c0-0)] w60.drew [.one .sl] λ(r63:SlV×Unit) w64=>
 KeepOn D61 w60.drew w64 /\
 CallV Tryz.prog 115 #[.slice r63.1.a r63.1.n r63.1.c,.slice a62 (48-24) (c0-24)] w64 [.one .bool] λ(r65:Bool×Unit) w66=>
 KeepOn D61 w60.drew w66 /\
 cond (!r65.1)
 (StoreV w66 ⟨b1,0,none⟩ [.int .i64 0,.int .i64 0,.int .i64 0,.int .u32 0,.int .u64 0,.int .u64 0] λw67=>
 LoadA w67 ⟨b1,0,none⟩ [.int .i64,.int .i64,.int .i64,.int .u32,.int .u64,.int .u64] λ(x68:Int×Int×Int×Int×Int×Int×Unit)=>
 K ((x68.1,x68.2.1,x68.2.2.1,x68.2.2.2.1,x68.2.2.2.2.1,x68.2.2.2.2.2.1,()),(⟨none,0,0⟩:SlV),(1:Int),()) w67)
 ((0<=(3:Int)/\3<((24-0:Nat):Int))/\∃ q69:Addr,a6=some q69 /\
 (D61 (q69.add (3*1)).block/\LoadS w60.drew (q69.add (3*1)) (.int .u8) λ(x70:Int)=>
 cond (x70 != 0)
 (StoreV w66 ⟨b1,0,none⟩ [.int .i64 0,.int .i64 0,.int .i64 0,.int .u32 0,.int .u64 0,.int .u64 0] λw71=>
 LoadA w71 ⟨b1,0,none⟩ [.int .i64,.int .i64,.int .i64,.int .u32,.int .u64,.int .u64] λ(x72:Int×Int×Int×Int×Int×Int×Unit)=>
 K ((x72.1,x72.2.1,x72.2.2.1,x72.2.2.2.1,x72.2.2.2.2.1,x72.2.2.2.2.2.1,()),(⟨none,0,0⟩:SlV),(1:Int),()) w71)
 ((D61 b56/\LoadS w60.drew ⟨b56,0,none⟩ (.int .i64) λ(x73:Int)=>
 cond (decide (x73<1))
 (StoreV w66 ⟨b1,0,none⟩ [.int .i64 0,.int .i64 0,.int .i64 0,.int .u32 0,.int .u64 0,.int .u64 0] λw74=>
 LoadA w74 ⟨b1,0,none⟩ [.int .i64,.int .i64,.int .i64,.int .u32,.int .u64,.int .u64] λ(x75:Int×Int×Int×Int×Int×Int×Unit)=>
 K ((x75.1,x75.2.1,x75.2.2.1,x75.2.2.2.1,x75.2.2.2.2.1,x75.2.2.2.2.2.1,()),(⟨none,0,0⟩:SlV),(1:Int),()) w74)
 ((D61 b56/\LoadS w60.drew ⟨b56,0,none⟩ (.int .i64) λ(x76:Int)=>
 cond (decide (x76>4))
 (StoreV w66 ⟨b1,0,none⟩ [.int .i64 0,.int .i64 0,.int .i64 0,.int .u32 0,.int .u64 0,.int .u64 0] λw77=>
 LoadA w77 ⟨b1,0,none⟩ [.int .i64,.int .i64,.int .i64,.int .u32,.int .u64,.int .u64] λ(x78:Int×Int×Int×Int×Int×Int×Unit)=>
 K ((x78.1,x78.2.1,x78.2.2.1,x78.2.2.2.1,x78.2.2.2.2.1,x78.2.2.2.2.2.1,()),(⟨none,0,0⟩:SlV),(1:Int),()) w77)
 (DrawV λD79=>
 (D79 b56/\LoadA w66.drew ⟨b56,0,none⟩ [.int .i64,.int .i64,.int .i64,.int .u32,.int .u64,.int .u64] λ(x80:Int×Int×Int×Int×Int×Int×Unit)=>
 NewV #[] 5 w66.drew λb81 w82=>
 KeepOn D79 w66.drew w82 /\
 AppS w82 a7 (80-48) 1 λns87=>
 AppV w82 5 1 1 (some ⟨b81,0,none⟩) 0 0 ns87 (80-48) λa83 n84 c85 w86=>
 KeepOn D79 w66.drew w86 /\
 StoreV w86 ⟨b1,0,none⟩ [.int .i64 x80.1,.int .i64 x80.2.1,.int .i64 x80.2.2.1,.int .u32 x80.2.2.2.1,.int .u64 x80.2.2.2.2.1,.int .u64 x80.2.2.2.2.2.1] λw88=>
 KeepOn D79 w66.drew w88 /\
 LoadA w88 ⟨b1,0,none⟩ [.int .i64,.int .i64,.int .i64,.int .u32,.int .u64,.int .u64] λ(x89:Int×Int×Int×Int×Int×Int×Unit)=>
 K ((x89.1,x89.2.1,x89.2.2.1,x89.2.2.2.1,x89.2.2.2.2.1,x89.2.2.2.2.2.1,()),(⟨a83,n84,c85⟩:SlV),(0:Int),()) w88))))))))))) /\
 (NewV #[.int .i64 0,.int .i64 0,.int .i64 0,.int .u32 0,.int .u64 0,.int .u64 0] 35 w19 λb90 w91=>
 KeepOn D8 w2.drew.drew w91 /\
 CallV Tryz.prog 114 #[.slice a16 (16-8) ((c0-0)-8)] w91 [.one (.int .u64)] λ(r92:Int×Unit) w93=>
 KeepOn D8 w2.drew.drew w93 /\
 CallV Tryz.prog 114 #[.slice a17 (24-16) ((c0-0)-16)] w93 [.one (.int .u64)] λ(r94:Int×Unit) w95=>
 KeepOn D8 w2.drew.drew w95 /\
 StoreV w95 ⟨b90,0,none⟩ [.int .i64 (IntKind.i64.wrap x10),.int .i64 (IntKind.i64.wrap x12),.int .i64 (IntKind.i64.wrap x14),.int .u32 (IntKind.u32.wrap r18.1),.int .u64 r92.1,.int .u64 r94.1] λw96=>
 KeepOn D8 w2.drew.drew w96 /\
 DrawV λD97=>
 ((0:Int)<=(24:Int)/\(24:Int)<=(48:Int)/\(48:Int)<=((c0:Nat):Int)) /\
 SubK a0 24 c0 1 λa98=>
 CallV Tryz.prog 116 #[.slice a6 (24-0) (c0-0)] w96.drew [.one .sl] λ(r99:SlV×Unit) w100=>
 KeepOn D97 w96.drew w100 /\
 CallV Tryz.prog 115 #[.slice r99.1.a r99.1.n r99.1.c,.slice a98 (48-24) (c0-24)] w100 [.one .bool] λ(r101:Bool×Unit) w102=>
 KeepOn D97 w96.drew w102 /\
 cond (!r101.1)
 (StoreV w102 ⟨b1,0,none⟩ [.int .i64 0,.int .i64 0,.int .i64 0,.int .u32 0,.int .u64 0,.int .u64 0] λw103=>
 LoadA w103 ⟨b1,0,none⟩ [.int .i64,.int .i64,.int .i64,.int .u32,.int .u64,.int .u64] λ(x104:Int×Int×Int×Int×Int×Int×Unit)=>
 K ((x104.1,x104.2.1,x104.2.2.1,x104.2.2.2.1,x104.2.2.2.2.1,x104.2.2.2.2.2.1,()),(⟨none,0,0⟩:SlV),(1:Int),()) w103)
 ((0<=(3:Int)/\3<((24-0:Nat):Int))/\∃ q105:Addr,a6=some q105 /\
 (D97 (q105.add (3*1)).block/\LoadS w96.drew (q105.add (3*1)) (.int .u8) λ(x106:Int)=>
 cond (x106 != 0)
 (StoreV w102 ⟨b1,0,none⟩ [.int .i64 0,.int .i64 0,.int .i64 0,.int .u32 0,.int .u64 0,.int .u64 0] λw107=>
 LoadA w107 ⟨b1,0,none⟩ [.int .i64,.int .i64,.int .i64,.int .u32,.int .u64,.int .u64] λ(x108:Int×Int×Int×Int×Int×Int×Unit)=>
 K ((x108.1,x108.2.1,x108.2.2.1,x108.2.2.2.1,x108.2.2.2.2.1,x108.2.2.2.2.2.1,()),(⟨none,0,0⟩:SlV),(1:Int),()) w107)
 ((D97 b90/\LoadS w96.drew ⟨b90,0,none⟩ (.int .i64) λ(x109:Int)=>
 cond (decide (x109<1))
 (StoreV w102 ⟨b1,0,none⟩ [.int .i64 0,.int .i64 0,.int .i64 0,.int .u32 0,.int .u64 0,.int .u64 0] λw110=>
 LoadA w110 ⟨b1,0,none⟩ [.int .i64,.int .i64,.int .i64,.int .u32,.int .u64,.int .u64] λ(x111:Int×Int×Int×Int×Int×Int×Unit)=>
 K ((x111.1,x111.2.1,x111.2.2.1,x111.2.2.2.1,x111.2.2.2.2.1,x111.2.2.2.2.2.1,()),(⟨none,0,0⟩:SlV),(1:Int),()) w110)
 ((D97 b90/\LoadS w96.drew ⟨b90,0,none⟩ (.int .i64) λ(x112:Int)=>
 cond (decide (x112>4))
 (StoreV w102 ⟨b1,0,none⟩ [.int .i64 0,.int .i64 0,.int .i64 0,.int .u32 0,.int .u64 0,.int .u64 0] λw113=>
 LoadA w113 ⟨b1,0,none⟩ [.int .i64,.int .i64,.int .i64,.int .u32,.int .u64,.int .u64] λ(x114:Int×Int×Int×Int×Int×Int×Unit)=>
 K ((x114.1,x114.2.1,x114.2.2.1,x114.2.2.2.1,x114.2.2.2.2.1,x114.2.2.2.2.2.1,()),(⟨none,0,0⟩:SlV),(1:Int),()) w113)
 (DrawV λD115=>
 (D115 b90/\LoadA w102.drew ⟨b90,0,none⟩ [.int .i64,.int .i64,.int .i64,.int .u32,.int .u64,.int .u64] λ(x116:Int×Int×Int×Int×Int×Int×Unit)=>
 NewV #[] 5 w102.drew λb117 w118=>
 KeepOn D115 w102.drew w118 /\
 AppS w118 a7 (80-48) 1 λns123=>
 AppV w118 5 1 1 (some ⟨b117,0,none⟩) 0 0 ns123 (80-48) λa119 n120 c121 w122=>
 KeepOn D115 w102.drew w122 /\
 StoreV w122 ⟨b1,0,none⟩ [.int .i64 x116.1,.int .i64 x116.2.1,.int .i64 x116.2.2.1,.int .u32 x116.2.2.2.1,.int .u64 x116.2.2.2.2.1,.int .u64 x116.2.2.2.2.2.1] λw124=>
 KeepOn D115 w102.drew w124 /\
 LoadA w124 ⟨b1,0,none⟩ [.int .i64,.int .i64,.int .i64,.int .u32,.int .u64,.int .u64] λ(x125:Int×Int×Int×Int×Int×Int×Unit)=>
 K ((x125.1,x125.2.1,x125.2.2.1,x125.2.2.2.1,x125.2.2.2.2.1,x125.2.2.2.2.2.1,()),(⟨a119,n120,c121⟩:SlV),(0:Int),()) w124))))))))))) /\
 (NewV #[.int .i64 0,.int .i64 0,.int .i64 0,.int .u32 0,.int .u64 0,.int .u64 0] 35 w2.drew.drew λb126 w127=>
 KeepOn D8 w2.drew.drew w127 /\
 CallV Tryz.prog 114 #[.slice a15 (8-4) ((c0-0)-4)] w127 [.one (.int .u64)] λ(r128:Int×Unit) w129=>
 KeepOn D8 w2.drew.drew w129 /\
 CallV Tryz.prog 114 #[.slice a16 (16-8) ((c0-0)-8)] w129 [.one (.int .u64)] λ(r130:Int×Unit) w131=>
 KeepOn D8 w2.drew.drew w131 /\
 CallV Tryz.prog 114 #[.slice a17 (24-16) ((c0-0)-16)] w131 [.one (.int .u64)] λ(r132:Int×Unit) w133=>
 KeepOn D8 w2.drew.drew w133 /\
 StoreV w133 ⟨b126,0,none⟩ [.int .i64 (IntKind.i64.wrap x10),.int .i64 (IntKind.i64.wrap x12),.int .i64 (IntKind.i64.wrap x14),.int .u32 (IntKind.u32.wrap r128.1),.int .u64 r130.1,.int .u64 r132.1] λw134=>
 KeepOn D8 w2.drew.drew w134 /\
 DrawV λD135=>
 ((0:Int)<=(24:Int)/\(24:Int)<=(48:Int)/\(48:Int)<=((c0:Nat):Int)) /\
 SubK a0 24 c0 1 λa136=>
 CallV Tryz.prog 116 #[.slice a6 (24-0) (c0-0)] w134.drew [.one .sl] λ(r137:SlV×Unit) w138=>
 KeepOn D135 w134.drew w138 /\
 CallV Tryz.prog 115 #[.slice r137.1.a r137.1.n r137.1.c,.slice a136 (48-24) (c0-24)] w138 [.one .bool] λ(r139:Bool×Unit) w140=>
 KeepOn D135 w134.drew w140 /\
 cond (!r139.1)
 (StoreV w140 ⟨b1,0,none⟩ [.int .i64 0,.int .i64 0,.int .i64 0,.int .u32 0,.int .u64 0,.int .u64 0] λw141=>
 LoadA w141 ⟨b1,0,none⟩ [.int .i64,.int .i64,.int .i64,.int .u32,.int .u64,.int .u64] λ(x142:Int×Int×Int×Int×Int×Int×Unit)=>
 K ((x142.1,x142.2.1,x142.2.2.1,x142.2.2.2.1,x142.2.2.2.2.1,x142.2.2.2.2.2.1,()),(⟨none,0,0⟩:SlV),(1:Int),()) w141)
 ((0<=(3:Int)/\3<((24-0:Nat):Int))/\∃ q143:Addr,a6=some q143 /\
 (D135 (q143.add (3*1)).block/\LoadS w134.drew (q143.add (3*1)) (.int .u8) λ(x144:Int)=>
 cond (x144 != 0)
 (StoreV w140 ⟨b1,0,none⟩ [.int .i64 0,.int .i64 0,.int .i64 0,.int .u32 0,.int .u64 0,.int .u64 0] λw145=>
 LoadA w145 ⟨b1,0,none⟩ [.int .i64,.int .i64,.int .i64,.int .u32,.int .u64,.int .u64] λ(x146:Int×Int×Int×Int×Int×Int×Unit)=>
 K ((x146.1,x146.2.1,x146.2.2.1,x146.2.2.2.1,x146.2.2.2.2.1,x146.2.2.2.2.2.1,()),(⟨none,0,0⟩:SlV),(1:Int),()) w145)
 ((D135 b126/\LoadS w134.drew ⟨b126,0,none⟩ (.int .i64) λ(x147:Int)=>
 cond (decide (x147<1))
 (StoreV w140 ⟨b1,0,none⟩ [.int .i64 0,.int .i64 0,.int .i64 0,.int .u32 0,.int .u64 0,.int .u64 0] λw148=>
 LoadA w148 ⟨b1,0,none⟩ [.int .i64,.int .i64,.int .i64,.int .u32,.int .u64,.int .u64] λ(x149:Int×Int×Int×Int×Int×Int×Unit)=>
 K ((x149.1,x149.2.1,x149.2.2.1,x149.2.2.2.1,x149.2.2.2.2.1,x149.2.2.2.2.2.1,()),(⟨none,0,0⟩:SlV),(1:Int),()) w148)
 ((D135 b126/\LoadS w134.drew ⟨b126,0,none⟩ (.int .i64) λ(x150:Int)=>
 cond (decide (x150>4))
 (StoreV w140 ⟨b1,0,none⟩ [.int .i64 0,.int .i64 0,.int .i64 0,.int .u32 0,.int .u64 0,.int .u64 0] λw151=>
 LoadA w151 ⟨b1,0,none⟩ [.int .i64,.int .i64,.int .i64,.int .u32,.int .u64,.int .u64] λ(x152:Int×Int×Int×Int×Int×Int×Unit)=>
 K ((x152.1,x152.2.1,x152.2.2.1,x152.2.2.2.1,x152.2.2.2.2.1,x152.2.2.2.2.2.1,()),(⟨none,0,0⟩:SlV),(1:Int),()) w151)
 (DrawV λD153=>
 (D153 b126/\LoadA w140.drew ⟨b126,0,none⟩ [.int .i64,.int .i64,.int .i64,.int .u32,.int .u64,.int .u64] λ(x154:Int×Int×Int×Int×Int×Int×Unit)=>
 NewV #[] 5 w140.drew λb155 w156=>
 KeepOn D153 w140.drew w156 /\
 AppS w156 a7 (80-48) 1 λns161=>
 AppV w156 5 1 1 (some ⟨b155,0,none⟩) 0 0 ns161 (80-48) λa157 n158 c159 w160=>
 KeepOn D153 w140.drew w160 /\
 StoreV w160 ⟨b1,0,none⟩ [.int .i64 x154.1,.int .i64 x154.2.1,.int .i64 x154.2.2.1,.int .u32 x154.2.2.2.1,.int .u64 x154.2.2.2.2.1,.int .u64 x154.2.2.2.2.2.1] λw162=>
 KeepOn D153 w140.drew w162 /\
 LoadA w162 ⟨b1,0,none⟩ [.int .i64,.int .i64,.int .i64,.int .u32,.int .u64,.int .u64] λ(x163:Int×Int×Int×Int×Int×Int×Unit)=>
 K ((x163.1,x163.2.1,x163.2.2.1,x163.2.2.2.1,x163.2.2.2.2.1,x163.2.2.2.2.2.1,()),(⟨a157,n158,c159⟩:SlV),(0:Int),()) w162))))))))))))))
theorem head_Read.vc (a0:Option Addr) (n0 c0:Nat) (w:World) (K:(Int×Int×Int×Int×Int×Int×Unit)×SlV×Int×Unit->World->Prop) (h:head_Read.P a0 n0 c0 w K):CallV Tryz.prog 83 #[.slice a0 n0 c0] w [.agg [.int .i64,.int .i64,.int .i64,.int .u32,.int .u64,.int .u64],.one .sl,.one (.int .i64)] K:=by
 refine vcFun.of (A:=head_Read.A) (wr:=false) okf_ok follows h Tryz.func83 ?_
 kernel_rfl
def head_Committed.A:Ann:=.two .no (.two (.draw (.take 0 (.take 1 (.take 2 (.take 3 (.take 4 (.take 5 (.eff 6 (.eff 7 (.take 8 (.take 9 (.done)))))))))))) .no)
def head_Committed.P (a0:Option Addr) (n0 c0:Nat) (w:World) (K:Bool×Unit->World->Prop):Prop:=
 DrawV λD1=>
 cond (((n0:Nat):Int) == 88)
 (((0:Int)<=(80:Int)/\(80:Int)<=((n0:Nat):Int)) /\
 SubK a0 80 c0 1 λa2=>
 CallV Tryz.prog 117 #[.int .u8 0,.int .i64 8] w.drew [.one .sl] λ(r3:SlV×Unit) w4=>
 KeepOn D1 w.drew w4 /\
 CallV Tryz.prog 115 #[.slice a2 (n0-80) (c0-80),.slice r3.1.a r3.1.n r3.1.c] w4 [.one .bool] λ(r5:Bool×Unit) w6=>
 KeepOn D1 w.drew w6 /\
 K (r5.1,()) w6)
 (K (false,()) w.drew)
theorem head_Committed.vc (a0:Option Addr) (n0 c0:Nat) (w:World) (K:Bool×Unit->World->Prop) (h:head_Committed.P a0 n0 c0 w K):CallV Tryz.prog 84 #[.slice a0 n0 c0] w [.one .bool] K:=by
 refine vcFun.of (A:=head_Committed.A) (wr:=false) okf_ok follows h Tryz.func84 ?_
 kernel_rfl
def ref14_Committed.A:Ann:=.two .no (.two (.draw (.take 0 (.take 1 (.eff 2 (.eff 3 (.take 4 (.done))))))) .no)
def ref14_Committed.P (a0:Option Addr) (n0 c0:Nat) (w:World) (K:Bool×Unit->World->Prop):Prop:=
 DrawV λD1=>
 ((0:Int)<=(80:Int)/\(80:Int)<=((n0:Nat):Int)) /\
 SubK a0 80 c0 1 λa2=>
 CallV Tryz.prog 86 #[.int .u8 0,.int .i64 8] w.drew [.one .sl] λ(r3:SlV×Unit) w4=>
 KeepOn D1 w.drew w4 /\
 CallV Tryz.prog 102 #[.slice a2 (n0-80) (c0-80),.slice r3.1.a r3.1.n r3.1.c] w4 [.one .bool] λ(r5:Bool×Unit) w6=>
 KeepOn D1 w.drew w6 /\
 K (r5.1,()) w6
theorem ref14_Committed.vc (a0:Option Addr) (n0 c0:Nat) (w:World) (K:Bool×Unit->World->Prop) (h:ref14_Committed.P a0 n0 c0 w K):CallV Tryz.prog 64 #[.slice a0 n0 c0] w [.one .bool] K:=by
 refine vcFun.of (A:=ref14_Committed.A) (wr:=false) okf_ok follows h Tryz.func64 ?_
 kernel_rfl
def ref14_Read.A:Ann:=.two .no (.two (.draw (.take 0 (.take 1 (.take 2 (.take 3 (.take 4 (.take 5 (.take 6 (.take 7 (.take 8 (.take 9 (.take 10 (.take 11 (.take 12 (.take 13 (.take 16 (.take 17 (.take 19 (.take 20 (.both 14 (.take 15 (.both 18 (.both 21 (.take 22 (.eff 23 (.eff 24 (.done)))) 23 (.eff 21 (.take 22 (.eff 24 (.done))))) 23 (.eff 18 (.eff 21 (.take 22 (.eff 24 (.done))))))) 23 (.eff 14 (.take 15 (.eff 18 (.eff 21 (.take 22 (.eff 24 (.done))))))))))))))))))))))))))) (.two .no (.two (.two (.draw (.take 0 (.take 2 (.take 6 (.take 7 (.eff 1 (.eff 3 (.eff 4 (.eff 5 (.eff 8 (.take 9 (.done)))))))))))) .no) .no)))
def ref14_Read.P (a0:Option Addr) (n0 c0:Nat) (w:World) (K:(Int×Int×Int×Int×Int×Int×Unit)×Bool×Unit->World->Prop):Prop:=
 NewV #[.int .i64 0,.int .i64 0,.int .i64 0,.int .u32 0,.int .u64 0,.int .u64 0] 35 w λb1 w2=>
 DrawV λD3=>
 (0<=(0:Int)/\0<((n0:Nat):Int))/\∃ q4:Addr,a0=some q4 /\
 (D3 (q4.add (0*1)).block/\LoadS w2.drew (q4.add (0*1)) (.int .u8) λ(x5:Int)=>
 (0<=(1:Int)/\1<((n0:Nat):Int))/\∃ q6:Addr,a0=some q6 /\
 (D3 (q6.add (1*1)).block/\LoadS w2.drew (q6.add (1*1)) (.int .u8) λ(x7:Int)=>
 (0<=(2:Int)/\2<((n0:Nat):Int))/\∃ q8:Addr,a0=some q8 /\
 (D3 (q8.add (2*1)).block/\LoadS w2.drew (q8.add (2*1)) (.int .u8) λ(x9:Int)=>
 ((0:Int)<=(4:Int)/\(4:Int)<=(8:Int)/\(8:Int)<=((c0:Nat):Int)) /\
 SubK a0 4 c0 1 λa10=>
 ((0:Int)<=(8:Int)/\(8:Int)<=(16:Int)/\(16:Int)<=((c0:Nat):Int)) /\
 SubK a0 8 c0 1 λa11=>
 ((0:Int)<=(16:Int)/\(16:Int)<=(24:Int)/\(24:Int)<=((c0:Nat):Int)) /\
 SubK a0 16 c0 1 λa12=>
 ((CallV Tryz.prog 101 #[.slice a10 (8-4) (c0-4)] w2.drew [.one (.int .u64)] λ(r13:Int×Unit) w14=>
 KeepOn D3 w2.drew w14 /\
 ((CallV Tryz.prog 101 #[.slice a11 (16-8) (c0-8)] w14 [.one (.int .u64)] λ(r15:Int×Unit) w16=>
 KeepOn D3 w2.drew w16 /\
 ((CallV Tryz.prog 101 #[.slice a12 (24-16) (c0-16)] w16 [.one (.int .u64)] λ(r17:Int×Unit) w18=>
 KeepOn D3 w2.drew w18 /\
 NewV #[.int .i64 0,.int .i64 0,.int .i64 0,.int .u32 0,.int .u64 0,.int .u64 0] 35 w18 λb19 w20=>
 KeepOn D3 w2.drew w20 /\
 StoreV w20 ⟨b19,0,none⟩ [.int .i64 (IntKind.i64.wrap x5),.int .i64 (IntKind.i64.wrap x7),.int .i64 (IntKind.i64.wrap x9),.int .u32 (IntKind.u32.wrap r13.1),.int .u64 r15.1,.int .u64 r17.1] λw21=>
 KeepOn D3 w2.drew w21 /\
 LoadA w21 ⟨b19,0,none⟩ [.int .i64,.int .i64,.int .i64,.int .u32,.int .u64,.int .u64] λ(x22:Int×Int×Int×Int×Int×Int×Unit)=>
 CallV Tryz.prog 11 #[.agg #[.int .i64 x22.1,.int .i64 x22.2.1,.int .i64 x22.2.2.1,.int .u32 x22.2.2.2.1,.int .u64 x22.2.2.2.2.1,.int .u64 x22.2.2.2.2.2.1]] w21 [.one .bool] λ(r23:Bool×Unit) w24=>
 cond (!r23.1)
 (StoreV w24 ⟨b1,0,none⟩ [.int .i64 0,.int .i64 0,.int .i64 0,.int .u32 0,.int .u64 0,.int .u64 0] λw25=>
 LoadA w25 ⟨b1,0,none⟩ [.int .i64,.int .i64,.int .i64,.int .u32,.int .u64,.int .u64] λ(x26:Int×Int×Int×Int×Int×Int×Unit)=>
 K ((x26.1,x26.2.1,x26.2.2.1,x26.2.2.2.1,x26.2.2.2.2.1,x26.2.2.2.2.2.1,()),false,()) w25)
 (DrawV λD27=>
 (D27 b19/\LoadA w24.drew ⟨b19,0,none⟩ [.int .i64,.int .i64,.int .i64,.int .u32,.int .u64,.int .u64] λ(x28:Int×Int×Int×Int×Int×Int×Unit)=>
 (D27 b19/\LoadA w24.drew ⟨b19,0,none⟩ [.int .i64,.int .i64,.int .i64,.int .u32,.int .u64,.int .u64] λ(x29:Int×Int×Int×Int×Int×Int×Unit)=>
 ((0:Int)<=(48:Int)/\(48:Int)<=((c0:Nat):Int)) /\
 SubK a0 0 c0 1 λa30=>
 CallV Tryz.prog 103 #[.agg #[.int .i64 x28.1,.int .i64 x28.2.1,.int .i64 x28.2.2.1,.int .u32 x28.2.2.2.1,.int .u64 x28.2.2.2.2.1,.int .u64 x28.2.2.2.2.2.1]] w24.drew [.one .sl] λ(r31:SlV×Unit) w32=>
 KeepOn D27 w24.drew w32 /\
 CallV Tryz.prog 103 #[.agg #[.int .i64 x29.1,.int .i64 x29.2.1,.int .i64 x29.2.2.1,.int .u32 x29.2.2.2.1,.int .u64 x29.2.2.2.2.1,.int .u64 x29.2.2.2.2.2.1]] w32 [.one .sl] λ(r33:SlV×Unit) w34=>
 KeepOn D27 w24.drew w34 /\
 CallV Tryz.prog 104 #[.slice r33.1.a r33.1.n r33.1.c] w34 [.one .sl] λ(r35:SlV×Unit) w36=>
 KeepOn D27 w24.drew w36 /\
 AppS w36 r35.1.a r35.1.n 1 λns41=>
 AppV w36 5 1 1 r31.1.a r31.1.n r31.1.c ns41 r35.1.n λa37 n38 c39 w40=>
 KeepOn D27 w24.drew w40 /\
 CallV Tryz.prog 102 #[.slice a37 n38 c39,.slice a30 (48-0) (c0-0)] w40 [.one .bool] λ(r42:Bool×Unit) w43=>
 KeepOn D27 w24.drew w43 /\
 cond (!r42.1)
 (StoreV w43 ⟨b1,0,none⟩ [.int .i64 0,.int .i64 0,.int .i64 0,.int .u32 0,.int .u64 0,.int .u64 0] λw44=>
 LoadA w44 ⟨b1,0,none⟩ [.int .i64,.int .i64,.int .i64,.int .u32,.int .u64,.int .u64] λ(x45:Int×Int×Int×Int×Int×Int×Unit)=>
 K ((x45.1,x45.2.1,x45.2.2.1,x45.2.2.2.1,x45.2.2.2.2.1,x45.2.2.2.2.2.1,()),false,()) w44)
 (LoadA w43 ⟨b19,0,none⟩ [.int .i64,.int .i64,.int .i64,.int .u32,.int .u64,.int .u64] λ(x46:Int×Int×Int×Int×Int×Int×Unit)=>
 StoreV w43 ⟨b1,0,none⟩ [.int .i64 x46.1,.int .i64 x46.2.1,.int .i64 x46.2.2.1,.int .u32 x46.2.2.2.1,.int .u64 x46.2.2.2.2.1,.int .u64 x46.2.2.2.2.2.1] λw47=>
 LoadA w47 ⟨b1,0,none⟩ [.int .i64,.int .i64,.int .i64,.int .u32,.int .u64,.int .u64] λ(x48:Int×Int×Int×Int×Int×Int×Unit)=>
 K ((x48.1,x48.2.1,x48.2.2.1,x48.2.2.2.1,x48.2.2.2.2.1,x48.2.2.2.2.2.1,()),true,()) w47))))) /\
 (NewV #[.int .i64 0,.int .i64 0,.int .i64 0,.int .u32 0,.int .u64 0,.int .u64 0] 35 w16 λb49 w50=>
 KeepOn D3 w2.drew w50 /\
 CallV Tryz.prog 101 #[.slice a12 (24-16) (c0-16)] w50 [.one (.int .u64)] λ(r51:Int×Unit) w52=>
 KeepOn D3 w2.drew w52 /\
 StoreV w52 ⟨b49,0,none⟩ [.int .i64 (IntKind.i64.wrap x5),.int .i64 (IntKind.i64.wrap x7),.int .i64 (IntKind.i64.wrap x9),.int .u32 (IntKind.u32.wrap r13.1),.int .u64 r15.1,.int .u64 r51.1] λw53=>
 KeepOn D3 w2.drew w53 /\
 LoadA w53 ⟨b49,0,none⟩ [.int .i64,.int .i64,.int .i64,.int .u32,.int .u64,.int .u64] λ(x54:Int×Int×Int×Int×Int×Int×Unit)=>
 CallV Tryz.prog 11 #[.agg #[.int .i64 x54.1,.int .i64 x54.2.1,.int .i64 x54.2.2.1,.int .u32 x54.2.2.2.1,.int .u64 x54.2.2.2.2.1,.int .u64 x54.2.2.2.2.2.1]] w53 [.one .bool] λ(r55:Bool×Unit) w56=>
 cond (!r55.1)
 (StoreV w56 ⟨b1,0,none⟩ [.int .i64 0,.int .i64 0,.int .i64 0,.int .u32 0,.int .u64 0,.int .u64 0] λw57=>
 LoadA w57 ⟨b1,0,none⟩ [.int .i64,.int .i64,.int .i64,.int .u32,.int .u64,.int .u64] λ(x58:Int×Int×Int×Int×Int×Int×Unit)=>
 K ((x58.1,x58.2.1,x58.2.2.1,x58.2.2.2.1,x58.2.2.2.2.1,x58.2.2.2.2.2.1,()),false,()) w57)
 (DrawV λD59=>
 (D59 b49/\LoadA w56.drew ⟨b49,0,none⟩ [.int .i64,.int .i64,.int .i64,.int .u32,.int .u64,.int .u64] λ(x60:Int×Int×Int×Int×Int×Int×Unit)=>
 (D59 b49/\LoadA w56.drew ⟨b49,0,none⟩ [.int .i64,.int .i64,.int .i64,.int .u32,.int .u64,.int .u64] λ(x61:Int×Int×Int×Int×Int×Int×Unit)=>
 ((0:Int)<=(48:Int)/\(48:Int)<=((c0:Nat):Int)) /\
 SubK a0 0 c0 1 λa62=>
 CallV Tryz.prog 103 #[.agg #[.int .i64 x60.1,.int .i64 x60.2.1,.int .i64 x60.2.2.1,.int .u32 x60.2.2.2.1,.int .u64 x60.2.2.2.2.1,.int .u64 x60.2.2.2.2.2.1]] w56.drew [.one .sl] λ(r63:SlV×Unit) w64=>
 KeepOn D59 w56.drew w64 /\
 CallV Tryz.prog 103 #[.agg #[.int .i64 x61.1,.int .i64 x61.2.1,.int .i64 x61.2.2.1,.int .u32 x61.2.2.2.1,.int .u64 x61.2.2.2.2.1,.int .u64 x61.2.2.2.2.2.1]] w64 [.one .sl] λ(r65:SlV×Unit) w66=>
 KeepOn D59 w56.drew w66 /\
 CallV Tryz.prog 104 #[.slice r65.1.a r65.1.n r65.1.c] w66 [.one .sl] λ(r67:SlV×Unit) w68=>
 KeepOn D59 w56.drew w68 /\
 AppS w68 r67.1.a r67.1.n 1 λns73=>
 AppV w68 5 1 1 r63.1.a r63.1.n r63.1.c ns73 r67.1.n λa69 n70 c71 w72=>
 KeepOn D59 w56.drew w72 /\
 CallV Tryz.prog 102 #[.slice a69 n70 c71,.slice a62 (48-0) (c0-0)] w72 [.one .bool] λ(r74:Bool×Unit) w75=>
 KeepOn D59 w56.drew w75 /\
 cond (!r74.1)
 (StoreV w75 ⟨b1,0,none⟩ [.int .i64 0,.int .i64 0,.int .i64 0,.int .u32 0,.int .u64 0,.int .u64 0] λw76=>
 LoadA w76 ⟨b1,0,none⟩ [.int .i64,.int .i64,.int .i64,.int .u32,.int .u64,.int .u64] λ(x77:Int×Int×Int×Int×Int×Int×Unit)=>
 K ((x77.1,x77.2.1,x77.2.2.1,x77.2.2.2.1,x77.2.2.2.2.1,x77.2.2.2.2.2.1,()),false,()) w76)
 (LoadA w75 ⟨b49,0,none⟩ [.int .i64,.int .i64,.int .i64,.int .u32,.int .u64,.int .u64] λ(x78:Int×Int×Int×Int×Int×Int×Unit)=>
 StoreV w75 ⟨b1,0,none⟩ [.int .i64 x78.1,.int .i64 x78.2.1,.int .i64 x78.2.2.1,.int .u32 x78.2.2.2.1,.int .u64 x78.2.2.2.2.1,.int .u64 x78.2.2.2.2.2.1] λw79=>
 LoadA w79 ⟨b1,0,none⟩ [.int .i64,.int .i64,.int .i64,.int .u32,.int .u64,.int .u64] λ(x80:Int×Int×Int×Int×Int×Int×Unit)=>
 K ((x80.1,x80.2.1,x80.2.2.1,x80.2.2.2.1,x80.2.2.2.2.1,x80.2.2.2.2.2.1,()),true,()) w79))))))) /\
 (NewV #[.int .i64 0,.int .i64 0,.int .i64 0,.int .u32 0,.int .u64 0,.int .u64 0] 35 w14 λb81 w82=>
 KeepOn D3 w2.drew w82 /\
 CallV Tryz.prog 101 #[.slice a11 (16-8) (c0-8)] w82 [.one (.int .u64)] λ(r83:Int×Unit) w84=>
 KeepOn D3 w2.drew w84 /\
 CallV Tryz.prog 101 #[.slice a12 (24-16) (c0-16)] w84 [.one (.int .u64)] λ(r85:Int×Unit) w86=>
 KeepOn D3 w2.drew w86 /\
 StoreV w86 ⟨b81,0,none⟩ [.int .i64 (IntKind.i64.wrap x5),.int .i64 (IntKind.i64.wrap x7),.int .i64 (IntKind.i64.wrap x9),.int .u32 (IntKind.u32.wrap r13.1),.int .u64 r83.1,.int .u64 r85.1] λw87=>
 KeepOn D3 w2.drew w87 /\
 LoadA w87 ⟨b81,0,none⟩ [.int .i64,.int .i64,.int .i64,.int .u32,.int .u64,.int .u64] λ(x88:Int×Int×Int×Int×Int×Int×Unit)=>
 CallV Tryz.prog 11 #[.agg #[.int .i64 x88.1,.int .i64 x88.2.1,.int .i64 x88.2.2.1,.int .u32 x88.2.2.2.1,.int .u64 x88.2.2.2.2.1,.int .u64 x88.2.2.2.2.2.1]] w87 [.one .bool] λ(r89:Bool×Unit) w90=>
 cond (!r89.1)
 (StoreV w90 ⟨b1,0,none⟩ [.int .i64 0,.int .i64 0,.int .i64 0,.int .u32 0,.int .u64 0,.int .u64 0] λw91=>
 LoadA w91 ⟨b1,0,none⟩ [.int .i64,.int .i64,.int .i64,.int .u32,.int .u64,.int .u64] λ(x92:Int×Int×Int×Int×Int×Int×Unit)=>
 K ((x92.1,x92.2.1,x92.2.2.1,x92.2.2.2.1,x92.2.2.2.2.1,x92.2.2.2.2.2.1,()),false,()) w91)
 (DrawV λD93=>
 (D93 b81/\LoadA w90.drew ⟨b81,0,none⟩ [.int .i64,.int .i64,.int .i64,.int .u32,.int .u64,.int .u64] λ(x94:Int×Int×Int×Int×Int×Int×Unit)=>
 (D93 b81/\LoadA w90.drew ⟨b81,0,none⟩ [.int .i64,.int .i64,.int .i64,.int .u32,.int .u64,.int .u64] λ(x95:Int×Int×Int×Int×Int×Int×Unit)=>
 ((0:Int)<=(48:Int)/\(48:Int)<=((c0:Nat):Int)) /\
 SubK a0 0 c0 1 λa96=>
 CallV Tryz.prog 103 #[.agg #[.int .i64 x94.1,.int .i64 x94.2.1,.int .i64 x94.2.2.1,.int .u32 x94.2.2.2.1,.int .u64 x94.2.2.2.2.1,.int .u64 x94.2.2.2.2.2.1]] w90.drew [.one .sl] λ(r97:SlV×Unit) w98=>
 KeepOn D93 w90.drew w98 /\
 CallV Tryz.prog 103 #[.agg #[.int .i64 x95.1,.int .i64 x95.2.1,.int .i64 x95.2.2.1,.int .u32 x95.2.2.2.1,.int .u64 x95.2.2.2.2.1,.int .u64 x95.2.2.2.2.2.1]] w98 [.one .sl] λ(r99:SlV×Unit) w100=>
 KeepOn D93 w90.drew w100 /\
 CallV Tryz.prog 104 #[.slice r99.1.a r99.1.n r99.1.c] w100 [.one .sl] λ(r101:SlV×Unit) w102=>
 KeepOn D93 w90.drew w102 /\
 AppS w102 r101.1.a r101.1.n 1 λns107=>
 AppV w102 5 1 1 r97.1.a r97.1.n r97.1.c ns107 r101.1.n λa103 n104 c105 w106=>
 KeepOn D93 w90.drew w106 /\
 CallV Tryz.prog 102 #[.slice a103 n104 c105,.slice a96 (48-0) (c0-0)] w106 [.one .bool] λ(r108:Bool×Unit) w109=>
 KeepOn D93 w90.drew w109 /\
 cond (!r108.1)
 (StoreV w109 ⟨b1,0,none⟩ [.int .i64 0,.int .i64 0,.int .i64 0,.int .u32 0,.int .u64 0,.int .u64 0] λw110=>
 LoadA w110 ⟨b1,0,none⟩ [.int .i64,.int .i64,.int .i64,.int .u32,.int .u64,.int .u64] λ(x111:Int×Int×Int×Int×Int×Int×Unit)=>
 K ((x111.1,x111.2.1,x111.2.2.1,x111.2.2.2.1,x111.2.2.2.2.1,x111.2.2.2.2.2.1,()),false,()) w110)
 (LoadA w109 ⟨b81,0,none⟩ [.int .i64,.int .i64,.int .i64,.int .u32,.int .u64,.int .u64] λ(x112:Int×Int×Int×Int×Int×Int×Unit)=>
 StoreV w109 ⟨b1,0,none⟩ [.int .i64 x112.1,.int .i64 x112.2.1,.int .i64 x112.2.2.1,.int .u32 x112.2.2.2.1,.int .u64 x112.2.2.2.2.1,.int .u64 x112.2.2.2.2.2.1] λw113=>
 LoadA w113 ⟨b1,0,none⟩ [.int .i64,.int .i64,.int .i64,.int .u32,.int .u64,.int .u64] λ(x114:Int×Int×Int×Int×Int×Int×Unit)=>
 K ((x114.1,x114.2.1,x114.2.2.1,x114.2.2.2.1,x114.2.2.2.2.1,x114.2.2.2.2.2.1,()),true,()) w113))))))) /\
 (NewV #[.int .i64 0,.int .i64 0,.int .i64 0,.int .u32 0,.int .u64 0,.int .u64 0] 35 w2.drew λb115 w116=>
 KeepOn D3 w2.drew w116 /\
 CallV Tryz.prog 101 #[.slice a10 (8-4) (c0-4)] w116 [.one (.int .u64)] λ(r117:Int×Unit) w118=>
 KeepOn D3 w2.drew w118 /\
 CallV Tryz.prog 101 #[.slice a11 (16-8) (c0-8)] w118 [.one (.int .u64)] λ(r119:Int×Unit) w120=>
 KeepOn D3 w2.drew w120 /\
 CallV Tryz.prog 101 #[.slice a12 (24-16) (c0-16)] w120 [.one (.int .u64)] λ(r121:Int×Unit) w122=>
 KeepOn D3 w2.drew w122 /\
 StoreV w122 ⟨b115,0,none⟩ [.int .i64 (IntKind.i64.wrap x5),.int .i64 (IntKind.i64.wrap x7),.int .i64 (IntKind.i64.wrap x9),.int .u32 (IntKind.u32.wrap r117.1),.int .u64 r119.1,.int .u64 r121.1] λw123=>
 KeepOn D3 w2.drew w123 /\
 LoadA w123 ⟨b115,0,none⟩ [.int .i64,.int .i64,.int .i64,.int .u32,.int .u64,.int .u64] λ(x124:Int×Int×Int×Int×Int×Int×Unit)=>
 CallV Tryz.prog 11 #[.agg #[.int .i64 x124.1,.int .i64 x124.2.1,.int .i64 x124.2.2.1,.int .u32 x124.2.2.2.1,.int .u64 x124.2.2.2.2.1,.int .u64 x124.2.2.2.2.2.1]] w123 [.one .bool] λ(r125:Bool×Unit) w126=>
 cond (!r125.1)
 (StoreV w126 ⟨b1,0,none⟩ [.int .i64 0,.int .i64 0,.int .i64 0,.int .u32 0,.int .u64 0,.int .u64 0] λw127=>
 LoadA w127 ⟨b1,0,none⟩ [.int .i64,.int .i64,.int .i64,.int .u32,.int .u64,.int .u64] λ(x128:Int×Int×Int×Int×Int×Int×Unit)=>
 K ((x128.1,x128.2.1,x128.2.2.1,x128.2.2.2.1,x128.2.2.2.2.1,x128.2.2.2.2.2.1,()),false,()) w127)
 (DrawV λD129=>
 (D129 b115/\LoadA w126.drew ⟨b115,0,none⟩ [.int .i64,.int .i64,.int .i64,.int .u32,.int .u64,.int .u64] λ(x130:Int×Int×Int×Int×Int×Int×Unit)=>
 (D129 b115/\LoadA w126.drew ⟨b115,0,none⟩ [.int .i64,.int .i64,.int .i64,.int .u32,.int .u64,.int .u64] λ(x131:Int×Int×Int×Int×Int×Int×Unit)=>
 ((0:Int)<=(48:Int)/\(48:Int)<=((c0:Nat):Int)) /\
 SubK a0 0 c0 1 λa132=>
 CallV Tryz.prog 103 #[.agg #[.int .i64 x130.1,.int .i64 x130.2.1,.int .i64 x130.2.2.1,.int .u32 x130.2.2.2.1,.int .u64 x130.2.2.2.2.1,.int .u64 x130.2.2.2.2.2.1]] w126.drew [.one .sl] λ(r133:SlV×Unit) w134=>
 KeepOn D129 w126.drew w134 /\
 CallV Tryz.prog 103 #[.agg #[.int .i64 x131.1,.int .i64 x131.2.1,.int .i64 x131.2.2.1,.int .u32 x131.2.2.2.1,.int .u64 x131.2.2.2.2.1,.int .u64 x131.2.2.2.2.2.1]] w134 [.one .sl] λ(r135:SlV×Unit) w136=>
 KeepOn D129 w126.drew w136 /\
 CallV Tryz.prog 104 #[.slice r135.1.a r135.1.n r135.1.c] w136 [.one .sl] λ(r137:SlV×Unit) w138=>
 KeepOn D129 w126.drew w138 /\
 AppS w138 r137.1.a r137.1.n 1 λns143=>
 AppV w138 5 1 1 r133.1.a r133.1.n r133.1.c ns143 r137.1.n λa139 n140 c141 w142=>
 KeepOn D129 w126.drew w142 /\
 CallV Tryz.prog 102 #[.slice a139 n140 c141,.slice a132 (48-0) (c0-0)] w142 [.one .bool] λ(r144:Bool×Unit) w145=>
 KeepOn D129 w126.drew w145 /\
 cond (!r144.1)
 (StoreV w145 ⟨b1,0,none⟩ [.int .i64 0,.int .i64 0,.int .i64 0,.int .u32 0,.int .u64 0,.int .u64 0] λw146=>
 LoadA w146 ⟨b1,0,none⟩ [.int .i64,.int .i64,.int .i64,.int .u32,.int .u64,.int .u64] λ(x147:Int×Int×Int×Int×Int×Int×Unit)=>
 K ((x147.1,x147.2.1,x147.2.2.1,x147.2.2.2.1,x147.2.2.2.2.1,x147.2.2.2.2.2.1,()),false,()) w146)
 (LoadA w145 ⟨b115,0,none⟩ [.int .i64,.int .i64,.int .i64,.int .u32,.int .u64,.int .u64] λ(x148:Int×Int×Int×Int×Int×Int×Unit)=>
 StoreV w145 ⟨b1,0,none⟩ [.int .i64 x148.1,.int .i64 x148.2.1,.int .i64 x148.2.2.1,.int .u32 x148.2.2.2.1,.int .u64 x148.2.2.2.2.1,.int .u64 x148.2.2.2.2.2.1] λw149=>
 LoadA w149 ⟨b1,0,none⟩ [.int .i64,.int .i64,.int .i64,.int .u32,.int .u64,.int .u64] λ(x150:Int×Int×Int×Int×Int×Int×Unit)=>
 K ((x150.1,x150.2.1,x150.2.2.1,x150.2.2.2.1,x150.2.2.2.2.1,x150.2.2.2.2.2.1,()),true,()) w149)))))))))
theorem ref14_Read.vc (a0:Option Addr) (n0 c0:Nat) (w:World) (K:(Int×Int×Int×Int×Int×Int×Unit)×Bool×Unit->World->Prop) (h:ref14_Read.P a0 n0 c0 w K):CallV Tryz.prog 63 #[.slice a0 n0 c0] w [.agg [.int .i64,.int .i64,.int .i64,.int .u32,.int .u64,.int .u64],.one .bool] K:=by
 refine vcFun.of (A:=ref14_Read.A) (wr:=false) okf_ok follows h Tryz.func63 ?_
 kernel_rfl
def ref14_End.A:Ann:=.two .no (.two (.draw (.take 0 (.take 2 (.eff 1 (.eff 3 (.eff 4 (.eff 5 (.take 6 (.done))))))))) .no)
def ref14_End.P (p0_0 p0_1 p0_2 p0_3 p0_4 p0_5:Int) (a1:Option Addr) (n1 c1:Nat) (w:World) (K:SlV×Unit->World->Prop):Prop:=
 NewV #[.int .i64 p0_0,.int .i64 p0_1,.int .i64 p0_2,.int .u32 p0_3,.int .u64 p0_4,.int .u64 p0_5] 35 w λb1 w2=>
 DrawV λD3=>
 (D3 b1/\LoadA w2.drew ⟨b1,0,none⟩ [.int .i64,.int .i64,.int .i64,.int .u32,.int .u64,.int .u64] λ(x4:Int×Int×Int×Int×Int×Int×Unit)=>
 (D3 b1/\LoadA w2.drew ⟨b1,0,none⟩ [.int .i64,.int .i64,.int .i64,.int .u32,.int .u64,.int .u64] λ(x5:Int×Int×Int×Int×Int×Int×Unit)=>
 CallV Tryz.prog 103 #[.agg #[.int .i64 x4.1,.int .i64 x4.2.1,.int .i64 x4.2.2.1,.int .u32 x4.2.2.2.1,.int .u64 x4.2.2.2.2.1,.int .u64 x4.2.2.2.2.2.1]] w2.drew [.one .sl] λ(r6:SlV×Unit) w7=>
 KeepOn D3 w2.drew w7 /\
 CallV Tryz.prog 103 #[.agg #[.int .i64 x5.1,.int .i64 x5.2.1,.int .i64 x5.2.2.1,.int .u32 x5.2.2.2.1,.int .u64 x5.2.2.2.2.1,.int .u64 x5.2.2.2.2.2.1]] w7 [.one .sl] λ(r8:SlV×Unit) w9=>
 KeepOn D3 w2.drew w9 /\
 CallV Tryz.prog 104 #[.slice r8.1.a r8.1.n r8.1.c] w9 [.one .sl] λ(r10:SlV×Unit) w11=>
 KeepOn D3 w2.drew w11 /\
 AppS w11 r10.1.a r10.1.n 1 λns16=>
 AppV w11 5 1 1 r6.1.a r6.1.n r6.1.c ns16 r10.1.n λa12 n13 c14 w15=>
 KeepOn D3 w2.drew w15 /\
 cond (((n1:Nat):Int) == 0)
 (CallV Tryz.prog 86 #[.int .u8 255,.int .i64 32] w15 [.one .sl] λ(r17:SlV×Unit) w18=>
 AppS w18 r17.1.a r17.1.n 1 λns23=>
 AppV w18 5 1 1 a12 n13 c14 ns23 r17.1.n λa19 n20 c21 w22=>
 CallV Tryz.prog 86 #[.int .u8 255,.int .i64 8] w22 [.one .sl] λ(r24:SlV×Unit) w25=>
 AppS w25 r24.1.a r24.1.n 1 λns30=>
 AppV w25 5 1 1 a19 n20 c21 ns30 r24.1.n λa26 n27 c28 w29=>
 K ((⟨a26,n27,c28⟩:SlV),()) w29)
 (AppS w15 a1 n1 1 λns35=>
 AppV w15 5 1 1 a12 n13 c14 ns35 n1 λa31 n32 c33 w34=>
 CallV Tryz.prog 86 #[.int .u8 255,.int .i64 8] w34 [.one .sl] λ(r36:SlV×Unit) w37=>
 AppS w37 r36.1.a r36.1.n 1 λns42=>
 AppV w37 5 1 1 a31 n32 c33 ns42 r36.1.n λa38 n39 c40 w41=>
 K ((⟨a38,n39,c40⟩:SlV),()) w41)))
theorem ref14_End.vc (p0_0 p0_1 p0_2 p0_3 p0_4 p0_5:Int) (a1:Option Addr) (n1 c1:Nat) (w:World) (K:SlV×Unit->World->Prop) (h:ref14_End.P p0_0 p0_1 p0_2 p0_3 p0_4 p0_5 a1 n1 c1 w K):CallV Tryz.prog 87 #[.agg #[.int .i64 p0_0,.int .i64 p0_1,.int .i64 p0_2,.int .u32 p0_3,.int .u64 p0_4,.int .u64 p0_5],.slice a1 n1 c1] w [.one .sl] K:=by
 refine vcFun.of (A:=ref14_End.A) (wr:=false) okf_ok follows h Tryz.func87 ?_
 kernel_rfl
end Go.Proofs.YtcekmdehjnlkpaaGreat.Vc
namespace Go.Proofs.YtcekmdehjnlkpaaGreat.Vc
open Go Go.Eng Go.RowKit
theorem appL {w:World} {a a2:Option Addr} {n c m c2:Nat} {xs ys:List Int} {B:Nat} {K:Option Addr->Nat->Nat->World->Prop} (ho:Own w B 5 1 a n c (xs.map (Value.int .u8))) (hy:Ints w .u8 a2 m c2 ys) (hB:B<=w.heap.size) (hn:n+m<=100000000)
  (hk:∀ a' c' w',Own w' B 5 1 a' (n+m) c' ((xs++ys).map (Value.int .u8))->Below B w w'->K a' (n+m) c' w') :
  AppS w a2 m 1 λns=>AppV w 5 1 1 a n c ns m K:=by
 refine AppS.of (news:=ys.map (Value.int .u8)) (by rw [List.length_map,hy.len];omega) hy.rd ?_
 refine AppV.own ho hB (by rw [List.length_map,hy.len];omega) (oneAll.ints _ _) (by omega) (by omega) λa' c' w' h1 h2 _ _=>?_
 refine hk a' c' w' ?_ h2
 rw [List.map_append]
 exact h1
structure Hd where
 k:Int
 n:Int
 c:Int
 l:Int
 e:Int
 t:Int
abbrev Hd.vs (h:Hd):List Value:=[.int .i64 h.k,.int .i64 h.n,.int .i64 h.c,.int .u32 h.l,.int .u64 h.e,.int .u64 h.t]
abbrev Hd.val (h:Hd):Value:=.agg #[.int .i64 h.k,.int .i64 h.n,.int .i64 h.c,.int .u32 h.l,.int .u64 h.e,.int .u64 h.t]
abbrev Hd.tup (h:Hd):Int×Int×Int×Int×Int×Int×Unit:=(h.k,h.n,h.c,h.l,h.e,h.t,())
def Hd.rng (h:Hd):Prop:=(0<=h.l/\h.l<4294967296)/\(0<=h.e/\h.e<18446744073709551616)/\(0<=h.t/\h.t<18446744073709551616)
def HRight (h:Hd):Prop:=(1<=h.k/\h.k<=4)/\(0<=h.n/\h.n<=255)/\(0<=h.c/\h.c<=255)
instance (h:Hd):Decidable (HRight h):=by unfold HRight;infer_instance
def big (n:Int) (k:Nat):List Int:=(leL n k).reverse
def hdL (h:Hd):List Int:=[h.k,h.n,h.c,0]++big h.l 4++big h.e 8++big h.t 8
theorem big_length (n:Int) (k:Nat):(big n k).length=k:=by simp [big,leL_length]
theorem hdL_length (h:Hd):(hdL h).length=24:=by simp [hdL,big_length]
theorem newH {w:World} {h:Hd} {K:Nat->World->Prop} (hk:∀ b w1,Ext w w1->Box w1 w.heap.size b 35 h.vs->K b w1):NewV #[.int .i64 h.k,.int .i64 h.n,.int .i64 h.c,.int .u32 h.l,.int .u64 h.e,.int .u64 h.t] 35 w K:=newBox hk
theorem ldH {w:World} {h:Hd} {B b:Nat} {e:TypeId} (hb:Box w B b e h.vs) {K:Int×Int×Int×Int×Int×Int×Unit->Prop} (hk:K h.tup):LoadA w ⟨b,0,none⟩ [.int .i64,.int .i64,.int .i64,.int .u32,.int .u64,.int .u64] K:=hb.lda (l:=[.int .i64,.int .i64,.int .i64,.int .u32,.int .u64,.int .u64]) h.tup rfl hk
theorem Own.list {w:World} {xs:List Int} {n:Nat} (hn:n=xs.length) (h9:n<=9223372036854775807):Own (w.alloc (.cells (xs.map (Value.int .u8)).toArray 5)) w.heap.size 5 1 (some ⟨w.heap.size,0,none⟩) n n (xs.map (Value.int .u8)):=by
 have:=Own.new (w:=w) (B:=w.heap.size) (e:=5) (sz:=1) (n:=n) (c:=n) (cs:=xs.map (Value.int .u8)) (Nat.le_refl _) (by simp [hn]) (Nat.le_refl _) h9 (oneAll.ints _ _)
 rwa [List.take_of_length_le (by simp [hn])] at this
theorem wrap_u8 {x:Int} (h:0<=x/\x<=255):IntKind.u8.wrap x=x:=by rw [u8_wrap];omega
theorem HRight_c {w:World} {h:Hd}:CallV Tryz.prog 11 #[h.val] w [.one .bool] λr w'=>r.1=decide (HRight h)/\Ext w w':=by
 refine ref14_Right.vc _ _ _ _ _ _ _ _ ?_
 unfold ref14_Right.P
 refine newH λb1 w1 e1 hb=>?_
 have no:¬ HRight h->(false=decide (HRight h)/\Ext w w1):=λhr=>⟨(decide_eq_false hr).symm,e1⟩
 refine hb.ld (i:=0) (h:=.int .i64) (x:=h.k) rfl (cond_d (λc1=>?_) (λhc=>no (λhr=>by unfold HRight at hr;omega)))
 refine hb.ld (i:=0) (h:=.int .i64) (x:=h.k) rfl (cond_d (λc2=>?_) (λhc=>no (λhr=>by unfold HRight at hr;omega)))
 refine hb.ld (i:=1) (h:=.int .i64) (x:=h.n) rfl (cond_d (λc3=>?_) (λhc=>no (λhr=>by unfold HRight at hr;omega)))
 refine hb.ld (i:=1) (h:=.int .i64) (x:=h.n) rfl (cond_d (λc4=>?_) (λhc=>no (λhr=>by unfold HRight at hr;omega)))
 refine hb.ld (i:=2) (h:=.int .i64) (x:=h.c) rfl (cond_d (λc5=>?_) (λhc=>no (λhr=>by unfold HRight at hr;omega)))
 refine hb.ld (i:=2) (h:=.int .i64) (x:=h.c) rfl ?_
 refine ⟨?_,e1⟩
 apply decide_eq_decide.2
 unfold HRight
 omega
theorem c4:cl8 4=4:=by decide
theorem c8:cl8 8=8:=by decide
theorem rBytes_c {w:World} {h:Hd} (hg:h.rng) (hR:HRight h):CallV Tryz.prog 103 #[h.val] w [.one .sl] λr w'=>Res w w' r.1 (hdL h):=by
 unfold Hd.rng at hg
 have hR':=hR
 unfold HRight at hR'
 refine ref14_Bytes.vc _ _ _ _ _ _ _ _ ?_
 unfold ref14_Bytes.P
 refine newH λb1 w1 e1 hb=>?_
 refine DrawV.old w1 λD hD hkeep=>?_
 have hD1:=hD _ hb.lt
 have hd:=hb.ext (Ext.drew w1)
 refine ⟨hD1,hd.ld (i:=0) (h:=.int .i64) (x:=h.k) rfl ⟨hD1,hd.ld (i:=1) (h:=.int .i64) (x:=h.n) rfl ⟨hD1,hd.ld (i:=2) (h:=.int .i64) (x:=h.c) rfl ⟨hD1,hd.ld (i:=3) (h:=.int .u32) (x:=h.l) rfl ?_⟩⟩⟩⟩
 rw [show IntKind.u64.wrap h.l=h.l from u64_id (by omega) (by omega),wrap_u8 (by omega:0<=h.k/\h.k<=255),wrap_u8 hR'.2.1,wrap_u8 hR'.2.2]
 have tail:∀ (a:Option Addr) (c:Nat) (w4:World),Ext w1 w4->Own w4 w1.heap.size 5 1 a (4+4) c (([h.k,h.n,h.c,0]++big h.l 4).map (Value.int .u8))->LoadS w4 ⟨b1,4,none⟩ (.int .u64) λ(x17:Int)=>
   CallV Tryz.prog 127 #[.int .u64 x17,.int .i64 8] w4 [.one .sl] λ(r18:SlV×Unit) w19=>
   AppS w19 r18.1.a r18.1.n 1 λns24=>
   AppV w19 5 1 1 a (4+4) c ns24 r18.1.n λa20 n21 c22 w23=>
   LoadS w23 ⟨b1,5,none⟩ (.int .u64) λ(x25:Int)=>
   CallV Tryz.prog 127 #[.int .u64 x25,.int .i64 8] w23 [.one .sl] λ(r26:SlV×Unit) w27=>
   AppS w27 r26.1.a r26.1.n 1 λns32=>
   AppV w27 5 1 1 a20 n21 c22 ns32 r26.1.n λa28 n29 c30 w31=>Res w w31 (⟨a28,n29,c30⟩:SlV) (hdL h):=by
  intro a c w4 x4 o4
  refine (hb.ext x4).ld (i:=4) (h:=.int .u64) (x:=h.e) rfl ?_
  refine (rBig_c (by omega) (by omega)).mono ?_
  rintro ⟨(s5:SlV),⟨⟩⟩ w5 h5
  dsimp only at h5 ⊢
  rw [c8] at h5
  have l5:=h5.ints.len
  rw [List.length_reverse,leL_length] at l5
  have x5:=x4.trans h5.ext
  refine appL (o4.ext h5.ext) h5.ints x5.size (by omega) λa6 c6' w6 o6 b6=>?_
  have x6:Ext w1 w6:=Below.trans x5 b6
  refine (hb.ext x6).ld (i:=5) (h:=.int .u64) (x:=h.t) rfl ?_
  refine (rBig_c (by omega) (by omega)).mono ?_
  rintro ⟨(s7:SlV),⟨⟩⟩ w7 h7
  dsimp only at h7 ⊢
  rw [c8] at h7
  have l7:=h7.ints.len
  rw [List.length_reverse,leL_length] at l7
  have x7:=x6.trans h7.ext
  refine appL (o6.ext h7.ext) h7.ints x7.size (by omega) λa8 c8' w8 o8 b8=>?_
  have x8:Ext w1 w8:=Below.trans x7 b8
  exact ⟨e1.trans x8,o8.mono e1.size⟩
 constructor
 ·rintro b2 w2 rfl rfl
  have ho:=Own.list (w:=w1.drew) (xs:=[h.k,h.n,h.c,0]) (n:=4) rfl (by omega)
  have x2:Ext w1 (w1.drew.alloc (.cells #[.int .u8 h.k,.int .u8 h.n,.int .u8 h.c,.int .u8 0] 5)):=(Ext.drew w1).trans (Ext.alloc _ _)
  refine ⟨hkeep _ x2,?_⟩
  refine (rBig_c (by omega) (by omega)).mono ?_
  rintro ⟨⟨sa,sn,sc⟩,⟨⟩⟩ w3 h3
  dsimp only at h3 ⊢
  rw [c4] at h3
  have l3:=h3.ints.len
  rw [List.length_reverse,leL_length] at l3
  dsimp only at l3
  subst l3
  have x3:=x2.trans h3.ext
  refine ⟨hkeep _ x3,?_⟩
  refine appL (ho.ext h3.ext) h3.ints x3.size (by omega) λa4 c4' w4 o4 b4=>?_
  have x4:Ext w1 w4:=Below.trans x3 b4
  refine ⟨hkeep _ x4,?_⟩
  exact tail a4 c4' w4 x4 o4
 ·refine (rBig_c (by omega) (by omega)).mono ?_
  rintro ⟨⟨sa,sn,sc⟩,⟨⟩⟩ w3 h3
  dsimp only at h3 ⊢
  rw [c4] at h3
  have l3:=h3.ints.len
  rw [List.length_reverse,leL_length] at l3
  dsimp only at l3
  subst l3
  have x3:=(Ext.drew w1).trans h3.ext
  refine ⟨hkeep _ x3,?_⟩
  rintro b2 w2 rfl rfl
  have ho:=Own.list (w:=w3) (xs:=[h.k,h.n,h.c,0]) (n:=4) rfl (by omega)
  have x2:Ext w3 (w3.alloc (.cells #[.int .u8 h.k,.int .u8 h.n,.int .u8 h.c,.int .u8 0] 5)):=Ext.alloc _ _
  refine ⟨hkeep _ (x3.trans x2),?_⟩
  refine appL ho (h3.ints.ext x2) x2.size (by omega) λa4 c4' w4 o4 b4=>?_
  have x4:Ext w1 w4:=x3.trans (Below.trans x2 b4)
  refine ⟨hkeep _ x4,?_⟩
  exact tail a4 c4' w4 x4 (o4.mono x3.size)
end Go.Proofs.YtcekmdehjnlkpaaGreat.Vc
namespace Go.Proofs.YtcekmdehjnlkpaaGreat.Vc
open Go Go.Eng Go.RowKit Go.ChangeShapes
theorem wfRng {k:IntKind} {n:Int} (h:(Lit.int k n).wf=true):Rng k n:=by
 simpa [Lit.wf,Rng] using h
theorem rng_u64 {x:Int} (h:Rng .u64 x):0<=x/\x<18446744073709551616:=by
 unfold Rng at h
 have e1:IntKind.u64.min=0:=by decide
 have e2:IntKind.u64.max=18446744073709551615:=by decide
 omega
theorem rng_u8 {x:Int} (h:Rng .u8 x):0<=x/\x<256:=by
 unfold Rng at h
 have e1:IntKind.u8.min=0:=by decide
 have e2:IntKind.u8.max=255:=by decide
 omega
inductive Ty where
 | int (k:IntKind)
 | bool
 | str
 | sl (e:Ty)
 | nil
 | cons (a r:Ty)
structure SlP (α:Type) where
 a:Option Addr
 n:Nat
 c:Nat
 l:List α
@[reducible] def Ty.T:Ty->Type
 | .int _=>Int
 | .bool=>Bool
 | .str=>ByteArray
 | .sl e=>SlP e.T
 | .nil=>Unit
 | .cons a r=>a.T×r.T
def Ty.vs:(t:Ty)->t.T->List Value
 | .int k,(x:Int)=>[.int k x]
 | .bool,(x:Bool)=>[.bool x]
 | .str,(x:ByteArray)=>[.string x]
 | .sl e,(x:SlP e.T)=>[.slice x.a x.n x.c]
 | .nil,_=>[]
 | .cons a r,(x:a.T×r.T)=>a.vs x.1++r.vs x.2
def Ty.ok (w:World):(t:Ty)->t.T->Prop
 | .int k,(x:Int)=>Rng k x
 | .bool,_=>True
 | .str,(x:ByteArray)=>x.size<=maxLen
 | .sl e,(x:SlP e.T)=>x.l.length=x.n/\x.n<=x.c/\x.c<=maxLen/\RdC w x.a (x.l.flatMap e.vs)/\∀ y∈x.l,e.ok w y
 | .nil,_=>True
 | .cons a r,(x:a.T×r.T)=>a.ok w x.1/\r.ok w x.2
def Ty.n:Ty->Nat
 | .nil=>0
 | .cons a r=>a.n+r.n
 | _=>1
theorem Ty.vs_length:∀ (t:Ty) (x:t.T),(t.vs x).length=t.n
 | .int k,x=>rfl
 | .bool,x=>rfl
 | .str,x=>rfl
 | .sl e,x=>rfl
 | .nil,x=>rfl
 | .cons a r,x=>by
  show (a.vs x.1++r.vs x.2).length=_
  rw [List.length_append,Ty.vs_length a,Ty.vs_length r];rfl
def confF (P:Program) (cf:Ty->TypeId->Bool):Ty->List Field->Nat->Bool
 | .nil,[],_=>true
 | .cons a r,f::fs,o=>f.offset == o && cf a f.type && P.cellsOf f.type == a.n && confF P cf r fs (o+a.n)
 | _,_,_=>false
def confA (P:Program) (cf:Ty->TypeId->Bool) (e:TypeId):Ty->Nat->Bool
 | .nil,0=>true
 | .cons a r,n+1=>cf a e && P.cellsOf e == a.n && confA P cf e r n
 | _,_=>false
def conf (P:Program):Nat->Ty->TypeId->Bool
 | 0,_,_=>false
 | d+1,t,i=>
  match P.underlying i,t with
  | some (.int k),.int k'=>decide (k=k')
  | some .bool,.bool=>true
  | some .string,.str=>true
  | some (.slice e),.sl t=>conf P d t e && P.cellsOf e == t.n
  | some (.struct fs),t=>confF P (conf P d) t fs.toList 0 && P.cellsOf i == t.n
  | some (.array n e),t=>confA P (conf P d) e t n && P.cellsOf i == t.n
  | _,_=>false
theorem CellsAt.append' {w:World} {p:Addr} {xs ys:List Value} (h:CellsAt w p xs) (h':CellsAt w (p.add xs.length) ys):CellsAt w p (xs++ys):=by
 intro j v hv
 by_cases hj:j<xs.length
 ·rw [List.getElem?_append_left hj] at hv;exact h j v hv
 ·rw [List.getElem?_append_right (by omega)] at hv
  have:=h' _ v hv
  rwa [add_add,show xs.length+(j-xs.length)=j by omega] at this
section
variable {H:Type} {enc:TypeId×Value->H} {P:Program} {w:World}
def Opens (enc:TypeId×Value->H) (P:Program) (w:World) (d:Nat):Prop:=
 ∀ (ty:Ty) (t:TypeId) (fuel:Nat) (cs:List Value) (x:DataW H×List MemPlace),conf P d ty t=true->DataW.trod enc P w 0 (λ_=>true) true fuel t cs=some x->∃ v:ty.T,cs=ty.vs v/\ty.ok w v
theorem openF {d:Nat} (ih:Opens enc P w d) {n:Nat} {cs:List Value}:∀ (ty:Ty) (fs:List Field) (o:Nat),confF P (conf P d) ty fs o=true->cs.length=o+ty.n ->
  (∀ f∈fs,∃ y,DataW.trod enc P w 0 (λ_=>true) true n f.type ((cs.drop f.offset).take (P.cellsOf f.type))=some y)->∃ v:ty.T,cs.drop o=ty.vs v/\ty.ok w v
 | .nil,[],o,hc,hl,hf=>⟨(),by simp [Ty.vs,hl,Ty.n],trivial⟩
 | .cons a r,f::fs,o,hc,hl,hf=>by
  simp only [confF,Bool.and_eq_true,beq_iff_eq] at hc
  obtain ⟨⟨⟨h1,h2⟩,h3⟩,h4⟩:=hc
  obtain ⟨y,hy⟩:=hf f (List.mem_cons_self ..)
  obtain ⟨v1,e1,o1⟩:=ih a f.type n _ y h2 hy
  obtain ⟨v2,e2,o2⟩:=openF ih r fs (o+a.n) h4 (by rw [hl];simp [Ty.n];omega) (λf' hf'=>hf f' (List.mem_cons_of_mem _ hf'))
  refine ⟨(v1,v2),?_,o1,o2⟩
  show _=a.vs v1++r.vs v2
  rw [<-e1,<- e2,h1,h3,<- List.drop_drop,List.take_append_drop]
 | .int _,[],_,hc,_,_=>by simp [confF] at hc
 | .int _,_::_,_,hc,_,_=>by simp [confF] at hc
 | .bool,[],_,hc,_,_=>by simp [confF] at hc
 | .bool,_::_,_,hc,_,_=>by simp [confF] at hc
 | .str,[],_,hc,_,_=>by simp [confF] at hc
 | .str,_::_,_,hc,_,_=>by simp [confF] at hc
 | .sl _,[],_,hc,_,_=>by simp [confF] at hc
 | .sl _,_::_,_,hc,_,_=>by simp [confF] at hc
 | .nil,_::_,_,hc,_,_=>by simp [confF] at hc
 | .cons _ _,[],_,hc,_,_=>by simp [confF] at hc
theorem openA {d:Nat} (ih:Opens enc P w d) {n:Nat} {cs:List Value} {e:TypeId}:∀ (ty:Ty) (m:Nat) (i:Nat),confA P (conf P d) e ty m=true->cs.length=i*P.cellsOf e+ty.n ->
  (∀ j,j<i+m->∃ y,DataW.trod enc P w 0 (λ_=>true) true n e ((cs.drop (j*P.cellsOf e)).take (P.cellsOf e))=some y)->∃ v:ty.T,cs.drop (i*P.cellsOf e)=ty.vs v/\ty.ok w v
 | .nil,0,i,hc,hl,hf=>⟨(),by simp [Ty.vs,hl,Ty.n],trivial⟩
 | .cons a r,m+1,i,hc,hl,hf=>by
  simp only [confA,Bool.and_eq_true,beq_iff_eq] at hc
  obtain ⟨⟨h2,h3⟩,h4⟩:=hc
  obtain ⟨y,hy⟩:=hf i (by omega)
  obtain ⟨v1,e1,o1⟩:=ih a e n _ y h2 hy
  obtain ⟨v2,e2,o2⟩:=openA ih r m (i+1) h4 (by rw [hl,Nat.add_mul,h3];simp [Ty.n];omega) (λj hj=>hf j (by omega))
  refine ⟨(v1,v2),?_,o1,o2⟩
  show _=a.vs v1++r.vs v2
  rw [<-e1,<- e2,Nat.add_mul,Nat.one_mul,<- List.drop_drop,List.take_append_drop]
 | .int _,0,_,hc,_,_=>by simp [confA] at hc
 | .int _,_+1,_,hc,_,_=>by simp [confA] at hc
 | .bool,0,_,hc,_,_=>by simp [confA] at hc
 | .bool,_+1,_,hc,_,_=>by simp [confA] at hc
 | .str,0,_,hc,_,_=>by simp [confA] at hc
 | .str,_+1,_,hc,_,_=>by simp [confA] at hc
 | .sl _,0,_,hc,_,_=>by simp [confA] at hc
 | .sl _,_+1,_,hc,_,_=>by simp [confA] at hc
 | .nil,_+1,_,hc,_,_=>by simp [confA] at hc
 | .cons _ _,0,_,hc,_,_=>by simp [confA] at hc
theorem openS {d:Nat} (ih:Opens enc P w d) {ty:Ty} {e:TypeId} (hc:conf P d ty e=true) (hn:P.cellsOf e=ty.n) {a:Addr} {len m:Nat}
  (h:∀ i,i<len->∃ y,(w.cells? 0 (a.add (i*P.cellsOf e)) (P.cellsOf e)).bind (DataW.trod enc P w 0 (λ_=>true) true m e)=some y) :
  ∃ l:List ty.T,l.length=len/\CellsAt w a (l.flatMap ty.vs)/\∀ y∈l,ty.ok w y:=by
 induction len with
 | zero=>exact ⟨[],rfl,λj v hv=>by simp at hv,λy hy=>(List.not_mem_nil hy).elim⟩
 | succ k ih2=>
  obtain ⟨l,hl,hcl,hol⟩:=ih2 λi hi=>h i (by omega)
  obtain ⟨y,hy⟩:=h k (by omega)
  obtain ⟨c,hcs,ht⟩:=Option.bind_eq_some_iff.1 hy
  obtain ⟨v,e1,o1⟩:=ih ty e m c y hc ht
  obtain ⟨_,hlen,hcell⟩:=World.cells?_some hcs
  refine ⟨l++[v],by simp [hl],?_,?_⟩
  ·rw [List.flatMap_append,List.flatMap_singleton]
   refine CellsAt.append' hcl ?_
   have:(l.flatMap ty.vs).length=k*P.cellsOf e:=by
    rw [hn,<- hl]
    clear hcl hol hl
    induction l with
    | nil=>simp
    | cons z l ih3=>rw [List.flatMap_cons,List.length_append,Ty.vs_length,ih3,List.length_cons,Nat.add_mul];omega
   rw [this]
   intro j u hu
   rw [<-e1] at hu
   have hj:j<P.cellsOf e:=by rw [<-hlen];exact (List.getElem?_eq_some_iff.1 hu).1
   rw [hcell j hj,hu]
  ·intro y hy
   rcases List.mem_append.1 hy with h1 | h1
   ·exact hol y h1
   ·rw [List.mem_singleton.1 h1];exact o1
theorem opens:∀ d:Nat,Opens enc P w d
 | 0=>λty t fuel cs x hc=>by simp [conf] at hc
 | d+1=>by
  have ih:=opens d
  intro ty t fuel cs x hc h
  unfold conf at hc
  split at hc
  ·rename_i k k' ht
   obtain ⟨n,rfl,_,hw⟩:=DataW.trod_int ht h
   have:=of_decide_eq_true hc
   subst this
   exact ⟨n,rfl,wfRng hw⟩
  ·rename_i ht
   obtain ⟨b,rfl,_⟩:=DataW.trod_bool ht h
   exact ⟨b,rfl,trivial⟩
  ·rename_i ht
   obtain ⟨s,rfl,_,hs⟩:=DataW.trod_string ht h
   exact ⟨s,rfl,hs⟩
  ·rename_i e t' ht
   simp only [Bool.and_eq_true,beq_iff_eq] at hc
   obtain ⟨hc1,hc2⟩:=hc
   rcases DataW.trod_slice ht h with ⟨rfl,_⟩ | ⟨a,len,cap,elems,rest,n,_,rfl,rfl,hb,hl,hm,hlen,hel,_⟩
   ·exact ⟨⟨none,0,0,[]⟩,rfl,rfl,Nat.le_refl _,Nat.zero_le _,.inl ⟨rfl,rfl⟩,λy hy=>(List.not_mem_nil hy).elim⟩
   ·obtain ⟨l,h1,h2,h3⟩:=openS ih hc1 hc2 (a:=a) (len:=len) (m:=n) λi hi=>⟨elems[i]'(by omega),by rw [hel i hi,List.getElem?_eq_getElem (by omega)]⟩
    exact ⟨⟨some a,len,cap,l⟩,rfl,h1,hl,hm,.inr ⟨a,rfl,h2⟩,h3⟩
  ·rename_i ty _ _ fs ht
   simp only [Bool.and_eq_true,beq_iff_eq] at hc
   obtain ⟨xs,n,_,_,hl,hlen,hf⟩:=DataW.trod_struct ht h
   have:=openF ih (n:=n) (cs:=cs) ty fs.toList 0 hc.1 (by rw [hl,hc.2];omega) λf hmem=>by
    obtain ⟨i,hi,rfl⟩:=List.mem_iff_getElem.1 hmem
    have:=hf i fs.toList[i] (by simp at hi⊢)
    refine ⟨xs[i]'(by simp at hi;omega),?_⟩
    rw [this,List.getElem?_eq_getElem (by simp at hi;omega)]
   simpa using this
  ·rename_i ty _ _ n e ht
   simp only [Bool.and_eq_true,beq_iff_eq] at hc
   obtain ⟨xs,m,_,_,hl,hlen,hf⟩:=DataW.trod_array ht h
   have:=openA ih (n:=m) (cs:=cs) ty n 0 hc.1 (by rw [hl,hc.2];omega) λj hj=>⟨xs[j]'(by omega),by rw [hf j (by omega),List.getElem?_eq_getElem (by omega)]⟩
   simpa using this
  ·cases hc
theorem openAgg {ty:Ty} {t:TypeId} {cs:Array Value} {d:Nat} {x:DataW H} {ps:List MemPlace} (hc:conf P d ty t=true) (h:DataW.Trod enc P w 0 (λ_=>true) true t (.agg cs) x ps):∃ v:ty.T,Value.agg cs=.agg (ty.vs v).toArray/\ty.ok w v:=by
 obtain ⟨fuel,hf⟩:=h
 obtain ⟨v,e,o⟩:=opens d ty t fuel _ _ hc hf
 refine ⟨v,?_,o⟩
 rw [<-e]
 simp [Value.cells]
end
end Go.Proofs.YtcekmdehjnlkpaaGreat.Vc
namespace Go.Proofs.YtcekmdehjnlkpaaGreat.Vc
open Go Go.Eng Go.RowKit
theorem rng_u32 {x:Int} (h:Rng .u32 x):0<=x/\x<4294967296:=by
 unfold Rng at h
 have e1:IntKind.u32.min=0:=by decide
 have e2:IntKind.u32.max=4294967295:=by decide
 omega
def tagL (tg:List Int):List Int:=if tg.length=0 then List.replicate 32 255 else tg
def endL (h:Hd) (tg:List Int):List Int:=((hdL h++invL (hdL h))++tagL tg)++List.replicate 8 255
def ERight (h:Hd) (n:Nat):Prop:=HRight h/\(n=0\/n=32)
instance (h:Hd) (n:Nat):Decidable (ERight h n):=by unfold ERight;infer_instance
theorem invL_length (xs:List Int):(invL xs).length=xs.length:=by simp [invL]
theorem fill32:(max 0 (min (65536:Int) 32)).toNat=32:=by generalize hL:(65536:Int)=L;omega
theorem fill8:(max 0 (min (65536:Int) 8)).toNat=8:=by generalize hL:(65536:Int)=L;omega
theorem rEnd_c {w:World} {h:Hd} {a:Option Addr} {n c:Nat} {tg:List Int} (hg:h.rng) (ht:Ints w .u8 a n c tg) (hE:ERight h n) :
  CallV Tryz.prog 87 #[h.val,.slice a n c] w [.one .sl] λr w'=>Res w w' r.1 (endL h tg):=by
 have hR:=hE.1
 have hE':=hE.2
 refine ref14_End.vc _ _ _ _ _ _ _ _ _ _ _ ?_
 unfold ref14_End.P
 have lt:=ht.len
 refine newH λb1 w1 e1 hb=>?_
 refine DrawV.old w1 λD hD hkeep=>?_
 have hD1:=hD _ hb.lt
 have hd:=hb.ext (Ext.drew w1)
 refine ⟨hD1,ldH hd ⟨hD1,ldH hd ?_⟩⟩
 refine (rBytes_c (h:=h) hg hR).mono ?_
 rintro ⟨⟨sa,sn,sc⟩,⟨⟩⟩ w2 h2
 have x2:=(Ext.drew w1).trans h2.ext
 refine ⟨hkeep _ x2,?_⟩
 refine (rBytes_c (h:=h) hg hR).mono ?_
 rintro ⟨(s3:SlV),⟨⟩⟩ w3 h3
 dsimp only at h2 h3 ⊢
 have l2:=h2.ints.len
 rw [hdL_length] at l2
 dsimp only at l2
 subst l2
 have l3:=h3.ints.len
 rw [hdL_length] at l3
 have x3:=x2.trans h3.ext
 refine ⟨hkeep _ x3,?_⟩
 refine (rInvert_c h3.ints (by omega)).mono ?_
 rintro ⟨⟨va,vn,vc⟩,⟨⟩⟩ w4 h4
 dsimp only at h4 ⊢
 have l4:=h4.ints.len
 rw [invL_length,hdL_length] at l4
 dsimp only at l4
 subst l4
 have x4:=x3.trans h4.ext
 refine ⟨hkeep _ x4,?_⟩
 have o4:=(h2.own.ext (h3.ext.trans h4.ext)).mono (Ext.drew w1).size
 refine appL o4 h4.ints x4.size (by omega) λa5 c5 w5 o5 b5=>?_
 have X5:Ext w1 w5:=Below.trans x4 b5
 refine ⟨hkeep _ X5,?_⟩
 refine cond_eq (λh0=>?_) (λh0=>?_)
 ·refine rFill_c.mono ?_
  rintro ⟨⟨ta,tn,tc⟩,⟨⟩⟩ w6 h6
  dsimp only at h6 ⊢
  rw [fill32] at h6
  have l6:=h6.ints.len
  rw [List.length_replicate] at l6
  dsimp only at l6
  subst l6
  have X6:=X5.trans h6.ext
  refine appL (o5.ext h6.ext) h6.ints X6.size (by omega) λa7 c7 w7 o7 b7=>?_
  have X7:Ext w1 w7:=Below.trans X6 b7
  refine rFill_c.mono ?_
  rintro ⟨⟨ua,un,uc⟩,⟨⟩⟩ w8 h8
  dsimp only at h8 ⊢
  rw [fill8] at h8
  have l8:=h8.ints.len
  rw [List.length_replicate] at l8
  dsimp only at l8
  subst l8
  have X8:=X7.trans h8.ext
  refine appL (o7.ext h8.ext) h8.ints X8.size (by omega) λa9 c9 w9 o9 b9=>?_
  have ht0:tagL tg=List.replicate 32 255:=by unfold tagL;rw [if_pos (by omega)]
  refine ⟨e1.trans (Below.trans X8 b9),?_⟩
  unfold endL
  rw [ht0]
  exact o9.mono e1.size
 ·refine appL o5 (ht.ext (e1.trans X5)) X5.size (by omega) λa7 c7 w7 o7 b7=>?_
  have X7:Ext w1 w7:=Below.trans X5 b7
  refine rFill_c.mono ?_
  rintro ⟨⟨ua,un,uc⟩,⟨⟩⟩ w8 h8
  dsimp only at h8 ⊢
  rw [fill8] at h8
  have l8:=h8.ints.len
  rw [List.length_replicate] at l8
  dsimp only at l8
  subst l8
  have X8:=X7.trans h8.ext
  refine appL (o7.ext h8.ext) h8.ints X8.size (by omega) λa9 c9 w9 o9 b9=>?_
  have ht0:tagL tg=tg:=by unfold tagL;rw [if_neg (by omega)]
  refine ⟨e1.trans (Below.trans X8 b9),?_⟩
  unfold endL
  rw [ht0]
  exact o9.mono e1.size
def comm (xs:List Int):Bool:=decide (xs.length=88/\xs.drop 80=List.replicate 8 0)
theorem Committed_c {w:World} {a:Option Addr} {n c:Nat} {xs:List Int} (hx:Ints w .u8 a n c xs) (bx:Byt xs) :
  CallV Tryz.prog 84 #[.slice a n c] w [.one .bool] λr w'=>r.1=comm xs/\Ext w w':=by
 refine head_Committed.vc _ _ _ _ _ ?_
 unfold head_Committed.P
 have lx:=hx.len
 refine DrawV.old w λD hD hkeep=>?_
 refine cond_eq (λh88=>?_) (λh88=>⟨(decide_eq_false (λhh=>h88 (by omega))).symm,Ext.drew w⟩)
 refine ⟨by omega,?_⟩
 intro a2 ha2
 have hs:=(hx.ext (Ext.drew w)).sub (l:=80) (hh:=n) (m:=c) (by omega) (Nat.le_refl _) hx.cap ha2
 rw [List.take_of_length_le (by rw [List.length_drop];omega)] at hs
 refine Fill_c.mono ?_
 rintro ⟨(s3:SlV),⟨⟩⟩ w3 h3
 dsimp only at h3 ⊢
 rw [fill8] at h3
 have x3:=(Ext.drew w).trans h3.ext
 refine ⟨hkeep _ x3,?_⟩
 refine (Same_c (hs.ext h3.ext) h3.ints (bx.drop 80) (Byt.replicate (by omega) (by omega) _)).mono ?_
 rintro ⟨(r4:Bool),⟨⟩⟩ w4 ⟨h4,e4⟩
 refine ⟨hkeep _ (x3.trans e4),?_,x3.trans e4⟩
 dsimp only at h4 ⊢
 rw [h4]
 unfold comm
 exact decide_eq_decide.2 ⟨λh=>⟨by omega,h⟩,λh=>h.2⟩
theorem rCommitted_c {w:World} {a:Option Addr} {n c:Nat} {xs:List Int} (hx:Ints w .u8 a n c xs) (hn:n=88) :
  CallV Tryz.prog 64 #[.slice a n c] w [.one .bool] λr w'=>r.1=comm xs/\Ext w w':=by
 refine ref14_Committed.vc _ _ _ _ _ ?_
 unfold ref14_Committed.P
 have lx:=hx.len
 refine DrawV.old w λD hD hkeep=>?_
 refine ⟨by omega,?_⟩
 intro a2 ha2
 have hs:=(hx.ext (Ext.drew w)).sub (l:=80) (hh:=n) (m:=c) (by omega) (Nat.le_refl _) hx.cap ha2
 rw [List.take_of_length_le (by rw [List.length_drop];omega)] at hs
 refine rFill_c.mono ?_
 rintro ⟨(s3:SlV),⟨⟩⟩ w3 h3
 dsimp only at h3 ⊢
 rw [fill8] at h3
 have x3:=(Ext.drew w).trans h3.ext
 refine ⟨hkeep _ x3,?_⟩
 refine (SameBytes_c (hs.ext h3.ext) h3.ints).mono ?_
 rintro ⟨(r4:Bool),⟨⟩⟩ w4 ⟨h4,e4⟩
 refine ⟨hkeep _ (x3.trans e4),?_,x3.trans e4⟩
 dsimp only at h4 ⊢
 rw [h4]
 unfold comm
 exact decide_eq_decide.2 ⟨λh=>⟨by omega,h⟩,λh=>h.2⟩
theorem leL_cons (n:Int) (h:0<=n) (k:Nat):leL n (k+1)=n % 256::leL (n / 256) k:=by
 refine List.ext_getElem (by simp [leL_length]) λi h1 h2=>?_
 rw [leL_get]
 cases i with
 | zero=>simp
 | succ i=>
  rw [List.getElem_cons_succ,leL_get,Int.pow_succ,Int.mul_comm,<- Int.ediv_ediv_of_nonneg (by omega)]
theorem leL_leN:∀ {xs:List Int},Byt xs->leL (leN xs) xs.length=xs
 | [],_=>rfl
 | x::xs,hb=>by
  have hx:=hb x (List.mem_cons_self ..)
  have hb':Byt xs:=λy hy=>hb y (List.mem_cons_of_mem _ hy)
  have bd:=leN_bd hb'
  have bd2:=leN_bd hb
  have e:leN (x::xs)=x+256*leN xs:=rfl
  rw [List.length_cons,leL_cons _ bd2.1,e,show (x+256*leN xs) % 256=x by omega,show (x+256*leN xs) / 256=leN xs by omega,leL_leN hb']
theorem big_numB {xs:List Int} (hb:Byt xs) (h8:xs.length<=8):big (numB xs) xs.length=xs:=by
 unfold big numB
 rw [List.take_of_length_le (by rw [List.length_reverse];exact h8)]
 have:=leL_leN hb.reverse
 rw [List.length_reverse] at this
 rw [this,List.reverse_reverse]
theorem numB_bd {xs:List Int} (hb:Byt xs) {k:Nat} (h:xs.length=k) (h8:k<=8):0<=numB xs/\numB xs<256 ^ k:=by
 unfold numB
 rw [List.take_of_length_le (by rw [List.length_reverse];omega)]
 have:=leN_bd hb.reverse
 rw [List.length_reverse,h] at this
 exact this
def part (xs:List Int) (i j:Nat):List Int:=(xs.drop i).take (j-i)
theorem part_length {xs:List Int} {i j:Nat} (h:j<=xs.length) (hi:i<=j):(part xs i j).length=j-i:=by unfold part;simp;omega
theorem part_byt {xs:List Int} (hb:Byt xs) (i j:Nat):Byt (part xs i j):=(hb.drop i).take _
def hdOf (xs:List Int):Hd:=⟨xs.getD 0 0,xs.getD 1 0,xs.getD 2 0,numB (part xs 4 8),numB (part xs 8 16),numB (part xs 16 24)⟩
def okR (xs:List Int):Prop:=(1<=xs.getD 0 0/\xs.getD 0 0<=4)/\xs.getD 3 0=0/\invL (part xs 0 24)=part xs 24 48
instance (xs:List Int):Decidable (okR xs):=by unfold okR;infer_instance
theorem part_split (xs:List Int) {i j k:Nat} (h1:i<=j) (h2:j<=k):part xs i j++part xs j k=part xs i k:=by
 unfold part
 rw [show k-i=(j-i)+(k-j) by omega,List.take_add,List.drop_drop,show i+(j-i)=j by omega]
theorem part4 {xs:List Int} (h:4<=xs.length):part xs 0 4=[xs.getD 0 0,xs.getD 1 0,xs.getD 2 0,xs.getD 3 0]:=by
 unfold part
 match xs,h with
 | a::b::c::d::t,_=>rfl
theorem hdL_of {xs:List Int} (hb:Byt xs) (hl:24<=xs.length):hdL (hdOf xs)=[xs.getD 0 0,xs.getD 1 0,xs.getD 2 0,0]++part xs 4 8++part xs 8 16++part xs 16 24:=by
 unfold hdL hdOf
 have a:=big_numB (part_byt hb 4 8) (by rw [part_length (by omega) (by omega)];omega)
 have b:=big_numB (part_byt hb 8 16) (by rw [part_length (by omega) (by omega)];omega)
 have c:=big_numB (part_byt hb 16 24) (by rw [part_length (by omega) (by omega)];omega)
 rw [part_length (by omega) (by omega)] at a b c
 dsimp only
 rw [show (4:Nat)=8-4 from rfl,a,show (8:Nat)=16-8 from rfl,b]
 rw [show (16-8:Nat)=24-16 from rfl,c]
theorem hdL_eq {xs:List Int} (hb:Byt xs) (hl:24<=xs.length):hdL (hdOf xs)=part xs 0 24↔xs.getD 3 0=0:=by
 rw [hdL_of hb hl,<- part_split xs (show 0<=16 by omega) (show 16<=24 by omega),<- part_split xs (show 0<=8 by omega) (show 8<=16 by omega),<- part_split xs (show 0<=4 by omega) (show 4<=8 by omega),part4 (by omega)]
 constructor
 ·intro h
  have:=congrArg (λl=>l.getD 3 0) h
  simpa using this.symm
 ·intro h
  rw [h]
theorem hdOf_rng {xs:List Int} (hb:Byt xs) (hl:24<=xs.length):(hdOf xs).rng:=by
 have a:=numB_bd (part_byt hb 4 8) (part_length (by omega) (by omega)) (by omega)
 have b:=numB_bd (part_byt hb 8 16) (part_length (by omega) (by omega)) (by omega)
 have c:=numB_bd (part_byt hb 16 24) (part_length (by omega) (by omega)) (by omega)
 exact ⟨a,b,c⟩
theorem hdOf_right {xs:List Int} (hb:Byt xs):HRight (hdOf xs)↔1<=xs.getD 0 0/\xs.getD 0 0<=4:=by
 have h1:=hb.getD 1
 have h2:=hb.getD 2
 unfold HRight hdOf
 dsimp only
 omega
theorem okR_iff {xs:List Int} (hb:Byt xs) (hl:xs.length=88):okR xs↔HRight (hdOf xs)/\hdL (hdOf xs)++invL (hdL (hdOf xs))=part xs 0 48:=by
 rw [hdOf_right hb,<- part_split xs (show 0<=24 by omega) (show 24<=48 by omega)]
 have e:=hdL_eq hb (by omega)
 constructor
 ·rintro ⟨h1,h2,h3⟩
  have:=e.2 h2
  exact ⟨h1,by rw [this,h3]⟩
 ·rintro ⟨h1,h2⟩
  have hlen:(hdL (hdOf xs)).length=(part xs 0 24).length:=by rw [hdL_length,part_length (by omega) (by omega)]
  obtain ⟨a,b⟩:=List.append_inj h2 hlen
  exact ⟨h1,e.1 a,by rw [<-a];exact b⟩
end Go.Proofs.YtcekmdehjnlkpaaGreat.Vc
namespace Go.Proofs.YtcekmdehjnlkpaaGreat.Vc
open Go Go.Eng
def head_Read.T (c0:Nat) (a0:Option Addr) (a6:Option Addr) (w26:World) (b1:Nat) (K:(Int×Int×Int×Int×Int×Int×Unit)×SlV×Int×Unit->World->Prop) (b24:Nat) (a7:Option Addr):Prop:=
DrawV λD27=>
 ((0:Int)<=(24:Int)/\(24:Int)<=(48:Int)/\(48:Int)<=((c0:Nat):Int)) /\
 SubK a0 24 c0 1 λa28=>
 CallV Tryz.prog 116 #[.slice a6 (24-0) (c0-0)] w26.drew [.one .sl] λ(r29:SlV×Unit) w30=>
 KeepOn D27 w26.drew w30 /\
 CallV Tryz.prog 115 #[.slice r29.1.a r29.1.n r29.1.c,.slice a28 (48-24) (c0-24)] w30 [.one .bool] λ(r31:Bool×Unit) w32=>
 KeepOn D27 w26.drew w32 /\
 cond (!r31.1)
 (StoreV w32 ⟨b1,0,none⟩ [.int .i64 0,.int .i64 0,.int .i64 0,.int .u32 0,.int .u64 0,.int .u64 0] λw33=>
 LoadA w33 ⟨b1,0,none⟩ [.int .i64,.int .i64,.int .i64,.int .u32,.int .u64,.int .u64] λ(x34:Int×Int×Int×Int×Int×Int×Unit)=>
 K ((x34.1,x34.2.1,x34.2.2.1,x34.2.2.2.1,x34.2.2.2.2.1,x34.2.2.2.2.2.1,()),(⟨none,0,0⟩:SlV),(1:Int),()) w33)
 ((0<=(3:Int)/\3<((24-0:Nat):Int))/\∃ q35:Addr,a6=some q35 /\
 (D27 (q35.add (3*1)).block/\LoadS w26.drew (q35.add (3*1)) (.int .u8) λ(x36:Int)=>
 cond (x36 != 0)
 (StoreV w32 ⟨b1,0,none⟩ [.int .i64 0,.int .i64 0,.int .i64 0,.int .u32 0,.int .u64 0,.int .u64 0] λw37=>
 LoadA w37 ⟨b1,0,none⟩ [.int .i64,.int .i64,.int .i64,.int .u32,.int .u64,.int .u64] λ(x38:Int×Int×Int×Int×Int×Int×Unit)=>
 K ((x38.1,x38.2.1,x38.2.2.1,x38.2.2.2.1,x38.2.2.2.2.1,x38.2.2.2.2.2.1,()),(⟨none,0,0⟩:SlV),(1:Int),()) w37)
 ((D27 b24/\LoadS w26.drew ⟨b24,0,none⟩ (.int .i64) λ(x39:Int)=>
 cond (decide (x39<1))
 (StoreV w32 ⟨b1,0,none⟩ [.int .i64 0,.int .i64 0,.int .i64 0,.int .u32 0,.int .u64 0,.int .u64 0] λw40=>
 LoadA w40 ⟨b1,0,none⟩ [.int .i64,.int .i64,.int .i64,.int .u32,.int .u64,.int .u64] λ(x41:Int×Int×Int×Int×Int×Int×Unit)=>
 K ((x41.1,x41.2.1,x41.2.2.1,x41.2.2.2.1,x41.2.2.2.2.1,x41.2.2.2.2.2.1,()),(⟨none,0,0⟩:SlV),(1:Int),()) w40)
 ((D27 b24/\LoadS w26.drew ⟨b24,0,none⟩ (.int .i64) λ(x42:Int)=>
 cond (decide (x42>4))
 (StoreV w32 ⟨b1,0,none⟩ [.int .i64 0,.int .i64 0,.int .i64 0,.int .u32 0,.int .u64 0,.int .u64 0] λw43=>
 LoadA w43 ⟨b1,0,none⟩ [.int .i64,.int .i64,.int .i64,.int .u32,.int .u64,.int .u64] λ(x44:Int×Int×Int×Int×Int×Int×Unit)=>
 K ((x44.1,x44.2.1,x44.2.2.1,x44.2.2.2.1,x44.2.2.2.2.1,x44.2.2.2.2.2.1,()),(⟨none,0,0⟩:SlV),(1:Int),()) w43)
 (DrawV λD45=>
 (D45 b24/\LoadA w32.drew ⟨b24,0,none⟩ [.int .i64,.int .i64,.int .i64,.int .u32,.int .u64,.int .u64] λ(x46:Int×Int×Int×Int×Int×Int×Unit)=>
 NewV #[] 5 w32.drew λb47 w48=>
 KeepOn D45 w32.drew w48 /\
 AppS w48 a7 (80-48) 1 λns53=>
 AppV w48 5 1 1 (some ⟨b47,0,none⟩) 0 0 ns53 (80-48) λa49 n50 c51 w52=>
 KeepOn D45 w32.drew w52 /\
 StoreV w52 ⟨b1,0,none⟩ [.int .i64 x46.1,.int .i64 x46.2.1,.int .i64 x46.2.2.1,.int .u32 x46.2.2.2.1,.int .u64 x46.2.2.2.2.1,.int .u64 x46.2.2.2.2.2.1] λw54=>
 KeepOn D45 w32.drew w54 /\
 LoadA w54 ⟨b1,0,none⟩ [.int .i64,.int .i64,.int .i64,.int .u32,.int .u64,.int .u64] λ(x55:Int×Int×Int×Int×Int×Int×Unit)=>
 K ((x55.1,x55.2.1,x55.2.2.1,x55.2.2.2.1,x55.2.2.2.2.1,x55.2.2.2.2.2.1,()),(⟨a49,n50,c51⟩:SlV),(0:Int),()) w54))))))))
end Go.Proofs.YtcekmdehjnlkpaaGreat.Vc
namespace Go.Proofs.YtcekmdehjnlkpaaGreat.Vc
open Go Go.Eng Go.RowKit
theorem DrawV.but {body:(Nat->Prop)->Prop} (w:World) (b:Nat) (h:∀ D:Nat->Prop,(∀ k,k<w.heap.size->k≠b->D k)->(∀ w',(∀ k,k<w.heap.size->k≠b->w'.heap[k]? = w.heap[k]?)->KeepOn D w.drew w')->body D):DrawV body:=
 ⟨λk=>k<w.heap.size/\k≠b,h _ (λ_ h h'=>⟨h,h'⟩) λw' e k hk=>e k hk.1 hk.2⟩
theorem newU' {w:World} {K:Nat->World->Prop} (h:∀ b w1,Ext w w1->Own w1 w.heap.size 5 1 (some ⟨b,0,none⟩) 0 0 []->K b w1):NewV #[] 5 w K:=by
 rintro b w1 rfl rfl
 exact h _ _ (Ext.alloc _ _) (Own.zeros (w:=w) (B:=w.heap.size) (e:=5) (n:=0) (c:=0) (z:=.int .u8 0) (Nat.le_refl _) (Nat.zero_le _) (by omega) rfl)
abbrev zeroH:Hd:=⟨0,0,0,0,0,0⟩
def RPost (w:World) (xs:List Int) (r:(Int×Int×Int×Int×Int×Int×Unit)×SlV×Int×Unit) (w':World):Prop:=
 Ext w w'/\(xs.length≠88->r.1=zeroH.tup/\r.2.1=(⟨none,0,0⟩:SlV)/\r.2.2.1=2)/\(xs.length=88->okR xs->r.1=(hdOf xs).tup/\Res w w' r.2.1 (part xs 48 80)/\r.2.2.1=0) /\
  (xs.length=88->¬ okR xs->r.1=zeroH.tup/\r.2.1=(⟨none,0,0⟩:SlV)/\r.2.2.1=1)
theorem readTail {w w26:World} {xs:List Int} {a0 a6 a7:Option Addr} {c0 b1 b24:Nat} {c6 c7:Nat} (x26:Ext w w26) (hb1:Box w26 w.heap.size b1 35 zeroH.vs) (hb24:Box w26 w.heap.size b24 35 (hdOf xs).vs) (hne:b1≠b24)
  (hx:Ints w .u8 a0 88 c0 xs) (bx:Byt xs) (h6:Ints w .u8 a6 24 (c0-0) (part xs 0 24)) (h7:Ints w .u8 a7 (80-48) c7 (part xs 48 80)):head_Read.T c0 a0 a6 w26 b1 (RPost w xs) b24 a7:=by
 have hl:=hx.len
 have hcap:=hx.cap
 unfold head_Read.T
 refine DrawV.old w26 λD hD hkeep=>?_
 have x26':=x26.trans (Ext.drew w26)
 refine ⟨by omega,?_⟩
 intro a28 ha28
 have h28:=(hx.ext x26').sub (l:=24) (hh:=48) (m:=c0) (by omega) (by omega) (by omega) ha28
 refine (Invert_c (h6.ext x26') (by omega)).mono ?_
 rintro ⟨(s1:SlV),⟨⟩⟩ w1 h1
 dsimp only at h1 ⊢
 have x1:=(Ext.drew w26).trans h1.ext
 refine ⟨hkeep _ x1,?_⟩
 refine (Same_c h1.ints (h28.ext h1.ext) (invL_byt _) ((bx.drop 24).take _)).mono ?_
 rintro ⟨(r2:Bool),⟨⟩⟩ w2 ⟨h2,e2⟩
 dsimp only at h2 ⊢
 have x2:=x1.trans e2
 have X2:=x26.trans x2
 refine ⟨hkeep _ x2,?_⟩
 have b1':=hb1.ext x2
 have fail:¬ okR xs->StoreV w2 ⟨b1,0,none⟩ [.int .i64 0,.int .i64 0,.int .i64 0,.int .u32 0,.int .u64 0,.int .u64 0] λw33=>
   LoadA w33 ⟨b1,0,none⟩ [.int .i64,.int .i64,.int .i64,.int .u32,.int .u64,.int .u64] λ(x34:Int×Int×Int×Int×Int×Int×Unit)=>
   RPost w xs ((x34.1,x34.2.1,x34.2.2.1,x34.2.2.2.1,x34.2.2.2.2.1,x34.2.2.2.2.2.1,()),(⟨none,0,0⟩:SlV),(1:Int),()) w33:=λhno=>by
  refine b1'.store 0 (by simp) λw3 hb3 bel3 _ _=>?_
  refine ldH (h:=zeroH) hb3 ?_
  exact ⟨Below.trans X2 bel3,λh=>absurd hl h,λ_ h=>absurd h hno,λ_ _=>⟨rfl,rfl,rfl⟩⟩
 refine cond_of (λhc=>fail (λhok=>by
  have:=hok.2.2
  unfold part at this
  simp at hc
  rw [h2] at hc
  simp at hc
  exact hc this)) (λhc=>?_)
 have hsame:invL (part xs 0 24)=part xs 24 48:=by simp at hc;rw [h2] at hc;simpa [part] using hc
 have h3:(part xs 0 24).getD 3 0=xs.getD 3 0:=by
  unfold part
  rw [List.drop_zero,List.getD_eq_getElem?_getD,List.getElem?_take,if_pos (by omega),<- List.getD_eq_getElem?_getD]
 refine (h6.ext x26).idxD (Ext.drew w26) (i:=3) (by omega) (by omega) hD ?_
 rw [show (3:Int).toNat=3 from rfl,h3]
 refine cond_ne (λhz=>fail (λhok=>hz hok.2.1)) (λhz=>?_)
 have hD24:=hD _ hb24.lt
 have d24:=hb24.ext (Ext.drew w26)
 refine ⟨hD24,d24.ld (i:=0) (h:=.int .i64) (x:=xs.getD 0 0) rfl ?_⟩
 refine cond_d (λh1=>fail (λhok=>by have:=hok.1;omega)) (λk1=>?_)
 refine ⟨hD24,d24.ld (i:=0) (h:=.int .i64) (x:=xs.getD 0 0) rfl ?_⟩
 refine cond_d (λh1=>fail (λhok=>by have:=hok.1;omega)) (λk2=>?_)
 have hok:okR xs:=⟨by omega,hz,hsame⟩
 refine DrawV.but w2 b1 λD2 hD2 hkeep2=>?_
 have e24:=hb24.ext x2
 refine ⟨hD2 _ e24.lt (λh=>hne h.symm),ldH (h:=hdOf xs) (e24.ext (Ext.drew w2)) ?_⟩
 refine newU' λb5 w5 e5 o5=>?_
 have keepB:∀ {w':World},Ext w2 w'->KeepOn D2 w2.drew w':=λe=>hkeep2 _ λk hk _=>e.block k hk
 have x5:=(Ext.drew w2).trans e5
 refine ⟨keepB x5,?_⟩
 refine appL (xs:=[]) (o5.mono (Ext.drew w2).size) (h7.ext (X2.trans x5)) x5.size (by omega) λa6' c6' w6 o6 b6=>?_
 have x6:Ext w2 w6:=Below.trans x5 b6
 refine ⟨keepB x6,?_⟩
 have b1'':=b1'.ext x6
 refine b1''.store 0 (by simp) λw7 hb7 bel7 oth7 _=>?_
 refine ⟨hkeep2 _ λk hk hkb=>by rw [oth7 k hkb];exact x6.block k hk,?_⟩
 refine ldH (h:=hdOf xs) hb7 ?_
 refine ⟨Below.trans (X2.trans x6) bel7,λh=>absurd hl h,λ_ _=>⟨rfl,⟨Below.trans (X2.trans x6) bel7,?_⟩,rfl⟩,λ_ h=>absurd hok h⟩
 rw [Nat.zero_add,List.nil_append] at *
 refine (o6.other λp hp=>oth7 _ ?_).mono X2.size
 rcases o6.at_ with ⟨h1,_⟩ | ⟨b,cs,h1,h2,_⟩
 ·rw [h1] at hp;cases hp
 ·rw [h1] at hp
  have:=Option.some.inj hp
  subst this
  have:=b1'.lt
  show b≠b1
  omega
theorem sub_part {w:World} {a:Option Addr} {n c:Nat} {xs:List Int} (h:Ints w .u8 a n c xs) {i j m:Nat} (h1:i<=j) (h2:j<=n) (h3:j<=m) {a':Option Addr} (ha:a'=if m=i then a else a.map (·.add (i*1))):Ints w .u8 a' (j-i) (m-i) (part xs i j):=h.sub h1 h2 h3 ha
theorem part_part {xs:List Int} {i j k:Nat} (h:j<=k):part (part xs 0 k) i j=part xs i j:=by
 unfold part
 rw [List.drop_zero,Nat.sub_zero,List.drop_take,List.take_take,Nat.min_eq_left (by omega)]
theorem Read_c {w:World} {a0:Option Addr} {n0 c0:Nat} {xs:List Int} (hx:Ints w .u8 a0 n0 c0 xs) (bx:Byt xs) :
  CallV Tryz.prog 83 #[.slice a0 n0 c0] w [.agg [.int .i64,.int .i64,.int .i64,.int .u32,.int .u64,.int .u64],.one .sl,.one (.int .i64)] λr w'=>RPost w xs r w':=by
 refine head_Read.vc _ _ _ _ _ ?_
 unfold head_Read.P
 have lx:=hx.len
 have hcap:=hx.cap
 refine newH (h:=zeroH) λb1 w2 e2 hb1=>?_
 refine cond_ne (λhne=>?_) (λheq=>?_)
 ·refine hb1.store 0 (by simp) λw3 hb3 bel3 _ _=>?_
  refine ldH (h:=zeroH) hb3 ?_
  exact ⟨Below.trans e2 bel3,λ_=>⟨rfl,rfl,rfl⟩,λh=>absurd (by omega) hne,λh=>absurd (by omega) hne⟩
 have h88:n0=88:=by omega
 subst h88
 refine DrawV.old w2 λD5 hD5 hkeep5=>?_
 have x5:=e2.trans (Ext.drew w2)
 refine ⟨by omega,?_⟩
 intro a6 ha6
 refine ⟨by omega,?_⟩
 intro a7 ha7
 have h6:=sub_part hx (i:=0) (j:=24) (m:=c0) (by omega) (by omega) (by omega) ha6
 have h7:=sub_part hx (i:=48) (j:=80) (m:=c0) (by omega) (by omega) (by omega) ha7
 refine DrawV.old w2.drew λD hD hkeep=>?_
 have x8:=x5.trans (Ext.drew w2.drew)
 have b0:=bx.getD 0
 have b1':=bx.getD 1
 have b2:=bx.getD 2
 have g:∀ k,k<24->(part xs 0 24).getD k 0=xs.getD k 0:=λk hk=>by
  unfold part
  rw [List.drop_zero,List.getD_eq_getElem?_getD,List.getElem?_take,if_pos (by omega),<- List.getD_eq_getElem?_getD]
 refine (h6.ext x5).idxD (Ext.drew w2.drew) (i:=0) (by omega) (by omega) hD ?_
 refine (h6.ext x5).idxD (Ext.drew w2.drew) (i:=1) (by omega) (by omega) hD ?_
 refine (h6.ext x5).idxD (Ext.drew w2.drew) (i:=2) (by omega) (by omega) hD ?_
 rw [show (0:Int).toNat=0 from rfl,show (1:Int).toNat=1 from rfl,show (2:Int).toNat=2 from rfl,g 0 (by omega),g 1 (by omega),g 2 (by omega)]
 rw [i64_id (by omega:-9223372036854775808<=xs.getD 0 0) (by omega),i64_id (by omega:-9223372036854775808<=xs.getD 1 0) (by omega),i64_id (by omega:-9223372036854775808<=xs.getD 2 0) (by omega)]
 refine ⟨by omega,?_⟩
 intro a15 ha15
 refine ⟨by omega,?_⟩
 intro a16 ha16
 refine ⟨by omega,?_⟩
 intro a17 ha17
 have h15:=sub_part h6 (i:=4) (j:=8) (m:=c0-0) (by omega) (by omega) (by omega) ha15
 have h16:=sub_part h6 (i:=8) (j:=16) (m:=c0-0) (by omega) (by omega) (by omega) ha16
 have h17:=sub_part h6 (i:=16) (j:=24) (m:=c0-0) (by omega) (by omega) (by omega) ha17
 rw [part_part (by omega)] at h15 h16 h17
 generalize hW:w2.drew.drew=W at *
 have keepW:∀ {w':World},Ext W w'->KeepOn D W w':=λe=>by
  have:=hkeep _ ((Ext.drew w2.drew).trans (by rw [hW];exact e))
  exact this
 have nbl:=numB_bd (part_byt bx 4 8) (part_length (by omega) (by omega)) (by omega)
 have hu:IntKind.u32.wrap (numB (part xs 4 8))=numB (part xs 4 8):=by rw [u32_wrap];exact Int.emod_eq_of_lt nbl.1 (by have:=nbl.2;simpa using this)
 have hb1W:=hb1.ext ((Ext.drew w2).trans (by rw [<-hW];exact Ext.drew w2.drew):Ext w2 W)
 have done:∀ {w25:World} {b24:Nat},Ext W w25->Box w25 W.heap.size b24 35 zeroH.vs->StoreV w25 ⟨b24,0,none⟩ (hdOf xs).vs λw26=>KeepOn D W w26/\head_Read.T c0 a0 a6 w26 b1 (RPost w xs) b24 a7:=λ{w25 b24} e25 hb24=>by
  refine hb24.store 0 (by simp) λw26 hb26 bel26 _ _=>?_
  have X26:Ext W w26:=Below.trans e25 bel26
  refine ⟨keepW X26,?_⟩
  refine readTail (c6:=0) (x8.trans X26) (hb1W.ext X26) ⟨Nat.le_trans x8.size hb26.base,hb26.heap⟩ (λh=>?_) hx bx h6 h7
  have:=hb1W.lt
  have:=hb24.base
  omega
 have N15:∀ {w':World},Ext W w'->CallV Tryz.prog 114 #[.slice a15 (8-4) (c0-0-4)] w' [.one (.int .u64)] λr w2=>r.1=numB (part xs 4 8)/\w2=w':=λe=>Num_c (h15.ext (x8.trans e)) (part_byt bx 4 8)
 have N16:∀ {w':World},Ext W w'->CallV Tryz.prog 114 #[.slice a16 (16-8) (c0-0-8)] w' [.one (.int .u64)] λr w2=>r.1=numB (part xs 8 16)/\w2=w':=λe=>Num_c (h16.ext (x8.trans e)) (part_byt bx 8 16)
 have N17:∀ {w':World},Ext W w'->CallV Tryz.prog 114 #[.slice a17 (24-16) (c0-0-16)] w' [.one (.int .u64)] λr w2=>r.1=numB (part xs 16 24)/\w2=w':=λe=>Num_c (h17.ext (x8.trans e)) (part_byt bx 16 24)
 have kW:=keepW (Ext.refl W)
 refine ⟨?_,?_⟩
 ·refine (N15 (Ext.refl _)).mono ?_
  rintro ⟨(r1:Int),⟨⟩⟩ w' ⟨q1,rfl⟩
  dsimp only at q1 ⊢
  subst q1
  rw [hu]
  refine ⟨kW,?_,?_⟩
  ·refine (N16 (Ext.refl _)).mono ?_
   rintro ⟨(r2:Int),⟨⟩⟩ w' ⟨q2,rfl⟩
   dsimp only at q2 ⊢
   subst q2
   refine ⟨kW,?_,?_⟩
   ·refine (N17 (Ext.refl _)).mono ?_
    rintro ⟨(r3:Int),⟨⟩⟩ w' ⟨q3,rfl⟩
    dsimp only at q3 ⊢
    subst q3
    exact ⟨kW,newH (h:=zeroH) λb24 w25 e25 hb24=>⟨keepW e25,done e25 hb24⟩⟩
   ·refine newH (h:=zeroH) λb24 w25 e25 hb24=>⟨keepW e25,?_⟩
    refine (N17 e25).mono ?_
    rintro ⟨(r3:Int),⟨⟩⟩ w' ⟨q3,rfl⟩
    dsimp only at q3 ⊢
    subst q3
    exact ⟨keepW e25,done e25 hb24⟩
  ·refine newH (h:=zeroH) λb24 w25 e25 hb24=>⟨keepW e25,?_⟩
   refine (N16 e25).mono ?_
   rintro ⟨(r2:Int),⟨⟩⟩ w' ⟨q2,rfl⟩
   dsimp only at q2 ⊢
   subst q2
   refine ⟨keepW e25,?_⟩
   refine (N17 e25).mono ?_
   rintro ⟨(r3:Int),⟨⟩⟩ w' ⟨q3,rfl⟩
   dsimp only at q3 ⊢
   subst q3
   exact ⟨keepW e25,done e25 hb24⟩
 ·refine newH (h:=zeroH) λb24 w25 e25 hb24=>⟨keepW e25,?_⟩
  refine (N15 e25).mono ?_
  rintro ⟨(r1:Int),⟨⟩⟩ w' ⟨q1,rfl⟩
  dsimp only at q1 ⊢
  subst q1
  rw [hu]
  refine ⟨keepW e25,?_⟩
  refine (N16 e25).mono ?_
  rintro ⟨(r2:Int),⟨⟩⟩ w' ⟨q2,rfl⟩
  dsimp only at q2 ⊢
  subst q2
  refine ⟨keepW e25,?_⟩
  refine (N17 e25).mono ?_
  rintro ⟨(r3:Int),⟨⟩⟩ w' ⟨q3,rfl⟩
  dsimp only at q3 ⊢
  subst q3
  exact ⟨keepW e25,done e25 hb24⟩
set_option maxRecDepth 100000 in
theorem eqH (a1 a2 a3 a4 a5 a6 b1 b2 b3 b4 b5 b6:Int) (w:World):(Op.equalIn 10000 35 (.agg #[.int .i64 a1,.int .i64 a2,.int .i64 a3,.int .u32 a4,.int .u64 a5,.int .u64 a6]) (.agg #[.int .i64 b1,.int .i64 b2,.int .i64 b3,.int .u32 b4,.int .u64 b5,.int .u64 b6])).run Tryz.prog w =
  .ok (a1 == b1 && (a2 == b2 && (a3 == b3 && (a4 == b4 && (a5 == b5 && a6 == b6))))) w:=by
 have u1:=Tryz.underlying3
 have u2:=Tryz.underlying33
 have u3:=Tryz.underlying25
 have v1:=Tryz.isAgg3
 have v2:=Tryz.isAgg33
 have v3:=Tryz.isAgg25
 have z1:=Tryz.sizeOf3
 have z2:=Tryz.sizeOf33
 have z3:=Tryz.sizeOf25
 have hS:Tryz.prog.underlying 35=some (.struct (Tryz.prog.fieldsOf 35)):=by kernel_rfl
 rw [show (10000:Nat)=9999+1 from rfl,run_equalIn_agg w 9999 35 _ _ hS (by kernel_rfl)]
 simp only [Program.fieldsOf,Tryz.underlying35]
 go_simp
 repeat' split
 all_goals simp_all
open Classical in
theorem eqHd {g h:Hd} {K:Bool->Prop} (hk:K (decide (g=h))):AggEq Tryz.prog 35 #[.int .i64 g.k,.int .i64 g.n,.int .i64 g.c,.int .u32 g.l,.int .u64 g.e,.int .u64 g.t] #[.int .i64 h.k,.int .i64 h.n,.int .i64 h.c,.int .u32 h.l,.int .u64 h.e,.int .u64 h.t] K:=by
 refine ⟨_,λw=>eqH _ _ _ _ _ _ _ _ _ _ _ _ w,by kernel_rfl,?_⟩
 have:(g.k == h.k && (g.n == h.n && (g.c == h.c && (g.l == h.l && (g.e == h.e && g.t == h.t)))))=decide (g=h):=by
  obtain ⟨a1,a2,a3,a4,a5,a6⟩:=g
  obtain ⟨b1,b2,b3,b4,b5,b6⟩:=h
  apply Bool.eq_iff_iff.2
  simp
 rw [this]
 exact hk
theorem tagL_length {tg:List Int} (hl:tg.length=0\/tg.length=32):(tagL tg).length=32:=by
 unfold tagL
 split
 ·simp
 ·omega
theorem endL_length (h:Hd) {tg:List Int} (hl:tg.length=0\/tg.length=32):(endL h tg).length=88:=by
 unfold endL
 rw [List.length_append,List.length_append,List.length_append,invL_length,hdL_length,tagL_length hl,List.length_replicate]
theorem big_byt (n:Int) (k:Nat):Byt (big n k):=(leL_byt n k).reverse
theorem hdL_byt {h:Hd} (hR:HRight h):Byt (hdL h):=by
 unfold HRight at hR
 unfold hdL
 refine (((Byt.cons (by omega) (Byt.cons (by omega) (Byt.cons (by omega) (Byt.cons (by omega) Byt.nil)))).append (big_byt _ _)).append (big_byt _ _)).append (big_byt _ _)
theorem endL_byt {h:Hd} (hg:h.rng) (hR:HRight h) {tg:List Int} (bt:Byt tg):Byt (endL h tg):=by
 unfold endL
 refine (((hdL_byt hR).append (invL_byt _)).append ?_).append (Byt.replicate (by omega) (by omega) _)
 unfold tagL
 split
 ·exact Byt.replicate (by omega) (by omega) _
 ·exact bt
def bitB (x:Int) (j:Nat):Bool:=x / 2 ^ j % 2 == 1
def bv (x:Int):BitVec 8:=BitVec.ofInt 8 x
theorem bit_bv0:∀ x:Fin 256,∀ j:Fin 8,bitB ((x.val:Nat):Int) j.val=(bv ((x.val:Nat):Int)).getLsbD j.val:=by decide +kernel
theorem bit_bv {x:Int} (hx:0<=x/\x<256) {j:Nat} (hj:j<8):bitB x j=(bv x).getLsbD j:=by
 obtain ⟨y,rfl⟩:=byte_nat hx
 exact bit_bv0 y ⟨j,hj⟩
theorem bv_wrap (v:BitVec 8):bv (IntKind.u8.wrap (v.toNat:Int))=v:=by
 have:=v.isLt
 rw [u8_wrap,show ((v.toNat:Nat):Int) % 256=((v.toNat:Nat):Int) by omega]
 unfold bv
 rw [BitVec.ofInt_natCast]
 simp
theorem byte_ext {x y:Int} (hx:0<=x/\x<256) (hy:0<=y/\y<256) (h:∀ j,j<8->bitB x j=bitB y j):x=y:=by
 have:bv x=bv y:=BitVec.eq_of_getLsbD_eq λj hj=>by rw [<-bit_bv hx hj,<- bit_bv hy hj];exact h j hj
 obtain ⟨a,rfl⟩:=byte_nat hx
 obtain ⟨b,rfl⟩:=byte_nat hy
 unfold bv at this
 rw [BitVec.ofInt_natCast,BitVec.ofInt_natCast] at this
 have e:=congrArg BitVec.toNat this
 rw [BitVec.toNat_ofNat,BitVec.toNat_ofNat,Nat.mod_eq_of_lt a.isLt,Nat.mod_eq_of_lt b.isLt] at e
 rw [e]
theorem bit_and (a b:Int) {j:Nat} (hj:j<8) (ha:0<=a/\a<256) (hb:0<=b/\b<256):bitB (Go.bits .and .u8 a b) j=(bitB a j && bitB b j):=by
 rw [bit_bv (bits8_byt .and a b) hj,bit_bv ha hj,bit_bv hb hj]
 rw [show bv (Go.bits .and .u8 a b)=bv a &&& bv b from bv_wrap _,BitVec.getLsbD_and]
theorem bit_andNot (a b:Int) {j:Nat} (hj:j<8) (ha:0<=a/\a<256) (hb:0<=b/\b<256):bitB (Go.bits .andNot .u8 a b) j=(bitB a j && !bitB b j):=by
 rw [bit_bv (bits8_byt .andNot a b) hj,bit_bv ha hj,bit_bv hb hj]
 rw [show bv (Go.bits .andNot .u8 a b)=bv a &&& ~~~(bv b) from bv_wrap _,BitVec.getLsbD_and,BitVec.getLsbD_not]
 simp [hj]
theorem bit_xor {a b:Int} {j:Nat} (hj:j<8) (ha:0<=a/\a<256) (hb:0<=b/\b<256):bitB (xor8 a b) j=(bitB a j ^^ bitB b j):=by
 unfold xor8
 rw [bit_bv (bits8_byt .xor a b) hj,bit_bv ha hj,bit_bv hb hj]
 rw [show bv (Go.bits .xor .u8 a b)=bv a ^^^ bv b from bv_wrap _,BitVec.getLsbD_xor]
theorem bit_pow0:∀ i j:Fin 8,bitB ((2:Int) ^ i.val) j.val=decide (i.val=j.val):=by decide +kernel
theorem pow_byt0:∀ i:Fin 8,0<=(2:Int) ^ i.val/\(2:Int) ^ i.val<256:=by decide +kernel
theorem f1_0:∀ x:Fin 256,∀ j:Fin 8,(Go.bits .and .u8 (Int.fdiv ((x.val:Nat):Int) (2 ^ (Nat.min j.val 8))) 1 == 1)=bitB ((x.val:Nat):Int) j.val:=by decide +kernel
theorem f1 {x:Int} (hx:0<=x/\x<256) {j:Nat} (hj:j<8):(Go.bits .and .u8 (Int.fdiv x (2 ^ (Nat.min j 8))) 1 == 1)=bitB x j:=by
 obtain ⟨y,rfl⟩:=byte_nat hx
 exact f1_0 y ⟨j,hj⟩
theorem f2_0:∀ j:Fin 8,IntKind.u8.wrap ((1:Int)*(2 ^ (Nat.min j.val 8)))=2 ^ j.val:=by decide +kernel
theorem f3_0:∀ x:Fin 256,∀ j:Fin 8,bitB ((x.val:Nat):Int) j.val=true->IntKind.u8.wrap (((x.val:Nat):Int)-IntKind.u8.wrap (2 ^ j.val))=xor8 ((x.val:Nat):Int) (2 ^ j.val):=by decide +kernel
theorem f3 {x:Int} (hx:0<=x/\x<256) {j:Nat} (hj:j<8) (h:bitB x j=true):IntKind.u8.wrap (x-IntKind.u8.wrap (2 ^ j))=xor8 x (2 ^ j):=by
 obtain ⟨y,rfl⟩:=byte_nat hx
 exact f3_0 y ⟨j,hj⟩ h
theorem f6 {x:Int} (hx:0<=x/\x<256) (j:Nat):(Int.tmod (Int.tdiv (IntKind.i64.wrap x) (2 ^ j)) 2 == 1)=bitB x j:=by
 rw [i64_id (by omega) (by omega),Int.tdiv_eq_ediv_of_nonneg hx.1,Int.tmod_eq_emod_of_nonneg (Int.ediv_nonneg hx.1 (Int.le_of_lt (Int.pow_pos (by omega))))]
 rfl
def hasL (xs:List Int) (i:Nat):Bool:=bitB (xs.getD (i / 8) 0) (i % 8)
def mBit (ms:List Int) (i:Nat):Bool:=if ms.length=0 then true else bitB (ms.getD (i / 8 % ms.length) 0) (i % 8)
def flip1 (xs:List Int) (i:Nat):List Int:=xs.set (i / 8) (xor8 (xs.getD (i / 8) 0) (2 ^ (i % 8)))
def turn (xs:List Int) (f:Nat->Bool):Nat->List Int
 | 0=>xs
 | k+1=>if f k then flip1 (turn xs f k) k else turn xs f k
theorem flip1_length (xs:List Int) (i:Nat):(flip1 xs i).length=xs.length:=by simp [flip1]
theorem turn_length (xs:List Int) (f:Nat->Bool):∀ k,(turn xs f k).length=xs.length
 | 0=>rfl
 | k+1=>by
  unfold turn
  split
  ·rw [flip1_length,turn_length xs f k]
  ·exact turn_length xs f k
theorem flip1_byt {xs:List Int} (h:Byt xs) (i:Nat):Byt (flip1 xs i):=by
 intro y hy
 rcases List.mem_or_eq_of_mem_set hy with h1 | h1
 ·exact h y h1
 ·rw [h1];exact bits8_byt .xor _ _
theorem turn_byt {xs:List Int} (h:Byt xs) (f:Nat->Bool):∀ k,Byt (turn xs f k)
 | 0=>h
 | k+1=>by
  unfold turn
  split
  ·exact flip1_byt (turn_byt h f k) k
  ·exact turn_byt h f k
theorem turn_congr {xs:List Int} {f f':Nat->Bool}:∀ {k:Nat},(∀ i,i<k->f i=f' i)->turn xs f k=turn xs f' k
 | 0,_=>rfl
 | k+1,h=>by
  unfold turn
  rw [turn_congr (λi hi=>h i (by omega)),h k (by omega)]
theorem hasL_flip {xs:List Int} (h:Byt xs) {i k:Nat} (hi:i<8*xs.length) (hk:k<8*xs.length):hasL (flip1 xs k) i=if i=k then !hasL xs i else hasL xs i:=by
 unfold hasL flip1
 have hj:i % 8<8:=Nat.mod_lt _ (by omega)
 have hj':k % 8<8:=Nat.mod_lt _ (by omega)
 by_cases e:i / 8=k / 8
 ·have hset:(xs.set (k / 8) (xor8 (xs.getD (k / 8) 0) (2 ^ (k % 8)))).getD (i / 8) 0=xor8 (xs.getD (k / 8) 0) (2 ^ (k % 8)):=by
   rw [getD_get (by simp;omega)]
   simp [e]
  rw [hset,bit_xor hj (h.getD _) (pow_byt0 ⟨_,hj'⟩),bit_pow0 ⟨_,hj'⟩ ⟨_,hj⟩,e]
  by_cases e2:i=k
  ·subst e2;rw [if_pos rfl,decide_eq_true rfl,Bool.xor_true]
  ·rw [if_neg e2,decide_eq_false (by dsimp only;omega),Bool.xor_false]
 ·have hset:(xs.set (k / 8) (xor8 (xs.getD (k / 8) 0) (2 ^ (k % 8)))).getD (i / 8) 0=xs.getD (i / 8) 0:=by
   rw [List.getD_eq_getElem?_getD,List.getElem?_set_ne (λh=>e h.symm),<- List.getD_eq_getElem?_getD]
  rw [hset,if_neg (λe2=>e (by rw [e2]))]
theorem hasL_turn {xs:List Int} (h:Byt xs) (f:Nat->Bool) {i:Nat} (hi:i<8*xs.length):∀ k,k<=8*xs.length->hasL (turn xs f k) i=if i<k/\f i=true then !hasL xs i else hasL xs i
 | 0,_=>by rw [if_neg (by omega)];rfl
 | k+1,hk=>by
  have ih:=hasL_turn h f hi k (by omega)
  unfold turn
  by_cases hf:f k=true
  ·rw [if_pos hf,hasL_flip (turn_byt h f k) (by rw [turn_length];exact hi) (by rw [turn_length];omega),ih]
   by_cases e:i=k
   ·subst e
    rw [if_pos rfl,if_neg (by omega),if_pos ⟨by omega,hf⟩]
   ·rw [if_neg e]
    by_cases e2:i<k/\f i=true
    ·rw [if_pos e2,if_pos ⟨by omega,e2.2⟩]
    ·rw [if_neg e2,if_neg (λh=>e2 ⟨by omega,h.2⟩)]
  ·rw [if_neg hf,ih]
   by_cases e2:i<k/\f i=true
   ·rw [if_pos e2,if_pos ⟨by omega,e2.2⟩]
   ·rw [if_neg e2,if_neg (λh=>e2 ⟨by by_cases e:i=k;exact absurd (e ▸ h.2) hf;omega,h.2⟩)]
theorem bits_ext {xs ys:List Int} (hx:Byt xs) (hy:Byt ys) (hl:xs.length=ys.length) (h:∀ i,i<8*xs.length->hasL xs i=hasL ys i):xs=ys:=by
 refine List.ext_getElem hl λm h1 h2=>?_
 rw [<-getD_get h1,<- getD_get h2]
 refine byte_ext (hx.getD m) (hy.getD m) λj hj=>?_
 have:=h (8*m+j) (by omega)
 unfold hasL at this
 rwa [show (8*m+j) / 8=m by omega,show (8*m+j) % 8=j by omega] at this
def andL (xs ys:List Int):List Int:=(List.range xs.length).map λi=>Go.bits .and .u8 (xs.getD i 0) (ys.getD i 0)
theorem andL_length (xs ys:List Int):(andL xs ys).length=xs.length:=by simp [andL]
theorem andL_byt (xs ys:List Int):Byt (andL xs ys):=by
 intro y hy
 obtain ⟨i,_,rfl⟩:=List.mem_map.1 hy
 exact bits8_byt .and _ _
theorem hasL_and {xs ys:List Int} (hx:Byt xs) (hy:Byt ys) {i:Nat} (hi:i<8*xs.length):hasL (andL xs ys) i=(hasL xs i && hasL ys i):=by
 unfold hasL
 have hj:i % 8<8:=Nat.mod_lt _ (by omega)
 have hb:(andL xs ys).getD (i / 8) 0=Go.bits .and .u8 (xs.getD (i / 8) 0) (ys.getD (i / 8) 0):=by
  rw [getD_get (by rw [andL_length];omega)]
  simp [andL]
 rw [hb,bit_and _ _ hj (hx.getD _) (hy.getD _)]
def clrL (xs ys:List Int):List Int:=(List.range xs.length).map λi=>Go.bits .andNot .u8 (xs.getD i 0) (ys.getD i 0)
theorem clrL_length (xs ys:List Int):(clrL xs ys).length=xs.length:=by simp [clrL]
theorem clrL_byt (xs ys:List Int):Byt (clrL xs ys):=by
 intro y hy
 obtain ⟨i,_,rfl⟩:=List.mem_map.1 hy
 exact bits8_byt .andNot _ _
theorem hasL_clr {xs ys:List Int} (hx:Byt xs) (hy:Byt ys) {i:Nat} (hi:i<8*xs.length):hasL (clrL xs ys) i=(hasL xs i && !hasL ys i):=by
 unfold hasL
 have hj:i % 8<8:=Nat.mod_lt _ (by omega)
 have hb:(clrL xs ys).getD (i / 8) 0=Go.bits .andNot .u8 (xs.getD (i / 8) 0) (ys.getD (i / 8) 0):=by
  rw [getD_get (by rw [clrL_length];omega)]
  simp [clrL]
 rw [hb,bit_andNot _ _ hj (hx.getD _) (hy.getD _)]
def lastOf (c:Nat->Bool):Nat->Int
 | 0=>-1
 | k+1=>if c k then (k:Int) else lastOf c k
theorem lastOf_congr {c d:Nat->Bool}:∀ {k:Nat},(∀ i,i<k->c i=d i)->lastOf c k=lastOf d k
 | 0,_=>rfl
 | k+1,h=>by unfold lastOf;rw [h k (by omega),lastOf_congr λi hi=>h i (by omega)]
end Go.Proofs.YtcekmdehjnlkpaaGreat.Vc
namespace Go.Proofs.YtcekmdehjnlkpaaGreat.Vc
open Go Go.Eng
def fault_Bit.A:Ann:=.no
def fault_Bit.P (a0:Option Addr) (n0 c0:Nat) (p1:Int) (w:World) (K:Bool×Unit->World->Prop):Prop:=
 cond (decide (p1<0))
 (K (false,()) w)
 (cond (((n0:Nat):Int) == 0)
 (K (true,()) w)
 (8≠(0:Int)/\Rng .i64 (Int.tdiv p1 8) /\
 ((n0:Nat):Int)≠(0:Int) /\
 (0<=(Int.tmod (Int.tdiv p1 8) ((n0:Nat):Int))/\(Int.tmod (Int.tdiv p1 8) ((n0:Nat):Int))<((n0:Nat):Int))/\∃ q1:Addr,a0=some q1 /\
 LoadS w (q1.add ((Int.tmod (Int.tdiv p1 8) ((n0:Nat):Int)).toNat*1)) (.int .u8) λ(x2:Int)=>
 8≠(0:Int) /\
 (0:Int)<=(Int.tmod p1 8) /\
 K (((Go.bits .and .u8 (Int.fdiv x2 (2 ^ (Nat.min ((Int.tmod p1 8)).toNat 8))) 1) == 1),()) w))
theorem fault_Bit.vc (a0:Option Addr) (n0 c0:Nat) (p1:Int) (w:World) (K:Bool×Unit->World->Prop) (h:fault_Bit.P a0 n0 c0 p1 w K):CallV Tryz.prog 141 #[.slice a0 n0 c0,.int .i64 p1] w [.one .bool] K:=by
 refine vcFun.of (A:=fault_Bit.A) (wr:=false) okf_ok follows h Tryz.func141 ?_
 kernel_rfl
def ref12_Bit.A:Ann:=.two .no (.two .no (.two (.draw (.take 0 (.take 1 (.take 2 (.take 3 (.take 4 (.take 5 (.take 6 (.take 7 (.take 8 (.take 9 (.take 10 (.take 11 (.take 12 (.take 13 (.take 14 (.eff 15 (.take 16 (.take 17 (.take 18 (.take 19 (.take 20 (.done))))))))))))))))))))))) .no))
def ref12_Bit.P (a0:Option Addr) (n0 c0:Nat) (p1:Int) (w:World) (K:Bool×Unit->World->Prop):Prop:=
 cond (decide (p1<0))
 (K (false,()) w)
 (DrawV λD1=>
 cond (((n0:Nat):Int) == 0)
 (K (true,()) w.drew)
 (8≠(0:Int)/\Rng .i64 (Int.tdiv p1 8) /\
 ((n0:Nat):Int)≠(0:Int) /\
 (0<=(Int.tmod (Int.tdiv p1 8) ((n0:Nat):Int))/\(Int.tmod (Int.tdiv p1 8) ((n0:Nat):Int))<((n0:Nat):Int))/\∃ q2:Addr,a0=some q2 /\
 (D1 (q2.add ((Int.tmod (Int.tdiv p1 8) ((n0:Nat):Int)).toNat*1)).block/\LoadS w.drew (q2.add ((Int.tmod (Int.tdiv p1 8) ((n0:Nat):Int)).toNat*1)) (.int .u8) λ(x3:Int)=>
 8≠(0:Int) /\
 CallV Tryz.prog 121 #[.int .i64 (Int.tmod p1 8)] w.drew [.one (.int .i64)] λ(r4:Int×Unit) w5=>
 KeepOn D1 w.drew w5 /\
 r4.1≠(0:Int)/\Rng .i64 (Int.tdiv (IntKind.i64.wrap x3) r4.1) /\
 2≠(0:Int) /\
 K (((Int.tmod (Int.tdiv (IntKind.i64.wrap x3) r4.1) 2) == 1),()) w5)))
theorem ref12_Bit.vc (a0:Option Addr) (n0 c0:Nat) (p1:Int) (w:World) (K:Bool×Unit->World->Prop) (h:ref12_Bit.P a0 n0 c0 p1 w K):CallV Tryz.prog 120 #[.slice a0 n0 c0,.int .i64 p1] w [.one .bool] K:=by
 refine vcFun.of (A:=ref12_Bit.A) (wr:=false) okf_ok follows h Tryz.func120 ?_
 kernel_rfl
def fault_Clear.A:Ann:=.no
def fault_Clear.P (a0:Option Addr) (n0 c0:Nat) (a1:Option Addr) (n1 c1:Nat) (a2:Option Addr) (n2 c2:Nat) (w:World) (K:SlV×Int×Unit->World->Prop):Prop:=
 cond (((n0:Nat):Int) != ((n1:Nat):Int))
 (K ((⟨none,0,0⟩:SlV),(2:Int),()) w)
 (CallV Tryz.prog 123 #[.slice a0 n0 c0,.slice a1 n1 c1] w [.one .sl] λ(r1:SlV×Unit) w2=>
 CallV Tryz.prog 122 #[.slice a0 n0 c0,.slice r1.1.a r1.1.n r1.1.c,.slice a2 n2 c2,.bool false] w2 [.one .sl] λ(r3:SlV×Unit) w4=>
 K (r3.1,(0:Int),()) w4)
theorem fault_Clear.vc (a0:Option Addr) (n0 c0:Nat) (a1:Option Addr) (n1 c1:Nat) (a2:Option Addr) (n2 c2:Nat) (w:World) (K:SlV×Int×Unit->World->Prop) (h:fault_Clear.P a0 n0 c0 a1 n1 c1 a2 n2 c2 w K):CallV Tryz.prog 97 #[.slice a0 n0 c0,.slice a1 n1 c1,.slice a2 n2 c2] w [.one .sl,.one (.int .i64)] K:=by
 refine vcFun.of (A:=fault_Clear.A) (wr:=false) okf_ok follows h Tryz.func97 ?_
 kernel_rfl
def fault_Fail.A:Ann:=.no
def fault_Fail.P (a0:Option Addr) (n0 c0:Nat) (a1:Option Addr) (n1 c1:Nat) (a2:Option Addr) (n2 c2:Nat) (w:World) (K:SlV×Int×Unit->World->Prop):Prop:=
 cond (((n0:Nat):Int) != ((n1:Nat):Int))
 (K ((⟨none,0,0⟩:SlV),(2:Int),()) w)
 (CallV Tryz.prog 123 #[.slice a0 n0 c0,.slice a1 n1 c1] w [.one .sl] λ(r1:SlV×Unit) w2=>
 CallV Tryz.prog 122 #[.slice a0 n0 c0,.slice r1.1.a r1.1.n r1.1.c,.slice a2 n2 c2,.bool true] w2 [.one .sl] λ(r3:SlV×Unit) w4=>
 K (r3.1,(0:Int),()) w4)
theorem fault_Fail.vc (a0:Option Addr) (n0 c0:Nat) (a1:Option Addr) (n1 c1:Nat) (a2:Option Addr) (n2 c2:Nat) (w:World) (K:SlV×Int×Unit->World->Prop) (h:fault_Fail.P a0 n0 c0 a1 n1 c1 a2 n2 c2 w K):CallV Tryz.prog 99 #[.slice a0 n0 c0,.slice a1 n1 c1,.slice a2 n2 c2] w [.one .sl,.one (.int .i64)] K:=by
 refine vcFun.of (A:=fault_Fail.A) (wr:=false) okf_ok follows h Tryz.func99 ?_
 kernel_rfl
def ref12_And.A:Ann:=.two .no (.two .no (.two (.two .no (.one (.loop [5,6,8,9,10,11,12,13,14,15,16,17,18,19,20,21,22,23,24,25] [(5,.one .sl),(6,.one (.int .i64))] (.two .no (.two (.one (.draw (.take 0 (.take 1 (.take 2 (.take 3 (.take 4 (.take 5 (.take 6 (.take 7 (.take 8 (.take 9 (.eff 10 (.eff 11 (.take 12 (.done)))))))))))))))) .no))))) .no))
def ref12_And.P (a0:Option Addr) (n0 c0:Nat) (a1:Option Addr) (n1 c1:Nat) (w:World) (K:SlV×Unit->World->Prop):Prop:=
 NewV #[] 5 w λb1 w2=>
 LoopV [.one .sl,.one (.int .i64)] ((⟨(some ⟨b1,0,none⟩),0,0⟩:SlV),(0:Int),()) w2 λ(z3:SlV×Int×Unit) w4 (K5:SlV×Int×Unit->World->Prop)=>
 cond (decide (z3.2.1<((n0:Nat):Int)))
 (DrawV λD6=>
 (0<=z3.2.1/\z3.2.1<((n0:Nat):Int))/\∃ q7:Addr,a0=some q7 /\
 (D6 (q7.add (z3.2.1.toNat*1)).block/\LoadS w4.drew (q7.add (z3.2.1.toNat*1)) (.int .u8) λ(x8:Int)=>
 (0<=z3.2.1/\z3.2.1<((n1:Nat):Int))/\∃ q9:Addr,a1=some q9 /\
 (D6 (q9.add (z3.2.1.toNat*1)).block/\LoadS w4.drew (q9.add (z3.2.1.toNat*1)) (.int .u8) λ(x10:Int)=>
 NewV #[.int .u8 (Go.bits .and .u8 x8 x10)] 5 w4.drew λb11 w12=>
 KeepOn D6 w4.drew w12 /\
 AppS w12 (some ⟨b11,0,none⟩) 1 1 λns17=>
 AppV w12 5 1 1 z3.1.a z3.1.n z3.1.c ns17 1 λa13 n14 c15 w16=>
 KeepOn D6 w4.drew w16 /\
 Rng .i64 (z3.2.1+1) /\
 K5 ((⟨a13,n14,c15⟩:SlV),z3.2.1+1,()) w16)))
 (K (z3.1,()) w4)
theorem ref12_And.vc (a0:Option Addr) (n0 c0:Nat) (a1:Option Addr) (n1 c1:Nat) (w:World) (K:SlV×Unit->World->Prop) (h:ref12_And.P a0 n0 c0 a1 n1 c1 w K):CallV Tryz.prog 90 #[.slice a0 n0 c0,.slice a1 n1 c1] w [.one .sl] K:=by
 refine vcFun.of (A:=ref12_And.A) (wr:=false) okf_ok follows h Tryz.func90 ?_
 kernel_rfl
def fault_Check.A:Ann:=.two .no (.two .no (.two (.two .no (.one (.loop [2,4,10,11,12,13,14,15,16,17,18,19,20,21,22,23] [(10,.one (.int .i64))] .no))) .no))
def fault_Check.P (a0:Option Addr) (n0 c0:Nat) (w:World) (K:Int×Unit->World->Prop):Prop:=
 cond (decide (((n0:Nat):Int)>64))
 (K ((2:Int),()) w)
 (LoopV [.one (.int .i64)] ((0:Int),()) w λ(z1:Int×Unit) w2 (K3:Int×Unit->World->Prop)=>
 cond (decide (z1.1<((n0:Nat):Int)))
 ((0<=z1.1/\z1.1<((n0:Nat):Int))/\∃ q4:Addr,a0=some q4 /\
 LoadA w2 (q4.add (z1.1.toNat*3)) [.int .i64,.bool,.sl] λ(x5:Int×Bool×SlV×Unit)=>
 NewV #[.int .i64 0,.bool false,.slice none 0 0] 187 w2 λb6 w7=>
 StoreV w7 ⟨b6,0,none⟩ [.int .i64 x5.1,.bool x5.2.1,.slice x5.2.2.1.a x5.2.2.1.n x5.2.2.1.c] λw8=>
 LoadS w8 ⟨b6,0,none⟩ (.int .i64) λ(x9:Int)=>
 cond (decide (x9<0))
 (K ((2:Int),()) w8)
 (LoadS w8 ⟨b6,2,none⟩ .sl λ(x10:SlV)=>
 cond (decide (((x10.n:Nat):Int)>64))
 (K ((2:Int),()) w8)
 (Rng .i64 (z1.1+1) /\
 K3 (z1.1+1,()) w8)))
 (K ((0:Int),()) w2))
theorem fault_Check.vc (a0:Option Addr) (n0 c0:Nat) (w:World) (K:Int×Unit->World->Prop) (h:fault_Check.P a0 n0 c0 w K):CallV Tryz.prog 53 #[.slice a0 n0 c0] w [.one (.int .i64)] K:=by
 refine vcFun.of (A:=fault_Check.A) (wr:=false) okf_ok follows h Tryz.func53 ?_
 kernel_rfl
def fault_At.A:Ann:=.two .no (.two (.two .no (.one (.loop [5,7,10,11,12,13,14,15,16,17,18,19,20,21,22,23,24] [(10,.one (.int .i64))] .no))) .no)
def fault_At.P (a0:Option Addr) (n0 c0:Nat) (p1:Int) (w:World) (K:(Int×Bool×SlV×Unit)×Bool×Unit->World->Prop):Prop:=
 NewV #[.int .i64 0,.bool false,.slice none 0 0] 187 w λb1 w2=>
 LoopV [.one (.int .i64)] ((0:Int),()) w2 λ(z3:Int×Unit) w4 (K5:Int×Unit->World->Prop)=>
 cond (decide (z3.1<((n0:Nat):Int)))
 ((0<=z3.1/\z3.1<((n0:Nat):Int))/\∃ q6:Addr,a0=some q6 /\
 LoadA w4 (q6.add (z3.1.toNat*3)) [.int .i64,.bool,.sl] λ(x7:Int×Bool×SlV×Unit)=>
 NewV #[.int .i64 0,.bool false,.slice none 0 0] 187 w4 λb8 w9=>
 StoreV w9 ⟨b8,0,none⟩ [.int .i64 x7.1,.bool x7.2.1,.slice x7.2.2.1.a x7.2.2.1.n x7.2.2.1.c] λw10=>
 LoadS w10 ⟨b8,0,none⟩ (.int .i64) λ(x11:Int)=>
 cond (x11 == p1)
 (NewV #[] 5 w10 λb12 w13=>
 LoadS w13 ⟨b8,2,none⟩ .sl λ(x14:SlV)=>
 AppS w13 x14.a x14.n 1 λns19=>
 AppV w13 5 1 1 (some ⟨b12,0,none⟩) 0 0 ns19 x14.n λa15 n16 c17 w18=>
 StoreV w18 ⟨b8,2,none⟩ [.slice a15 n16 c17] λw20=>
 LoadA w20 ⟨b8,0,none⟩ [.int .i64,.bool,.sl] λ(x21:Int×Bool×SlV×Unit)=>
 StoreV w20 ⟨b1,0,none⟩ [.int .i64 x21.1,.bool x21.2.1,.slice x21.2.2.1.a x21.2.2.1.n x21.2.2.1.c] λw22=>
 LoadA w22 ⟨b1,0,none⟩ [.int .i64,.bool,.sl] λ(x23:Int×Bool×SlV×Unit)=>
 K ((x23.1,x23.2.1,x23.2.2.1,()),true,()) w22)
 (Rng .i64 (z3.1+1) /\
 K5 (z3.1+1,()) w10))
 (StoreV w4 ⟨b1,0,none⟩ [.int .i64 0,.bool false,.slice none 0 0] λw24=>
 LoadA w24 ⟨b1,0,none⟩ [.int .i64,.bool,.sl] λ(x25:Int×Bool×SlV×Unit)=>
 K ((x25.1,x25.2.1,x25.2.2.1,()),false,()) w24)
theorem fault_At.vc (a0:Option Addr) (n0 c0:Nat) (p1:Int) (w:World) (K:(Int×Bool×SlV×Unit)×Bool×Unit->World->Prop) (h:fault_At.P a0 n0 c0 p1 w K):CallV Tryz.prog 124 #[.slice a0 n0 c0,.int .i64 p1] w [.agg [.int .i64,.bool,.sl],.one .bool] K:=by
 refine vcFun.of (A:=fault_At.A) (wr:=false) okf_ok follows h Tryz.func124 ?_
 kernel_rfl
def ref12_At.A:Ann:=.two .no (.two (.two .no (.one (.loop [4,5,6,7,8,9,10,11,12,13,14,15,16,17,18,19] [(5,.one (.int .i64))] .no))) .no)
def ref12_At.P (a0:Option Addr) (n0 c0:Nat) (p1:Int) (w:World) (K:Int×Unit->World->Prop):Prop:=
 LoopV [.one (.int .i64)] ((0:Int),()) w λ(z1:Int×Unit) w2 (K3:Int×Unit->World->Prop)=>
 cond (decide (z1.1<((n0:Nat):Int)))
 ((0<=z1.1/\z1.1<((n0:Nat):Int))/\∃ q4:Addr,a0=some q4 /\
 LoadS w2 (q4.add (z1.1.toNat*3)) (.int .i64) λ(x5:Int)=>
 cond (x5 == p1)
 (K (z1.1,()) w2)
 (Rng .i64 (z1.1+1) /\
 K3 (z1.1+1,()) w2))
 (K (((-1):Int),()) w2)
theorem ref12_At.vc (a0:Option Addr) (n0 c0:Nat) (p1:Int) (w:World) (K:Int×Unit->World->Prop) (h:ref12_At.P a0 n0 c0 p1 w K):CallV Tryz.prog 118 #[.slice a0 n0 c0,.int .i64 p1] w [.one (.int .i64)] K:=by
 refine vcFun.of (A:=ref12_At.A) (wr:=false) okf_ok follows h Tryz.func118 ?_
 kernel_rfl
def fault_Copy.A:Ann:=.two .no (.two .no (.two (.two .no (.one (.loop [3,5,8,9,10,11,12,13,14,15,16,17,18,19,20,21] [(3,.one .sl),(8,.one (.int .i64))] .no))) .no))
def fault_Copy.P (a0:Option Addr) (n0 c0:Nat) (w:World) (K:SlV×Unit->World->Prop):Prop:=
 LoopV [.one .sl,.one (.int .i64)] ((⟨none,0,0⟩:SlV),(0:Int),()) w λ(z1:SlV×Int×Unit) w2 (K3:SlV×Int×Unit->World->Prop)=>
 cond (decide (z1.2.1<((n0:Nat):Int)))
 ((0<=z1.2.1/\z1.2.1<((n0:Nat):Int))/\∃ q4:Addr,a0=some q4 /\
 LoadA w2 (q4.add (z1.2.1.toNat*3)) [.int .i64,.bool,.sl] λ(x5:Int×Bool×SlV×Unit)=>
 NewV #[.int .i64 0,.bool false,.slice none 0 0] 187 w2 λb6 w7=>
 StoreV w7 ⟨b6,0,none⟩ [.int .i64 x5.1,.bool x5.2.1,.slice x5.2.2.1.a x5.2.2.1.n x5.2.2.1.c] λw8=>
 NewV #[] 5 w8 λb9 w10=>
 LoadS w10 ⟨b6,2,none⟩ .sl λ(x11:SlV)=>
 AppS w10 x11.a x11.n 1 λns16=>
 AppV w10 5 1 1 (some ⟨b9,0,none⟩) 0 0 ns16 x11.n λa12 n13 c14 w15=>
 StoreV w15 ⟨b6,2,none⟩ [.slice a12 n13 c14] λw17=>
 LoadA w17 ⟨b6,0,none⟩ [.int .i64,.bool,.sl] λ(x18:Int×Bool×SlV×Unit)=>
 NewV #[.int .i64 x18.1,.bool x18.2.1,.slice x18.2.2.1.a x18.2.2.1.n x18.2.2.1.c] 187 w17 λb19 w20=>
 AppS w20 (some ⟨b19,0,none⟩) 1 3 λns25=>
 AppV w20 187 3 40 z1.1.a z1.1.n z1.1.c ns25 1 λa21 n22 c23 w24=>
 Rng .i64 (z1.2.1+1) /\
 K3 ((⟨a21,n22,c23⟩:SlV),z1.2.1+1,()) w24)
 (K (z1.1,()) w2)
theorem fault_Copy.vc (a0:Option Addr) (n0 c0:Nat) (w:World) (K:SlV×Unit->World->Prop) (h:fault_Copy.P a0 n0 c0 w K):CallV Tryz.prog 55 #[.slice a0 n0 c0] w [.one .sl] K:=by
 refine vcFun.of (A:=fault_Copy.A) (wr:=false) okf_ok follows h Tryz.func55 ?_
 kernel_rfl
def ref12_power.A:Ann:=.two .no (.two .no (.two (.two .no (.one (.loop [3,4,5,6,7,8,9,10,11] [(3,.one (.int .i64)),(4,.one (.int .i64))] .no))) .no))
def ref12_power.P (p0:Int) (w:World) (K:Int×Unit->World->Prop):Prop:=
 LoopV [.one (.int .i64),.one (.int .i64)] ((1:Int),(0:Int),()) w λ(z1:Int×Int×Unit) w2 (K3:Int×Int×Unit->World->Prop)=>
 cond (decide (z1.2.1<p0))
 (Rng .i64 (z1.1*2) /\
 Rng .i64 (z1.2.1+1) /\
 K3 (z1.1*2,z1.2.1+1,()) w2)
 (K (z1.1,()) w2)
theorem ref12_power.vc (p0:Int) (w:World) (K:Int×Unit->World->Prop) (h:ref12_power.P p0 w K):CallV Tryz.prog 121 #[.int .i64 p0] w [.one (.int .i64)] K:=by
 refine vcFun.of (A:=ref12_power.A) (wr:=false) okf_ok follows h Tryz.func121 ?_
 kernel_rfl
def fault_cleared.A:Ann:=.two .no (.two .no (.two (.two .no (.one (.loop [6,12,13,14,15,16,17,18,19,20,21,22,23,24,25,26,27] [(12,.one (.int .i64))] (.two .no (.two .no (.two (.one (.two .no (.draw (.take 0 (.take 1 (.take 2 (.take 3 (.take 4 (.take 5 (.take 6 (.take 7 (.take 8 (.take 9 (.take 10 (.take 11 (.eff 12 (.done))))))))))))))))) .no)))))) .no))
def fault_cleared.P (a0:Option Addr) (n0 c0:Nat) (a1:Option Addr) (n1 c1:Nat) (w:World) (K:SlV×Unit->World->Prop):Prop:=
 ((0:Int)<=(((n0:Nat):Int):Int)/\(((n0:Nat):Int):Int)<=(((n0:Nat):Int):Int)/\(((n0:Nat):Int):Int)<=9223372036854775807/\((1:Nat):Int)*(((n0:Nat):Int):Int)<=140737488355328) /\
 NewV (List.replicate (((n0:Nat):Int).toNat) [.int .u8 0]).flatten.toArray 5 w λb1 w2=>
 LoopV [.one (.int .i64)] ((0:Int),()) w2 λ(z3:Int×Unit) w4 (K5:Int×Unit->World->Prop)=>
 cond (decide (z3.1<((((n0:Nat):Int).toNat:Nat):Int)))
 (DrawV λD6=>
 (0<=z3.1/\z3.1<((n0:Nat):Int))/\∃ q7:Addr,a0=some q7 /\
 (D6 (q7.add (z3.1.toNat*1)).block/\LoadS w4.drew (q7.add (z3.1.toNat*1)) (.int .u8) λ(x8:Int)=>
 (0<=z3.1/\z3.1<((n1:Nat):Int))/\∃ q9:Addr,a1=some q9 /\
 (D6 (q9.add (z3.1.toNat*1)).block/\LoadS w4.drew (q9.add (z3.1.toNat*1)) (.int .u8) λ(x10:Int)=>
 (0<=z3.1/\z3.1<((((n0:Nat):Int).toNat:Nat):Int))/\∃ q11:Addr,(some ⟨b1,0,none⟩)=some q11 /\
 StoreV w4.drew (q11.add (z3.1.toNat*1)) [.int .u8 (Go.bits .andNot .u8 x8 x10)] λw12=>
 KeepOn D6 w4.drew w12 /\
 Rng .i64 (z3.1+1) /\
 K5 (z3.1+1,()) w12)))
 (K ((⟨(some ⟨b1,0,none⟩),((n0:Nat):Int).toNat,((n0:Nat):Int).toNat⟩:SlV),()) w4)
theorem fault_cleared.vc (a0:Option Addr) (n0 c0:Nat) (a1:Option Addr) (n1 c1:Nat) (w:World) (K:SlV×Unit->World->Prop) (h:fault_cleared.P a0 n0 c0 a1 n1 c1 w K):CallV Tryz.prog 123 #[.slice a0 n0 c0,.slice a1 n1 c1] w [.one .sl] K:=by
 refine vcFun.of (A:=fault_cleared.A) (wr:=false) okf_ok follows h Tryz.func123 ?_
 kernel_rfl
def ref12_Has.A:Ann:=.two .no (.two (.draw (.take 0 (.take 1 (.take 2 (.take 3 (.take 4 (.take 5 (.take 6 (.take 7 (.eff 8 (.take 9 (.take 10 (.take 11 (.take 12 (.done))))))))))))))) .no)
def ref12_Has.P (a0:Option Addr) (n0 c0:Nat) (p1:Int) (w:World) (K:Bool×Unit->World->Prop):Prop:=
 DrawV λD1=>
 8≠(0:Int)/\Rng .i64 (Int.tdiv p1 8) /\
 (0<=(Int.tdiv p1 8)/\(Int.tdiv p1 8)<((n0:Nat):Int))/\∃ q2:Addr,a0=some q2 /\
 (D1 (q2.add ((Int.tdiv p1 8).toNat*1)).block/\LoadS w.drew (q2.add ((Int.tdiv p1 8).toNat*1)) (.int .u8) λ(x3:Int)=>
 8≠(0:Int) /\
 CallV Tryz.prog 121 #[.int .i64 (Int.tmod p1 8)] w.drew [.one (.int .i64)] λ(r4:Int×Unit) w5=>
 KeepOn D1 w.drew w5 /\
 r4.1≠(0:Int)/\Rng .i64 (Int.tdiv (IntKind.i64.wrap x3) r4.1) /\
 2≠(0:Int) /\
 K (((Int.tmod (Int.tdiv (IntKind.i64.wrap x3) r4.1) 2) == 1),()) w5)
theorem ref12_Has.vc (a0:Option Addr) (n0 c0:Nat) (p1:Int) (w:World) (K:Bool×Unit->World->Prop) (h:ref12_Has.P a0 n0 c0 p1 w K):CallV Tryz.prog 119 #[.slice a0 n0 c0,.int .i64 p1] w [.one .bool] K:=by
 refine vcFun.of (A:=ref12_Has.A) (wr:=false) okf_ok follows h Tryz.func119 ?_
 kernel_rfl
def fault_turned_1.A:Ann:=.no
def fault_turned_1.P (p0:Int) (cq0 cq1 cq2:Addr) (w:World) (K:Bool×Unit->World->Prop):Prop:=
 LoadS w cq0 (.int .i64) λ(x1:Int)=>
 cond (p0 != x1)
 (LoadS w cq1 .sl λ(x2:SlV)=>
 8≠(0:Int)/\Rng .i64 (Int.tdiv p0 8) /\
 (0<=(Int.tdiv p0 8)/\(Int.tdiv p0 8)<((x2.n:Nat):Int))/\∃ q3:Addr,x2.a=some q3 /\
 LoadS w (q3.add ((Int.tdiv p0 8).toNat*1)) (.int .u8) λ(x4:Int)=>
 8≠(0:Int) /\
 (0:Int)<=(Int.tmod p0 8) /\
 cond ((Go.bits .and .u8 (Int.fdiv x4 (2 ^ (Nat.min ((Int.tmod p0 8)).toNat 8))) 1) == 1)
 (LoadS w cq2 .sl λ(x5:SlV)=>
 CallV Tryz.prog 141 #[.slice x5.a x5.n x5.c,.int .i64 p0] w [.one .bool] λ(r6:Bool×Unit) w7=>
 K (r6.1,()) w7)
 (K (false,()) w))
 (K (false,()) w)
theorem fault_turned_1.vc (p0:Int) (cq0 cq1 cq2:Addr) (w:World) (K:Bool×Unit->World->Prop) (h:fault_turned_1.P p0 cq0 cq1 cq2 w K):CallV Tryz.prog 140 #[.int .i64 p0,.pointer (some cq0),.pointer (some cq1),.pointer (some cq2)] w [.one .bool] K:=by
 refine vcFun.of (A:=fault_turned_1.A) (wr:=false) okf_ok follows h Tryz.func140 ?_
 kernel_rfl
end Go.Proofs.YtcekmdehjnlkpaaGreat.Vc
