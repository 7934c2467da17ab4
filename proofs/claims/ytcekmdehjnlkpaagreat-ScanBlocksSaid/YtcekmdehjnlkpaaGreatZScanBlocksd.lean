/- Texts in one: The plans of functions as plain statements, printed by wip/tools/vcgen.py; the kernel holds each to the code. The contracts of layer 22 (pagemap): what is newer. The contracts of layer 22 (pagemap): the map's parts, and what only reads them. Calls and open orders that own the first parts. The contracts of layer 22 (pagemap): a new map, a namespace more, the sectors of which a spot speaks, a spot lost. The contract of slices.SortFunc, laid at this program by the library's own command, in plain words. The contracts of layer 22 (pagemap): places, sorted. Plain laws of layer 22 (pagemap): what a map holds, and how often each place is a spot's. Plain laws of layer 22 (pagemap): what a put leaves, and which places it tells. The contracts of the document's map of layer 22: what it tells. Plain data of layer 23 (scan): what a block's pages tell, and what an array tells. The plans of functions as plain statements, printed by wip/tools/vcgen.py; the kernel holds each to the code. The contracts of layer 22 (pagemap): a spot, put. The sort of the library, told in parts. The contracts of layer 22 (pagemap): places, sorted. The contracts of layer 22 (pagemap): spots, sorted by their places. -/
import Derived.Test.YtcekmdehjnlkpaaGreatZScanBlocksc
set_option linter.unusedVariables false
set_option linter.unusedSimpArgs false
namespace Go.Proofs.YtcekmdehjnlkpaaGreat.Vc
open Go Go.Eng
def pagemap_New.A:Ann:=.no
def pagemap_New.P  (w:World) (K:(Option Addr)×Unit->World->Prop):Prop:=
 NewM w λb1 w2=>
 NewV #[.slice none 0 0,.slice none 0 0,.slice none 0 0,.slice none 0 0,.map (some b1)] 212 w2 λb3 w4=>
 K ((some ⟨b3,0,none⟩),()) w4
theorem pagemap_New.vc  (w:World) (K:(Option Addr)×Unit->World->Prop) (h:pagemap_New.P  w K):CallV Tryz.prog 65 #[] w [.one .ptr] K:=by
 refine vcFun.of (A:=pagemap_New.A) (wr:=false) okf_ok follows h Tryz.func65 ?_
 kernel_rfl
def pagemap_Map_own.A:Ann:=.no
def pagemap_Map_own.P (p0:Addr) (p1:Int) (w:World) (K:SlV×Unit->World->Prop):Prop:=
 cond (decide (p1<0))
 (K ((⟨none,0,0⟩:SlV),()) w)
 (cond (decide (p1≥4))
 (K ((⟨none,0,0⟩:SlV),()) w)
 ((0<=p1/\p1<(4:Int)) /\
 LoadS w ((p0:Addr).add (p1.toNat*1)) .sl λ(x1:SlV)=>
 K (x1,()) w))
theorem pagemap_Map_own.vc (p0:Addr) (p1:Int) (w:World) (K:SlV×Unit->World->Prop) (h:pagemap_Map_own.P p0 p1 w K):CallV Tryz.prog 73 #[.pointer (some p0),.int .i64 p1] w [.one .sl] K:=by
 refine vcFun.of (A:=pagemap_Map_own.A) (wr:=false) okf_ok follows h Tryz.func73 ?_
 kernel_rfl
def pagemap_Map_Add.A:Ann:=.two .no (.two .no (.two .no (.two .no (.two (.draw (.take 0 (.take 1 (.take 2 (.take 4 (.take 5 (.eff 3 (.take 6 (.eff 7 (.done)))))))))) .no))))
def pagemap_Map_Add.P (p0:Addr) (p1 p2:Int) (w:World) (K:Int×Unit->World->Prop):Prop:=
 cond (decide (p1<0))
 (K ((2:Int),()) w)
 (cond (decide (p1≥4))
 (K ((2:Int),()) w)
 (cond (decide (p2<1))
 (K ((2:Int),()) w)
 (cond (decide (p2>65535))
 (K ((2:Int),()) w)
 ((0<=p1/\p1<(4:Int)) /\
 LoadS w ((p0:Addr).add (p1.toNat*1)) .sl λ(x1:SlV)=>
 cond (decide (((x1.n:Nat):Int)>0))
 (K ((11:Int),()) w)
 (LoadS w (p0.add 4) .map λ(x2:Option Nat)=>
 cond x2.isNone
 (NewM w λb3 w4=>
 StoreV w4 (p0.add 4) [.map (some b3)] λw5=>
 DrawV λD6=>
 ((0:Int)<=(p2:Int)/\(p2:Int)<=(p2:Int)/\(p2:Int)<=9223372036854775807/\((120:Nat):Int)*(p2:Int)<=140737488355328) /\
 NewV (List.replicate p2.toNat [.bool false,.int .i64 0,.int .i64 0,.int .i64 0,.int .i64 0,.int .i64 0,.int .u32 0,.int .u64 0,.int .u64 0,.int .i64 0,.int .i64 0,.int .i64 0,.int .u32 0,.int .u64 0,.int .u64 0]).flatten.toArray 169 w5.drew λb7 w8=>
 KeepOn D6 w5.drew w8 /\
 (0<=p1/\p1<(4:Int)) /\
 StoreV w8 ((p0:Addr).add (p1.toNat*1)) [.slice (some ⟨b7,0,none⟩) p2.toNat p2.toNat] λw9=>
 KeepOn D6 w5.drew w9 /\
 K ((0:Int),()) w9)
 (DrawV λD10=>
 ((0:Int)<=(p2:Int)/\(p2:Int)<=(p2:Int)/\(p2:Int)<=9223372036854775807/\((120:Nat):Int)*(p2:Int)<=140737488355328) /\
 NewV (List.replicate p2.toNat [.bool false,.int .i64 0,.int .i64 0,.int .i64 0,.int .i64 0,.int .i64 0,.int .u32 0,.int .u64 0,.int .u64 0,.int .i64 0,.int .i64 0,.int .i64 0,.int .u32 0,.int .u64 0,.int .u64 0]).flatten.toArray 169 w.drew λb11 w12=>
 KeepOn D10 w.drew w12 /\
 (0<=p1/\p1<(4:Int)) /\
 StoreV w12 ((p0:Addr).add (p1.toNat*1)) [.slice (some ⟨b11,0,none⟩) p2.toNat p2.toNat] λw13=>
 KeepOn D10 w.drew w13 /\
 K ((0:Int),()) w13))))))
theorem pagemap_Map_Add.vc (p0:Addr) (p1 p2:Int) (w:World) (K:Int×Unit->World->Prop) (h:pagemap_Map_Add.P p0 p1 p2 w K):CallV Tryz.prog 67 #[.pointer (some p0),.int .i64 p1,.int .i64 p2] w [.one (.int .i64)] K:=by
 refine vcFun.of (A:=pagemap_Map_Add.A) (wr:=false) okf_ok follows h Tryz.func67 ?_
 kernel_rfl
def pagemap_Map_lose.A:Ann:=.two .no (.two .no (.two .no (.two (.two (.draw (.take 0 (.take 1 (.take 2 (.take 3 (.take 4 (.both 5 (.take 6 (.eff 7 (.take 8 (.eff 9 (.done))))) 7 (.take 8 (.eff 5 (.take 6 (.eff 9 (.done)))))))))))) (.two (.draw (.take 0 (.take 1 (.take 2 (.take 3 (.take 4 (.eff 5 (.take 6 (.done))))))))) .no)) (.two (.draw (.take 0 (.take 1 (.take 2 (.take 3 (.take 4 (.eff 5 (.done)))))))) .no))))
def pagemap_Map_lose.P (p0:Addr) (p1_0:Bool) (p1_1 p1_2 p1_3 p1_4 p1_5 p1_6 p1_7 p1_8 p1_9 p1_10 p1_11 p1_12 p1_13 p1_14:Int) (a2:Option Addr) (n2 c2:Nat) (w:World) (K:SlV×Unit->World->Prop):Prop:=
 NewV #[.bool p1_0,.int .i64 p1_1,.int .i64 p1_2,.int .i64 p1_3,.int .i64 p1_4,.int .i64 p1_5,.int .u32 p1_6,.int .u64 p1_7,.int .u64 p1_8,.int .i64 p1_9,.int .i64 p1_10,.int .i64 p1_11,.int .u32 p1_12,.int .u64 p1_13,.int .u64 p1_14] 169 w λb1 w2=>
 LoadS w2 ⟨b1,0,none⟩ .bool λ(x3:Bool)=>
 cond (!x3)
 (K ((⟨a2,n2,c2⟩:SlV),()) w2)
 (LoadA w2 ⟨b1,1,none⟩ [.int .i64,.int .i64] λ(x4:Int×Int×Unit)=>
 NewV #[.int .i64 0,.int .i64 0] 57 w2 λb5 w6=>
 StoreV w6 ⟨b5,0,none⟩ [.int .i64 x4.1,.int .i64 x4.2.1] λw7=>
 DrawV λD8=>
 (D8 (p0.add 4).block/\LoadS w7.drew (p0.add 4) .map λ(x9:Option Nat)=>
 (D8 b5/\LoadA w7.drew ⟨b5,0,none⟩ [.int .i64,.int .i64] λ(x10:Int×Int×Unit)=>
 ((RunV Tryz.prog (Instr.lookup 165 (.map x9) (.agg #[.int .i64 x10.1,.int .i64 x10.2.1]) false) w7.drew [.one (.int .i64)] λ(r11:Int×Unit) w12=>
 KeepOn D8 w7.drew w12 /\
 Rng .i64 (r11.1-1) /\
 RunV Tryz.prog (Instr.mapEntry 165 (.map x9) (.agg #[.int .i64 x10.1,.int .i64 x10.2.1])) w12 [.one (.int .i64),.one (.int .i64)] λ(r13:Int×Int×Unit) w14=>
 KeepOn D8 w7.drew w14 /\
 RunU Tryz.prog (Instr.entryStore 165 (.map x9) (.int .i64 r13.2.1) (.int .i64 (r11.1-1))) w14 λw15=>
 KeepOn D8 w7.drew w15 /\
 DrawV λD16=>
 (D16 (p0.add 4).block/\LoadS w15.drew (p0.add 4) .map λ(x17:Option Nat)=>
 (D16 b5/\LoadA w15.drew ⟨b5,0,none⟩ [.int .i64,.int .i64] λ(x18:Int×Int×Unit)=>
 RunV Tryz.prog (Instr.lookup 165 (.map x17) (.agg #[.int .i64 x18.1,.int .i64 x18.2.1]) false) w15.drew [.one (.int .i64)] λ(r19:Int×Unit) w20=>
 KeepOn D16 w15.drew w20 /\
 cond (decide (r19.1>0))
 (K ((⟨a2,n2,c2⟩:SlV),()) w20)
 (DrawV λD21=>
 (D21 (p0.add 4).block/\LoadS w20.drew (p0.add 4) .map λ(x22:Option Nat)=>
 (D21 b5/\LoadA w20.drew ⟨b5,0,none⟩ [.int .i64,.int .i64] λ(x23:Int×Int×Unit)=>
 DelV Tryz.prog [165,57] [.map x22,.agg #[.int .i64 x23.1,.int .i64 x23.2.1]] w20.drew λw24=>
 KeepOn D21 w20.drew w24 /\
 LoadA w24 ⟨b5,0,none⟩ [.int .i64,.int .i64] λ(x25:Int×Int×Unit)=>
 NewV #[.int .i64 x25.1,.int .i64 x25.2.1] 57 w24 λb26 w27=>
 AppS w27 (some ⟨b26,0,none⟩) 1 2 λns32=>
 AppV w27 57 2 16 a2 n2 c2 ns32 1 λa28 n29 c30 w31=>
 K ((⟨a28,n29,c30⟩:SlV),()) w31)))))) /\
 (RunV Tryz.prog (Instr.mapEntry 165 (.map x9) (.agg #[.int .i64 x10.1,.int .i64 x10.2.1])) w7.drew [.one (.int .i64),.one (.int .i64)] λ(r33:Int×Int×Unit) w34=>
 KeepOn D8 w7.drew w34 /\
 RunV Tryz.prog (Instr.lookup 165 (.map x9) (.agg #[.int .i64 x10.1,.int .i64 x10.2.1]) false) w34 [.one (.int .i64)] λ(r35:Int×Unit) w36=>
 KeepOn D8 w7.drew w36 /\
 Rng .i64 (r35.1-1) /\
 RunU Tryz.prog (Instr.entryStore 165 (.map x9) (.int .i64 r33.2.1) (.int .i64 (r35.1-1))) w36 λw37=>
 KeepOn D8 w7.drew w37 /\
 DrawV λD38=>
 (D38 (p0.add 4).block/\LoadS w37.drew (p0.add 4) .map λ(x39:Option Nat)=>
 (D38 b5/\LoadA w37.drew ⟨b5,0,none⟩ [.int .i64,.int .i64] λ(x40:Int×Int×Unit)=>
 RunV Tryz.prog (Instr.lookup 165 (.map x39) (.agg #[.int .i64 x40.1,.int .i64 x40.2.1]) false) w37.drew [.one (.int .i64)] λ(r41:Int×Unit) w42=>
 KeepOn D38 w37.drew w42 /\
 cond (decide (r41.1>0))
 (K ((⟨a2,n2,c2⟩:SlV),()) w42)
 (DrawV λD43=>
 (D43 (p0.add 4).block/\LoadS w42.drew (p0.add 4) .map λ(x44:Option Nat)=>
 (D43 b5/\LoadA w42.drew ⟨b5,0,none⟩ [.int .i64,.int .i64] λ(x45:Int×Int×Unit)=>
 DelV Tryz.prog [165,57] [.map x44,.agg #[.int .i64 x45.1,.int .i64 x45.2.1]] w42.drew λw46=>
 KeepOn D43 w42.drew w46 /\
 LoadA w46 ⟨b5,0,none⟩ [.int .i64,.int .i64] λ(x47:Int×Int×Unit)=>
 NewV #[.int .i64 x47.1,.int .i64 x47.2.1] 57 w46 λb48 w49=>
 AppS w49 (some ⟨b48,0,none⟩) 1 2 λns54=>
 AppV w49 57 2 16 a2 n2 c2 ns54 1 λa50 n51 c52 w53=>
 K ((⟨a50,n51,c52⟩:SlV),()) w53))))))))))
theorem pagemap_Map_lose.vc (p0:Addr) (p1_0:Bool) (p1_1 p1_2 p1_3 p1_4 p1_5 p1_6 p1_7 p1_8 p1_9 p1_10 p1_11 p1_12 p1_13 p1_14:Int) (a2:Option Addr) (n2 c2:Nat) (w:World) (K:SlV×Unit->World->Prop) (h:pagemap_Map_lose.P p0 p1_0 p1_1 p1_2 p1_3 p1_4 p1_5 p1_6 p1_7 p1_8 p1_9 p1_10 p1_11 p1_12 p1_13 p1_14 a2 n2 c2 w K):CallV Tryz.prog 108 #[.pointer (some p0),.agg #[.bool p1_0,.int .i64 p1_1,.int .i64 p1_2,.int .i64 p1_3,.int .i64 p1_4,.int .i64 p1_5,.int .u32 p1_6,.int .u64 p1_7,.int .u64 p1_8,.int .i64 p1_9,.int .i64 p1_10,.int .i64 p1_11,.int .u32 p1_12,.int .u64 p1_13,.int .u64 p1_14],.slice a2 n2 c2] w [.one .sl] K:=by
 refine vcFun.of (A:=pagemap_Map_lose.A) (wr:=false) okf_ok follows h Tryz.func108 ?_
 kernel_rfl
def pagemap_told.A:Ann:=.no
def pagemap_told.P (a0:Option Addr) (n0 c0:Nat) (w:World) (K:SlV×Unit->World->Prop):Prop:=
 CallV Tryz.prog 129 #[.slice a0 n0 c0,.func (.func 76) #[] #[]] w [] λ(r1:Unit) w2=>
 K ((⟨a0,n0,c0⟩:SlV),()) w2
theorem pagemap_told.vc (a0:Option Addr) (n0 c0:Nat) (w:World) (K:SlV×Unit->World->Prop) (h:pagemap_told.P a0 n0 c0 w K):CallV Tryz.prog 109 #[.slice a0 n0 c0] w [.one .sl] K:=by
 refine vcFun.of (A:=pagemap_told.A) (wr:=false) okf_ok follows h Tryz.func109 ?_
 kernel_rfl
def pagemap_Map_Size.A:Ann:=.no
def pagemap_Map_Size.P (p0:Addr) (p1:Int) (w:World) (K:Int×Unit->World->Prop):Prop:=
 CallV Tryz.prog 73 #[.pointer (some p0),.int .i64 p1] w [.one .sl] λ(r1:SlV×Unit) w2=>
 K (((r1.1.n:Nat):Int),()) w2
theorem pagemap_Map_Size.vc (p0:Addr) (p1:Int) (w:World) (K:Int×Unit->World->Prop) (h:pagemap_Map_Size.P p0 p1 w K):CallV Tryz.prog 45 #[.pointer (some p0),.int .i64 p1] w [.one (.int .i64)] K:=by
 refine vcFun.of (A:=pagemap_Map_Size.A) (wr:=false) okf_ok follows h Tryz.func45 ?_
 kernel_rfl
def pagemap_Newer.A:Ann:=.no
def pagemap_Newer.P (p0_0 p0_1 p0_2 p0_3 p0_4 p0_5 p0_6 p0_7 p0_8 p0_9 p0_10 p0_11 p0_12 p0_13 p1_0 p1_1 p1_2 p1_3 p1_4 p1_5 p1_6 p1_7 p1_8 p1_9 p1_10 p1_11 p1_12 p1_13:Int) (w:World) (K:Bool×Unit->World->Prop):Prop:=
 NewV #[.int .i64 p0_0,.int .i64 p0_1,.int .i64 p0_2,.int .i64 p0_3,.int .i64 p0_4,.int .u32 p0_5,.int .u64 p0_6,.int .u64 p0_7,.int .i64 p0_8,.int .i64 p0_9,.int .i64 p0_10,.int .u32 p0_11,.int .u64 p0_12,.int .u64 p0_13] 59 w λb1 w2=>
 NewV #[.int .i64 p1_0,.int .i64 p1_1,.int .i64 p1_2,.int .i64 p1_3,.int .i64 p1_4,.int .u32 p1_5,.int .u64 p1_6,.int .u64 p1_7,.int .i64 p1_8,.int .i64 p1_9,.int .i64 p1_10,.int .u32 p1_11,.int .u64 p1_12,.int .u64 p1_13] 59 w2 λb3 w4=>
 LoadA w4 ⟨b3,2,none⟩ [.int .i64,.int .i64,.int .i64,.int .u32,.int .u64,.int .u64] λ(x5:Int×Int×Int×Int×Int×Int×Unit)=>
 LoadA w4 ⟨b1,2,none⟩ [.int .i64,.int .i64,.int .i64,.int .u32,.int .u64,.int .u64] λ(x6:Int×Int×Int×Int×Int×Int×Unit)=>
 CallV Tryz.prog 105 #[.agg #[.int .i64 x5.1,.int .i64 x5.2.1,.int .i64 x5.2.2.1,.int .u32 x5.2.2.2.1,.int .u64 x5.2.2.2.2.1,.int .u64 x5.2.2.2.2.2.1],.agg #[.int .i64 x6.1,.int .i64 x6.2.1,.int .i64 x6.2.2.1,.int .u32 x6.2.2.2.1,.int .u64 x6.2.2.2.2.1,.int .u64 x6.2.2.2.2.2.1]] w4 [.one .bool] λ(r7:Bool×Unit) w8=>
 cond r7.1
 (K (true,()) w8)
 (LoadA w8 ⟨b1,2,none⟩ [.int .i64,.int .i64,.int .i64,.int .u32,.int .u64,.int .u64] λ(x9:Int×Int×Int×Int×Int×Int×Unit)=>
 LoadA w8 ⟨b3,2,none⟩ [.int .i64,.int .i64,.int .i64,.int .u32,.int .u64,.int .u64] λ(x10:Int×Int×Int×Int×Int×Int×Unit)=>
 CallV Tryz.prog 105 #[.agg #[.int .i64 x9.1,.int .i64 x9.2.1,.int .i64 x9.2.2.1,.int .u32 x9.2.2.2.1,.int .u64 x9.2.2.2.2.1,.int .u64 x9.2.2.2.2.2.1],.agg #[.int .i64 x10.1,.int .i64 x10.2.1,.int .i64 x10.2.2.1,.int .u32 x10.2.2.2.1,.int .u64 x10.2.2.2.2.1,.int .u64 x10.2.2.2.2.2.1]] w8 [.one .bool] λ(r11:Bool×Unit) w12=>
 cond r11.1
 (K (false,()) w12)
 (LoadA w12 ⟨b3,8,none⟩ [.int .i64,.int .i64,.int .i64,.int .u32,.int .u64,.int .u64] λ(x13:Int×Int×Int×Int×Int×Int×Unit)=>
 LoadA w12 ⟨b1,8,none⟩ [.int .i64,.int .i64,.int .i64,.int .u32,.int .u64,.int .u64] λ(x14:Int×Int×Int×Int×Int×Int×Unit)=>
 CallV Tryz.prog 105 #[.agg #[.int .i64 x13.1,.int .i64 x13.2.1,.int .i64 x13.2.2.1,.int .u32 x13.2.2.2.1,.int .u64 x13.2.2.2.2.1,.int .u64 x13.2.2.2.2.2.1],.agg #[.int .i64 x14.1,.int .i64 x14.2.1,.int .i64 x14.2.2.1,.int .u32 x14.2.2.2.1,.int .u64 x14.2.2.2.2.1,.int .u64 x14.2.2.2.2.2.1]] w12 [.one .bool] λ(r15:Bool×Unit) w16=>
 K (r15.1,()) w16))
theorem pagemap_Newer.vc (p0_0 p0_1 p0_2 p0_3 p0_4 p0_5 p0_6 p0_7 p0_8 p0_9 p0_10 p0_11 p0_12 p0_13 p1_0 p1_1 p1_2 p1_3 p1_4 p1_5 p1_6 p1_7 p1_8 p1_9 p1_10 p1_11 p1_12 p1_13:Int) (w:World) (K:Bool×Unit->World->Prop) (h:pagemap_Newer.P p0_0 p0_1 p0_2 p0_3 p0_4 p0_5 p0_6 p0_7 p0_8 p0_9 p0_10 p0_11 p0_12 p0_13 p1_0 p1_1 p1_2 p1_3 p1_4 p1_5 p1_6 p1_7 p1_8 p1_9 p1_10 p1_11 p1_12 p1_13 w K):CallV Tryz.prog 107 #[.agg #[.int .i64 p0_0,.int .i64 p0_1,.int .i64 p0_2,.int .i64 p0_3,.int .i64 p0_4,.int .u32 p0_5,.int .u64 p0_6,.int .u64 p0_7,.int .i64 p0_8,.int .i64 p0_9,.int .i64 p0_10,.int .u32 p0_11,.int .u64 p0_12,.int .u64 p0_13],.agg #[.int .i64 p1_0,.int .i64 p1_1,.int .i64 p1_2,.int .i64 p1_3,.int .i64 p1_4,.int .u32 p1_5,.int .u64 p1_6,.int .u64 p1_7,.int .i64 p1_8,.int .i64 p1_9,.int .i64 p1_10,.int .u32 p1_11,.int .u64 p1_12,.int .u64 p1_13]] w [.one .bool] K:=by
 refine vcFun.of (A:=pagemap_Newer.A) (wr:=false) okf_ok follows h Tryz.func107 ?_
 kernel_rfl
def pagemap_Map_speaks.A:Ann:=.two .no (.two (.draw (.take 0 (.take 1 (.take 2 (.take 3 (.take 5 (.take 6 (.both 4 (.eff 7 (.take 8 (.eff 9 (.done)))) 7 (.eff 4 (.take 8 (.eff 9 (.done)))))))))))) .no)
def pagemap_Map_speaks.P (p0:Addr) (p1_0 p1_1 p1_2 p1_3 p1_4 p1_5 p1_6 p1_7 p1_8 p1_9 p1_10 p1_11 p1_12 p1_13:Int) (w:World) (K:SlV×Unit->World->Prop):Prop:=
 NewV #[.int .i64 p1_0,.int .i64 p1_1,.int .i64 p1_2,.int .i64 p1_3,.int .i64 p1_4,.int .u32 p1_5,.int .u64 p1_6,.int .u64 p1_7,.int .i64 p1_8,.int .i64 p1_9,.int .i64 p1_10,.int .u32 p1_11,.int .u64 p1_12,.int .u64 p1_13] 59 w λb1 w2=>
 DrawV λD3=>
 (D3 b1/\LoadS w2.drew ⟨b1,3,none⟩ (.int .i64) λ(x4:Int)=>
 (D3 b1/\LoadA w2.drew ⟨b1,2,none⟩ [.int .i64,.int .i64,.int .i64,.int .u32,.int .u64,.int .u64] λ(x5:Int×Int×Int×Int×Int×Int×Unit)=>
 ((CallV Tryz.prog 73 #[.pointer (some p0),.int .i64 x4] w2.drew [.one .sl] λ(r6:SlV×Unit) w7=>
 KeepOn D3 w2.drew w7 /\
 NewV #[.int .i64 0,.int .i64 0,.int .i64 0,.int .u32 0,.int .u64 0,.int .u64 0] 35 w7 λb8 w9=>
 KeepOn D3 w2.drew w9 /\
 StoreV w9 ⟨b8,0,none⟩ [.int .i64 x5.1,.int .i64 x5.2.1,.int .i64 x5.2.2.1,.int .u32 x5.2.2.2.1,.int .u64 x5.2.2.2.2.1,.int .u64 x5.2.2.2.2.2.1] λw10=>
 KeepOn D3 w2.drew w10 /\
 LoadS w10 ⟨b8,0,none⟩ (.int .i64) λ(x11:Int)=>
 cond (x11 != 1)
 (LoadS w10 ⟨b8,0,none⟩ (.int .i64) λ(x12:Int)=>
 cond (x12 != 2)
 (K ((⟨none,0,0⟩:SlV),()) w10)
 (LoadS w10 ⟨b8,2,none⟩ (.int .i64) λ(x13:Int)=>
 cond (decide (x13<1))
 (K ((⟨none,0,0⟩:SlV),()) w10)
 (LoadS w10 ⟨b8,2,none⟩ (.int .i64) λ(x14:Int)=>
 cond (decide (x14>((r6.1.n:Nat):Int)))
 (K ((⟨none,0,0⟩:SlV),()) w10)
 (LoadS w10 ⟨b8,3,none⟩ (.int .u32) λ(x15:Int)=>
 LoadS w10 ⟨b8,2,none⟩ (.int .i64) λ(x16:Int)=>
 Rng .i64 (((r6.1.n:Nat):Int)-x16) /\
 cond (decide ((IntKind.i64.wrap x15)>(((r6.1.n:Nat):Int)-x16)))
 (K ((⟨none,0,0⟩:SlV),()) w10)
 (LoadS w10 ⟨b8,3,none⟩ (.int .u32) λ(x17:Int)=>
 LoadS w10 ⟨b8,3,none⟩ (.int .u32) λ(x18:Int)=>
 LoadS w10 ⟨b8,2,none⟩ (.int .i64) λ(x19:Int)=>
 Rng .i64 ((IntKind.i64.wrap x18)+x19) /\
 ((0:Int)<=x17/\x17<=((IntKind.i64.wrap x18)+x19)/\((IntKind.i64.wrap x18)+x19)<=((r6.1.c:Nat):Int)) /\
 SubK r6.1.a x17.toNat r6.1.c 15 λa20=>
 K ((⟨a20,(((IntKind.i64.wrap x18)+x19).toNat)-x17.toNat,r6.1.c-x17.toNat⟩:SlV),()) w10)))))
 (LoadS w10 ⟨b8,2,none⟩ (.int .i64) λ(x21:Int)=>
 cond (decide (x21<1))
 (K ((⟨none,0,0⟩:SlV),()) w10)
 (LoadS w10 ⟨b8,2,none⟩ (.int .i64) λ(x22:Int)=>
 cond (decide (x22>((r6.1.n:Nat):Int)))
 (K ((⟨none,0,0⟩:SlV),()) w10)
 (LoadS w10 ⟨b8,3,none⟩ (.int .u32) λ(x23:Int)=>
 LoadS w10 ⟨b8,2,none⟩ (.int .i64) λ(x24:Int)=>
 Rng .i64 (((r6.1.n:Nat):Int)-x24) /\
 cond (decide ((IntKind.i64.wrap x23)>(((r6.1.n:Nat):Int)-x24)))
 (K ((⟨none,0,0⟩:SlV),()) w10)
 (LoadS w10 ⟨b8,3,none⟩ (.int .u32) λ(x25:Int)=>
 LoadS w10 ⟨b8,3,none⟩ (.int .u32) λ(x26:Int)=>
 LoadS w10 ⟨b8,2,none⟩ (.int .i64) λ(x27:Int)=>
 Rng .i64 ((IntKind.i64.wrap x26)+x27) /\
 ((0:Int)<=x25/\x25<=((IntKind.i64.wrap x26)+x27)/\((IntKind.i64.wrap x26)+x27)<=((r6.1.c:Nat):Int)) /\
 SubK r6.1.a x25.toNat r6.1.c 15 λa28=>
 K ((⟨a28,(((IntKind.i64.wrap x26)+x27).toNat)-x25.toNat,r6.1.c-x25.toNat⟩:SlV),()) w10))))) /\
 (NewV #[.int .i64 0,.int .i64 0,.int .i64 0,.int .u32 0,.int .u64 0,.int .u64 0] 35 w2.drew λb29 w30=>
 KeepOn D3 w2.drew w30 /\
 CallV Tryz.prog 73 #[.pointer (some p0),.int .i64 x4] w30 [.one .sl] λ(r31:SlV×Unit) w32=>
 KeepOn D3 w2.drew w32 /\
 StoreV w32 ⟨b29,0,none⟩ [.int .i64 x5.1,.int .i64 x5.2.1,.int .i64 x5.2.2.1,.int .u32 x5.2.2.2.1,.int .u64 x5.2.2.2.2.1,.int .u64 x5.2.2.2.2.2.1] λw33=>
 KeepOn D3 w2.drew w33 /\
 LoadS w33 ⟨b29,0,none⟩ (.int .i64) λ(x34:Int)=>
 cond (x34 != 1)
 (LoadS w33 ⟨b29,0,none⟩ (.int .i64) λ(x35:Int)=>
 cond (x35 != 2)
 (K ((⟨none,0,0⟩:SlV),()) w33)
 (LoadS w33 ⟨b29,2,none⟩ (.int .i64) λ(x36:Int)=>
 cond (decide (x36<1))
 (K ((⟨none,0,0⟩:SlV),()) w33)
 (LoadS w33 ⟨b29,2,none⟩ (.int .i64) λ(x37:Int)=>
 cond (decide (x37>((r31.1.n:Nat):Int)))
 (K ((⟨none,0,0⟩:SlV),()) w33)
 (LoadS w33 ⟨b29,3,none⟩ (.int .u32) λ(x38:Int)=>
 LoadS w33 ⟨b29,2,none⟩ (.int .i64) λ(x39:Int)=>
 Rng .i64 (((r31.1.n:Nat):Int)-x39) /\
 cond (decide ((IntKind.i64.wrap x38)>(((r31.1.n:Nat):Int)-x39)))
 (K ((⟨none,0,0⟩:SlV),()) w33)
 (LoadS w33 ⟨b29,3,none⟩ (.int .u32) λ(x40:Int)=>
 LoadS w33 ⟨b29,3,none⟩ (.int .u32) λ(x41:Int)=>
 LoadS w33 ⟨b29,2,none⟩ (.int .i64) λ(x42:Int)=>
 Rng .i64 ((IntKind.i64.wrap x41)+x42) /\
 ((0:Int)<=x40/\x40<=((IntKind.i64.wrap x41)+x42)/\((IntKind.i64.wrap x41)+x42)<=((r31.1.c:Nat):Int)) /\
 SubK r31.1.a x40.toNat r31.1.c 15 λa43=>
 K ((⟨a43,(((IntKind.i64.wrap x41)+x42).toNat)-x40.toNat,r31.1.c-x40.toNat⟩:SlV),()) w33)))))
 (LoadS w33 ⟨b29,2,none⟩ (.int .i64) λ(x44:Int)=>
 cond (decide (x44<1))
 (K ((⟨none,0,0⟩:SlV),()) w33)
 (LoadS w33 ⟨b29,2,none⟩ (.int .i64) λ(x45:Int)=>
 cond (decide (x45>((r31.1.n:Nat):Int)))
 (K ((⟨none,0,0⟩:SlV),()) w33)
 (LoadS w33 ⟨b29,3,none⟩ (.int .u32) λ(x46:Int)=>
 LoadS w33 ⟨b29,2,none⟩ (.int .i64) λ(x47:Int)=>
 Rng .i64 (((r31.1.n:Nat):Int)-x47) /\
 cond (decide ((IntKind.i64.wrap x46)>(((r31.1.n:Nat):Int)-x47)))
 (K ((⟨none,0,0⟩:SlV),()) w33)
 (LoadS w33 ⟨b29,3,none⟩ (.int .u32) λ(x48:Int)=>
 LoadS w33 ⟨b29,3,none⟩ (.int .u32) λ(x49:Int)=>
 LoadS w33 ⟨b29,2,none⟩ (.int .i64) λ(x50:Int)=>
 Rng .i64 ((IntKind.i64.wrap x49)+x50) /\
 ((0:Int)<=x48/\x48<=((IntKind.i64.wrap x49)+x50)/\((IntKind.i64.wrap x49)+x50)<=((r31.1.c:Nat):Int)) /\
 SubK r31.1.a x48.toNat r31.1.c 15 λa51=>
 K ((⟨a51,(((IntKind.i64.wrap x49)+x50).toNat)-x48.toNat,r31.1.c-x48.toNat⟩:SlV),()) w33))))))))
theorem pagemap_Map_speaks.vc (p0:Addr) (p1_0 p1_1 p1_2 p1_3 p1_4 p1_5 p1_6 p1_7 p1_8 p1_9 p1_10 p1_11 p1_12 p1_13:Int) (w:World) (K:SlV×Unit->World->Prop) (h:pagemap_Map_speaks.P p0 p1_0 p1_1 p1_2 p1_3 p1_4 p1_5 p1_6 p1_7 p1_8 p1_9 p1_10 p1_11 p1_12 p1_13 w K):CallV Tryz.prog 106 #[.pointer (some p0),.agg #[.int .i64 p1_0,.int .i64 p1_1,.int .i64 p1_2,.int .i64 p1_3,.int .i64 p1_4,.int .u32 p1_5,.int .u64 p1_6,.int .u64 p1_7,.int .i64 p1_8,.int .i64 p1_9,.int .i64 p1_10,.int .u32 p1_11,.int .u64 p1_12,.int .u64 p1_13]] w [.one .sl] K:=by
 refine vcFun.of (A:=pagemap_Map_speaks.A) (wr:=false) okf_ok follows h Tryz.func106 ?_
 kernel_rfl
def pagemap_Map_Put.A:Ann:=.two .no (.two .no (.two .no (.two .no (.two (.two .no (.one (.loop [7,8,9,18,19,20,21,22,23,24,25,26,27,28,29,30,31,32,33,34,35,36,37,38,39,40,41,42,43,44,45,46,47,48,49,50,51] [(7,.one .sl),(18,.one (.int .i64))] (.two .no (.two .no (.two (.one (.two .no (.two .no (.two (.draw (.take 0 (.take 1 (.take 2 (.take 3 (.take 4 (.take 5 (.both 6 (.take 7 (.eff 8 (.take 9 (.eff 10 (.done))))) 8 (.take 9 (.eff 6 (.take 7 (.eff 10 (.done))))))))))))) .no)))) .no)))))) .no))))
def pagemap_Map_Put.P (p0:Addr) (p1_0 p1_1 p1_2 p1_3 p1_4 p1_5 p1_6 p1_7 p1_8 p1_9 p1_10 p1_11 p1_12 p1_13:Int) (w:World) (K:SlV×Int×Unit->World->Prop):Prop:=
 NewV #[.int .i64 p1_0,.int .i64 p1_1,.int .i64 p1_2,.int .i64 p1_3,.int .i64 p1_4,.int .u32 p1_5,.int .u64 p1_6,.int .u64 p1_7,.int .i64 p1_8,.int .i64 p1_9,.int .i64 p1_10,.int .u32 p1_11,.int .u64 p1_12,.int .u64 p1_13] 59 w λb1 w2=>
 LoadA w2 ⟨b1,0,none⟩ [.int .i64,.int .i64,.int .i64,.int .i64,.int .i64,.int .u32,.int .u64,.int .u64,.int .i64,.int .i64,.int .i64,.int .u32,.int .u64,.int .u64] λ(x3:Int×Int×Int×Int×Int×Int×Int×Int×Int×Int×Int×Int×Int×Int×Unit)=>
 CallV Tryz.prog 106 #[.pointer (some p0),.agg #[.int .i64 x3.1,.int .i64 x3.2.1,.int .i64 x3.2.2.1,.int .i64 x3.2.2.2.1,.int .i64 x3.2.2.2.2.1,.int .u32 x3.2.2.2.2.2.1,.int .u64 x3.2.2.2.2.2.2.1,.int .u64 x3.2.2.2.2.2.2.2.1,.int .i64 x3.2.2.2.2.2.2.2.2.1,.int .i64 x3.2.2.2.2.2.2.2.2.2.1,.int .i64 x3.2.2.2.2.2.2.2.2.2.2.1,.int .u32 x3.2.2.2.2.2.2.2.2.2.2.2.1,.int .u64 x3.2.2.2.2.2.2.2.2.2.2.2.2.1,.int .u64 x3.2.2.2.2.2.2.2.2.2.2.2.2.2.1]] w2 [.one .sl] λ(r4:SlV×Unit) w5=>
 cond (((r4.1.n:Nat):Int) == 0)
 (K ((⟨none,0,0⟩:SlV),(2:Int),()) w5)
 (LoopV [.one .sl,.one (.int .i64)] ((⟨none,0,0⟩:SlV),(0:Int),()) w5 λ(z6:SlV×Int×Unit) w7 (K8:SlV×Int×Unit->World->Prop)=>
 cond (decide (z6.2.1<((r4.1.n:Nat):Int)))
 ((0<=z6.2.1/\z6.2.1<((r4.1.n:Nat):Int))/\∃ q9:Addr,r4.1.a=some q9 /\
 LoadA w7 (q9.add (z6.2.1.toNat*15)) [.bool,.int .i64,.int .i64,.int .i64,.int .i64,.int .i64,.int .u32,.int .u64,.int .u64,.int .i64,.int .i64,.int .i64,.int .u32,.int .u64,.int .u64] λ(x10:Bool×Int×Int×Int×Int×Int×Int×Int×Int×Int×Int×Int×Int×Int×Int×Unit)=>
 NewV #[.bool false,.int .i64 0,.int .i64 0,.int .i64 0,.int .i64 0,.int .i64 0,.int .u32 0,.int .u64 0,.int .u64 0,.int .i64 0,.int .i64 0,.int .i64 0,.int .u32 0,.int .u64 0,.int .u64 0] 169 w7 λb11 w12=>
 StoreV w12 ⟨b11,0,none⟩ [.bool x10.1,.int .i64 x10.2.1,.int .i64 x10.2.2.1,.int .i64 x10.2.2.2.1,.int .i64 x10.2.2.2.2.1,.int .i64 x10.2.2.2.2.2.1,.int .u32 x10.2.2.2.2.2.2.1,.int .u64 x10.2.2.2.2.2.2.2.1,.int .u64 x10.2.2.2.2.2.2.2.2.1,.int .i64 x10.2.2.2.2.2.2.2.2.2.1,.int .i64 x10.2.2.2.2.2.2.2.2.2.2.1,.int .i64 x10.2.2.2.2.2.2.2.2.2.2.2.1,.int .u32 x10.2.2.2.2.2.2.2.2.2.2.2.2.1,.int .u64 x10.2.2.2.2.2.2.2.2.2.2.2.2.2.1,.int .u64 x10.2.2.2.2.2.2.2.2.2.2.2.2.2.2.1] λw13=>
 LoadS w13 ⟨b11,0,none⟩ .bool λ(x14:Bool)=>
 cond x14
 (LoadA w13 ⟨b1,0,none⟩ [.int .i64,.int .i64,.int .i64,.int .i64,.int .i64,.int .u32,.int .u64,.int .u64,.int .i64,.int .i64,.int .i64,.int .u32,.int .u64,.int .u64] λ(x15:Int×Int×Int×Int×Int×Int×Int×Int×Int×Int×Int×Int×Int×Int×Unit)=>
 LoadA w13 ⟨b11,1,none⟩ [.int .i64,.int .i64,.int .i64,.int .i64,.int .i64,.int .u32,.int .u64,.int .u64,.int .i64,.int .i64,.int .i64,.int .u32,.int .u64,.int .u64] λ(x16:Int×Int×Int×Int×Int×Int×Int×Int×Int×Int×Int×Int×Int×Int×Unit)=>
 CallV Tryz.prog 107 #[.agg #[.int .i64 x15.1,.int .i64 x15.2.1,.int .i64 x15.2.2.1,.int .i64 x15.2.2.2.1,.int .i64 x15.2.2.2.2.1,.int .u32 x15.2.2.2.2.2.1,.int .u64 x15.2.2.2.2.2.2.1,.int .u64 x15.2.2.2.2.2.2.2.1,.int .i64 x15.2.2.2.2.2.2.2.2.1,.int .i64 x15.2.2.2.2.2.2.2.2.2.1,.int .i64 x15.2.2.2.2.2.2.2.2.2.2.1,.int .u32 x15.2.2.2.2.2.2.2.2.2.2.2.1,.int .u64 x15.2.2.2.2.2.2.2.2.2.2.2.2.1,.int .u64 x15.2.2.2.2.2.2.2.2.2.2.2.2.2.1],.agg #[.int .i64 x16.1,.int .i64 x16.2.1,.int .i64 x16.2.2.1,.int .i64 x16.2.2.2.1,.int .i64 x16.2.2.2.2.1,.int .u32 x16.2.2.2.2.2.1,.int .u64 x16.2.2.2.2.2.2.1,.int .u64 x16.2.2.2.2.2.2.2.1,.int .i64 x16.2.2.2.2.2.2.2.2.1,.int .i64 x16.2.2.2.2.2.2.2.2.2.1,.int .i64 x16.2.2.2.2.2.2.2.2.2.2.1,.int .u32 x16.2.2.2.2.2.2.2.2.2.2.2.1,.int .u64 x16.2.2.2.2.2.2.2.2.2.2.2.2.1,.int .u64 x16.2.2.2.2.2.2.2.2.2.2.2.2.2.1]] w13 [.one .bool] λ(r17:Bool×Unit) w18=>
 cond (!r17.1)
 (Rng .i64 (z6.2.1+1) /\
 K8 (z6.1,z6.2.1+1,()) w18)
 (DrawV λD19=>
 (D19 (p0.add 4).block/\LoadS w18.drew (p0.add 4) .map λ(x20:Option Nat)=>
 (D19 b1/\LoadA w18.drew ⟨b1,0,none⟩ [.int .i64,.int .i64] λ(x21:Int×Int×Unit)=>
 ((RunV Tryz.prog (Instr.lookup 165 (.map x20) (.agg #[.int .i64 x21.1,.int .i64 x21.2.1]) false) w18.drew [.one (.int .i64)] λ(r22:Int×Unit) w23=>
 KeepOn D19 w18.drew w23 /\
 Rng .i64 (r22.1+1) /\
 RunV Tryz.prog (Instr.mapEntry 165 (.map x20) (.agg #[.int .i64 x21.1,.int .i64 x21.2.1])) w23 [.one (.int .i64),.one (.int .i64)] λ(r24:Int×Int×Unit) w25=>
 KeepOn D19 w18.drew w25 /\
 RunU Tryz.prog (Instr.entryStore 165 (.map x20) (.int .i64 r24.2.1) (.int .i64 (r22.1+1))) w25 λw26=>
 KeepOn D19 w18.drew w26 /\
 LoadA w26 ⟨b1,0,none⟩ [.int .i64,.int .i64,.int .i64,.int .i64,.int .i64,.int .u32,.int .u64,.int .u64,.int .i64,.int .i64,.int .i64,.int .u32,.int .u64,.int .u64] λ(x27:Int×Int×Int×Int×Int×Int×Int×Int×Int×Int×Int×Int×Int×Int×Unit)=>
 (0<=z6.2.1/\z6.2.1<((r4.1.n:Nat):Int))/\∃ q28:Addr,r4.1.a=some q28 /\
 StoreV w26 (q28.add (z6.2.1.toNat*15)) [.bool true,.int .i64 x27.1,.int .i64 x27.2.1,.int .i64 x27.2.2.1,.int .i64 x27.2.2.2.1,.int .i64 x27.2.2.2.2.1,.int .u32 x27.2.2.2.2.2.1,.int .u64 x27.2.2.2.2.2.2.1,.int .u64 x27.2.2.2.2.2.2.2.1,.int .i64 x27.2.2.2.2.2.2.2.2.1,.int .i64 x27.2.2.2.2.2.2.2.2.2.1,.int .i64 x27.2.2.2.2.2.2.2.2.2.2.1,.int .u32 x27.2.2.2.2.2.2.2.2.2.2.2.1,.int .u64 x27.2.2.2.2.2.2.2.2.2.2.2.2.1,.int .u64 x27.2.2.2.2.2.2.2.2.2.2.2.2.2.1] λw29=>
 LoadA w29 ⟨b11,0,none⟩ [.bool,.int .i64,.int .i64,.int .i64,.int .i64,.int .i64,.int .u32,.int .u64,.int .u64,.int .i64,.int .i64,.int .i64,.int .u32,.int .u64,.int .u64] λ(x30:Bool×Int×Int×Int×Int×Int×Int×Int×Int×Int×Int×Int×Int×Int×Int×Unit)=>
 CallV Tryz.prog 108 #[.pointer (some p0),.agg #[.bool x30.1,.int .i64 x30.2.1,.int .i64 x30.2.2.1,.int .i64 x30.2.2.2.1,.int .i64 x30.2.2.2.2.1,.int .i64 x30.2.2.2.2.2.1,.int .u32 x30.2.2.2.2.2.2.1,.int .u64 x30.2.2.2.2.2.2.2.1,.int .u64 x30.2.2.2.2.2.2.2.2.1,.int .i64 x30.2.2.2.2.2.2.2.2.2.1,.int .i64 x30.2.2.2.2.2.2.2.2.2.2.1,.int .i64 x30.2.2.2.2.2.2.2.2.2.2.2.1,.int .u32 x30.2.2.2.2.2.2.2.2.2.2.2.2.1,.int .u64 x30.2.2.2.2.2.2.2.2.2.2.2.2.2.1,.int .u64 x30.2.2.2.2.2.2.2.2.2.2.2.2.2.2.1],.slice z6.1.a z6.1.n z6.1.c] w29 [.one .sl] λ(r31:SlV×Unit) w32=>
 Rng .i64 (z6.2.1+1) /\
 K8 (r31.1,z6.2.1+1,()) w32) /\
 (RunV Tryz.prog (Instr.mapEntry 165 (.map x20) (.agg #[.int .i64 x21.1,.int .i64 x21.2.1])) w18.drew [.one (.int .i64),.one (.int .i64)] λ(r33:Int×Int×Unit) w34=>
 KeepOn D19 w18.drew w34 /\
 RunV Tryz.prog (Instr.lookup 165 (.map x20) (.agg #[.int .i64 x21.1,.int .i64 x21.2.1]) false) w34 [.one (.int .i64)] λ(r35:Int×Unit) w36=>
 KeepOn D19 w18.drew w36 /\
 Rng .i64 (r35.1+1) /\
 RunU Tryz.prog (Instr.entryStore 165 (.map x20) (.int .i64 r33.2.1) (.int .i64 (r35.1+1))) w36 λw37=>
 KeepOn D19 w18.drew w37 /\
 LoadA w37 ⟨b1,0,none⟩ [.int .i64,.int .i64,.int .i64,.int .i64,.int .i64,.int .u32,.int .u64,.int .u64,.int .i64,.int .i64,.int .i64,.int .u32,.int .u64,.int .u64] λ(x38:Int×Int×Int×Int×Int×Int×Int×Int×Int×Int×Int×Int×Int×Int×Unit)=>
 (0<=z6.2.1/\z6.2.1<((r4.1.n:Nat):Int))/\∃ q39:Addr,r4.1.a=some q39 /\
 StoreV w37 (q39.add (z6.2.1.toNat*15)) [.bool true,.int .i64 x38.1,.int .i64 x38.2.1,.int .i64 x38.2.2.1,.int .i64 x38.2.2.2.1,.int .i64 x38.2.2.2.2.1,.int .u32 x38.2.2.2.2.2.1,.int .u64 x38.2.2.2.2.2.2.1,.int .u64 x38.2.2.2.2.2.2.2.1,.int .i64 x38.2.2.2.2.2.2.2.2.1,.int .i64 x38.2.2.2.2.2.2.2.2.2.1,.int .i64 x38.2.2.2.2.2.2.2.2.2.2.1,.int .u32 x38.2.2.2.2.2.2.2.2.2.2.2.1,.int .u64 x38.2.2.2.2.2.2.2.2.2.2.2.2.1,.int .u64 x38.2.2.2.2.2.2.2.2.2.2.2.2.2.1] λw40=>
 LoadA w40 ⟨b11,0,none⟩ [.bool,.int .i64,.int .i64,.int .i64,.int .i64,.int .i64,.int .u32,.int .u64,.int .u64,.int .i64,.int .i64,.int .i64,.int .u32,.int .u64,.int .u64] λ(x41:Bool×Int×Int×Int×Int×Int×Int×Int×Int×Int×Int×Int×Int×Int×Int×Unit)=>
 CallV Tryz.prog 108 #[.pointer (some p0),.agg #[.bool x41.1,.int .i64 x41.2.1,.int .i64 x41.2.2.1,.int .i64 x41.2.2.2.1,.int .i64 x41.2.2.2.2.1,.int .i64 x41.2.2.2.2.2.1,.int .u32 x41.2.2.2.2.2.2.1,.int .u64 x41.2.2.2.2.2.2.2.1,.int .u64 x41.2.2.2.2.2.2.2.2.1,.int .i64 x41.2.2.2.2.2.2.2.2.2.1,.int .i64 x41.2.2.2.2.2.2.2.2.2.2.1,.int .i64 x41.2.2.2.2.2.2.2.2.2.2.2.1,.int .u32 x41.2.2.2.2.2.2.2.2.2.2.2.2.1,.int .u64 x41.2.2.2.2.2.2.2.2.2.2.2.2.2.1,.int .u64 x41.2.2.2.2.2.2.2.2.2.2.2.2.2.2.1],.slice z6.1.a z6.1.n z6.1.c] w40 [.one .sl] λ(r42:SlV×Unit) w43=>
 Rng .i64 (z6.2.1+1) /\
 K8 (r42.1,z6.2.1+1,()) w43))))))
 (DrawV λD44=>
 (D44 (p0.add 4).block/\LoadS w13.drew (p0.add 4) .map λ(x45:Option Nat)=>
 (D44 b1/\LoadA w13.drew ⟨b1,0,none⟩ [.int .i64,.int .i64] λ(x46:Int×Int×Unit)=>
 ((RunV Tryz.prog (Instr.lookup 165 (.map x45) (.agg #[.int .i64 x46.1,.int .i64 x46.2.1]) false) w13.drew [.one (.int .i64)] λ(r47:Int×Unit) w48=>
 KeepOn D44 w13.drew w48 /\
 Rng .i64 (r47.1+1) /\
 RunV Tryz.prog (Instr.mapEntry 165 (.map x45) (.agg #[.int .i64 x46.1,.int .i64 x46.2.1])) w48 [.one (.int .i64),.one (.int .i64)] λ(r49:Int×Int×Unit) w50=>
 KeepOn D44 w13.drew w50 /\
 RunU Tryz.prog (Instr.entryStore 165 (.map x45) (.int .i64 r49.2.1) (.int .i64 (r47.1+1))) w50 λw51=>
 KeepOn D44 w13.drew w51 /\
 LoadA w51 ⟨b1,0,none⟩ [.int .i64,.int .i64,.int .i64,.int .i64,.int .i64,.int .u32,.int .u64,.int .u64,.int .i64,.int .i64,.int .i64,.int .u32,.int .u64,.int .u64] λ(x52:Int×Int×Int×Int×Int×Int×Int×Int×Int×Int×Int×Int×Int×Int×Unit)=>
 (0<=z6.2.1/\z6.2.1<((r4.1.n:Nat):Int))/\∃ q53:Addr,r4.1.a=some q53 /\
 StoreV w51 (q53.add (z6.2.1.toNat*15)) [.bool true,.int .i64 x52.1,.int .i64 x52.2.1,.int .i64 x52.2.2.1,.int .i64 x52.2.2.2.1,.int .i64 x52.2.2.2.2.1,.int .u32 x52.2.2.2.2.2.1,.int .u64 x52.2.2.2.2.2.2.1,.int .u64 x52.2.2.2.2.2.2.2.1,.int .i64 x52.2.2.2.2.2.2.2.2.1,.int .i64 x52.2.2.2.2.2.2.2.2.2.1,.int .i64 x52.2.2.2.2.2.2.2.2.2.2.1,.int .u32 x52.2.2.2.2.2.2.2.2.2.2.2.1,.int .u64 x52.2.2.2.2.2.2.2.2.2.2.2.2.1,.int .u64 x52.2.2.2.2.2.2.2.2.2.2.2.2.2.1] λw54=>
 LoadA w54 ⟨b11,0,none⟩ [.bool,.int .i64,.int .i64,.int .i64,.int .i64,.int .i64,.int .u32,.int .u64,.int .u64,.int .i64,.int .i64,.int .i64,.int .u32,.int .u64,.int .u64] λ(x55:Bool×Int×Int×Int×Int×Int×Int×Int×Int×Int×Int×Int×Int×Int×Int×Unit)=>
 CallV Tryz.prog 108 #[.pointer (some p0),.agg #[.bool x55.1,.int .i64 x55.2.1,.int .i64 x55.2.2.1,.int .i64 x55.2.2.2.1,.int .i64 x55.2.2.2.2.1,.int .i64 x55.2.2.2.2.2.1,.int .u32 x55.2.2.2.2.2.2.1,.int .u64 x55.2.2.2.2.2.2.2.1,.int .u64 x55.2.2.2.2.2.2.2.2.1,.int .i64 x55.2.2.2.2.2.2.2.2.2.1,.int .i64 x55.2.2.2.2.2.2.2.2.2.2.1,.int .i64 x55.2.2.2.2.2.2.2.2.2.2.2.1,.int .u32 x55.2.2.2.2.2.2.2.2.2.2.2.2.1,.int .u64 x55.2.2.2.2.2.2.2.2.2.2.2.2.2.1,.int .u64 x55.2.2.2.2.2.2.2.2.2.2.2.2.2.2.1],.slice z6.1.a z6.1.n z6.1.c] w54 [.one .sl] λ(r56:SlV×Unit) w57=>
 Rng .i64 (z6.2.1+1) /\
 K8 (r56.1,z6.2.1+1,()) w57) /\
 (RunV Tryz.prog (Instr.mapEntry 165 (.map x45) (.agg #[.int .i64 x46.1,.int .i64 x46.2.1])) w13.drew [.one (.int .i64),.one (.int .i64)] λ(r58:Int×Int×Unit) w59=>
 KeepOn D44 w13.drew w59 /\
 RunV Tryz.prog (Instr.lookup 165 (.map x45) (.agg #[.int .i64 x46.1,.int .i64 x46.2.1]) false) w59 [.one (.int .i64)] λ(r60:Int×Unit) w61=>
 KeepOn D44 w13.drew w61 /\
 Rng .i64 (r60.1+1) /\
 RunU Tryz.prog (Instr.entryStore 165 (.map x45) (.int .i64 r58.2.1) (.int .i64 (r60.1+1))) w61 λw62=>
 KeepOn D44 w13.drew w62 /\
 LoadA w62 ⟨b1,0,none⟩ [.int .i64,.int .i64,.int .i64,.int .i64,.int .i64,.int .u32,.int .u64,.int .u64,.int .i64,.int .i64,.int .i64,.int .u32,.int .u64,.int .u64] λ(x63:Int×Int×Int×Int×Int×Int×Int×Int×Int×Int×Int×Int×Int×Int×Unit)=>
 (0<=z6.2.1/\z6.2.1<((r4.1.n:Nat):Int))/\∃ q64:Addr,r4.1.a=some q64 /\
 StoreV w62 (q64.add (z6.2.1.toNat*15)) [.bool true,.int .i64 x63.1,.int .i64 x63.2.1,.int .i64 x63.2.2.1,.int .i64 x63.2.2.2.1,.int .i64 x63.2.2.2.2.1,.int .u32 x63.2.2.2.2.2.1,.int .u64 x63.2.2.2.2.2.2.1,.int .u64 x63.2.2.2.2.2.2.2.1,.int .i64 x63.2.2.2.2.2.2.2.2.1,.int .i64 x63.2.2.2.2.2.2.2.2.2.1,.int .i64 x63.2.2.2.2.2.2.2.2.2.2.1,.int .u32 x63.2.2.2.2.2.2.2.2.2.2.2.1,.int .u64 x63.2.2.2.2.2.2.2.2.2.2.2.2.1,.int .u64 x63.2.2.2.2.2.2.2.2.2.2.2.2.2.1] λw65=>
 LoadA w65 ⟨b11,0,none⟩ [.bool,.int .i64,.int .i64,.int .i64,.int .i64,.int .i64,.int .u32,.int .u64,.int .u64,.int .i64,.int .i64,.int .i64,.int .u32,.int .u64,.int .u64] λ(x66:Bool×Int×Int×Int×Int×Int×Int×Int×Int×Int×Int×Int×Int×Int×Int×Unit)=>
 CallV Tryz.prog 108 #[.pointer (some p0),.agg #[.bool x66.1,.int .i64 x66.2.1,.int .i64 x66.2.2.1,.int .i64 x66.2.2.2.1,.int .i64 x66.2.2.2.2.1,.int .i64 x66.2.2.2.2.2.1,.int .u32 x66.2.2.2.2.2.2.1,.int .u64 x66.2.2.2.2.2.2.2.1,.int .u64 x66.2.2.2.2.2.2.2.2.1,.int .i64 x66.2.2.2.2.2.2.2.2.2.1,.int .i64 x66.2.2.2.2.2.2.2.2.2.2.1,.int .i64 x66.2.2.2.2.2.2.2.2.2.2.2.1,.int .u32 x66.2.2.2.2.2.2.2.2.2.2.2.2.1,.int .u64 x66.2.2.2.2.2.2.2.2.2.2.2.2.2.1,.int .u64 x66.2.2.2.2.2.2.2.2.2.2.2.2.2.2.1],.slice z6.1.a z6.1.n z6.1.c] w65 [.one .sl] λ(r67:SlV×Unit) w68=>
 Rng .i64 (z6.2.1+1) /\
 K8 (r67.1,z6.2.1+1,()) w68))))))
 (CallV Tryz.prog 109 #[.slice z6.1.a z6.1.n z6.1.c] w7 [.one .sl] λ(r69:SlV×Unit) w70=>
 K (r69.1,(0:Int),()) w70))
theorem pagemap_Map_Put.vc (p0:Addr) (p1_0 p1_1 p1_2 p1_3 p1_4 p1_5 p1_6 p1_7 p1_8 p1_9 p1_10 p1_11 p1_12 p1_13:Int) (w:World) (K:SlV×Int×Unit->World->Prop) (h:pagemap_Map_Put.P p0 p1_0 p1_1 p1_2 p1_3 p1_4 p1_5 p1_6 p1_7 p1_8 p1_9 p1_10 p1_11 p1_12 p1_13 w K):CallV Tryz.prog 72 #[.pointer (some p0),.agg #[.int .i64 p1_0,.int .i64 p1_1,.int .i64 p1_2,.int .i64 p1_3,.int .i64 p1_4,.int .u32 p1_5,.int .u64 p1_6,.int .u64 p1_7,.int .i64 p1_8,.int .i64 p1_9,.int .i64 p1_10,.int .u32 p1_11,.int .u64 p1_12,.int .u64 p1_13]] w [.one .sl,.one (.int .i64)] K:=by
 refine vcFun.of (A:=pagemap_Map_Put.A) (wr:=false) okf_ok follows h Tryz.func72 ?_
 kernel_rfl
def pagemap_Map_In.A:Ann:=.two .no (.two .no (.two .no (.two (.two .no (.one (.loop [5,7,9,11,12,13,14,15,16,17,18,19,20,21,22,23,24,25,26,27,28,29,30,31,32,33,34,35,36,37,38,39,40,41,42,43,44,45,46,47,48,49,50,51,52,53,54] [(5,.one .sl),(11,.one (.int .i64))] (.two .no (.two .no (.two (.one (.two .no (.two .no (.one (.loop [5,9,18,19,20,21,22,23,24,25,26,27,28,29,30,31,32,33,34,35,36,37,38,39,40,41,42,43,44,45,46,47,48,49,50,51,52,53] [(5,.one .sl),(18,.one (.int .i64))] (.two .no (.two .no (.two (.one (.two .no (.two .no (.two (.two (.draw (.take 0 (.take 1 (.take 2 (.take 3 (.both 4 (.take 5 (.eff 6 (.take 7 (.eff 8 (.done))))) 6 (.take 7 (.eff 4 (.take 5 (.eff 8 (.done))))))))))) .no) .no)))) .no)))))))) .no)))))) .no)))
def pagemap_Map_In.P (p0:Addr) (p1:Int) (w:World) (K:SlV×Unit->World->Prop):Prop:=
 NewM w λb1 w2=>
 LoopV [.one .sl,.one (.int .i64)] ((⟨none,0,0⟩:SlV),(0:Int),()) w2 λ(z3:SlV×Int×Unit) w4 (K5:SlV×Int×Unit->World->Prop)=>
 cond (decide (z3.2.1<4))
 (CallV Tryz.prog 73 #[.pointer (some p0),.int .i64 z3.2.1] w4 [.one .sl] λ(r6:SlV×Unit) w7=>
 LoopV [.one .sl,.one (.int .i64)] (z3.1,(0:Int),()) w7 λ(z8:SlV×Int×Unit) w9 (K10:SlV×Int×Unit->World->Prop)=>
 cond (decide (z8.2.1<((r6.1.n:Nat):Int)))
 ((0<=z8.2.1/\z8.2.1<((r6.1.n:Nat):Int))/\∃ q11:Addr,r6.1.a=some q11 /\
 LoadA w9 (q11.add (z8.2.1.toNat*15)) [.bool,.int .i64,.int .i64,.int .i64,.int .i64,.int .i64,.int .u32,.int .u64,.int .u64,.int .i64,.int .i64,.int .i64,.int .u32,.int .u64,.int .u64] λ(x12:Bool×Int×Int×Int×Int×Int×Int×Int×Int×Int×Int×Int×Int×Int×Int×Unit)=>
 NewV #[.bool false,.int .i64 0,.int .i64 0,.int .i64 0,.int .i64 0,.int .i64 0,.int .u32 0,.int .u64 0,.int .u64 0,.int .i64 0,.int .i64 0,.int .i64 0,.int .u32 0,.int .u64 0,.int .u64 0] 169 w9 λb13 w14=>
 StoreV w14 ⟨b13,0,none⟩ [.bool x12.1,.int .i64 x12.2.1,.int .i64 x12.2.2.1,.int .i64 x12.2.2.2.1,.int .i64 x12.2.2.2.2.1,.int .i64 x12.2.2.2.2.2.1,.int .u32 x12.2.2.2.2.2.2.1,.int .u64 x12.2.2.2.2.2.2.2.1,.int .u64 x12.2.2.2.2.2.2.2.2.1,.int .i64 x12.2.2.2.2.2.2.2.2.2.1,.int .i64 x12.2.2.2.2.2.2.2.2.2.2.1,.int .i64 x12.2.2.2.2.2.2.2.2.2.2.2.1,.int .u32 x12.2.2.2.2.2.2.2.2.2.2.2.2.1,.int .u64 x12.2.2.2.2.2.2.2.2.2.2.2.2.2.1,.int .u64 x12.2.2.2.2.2.2.2.2.2.2.2.2.2.2.1] λw15=>
 LoadS w15 ⟨b13,0,none⟩ .bool λ(x16:Bool)=>
 cond x16
 (LoadS w15 ⟨b13,1,none⟩ (.int .i64) λ(x17:Int)=>
 cond (x17 == p1)
 (LoadA w15 ⟨b13,1,none⟩ [.int .i64,.int .i64] λ(x18:Int×Int×Unit)=>
 RunV Tryz.prog (Instr.lookup 165 (.map (some b1)) (.agg #[.int .i64 x18.1,.int .i64 x18.2.1]) false) w15 [.one (.int .i64)] λ(r19:Int×Unit) w20=>
 cond (r19.1 == 0)
 (DrawV λD21=>
 (D21 b13/\LoadA w20.drew ⟨b13,1,none⟩ [.int .i64,.int .i64] λ(x22:Int×Int×Unit)=>
 ((RunV Tryz.prog (Instr.lookup 165 (.map (some b1)) (.agg #[.int .i64 x22.1,.int .i64 x22.2.1]) false) w20.drew [.one (.int .i64)] λ(r23:Int×Unit) w24=>
 KeepOn D21 w20.drew w24 /\
 Rng .i64 (r23.1+1) /\
 RunV Tryz.prog (Instr.mapEntry 165 (.map (some b1)) (.agg #[.int .i64 x22.1,.int .i64 x22.2.1])) w24 [.one (.int .i64),.one (.int .i64)] λ(r25:Int×Int×Unit) w26=>
 KeepOn D21 w20.drew w26 /\
 RunU Tryz.prog (Instr.entryStore 165 (.map (some b1)) (.int .i64 r25.2.1) (.int .i64 (r23.1+1))) w26 λw27=>
 KeepOn D21 w20.drew w27 /\
 LoadA w27 ⟨b13,1,none⟩ [.int .i64,.int .i64,.int .i64,.int .i64,.int .i64,.int .u32,.int .u64,.int .u64,.int .i64,.int .i64,.int .i64,.int .u32,.int .u64,.int .u64] λ(x28:Int×Int×Int×Int×Int×Int×Int×Int×Int×Int×Int×Int×Int×Int×Unit)=>
 NewV #[.int .i64 x28.1,.int .i64 x28.2.1,.int .i64 x28.2.2.1,.int .i64 x28.2.2.2.1,.int .i64 x28.2.2.2.2.1,.int .u32 x28.2.2.2.2.2.1,.int .u64 x28.2.2.2.2.2.2.1,.int .u64 x28.2.2.2.2.2.2.2.1,.int .i64 x28.2.2.2.2.2.2.2.2.1,.int .i64 x28.2.2.2.2.2.2.2.2.2.1,.int .i64 x28.2.2.2.2.2.2.2.2.2.2.1,.int .u32 x28.2.2.2.2.2.2.2.2.2.2.2.1,.int .u64 x28.2.2.2.2.2.2.2.2.2.2.2.2.1,.int .u64 x28.2.2.2.2.2.2.2.2.2.2.2.2.2.1] 59 w27 λb29 w30=>
 AppS w30 (some ⟨b29,0,none⟩) 1 14 λns35=>
 AppV w30 59 14 112 z8.1.a z8.1.n z8.1.c ns35 1 λa31 n32 c33 w34=>
 Rng .i64 (z8.2.1+1) /\
 K10 ((⟨a31,n32,c33⟩:SlV),z8.2.1+1,()) w34) /\
 (RunV Tryz.prog (Instr.mapEntry 165 (.map (some b1)) (.agg #[.int .i64 x22.1,.int .i64 x22.2.1])) w20.drew [.one (.int .i64),.one (.int .i64)] λ(r36:Int×Int×Unit) w37=>
 KeepOn D21 w20.drew w37 /\
 RunV Tryz.prog (Instr.lookup 165 (.map (some b1)) (.agg #[.int .i64 x22.1,.int .i64 x22.2.1]) false) w37 [.one (.int .i64)] λ(r38:Int×Unit) w39=>
 KeepOn D21 w20.drew w39 /\
 Rng .i64 (r38.1+1) /\
 RunU Tryz.prog (Instr.entryStore 165 (.map (some b1)) (.int .i64 r36.2.1) (.int .i64 (r38.1+1))) w39 λw40=>
 KeepOn D21 w20.drew w40 /\
 LoadA w40 ⟨b13,1,none⟩ [.int .i64,.int .i64,.int .i64,.int .i64,.int .i64,.int .u32,.int .u64,.int .u64,.int .i64,.int .i64,.int .i64,.int .u32,.int .u64,.int .u64] λ(x41:Int×Int×Int×Int×Int×Int×Int×Int×Int×Int×Int×Int×Int×Int×Unit)=>
 NewV #[.int .i64 x41.1,.int .i64 x41.2.1,.int .i64 x41.2.2.1,.int .i64 x41.2.2.2.1,.int .i64 x41.2.2.2.2.1,.int .u32 x41.2.2.2.2.2.1,.int .u64 x41.2.2.2.2.2.2.1,.int .u64 x41.2.2.2.2.2.2.2.1,.int .i64 x41.2.2.2.2.2.2.2.2.1,.int .i64 x41.2.2.2.2.2.2.2.2.2.1,.int .i64 x41.2.2.2.2.2.2.2.2.2.2.1,.int .u32 x41.2.2.2.2.2.2.2.2.2.2.2.1,.int .u64 x41.2.2.2.2.2.2.2.2.2.2.2.2.1,.int .u64 x41.2.2.2.2.2.2.2.2.2.2.2.2.2.1] 59 w40 λb42 w43=>
 AppS w43 (some ⟨b42,0,none⟩) 1 14 λns48=>
 AppV w43 59 14 112 z8.1.a z8.1.n z8.1.c ns48 1 λa44 n45 c46 w47=>
 Rng .i64 (z8.2.1+1) /\
 K10 ((⟨a44,n45,c46⟩:SlV),z8.2.1+1,()) w47))))
 (Rng .i64 (z8.2.1+1) /\
 K10 (z8.1,z8.2.1+1,()) w20))
 (Rng .i64 (z8.2.1+1) /\
 K10 (z8.1,z8.2.1+1,()) w15))
 (Rng .i64 (z8.2.1+1) /\
 K10 (z8.1,z8.2.1+1,()) w15))
 (Rng .i64 (z3.2.1+1) /\
 K5 (z8.1,z3.2.1+1,()) w9))
 (CallV Tryz.prog 74 #[.slice z3.1.a z3.1.n z3.1.c,.func (.func 75) #[] #[]] w4 [] λ(r49:Unit) w50=>
 K (z3.1,()) w50)
theorem pagemap_Map_In.vc (p0:Addr) (p1:Int) (w:World) (K:SlV×Unit->World->Prop) (h:pagemap_Map_In.P p0 p1 w K):CallV Tryz.prog 36 #[.pointer (some p0),.int .i64 p1] w [.one .sl] K:=by
 refine vcFun.of (A:=pagemap_Map_In.A) (wr:=false) okf_ok follows h Tryz.func36 ?_
 kernel_rfl
end Go.Proofs.YtcekmdehjnlkpaaGreat.Vc
namespace Go.Proofs.YtcekmdehjnlkpaaGreat.Vc
open Go Go.Eng Go.RowKit
structure Hh where
 k:Int
 n:Int
 c:Int
 l:Int
 e:Int
 t:Int
abbrev Hh.vs (h:Hh):List Value:=[.int .i64 h.k,.int .i64 h.n,.int .i64 h.c,.int .u32 h.l,.int .u64 h.e,.int .u64 h.t]
abbrev Hh.val (h:Hh):Value:=.agg #[.int .i64 h.k,.int .i64 h.n,.int .i64 h.c,.int .u32 h.l,.int .u64 h.e,.int .u64 h.t]
structure Sp where
 b:Int
 p:Int
 h:Hh
 o:Hh
abbrev Sp.vs (s:Sp):List Value:=[.int .i64 s.b,.int .i64 s.p,.int .i64 s.h.k,.int .i64 s.h.n,.int .i64 s.h.c,.int .u32 s.h.l,.int .u64 s.h.e,.int .u64 s.h.t,.int .i64 s.o.k,.int .i64 s.o.n,.int .i64 s.o.c,.int .u32 s.o.l,.int .u64 s.o.e,.int .u64 s.o.t]
abbrev Sp.val (s:Sp):Value:=.agg #[.int .i64 s.b,.int .i64 s.p,.int .i64 s.h.k,.int .i64 s.h.n,.int .i64 s.h.c,.int .u32 s.h.l,.int .u64 s.h.e,.int .u64 s.h.t,.int .i64 s.o.k,.int .i64 s.o.n,.int .i64 s.o.c,.int .u32 s.o.l,.int .u64 s.o.e,.int .u64 s.o.t]
abbrev Sp.tup (s:Sp):Int×Int×Int×Int×Int×Int×Int×Int×Int×Int×Int×Int×Int×Int×Unit:=(s.b,s.p,s.h.k,s.h.n,s.h.c,s.h.l,s.h.e,s.h.t,s.o.k,s.o.n,s.o.c,s.o.l,s.o.e,s.o.t,())
abbrev SH14:List SS:=[.int .i64,.int .i64,.int .i64,.int .i64,.int .i64,.int .u32,.int .u64,.int .u64,.int .i64,.int .i64,.int .i64,.int .u32,.int .u64,.int .u64]
def Hh0:Hh:=⟨0,0,0,0,0,0⟩
def Sp0:Sp:=⟨0,0,Hh0,Hh0⟩
def lesH (a b:Hh):Prop:=a.e<b.e\/a.e=b.e/\a.t<b.t
instance (a b:Hh):Decidable (lesH a b):=by unfold lesH;infer_instance
def nwrH (a b:Sp):Prop:=lesH b.h a.h\/¬ lesH a.h b.h/\lesH b.o a.o
instance (a b:Sp):Decidable (nwrH a b):=by unfold nwrH;infer_instance
section
variable {w:World}
theorem Less22_c {a b:Hh}:CallV Tryz.prog 105 #[a.val,b.val] w [.one .bool] λr w'=>r.1=decide (lesH a b)/\Ext w w':=by
 apply head_Less.vc
 unfold head_Less.P
 have S:=Sep.start NoB w
 refine S.newB λb1 _ S _ _=>?_
 refine S.newB λb3 _ S _ _=>?_
 unfold lesH
 refine S.ld1 (j:=4) rfl rfl (S.ld0 (j:=4) rfl rfl (cond_ne (λh=>?_) (λh=>?_)))
 ·refine S.ld1 (j:=4) rfl rfl (S.ld0 (j:=4) rfl rfl ⟨decide_eq_decide.2 ⟨λk=>.inl k,λk=>k.elim id λk=>absurd k.1 h⟩,S.ext⟩)
 ·refine S.ld1 (j:=5) rfl rfl (S.ld0 (j:=5) rfl rfl ⟨decide_eq_decide.2 ⟨λk=>.inr ⟨h,k⟩,λk=>k.elim (λk=>by omega) λk=>k.2⟩,S.ext⟩)
theorem Newer22_c {a b:Sp}:CallV Tryz.prog 107 #[a.val,b.val] w [.one .bool] λr w'=>r.1=decide (nwrH a b)/\Ext w w':=by
 apply pagemap_Newer.vc
 unfold pagemap_Newer.P
 have S:=Sep.start NoB w
 refine S.newB λb1 _ S _ _=>?_
 refine S.newB λb3 _ S _ _=>?_
 refine S.lb0 (o:=2) rfl (S.lb1 (o:=2) rfl ?_)
 refine (Less22_c (a:=b.h) (b:=a.h)).mono ?_
 rintro ⟨(r:Bool),⟨⟩⟩ w2 ⟨h2,x2⟩
 dsimp only at h2 ⊢
 subst h2
 have S:=S.stepE x2
 unfold nwrH
 refine cond_d (λh=>⟨(decide_eq_true (.inl h)).symm,S.ext⟩) (λh=>?_)
 refine S.lb1 (o:=2) rfl (S.lb0 (o:=2) rfl ?_)
 refine (Less22_c (a:=a.h) (b:=b.h)).mono ?_
 rintro ⟨(r:Bool),⟨⟩⟩ w3 ⟨h3,x3⟩
 dsimp only at h3 ⊢
 subst h3
 have S:=S.stepE x3
 refine cond_d (λh2=>⟨(decide_eq_false (λk=>k.elim h λk=>k.1 h2)).symm,S.ext⟩) (λh2=>?_)
 refine S.lb0 (o:=8) rfl (S.lb1 (o:=8) rfl ?_)
 refine (Less22_c (a:=b.o) (b:=a.o)).mono ?_
 rintro ⟨(r:Bool),⟨⟩⟩ w4 ⟨h4,x4⟩
 dsimp only at h4 ⊢
 subst h4
 exact ⟨decide_eq_decide.2 ⟨λk=>.inr ⟨h2,k⟩,λk=>k.elim (λk=>absurd k h) λk=>k.2⟩,(S.stepE x4).ext⟩
end
structure Ce where
 has:Bool
 s:Sp
abbrev Ce.vs (x:Ce):List Value:=.bool x.has::x.s.vs
abbrev Ce.val (x:Ce):Value:=.agg #[.bool x.has,.int .i64 x.s.b,.int .i64 x.s.p,.int .i64 x.s.h.k,.int .i64 x.s.h.n,.int .i64 x.s.h.c,.int .u32 x.s.h.l,.int .u64 x.s.h.e,.int .u64 x.s.h.t,.int .i64 x.s.o.k,.int .i64 x.s.o.n,.int .i64 x.s.o.c,.int .u32 x.s.o.l,.int .u64 x.s.o.e,.int .u64 x.s.o.t]
abbrev Ce.tup (x:Ce):Bool×Int×Int×Int×Int×Int×Int×Int×Int×Int×Int×Int×Int×Int×Int×Unit:=(x.has,x.s.b,x.s.p,x.s.h.k,x.s.h.n,x.s.h.c,x.s.h.l,x.s.h.e,x.s.h.t,x.s.o.k,x.s.o.n,x.s.o.c,x.s.o.l,x.s.o.e,x.s.o.t,())
theorem Ce_len (x:Ce):x.vs.length=15:=rfl
theorem Ce_one (x:Ce):oneAll x.vs:=λu hu=>by
 simp only [List.mem_cons,List.not_mem_nil,or_false] at hu
 rcases hu with rfl | rfl | rfl | rfl | rfl | rfl | rfl | rfl | rfl | rfl | rfl | rfl | rfl | rfl | rfl <;> rfl
def Ce0:Ce:=⟨false,Sp0⟩
abbrev slM (x:SlP Ce):Value:=.slice x.a x.n x.c
abbrev ownC (x:SlP Ce):Asr:=OwnA 169 15 x.a x.n x.c (x.l.flatMap Ce.vs)
abbrev PmQ (p r:Nat) (X:List (SlP Ce)) (m:Int×Int->Int) (Rs:List Asr):List Asr:=BoxA p 212 (X.map slM++[.map (some r)])::MapF r m::(X.map ownC++Rs)
def noC:SlP Ce:=⟨none,0,0,[]⟩
def getX (X:List (SlP Ce)) (ns:Int):SlP Ce:=if 0<=ns/\ns<4 then X.getD ns.toNat noC else noC
section
variable {E:Nat->Prop} {w0 w:World} {p r:Nat} {X:List (SlP Ce)} {m:Int×Int->Int} {Rs:List Asr}
theorem PmQ_own (hX:X.length=4) {ns:Int} (hn:0<=ns/\ns<4):(PmQ p r X m Rs)[ns.toNat+2]? = some (ownC (getX X ns)):=by
 show (X.map ownC++Rs)[ns.toNat]? = _
 have hl:ns.toNat<X.length:=by omega
 rw [List.getElem?_append_left (by rw [List.length_map];exact hl),List.getElem?_map,List.getElem?_eq_getElem hl]
 unfold getX
 rw [if_pos hn,List.getD_eq_getElem?_getD,List.getElem?_eq_getElem hl]
 rfl
theorem getX_len (hX:X.length=4) (S:Sep E w0 w (PmQ p r X m Rs)) (ns:Int):(getX X ns).l.length=(getX X ns).n/\(getX X ns).n<=(getX X ns).c:=by
 by_cases hn:0<=ns/\ns<4
 ·have ho:=S.own (ns.toNat+2) (PmQ_own hX hn)
  have hl:=ho.len
  rw [flatF_len (f:=Ce.vs) (m:=15) Ce_len] at hl
  exact ⟨Nat.eq_of_mul_eq_mul_right (by omega) hl,ho.cap⟩
 ·unfold getX;rw [if_neg hn];exact ⟨rfl,Nat.le_refl _⟩
theorem slot_c (hX:X.length=4) (S:Sep E w0 w (PmQ p r X m Rs)) {ns:Int} (hn:0<=ns/\ns<4) {K:SlV->Prop} (hk:K ⟨(getX X ns).a,(getX X ns).n,(getX X ns).c⟩):LoadS w ((⟨p,0,none⟩:Addr).add (ns.toNat*1)) .sl K:=by
 have hl:ns.toNat<X.length:=by omega
 rw [Nat.mul_one,show (⟨p,0,none⟩:Addr).add ns.toNat=⟨p,ns.toNat,none⟩ by simp [Addr.add_lit]]
 refine S.ld0 (j:=ns.toNat) (h:=.sl) (v:=slM (getX X ns)) (x:=⟨(getX X ns).a,(getX X ns).n,(getX X ns).c⟩) ?_ rfl hk
 rw [List.getElem?_append_left (by rw [List.length_map];exact hl),List.getElem?_map,List.getElem?_eq_getElem hl]
 unfold getX
 rw [if_pos hn,List.getD_eq_getElem?_getD,List.getElem?_eq_getElem hl]
 rfl
theorem refs_c (hX:X.length=4) (S:Sep E w0 w (PmQ p r X m Rs)) {K:Option Nat->Prop} (hk:K (some r)):LoadS w ((⟨p,0,none⟩:Addr).add 4) .map K:=by
 rw [show (⟨p,0,none⟩:Addr).add 4=⟨p,4,none⟩ by simp [Addr.add_lit]]
 refine S.ld0 (j:=4) (h:=.map) (v:=.map (some r)) (x:=some r) ?_ rfl hk
 rw [List.getElem?_append_right (by rw [List.length_map,hX];omega),List.length_map,hX]
 rfl
theorem own22_c {ns:Int} (hX:X.length=4) (S:Sep E w0 w (PmQ p r X m Rs)):CallV Tryz.prog 73 #[.pointer (some ⟨p,0,none⟩),.int .i64 ns] w [.one .sl] λr w'=>r.1=(⟨(getX X ns).a,(getX X ns).n,(getX X ns).c⟩:SlV)/\w'=w:=by
 apply pagemap_Map_own.vc
 unfold pagemap_Map_own.P
 have no:¬ (0<=ns/\ns<4)->(⟨none,0,0⟩:SlV)=⟨(getX X ns).a,(getX X ns).n,(getX X ns).c⟩:=λh=>by unfold getX;rw [if_neg h];rfl
 refine cond_d (λh=>⟨no (by omega),rfl⟩) λh0=>cond_d (λh=>⟨no (by omega),rfl⟩) λh4=>?_
 exact ⟨⟨by omega,by omega⟩,slot_c hX S ⟨by omega,by omega⟩ ⟨rfl,rfl⟩⟩
theorem Size22_c {ns:Int} (hX:X.length=4) (S:Sep E w0 w (PmQ p r X m Rs)):CallV Tryz.prog 45 #[.pointer (some ⟨p,0,none⟩),.int .i64 ns] w [.one (.int .i64)] λr w'=>r.1=(((getX X ns).n:Nat):Int)/\w'=w:=by
 apply pagemap_Map_Size.vc
 unfold pagemap_Map_Size.P
 refine (own22_c (ns:=ns) hX S).mono ?_
 rintro ⟨⟨a,n,c⟩,⟨⟩⟩ w1 ⟨h1,rfl⟩
 cases h1
 exact ⟨rfl,rfl⟩
end
end Go.Proofs.YtcekmdehjnlkpaaGreat.Vc
namespace Go.Eng
open Go
section
variable {E:Nat->Prop} {w0 w w':World} {Rs Ts:List Asr}
theorem Sep.regC (Rs:List Asr) {Ts:List Asr} (S:Sep E w0 w (Rs++Ts)) {body:(Nat->Prop)->Prop}
  (h:∀ F D:Nat->Prop,(∀ k,F k->(E k\/w0.heap.size<=k)/\k<w.heap.size)->Sep F w.drew w.drew Rs->Sep E w0 w.drew (Rs++Ts)->(∀ (i:Nat) (b:Nat) (e:TypeId) (vs:List Value),Ts[i]? = some (BoxA b e vs)->D b)->(∀ b,b<w0.heap.size->¬ E b->D b)->(∀ w',Fr F w.drew w'->KeepOn D w.drew w')->(∀ w' Ls,Sep F w.drew w' Ls->Sep E w0 w' (Ls++Ts))->body D):DrawV body:=by
 have S:=S.drew
 obtain ⟨F,hF,hb⟩:=S.ex
 obtain ⟨F1,F2,h1,h2,h3,h4,h5⟩:=StarP.app.1 hF
 have hsz:w0.heap.size<=w.drew.heap.size:=S.fr.size
 refine DrawV.but F1 w λD hD hk=>h F1 D (λk hk=>hb k (h4 k hk)) (Sep.begin h1 λk hk=>(hb k (h4 k hk)).2) S (λi b e vs hi=>?_) (λb hb1 hb2=>?_) hk λw' Ls S'=>?_
 ·obtain ⟨G,g1,g2⟩:=StarP.get hi h2
  exact hD b (hb b (h5 b (g2 b g1.1))).2 λx=>h3 b x (g2 b g1.1)
 ·refine hD b (Nat.lt_of_lt_of_le hb1 hsz) λx=>?_
  rcases (hb b (h4 b x)).1 with y | y
  ·exact hb2 y
  ·omega
 ·obtain ⟨G,g1,g2⟩:=S'.ex
  refine ⟨S.fr.trans' S'.fr λk hk=>(hb k (h4 k hk)).1,λk=>G k\/F2 k,StarP.app.2 ⟨G,F2,g1,h2.st λk hk=>S'.fr.block k (hb k (h5 k hk)).2 λx=>h3 k x hk,λk hk hf=>?_,λk=>.inl,λk=>.inr⟩,λk hk=>?_⟩
  ·rcases (g2 k hk).1 with x | x
   ·exact h3 k x hf
   ·have:=(hb k (h5 k hf)).2;omega
  ·rcases hk with hk | hk
   ·refine ⟨?_,(g2 k hk).2⟩
    rcases (g2 k hk).1 with x | x
    ·exact (hb k (h4 k x)).1
    ·exact .inr (by omega)
   ·exact ⟨(hb k (h5 k hk)).1,Nat.lt_of_lt_of_le (hb k (h5 k hk)).2 S'.fr.size⟩
end
end Go.Eng
namespace Go.Proofs.YtcekmdehjnlkpaaGreat.Vc
open Go Go.Eng Go.RowKit
theorem _root_.Go.Eng.Sep.swapIn {E:Nat->Prop} {w0 w:World} {Rs:List Asr} {R R':Asr} {i:Nat} (S:Sep E w0 w (R'::Rs)) (hi:Rs[i]? = some R):Sep E w0 w (Rs.set i R'):=
 (S.perm (((perm_front hi).cons R').trans ((List.Perm.swap R R' (Rs.eraseIdx i)).trans ((perm_set hi).cons R)))).tail
abbrev plV (k:Int×Int):List Value:=[.int .i64 k.1,.int .i64 k.2]
theorem plV_len (k:Int×Int):(plV k).length=2:=rfl
theorem plV_one (k:Int×Int):oneAll (plV k):=λu hu=>by
 simp only [List.mem_cons,List.not_mem_nil,or_false] at hu
 rcases hu with rfl | rfl <;> rfl
abbrev outA (a:Option Addr) (n c:Nat) (L:List (Int×Int)):Asr:=OwnA 57 2 a n c (L.flatMap plV)
section
variable {E:Nat->Prop} {w0 w:World} {p r:Nat} {X:List (SlP Ce)} {m:Int×Int->Int} {Rs:List Asr}
theorem New22_c:CallV Tryz.prog 65 #[] w [.one .ptr] λr w'=>∃ p rr:Nat,r.1=some (⟨p,0,none⟩:Addr)/\Sep NoB w w' (PmQ p rr [noC,noC,noC,noC] (λ_=>0) []):=by
 apply pagemap_New.vc
 unfold pagemap_New.P
 have S:=Sep.start NoB w
 refine S.newM λb1 w1 S f1 _=>?_
 refine S.newB λb3 w2 S f2 _=>⟨b3,b1,rfl,?_⟩
 have S:=(((S.nilOwn 169 15).nilOwn 169 15).nilOwn 169 15).nilOwn 169 15
 exact S.sel [4,4,0,0,0,0] rfl
def addE (X:List (SlP Ce)) (ns size:Int):Int:=if ¬ (0<=ns/\ns<4) then 2 else if ¬ (1<=size/\size<=65535) then 2 else if 0<(getX X ns).n then 11 else 0
theorem Add22_c {ns size:Int} (hX:X.length=4) (S:Sep E w0 w (PmQ p r X m [])) :
  CallV Tryz.prog 67 #[.pointer (some ⟨p,0,none⟩),.int .i64 ns,.int .i64 size] w [.one (.int .i64)] λrr w'=>rr.1=addE X ns size/\(addE X ns size≠0->Sep E w0 w' (PmQ p r X m [])) /\
   (addE X ns size=0->∃ x:SlP Ce,x.l=List.replicate size.toNat Ce0/\x.n=size.toNat/\Sep E w0 w' (PmQ p r (X.set ns.toNat x) m [])):=by
 apply pagemap_Map_Add.vc
 unfold pagemap_Map_Add.P
 have no:∀ {e:Int},addE X ns size=e->e≠0->e=addE X ns size/\(addE X ns size≠0->Sep E w0 w (PmQ p r X m []))/\(addE X ns size=0->∃ x:SlP Ce,x.l=List.replicate size.toNat Ce0/\x.n=size.toNat/\Sep E w0 w (PmQ p r (X.set ns.toNat x) m [])):=λh1 h2=>⟨h1.symm,λ_=>S,λh=>absurd (h1.symm.trans h) h2⟩
 refine cond_d (λh=>no (e:=2) (by unfold addE;rw [if_pos (by omega)]) (by decide)) λh0=>cond_d (λh=>no (e:=2) (by unfold addE;rw [if_pos (by omega)]) (by decide)) λh4=>?_
 have hn:0<=ns/\ns<4:=by omega
 refine cond_d (λh=>no (e:=2) (by unfold addE;rw [if_neg (λk=>k hn),if_pos (by omega)]) (by decide)) λh1=>cond_d (λh=>no (e:=2) (by unfold addE;rw [if_neg (λk=>k hn),if_pos (by omega)]) (by decide)) λh6=>?_
 have hs:1<=size/\size<=65535:=by omega
 refine ⟨⟨hn.1,hn.2⟩,slot_c hX S hn ?_⟩
 dsimp only
 refine cond_d (λh=>no (e:=11) (by unfold addE;rw [if_neg (λk=>k hn),if_neg (λk=>k hs),if_pos (by omega)]) (by decide)) λhz=>?_
 have hE:addE X ns size=0:=by unfold addE;rw [if_neg (λk=>k hn),if_neg (λk=>k hs),if_neg (by omega)]
 refine refs_c hX S (cond_f rfl ?_)
 refine S.regX (λk=>k=p) λD hD hkeep S T=>?_
 refine ⟨⟨by omega,Int.le_refl _,by omega,by omega⟩,?_⟩
 refine S.newB λb7 w8 S f8 _=>?_
 have S:=S.asOwn (sz:=15) (n:=size.toNat) (by rw [List.length_flatten,List.map_replicate,List.sum_replicate_nat];rfl) (by omega) (λu hu=>by
  obtain ⟨l,hl,hul⟩:=List.mem_flatten.1 hu
  rw [(List.mem_replicate.1 hl).2] at hul
  exact Ce_one Ce0 u hul)
 refine ⟨hkeep _ f8.any,⟨hn.1,hn.2⟩,?_⟩
 have hl:ns.toNat<X.length:=by omega
 rw [Nat.mul_one,show (⟨p,0,none⟩:Addr).add ns.toNat=⟨p,ns.toNat,none⟩ by simp [Addr.add_lit]]
 refine S.storeR1 (i:=1) rfl (j:=ns.toNat) (by rw [List.length_append,List.length_map];omega) λw9 S f9=>⟨hkeep _ (f8.any.trans f9),hE.symm,λh=>absurd hE h,λ_=>⟨⟨some ⟨b7,0,none⟩,size.toNat,size.toNat,List.replicate size.toNat Ce0⟩,rfl,rfl,?_⟩⟩
 have e1:(X.map slM++[Value.map (some r)]).set ns.toNat (.slice (some ⟨b7,0,none⟩) size.toNat size.toNat)=(X.set ns.toNat ⟨some ⟨b7,0,none⟩,size.toNat,size.toNat,List.replicate size.toNat Ce0⟩).map slM++[.map (some r)]:=by
  rw [List.set_append_left _ _ (by rw [List.length_map];exact hl),List.map_set]
 have e2:(List.replicate size.toNat Ce0.vs).flatten=(List.replicate size.toNat Ce0).flatMap Ce.vs:=by rw [List.flatMap_def,List.map_replicate]
 have S2:Sep E w0 w9 (OwnA 169 15 (some ⟨b7,0,none⟩) size.toNat size.toNat (List.replicate size.toNat Ce0.vs).flatten::BoxA p 212 ((X.map slM++[Value.map (some r)]).set ns.toNat (.slice (some ⟨b7,0,none⟩) size.toNat size.toNat))::MapF r m::(X.map ownC++[])):=S
 rw [e1,e2] at S2
 have S3:=S2.swapIn (i:=ns.toNat+2) (R:=ownC (getX X ns)) (PmQ_own (p:=p) (r:=r) (m:=m) (Rs:=[]) hX hn)
 rw [List.set_cons_succ,List.set_cons_succ,List.set_append_left _ _ (by rw [List.length_map];exact hl)] at S3
 show Sep E w0 w9 (BoxA p _ _::MapF r m::((X.set ns.toNat _).map ownC++[]))
 rw [List.map_set (f:=ownC)]
 exact S3
def okT (X:List (SlP Ce)) (s:Sp):Prop:=(s.h.k=1\/s.h.k=2)/\1<=s.h.c/\s.h.c<=((getX X s.h.n).n:Int)/\s.h.l<=((getX X s.h.n).n:Int)-s.h.c
instance (X:List (SlP Ce)) (s:Sp):Decidable (okT X s):=by unfold okT;infer_instance
abbrev spkV (X:List (SlP Ce)) (s:Sp):SlV:=⟨(getX X s.h.n).a.map (·.add (s.h.l.toNat*15)),s.h.c.toNat,(getX X s.h.n).c-s.h.l.toNat⟩
theorem speaks22_c {s:Sp} (hl:0<=s.h.l/\s.h.l<4294967296) (hX:X.length=4) (hN:(getX X s.h.n).n<=100000) (S:Sep E w0 w (PmQ p r X m Rs)) :
  CallV Tryz.prog 106 #[.pointer (some ⟨p,0,none⟩),s.val] w [.one .sl] λr w'=>Ext w w'/\(okT X s->r.1=spkV X s)/\(¬ okT X s->r.1=(⟨none,0,0⟩:SlV)):=by
 apply pagemap_Map_speaks.vc
 unfold pagemap_Map_speaks.P
 have hcap:=(getX_len hX S s.h.n).2
 have wl:IntKind.i64.wrap s.h.l=s.h.l:=i64_wrap (by omega) (by omega)
 have T:=Sep.start NoB w
 refine T.newB λb1 w1 T f1 _=>?_
 refine T.reg λD hD hkeep T U=>⟨hD _ T.bl0,T.ld0 (j:=3) rfl rfl ⟨hD _ T.bl0,T.lb0 (o:=2) rfl ⟨?_,?_⟩⟩⟩
 ·refine (own22_c (ns:=s.h.n) hX (S.stepE T.ext)).mono ?_
  rintro ⟨⟨a,n,c⟩,⟨⟩⟩ w2 ⟨h2,rfl⟩
  cases h2
  dsimp only
  refine ⟨hkeep _ (Fr.refl _ _),U.newB λb8 w3 U f3 _=>⟨hkeep _ U.fr,U.st0 (by rfl) λw4 U f4=>⟨hkeep _ U.fr,?_⟩⟩⟩
  have no:¬ okT X s->Ext w w4/\(okT X s->(⟨none,0,0⟩:SlV)=spkV X s)/\(¬ okT X s->(⟨none,0,0⟩:SlV)=(⟨none,0,0⟩:SlV)):=λh=>⟨T.ext.trans U.ext,λk=>absurd k h,λ_=>rfl⟩
  refine U.ld0 (j:=0) rfl rfl (cond_ne (λh1=>?_) (λh1=>?_))
  ·refine U.ld0 (j:=0) rfl rfl (cond_ne (λh2=>no λk=>k.1.elim h1 h2) (λh2=>?_))
   have hk:s.h.k=1\/s.h.k=2:=.inr h2
   refine U.ld0 (j:=2) rfl rfl (cond_d (λh=>no λk=>by have:=k.2.1;omega) λh3=>?_)
   refine U.ld0 (j:=2) rfl rfl (cond_d (λh=>no λk=>by have:=k.2.2.1;omega) λh4=>?_)
   have r1:Rng .i64 (((getX X s.h.n).n:Int)-s.h.c):=Rng.i64 (by omega) (by omega)
   refine U.ld0 (j:=3) rfl rfl (U.ld0 (j:=2) rfl rfl ⟨r1,?_⟩)
   rw [wl]
   refine cond_d (λh=>no λk=>by have:=k.2.2.2;omega) λh5=>?_
   have hok:okT X s:=⟨hk,by omega,by omega,by omega⟩
   have r2:Rng .i64 (s.h.l+s.h.c):=Rng.i64 (by omega) (by omega)
   refine U.ld0 (j:=3) rfl rfl (U.ld0 (j:=3) rfl rfl (U.ld0 (j:=2) rfl rfl ?_))
   rw [wl]
   refine ⟨r2,⟨by omega,by omega,by omega⟩,?_⟩
   intro a20 ha
   rw [if_neg (by omega)] at ha
   refine ⟨T.ext.trans U.ext,λ_=>?_,λk=>absurd hok k⟩
   rw [ha,show (s.h.l+s.h.c).toNat-s.h.l.toNat=s.h.c.toNat by omega]
  ·have hk:s.h.k=1\/s.h.k=2:=.inl h1
   refine U.ld0 (j:=2) rfl rfl (cond_d (λh=>no λk=>by have:=k.2.1;omega) λh3=>?_)
   refine U.ld0 (j:=2) rfl rfl (cond_d (λh=>no λk=>by have:=k.2.2.1;omega) λh4=>?_)
   have r1:Rng .i64 (((getX X s.h.n).n:Int)-s.h.c):=Rng.i64 (by omega) (by omega)
   refine U.ld0 (j:=3) rfl rfl (U.ld0 (j:=2) rfl rfl ⟨r1,?_⟩)
   rw [wl]
   refine cond_d (λh=>no λk=>by have:=k.2.2.2;omega) λh5=>?_
   have hok:okT X s:=⟨hk,by omega,by omega,by omega⟩
   have r2:Rng .i64 (s.h.l+s.h.c):=Rng.i64 (by omega) (by omega)
   refine U.ld0 (j:=3) rfl rfl (U.ld0 (j:=3) rfl rfl (U.ld0 (j:=2) rfl rfl ?_))
   rw [wl]
   refine ⟨r2,⟨by omega,by omega,by omega⟩,?_⟩
   intro a20 ha
   rw [if_neg (by omega)] at ha
   refine ⟨T.ext.trans U.ext,λ_=>?_,λk=>absurd hok k⟩
   rw [ha,show (s.h.l+s.h.c).toNat-s.h.l.toNat=s.h.c.toNat by omega]
 ·refine U.newB λb8 w3 U f3 _=>⟨hkeep _ U.fr,?_⟩
  refine (own22_c (ns:=s.h.n) hX (S.stepE (T.ext.trans f3.ext))).mono ?_
  rintro ⟨⟨a,n,c⟩,⟨⟩⟩ w2 ⟨h2,rfl⟩
  cases h2
  dsimp only
  refine ⟨hkeep _ U.fr,U.st0 (by rfl) λw4 U f4=>⟨hkeep _ U.fr,?_⟩⟩
  have no:¬ okT X s->Ext w w4/\(okT X s->(⟨none,0,0⟩:SlV)=spkV X s)/\(¬ okT X s->(⟨none,0,0⟩:SlV)=(⟨none,0,0⟩:SlV)):=λh=>⟨T.ext.trans U.ext,λk=>absurd k h,λ_=>rfl⟩
  refine U.ld0 (j:=0) rfl rfl (cond_ne (λh1=>?_) (λh1=>?_))
  ·refine U.ld0 (j:=0) rfl rfl (cond_ne (λh2=>no λk=>k.1.elim h1 h2) (λh2=>?_))
   have hk:s.h.k=1\/s.h.k=2:=.inr h2
   refine U.ld0 (j:=2) rfl rfl (cond_d (λh=>no λk=>by have:=k.2.1;omega) λh3=>?_)
   refine U.ld0 (j:=2) rfl rfl (cond_d (λh=>no λk=>by have:=k.2.2.1;omega) λh4=>?_)
   have r1:Rng .i64 (((getX X s.h.n).n:Int)-s.h.c):=Rng.i64 (by omega) (by omega)
   refine U.ld0 (j:=3) rfl rfl (U.ld0 (j:=2) rfl rfl ⟨r1,?_⟩)
   rw [wl]
   refine cond_d (λh=>no λk=>by have:=k.2.2.2;omega) λh5=>?_
   have hok:okT X s:=⟨hk,by omega,by omega,by omega⟩
   have r2:Rng .i64 (s.h.l+s.h.c):=Rng.i64 (by omega) (by omega)
   refine U.ld0 (j:=3) rfl rfl (U.ld0 (j:=3) rfl rfl (U.ld0 (j:=2) rfl rfl ?_))
   rw [wl]
   refine ⟨r2,⟨by omega,by omega,by omega⟩,?_⟩
   intro a20 ha
   rw [if_neg (by omega)] at ha
   refine ⟨T.ext.trans U.ext,λ_=>?_,λk=>absurd hok k⟩
   rw [ha,show (s.h.l+s.h.c).toNat-s.h.l.toNat=s.h.c.toNat by omega]
  ·have hk:s.h.k=1\/s.h.k=2:=.inl h1
   refine U.ld0 (j:=2) rfl rfl (cond_d (λh=>no λk=>by have:=k.2.1;omega) λh3=>?_)
   refine U.ld0 (j:=2) rfl rfl (cond_d (λh=>no λk=>by have:=k.2.2.1;omega) λh4=>?_)
   have r1:Rng .i64 (((getX X s.h.n).n:Int)-s.h.c):=Rng.i64 (by omega) (by omega)
   refine U.ld0 (j:=3) rfl rfl (U.ld0 (j:=2) rfl rfl ⟨r1,?_⟩)
   rw [wl]
   refine cond_d (λh=>no λk=>by have:=k.2.2.2;omega) λh5=>?_
   have hok:okT X s:=⟨hk,by omega,by omega,by omega⟩
   have r2:Rng .i64 (s.h.l+s.h.c):=Rng.i64 (by omega) (by omega)
   refine U.ld0 (j:=3) rfl rfl (U.ld0 (j:=3) rfl rfl (U.ld0 (j:=2) rfl rfl ?_))
   rw [wl]
   refine ⟨r2,⟨by omega,by omega,by omega⟩,?_⟩
   intro a20 ha
   rw [if_neg (by omega)] at ha
   refine ⟨T.ext.trans U.ext,λ_=>?_,λk=>absurd hok k⟩
   rw [ha,show (s.h.l+s.h.c).toNat-s.h.l.toNat=s.h.c.toNat by omega]
def losM (m:Int×Int->Int) (c:Ce):Int×Int->Int:=if c.has then updM m (c.s.b,c.s.p) (m (c.s.b,c.s.p)-1) else m
def losL (m:Int×Int->Int) (c:Ce) (L:List (Int×Int)):List (Int×Int):=if c.has=true/\¬ 0<m (c.s.b,c.s.p)-1 then L++[(c.s.b,c.s.p)] else L
theorem lose22_c {c:Ce} {bv:List Value} {a:Option Addr} {n cp:Nat} {L:List (Int×Int)} (hbv:bv[4]? = some (.map (some r))) (hm:c.has=true->1<=m (c.s.b,c.s.p)/\m (c.s.b,c.s.p)<=1000000) (hn:n<=1000000) (S:Sep E w0 w [BoxA p 212 bv,MapF r m,outA a n cp L]) :
  CallV Tryz.prog 108 #[.pointer (some ⟨p,0,none⟩),c.val,.slice a n cp] w [.one .sl] λrr w'=>∃ (a':Option Addr) (n' c':Nat) (m':Int×Int->Int),rr.1=(⟨a',n',c'⟩:SlV)/\n'<=n+1/\(∀ k,m' k=losM m c k)/\Sep E w0 w' [BoxA p 212 bv,MapF r m',outA a' n' c' (losL m c L)]:=by
 apply pagemap_Map_lose.vc
 unfold pagemap_Map_lose.P
 refine S.newB λb1 w1 S f1 _=>?_
 refine S.ld0 (j:=0) rfl rfl (cond_of (λhh=>?_) (λhh=>?_))
 ·have hh:c.has=false:=by simpa using hh
  refine ⟨a,n,cp,m,rfl,by omega,λk=>?_,?_⟩
  ·unfold losM;rw [hh];rfl
  ·have:losL m c L=L:=by unfold losL;rw [if_neg (λk=>by rw [hh] at k;cases k.1)]
   rw [this]
   exact S.tail
 have hh:c.has=true:=by simpa using hh
 obtain ⟨m1,m2⟩:=hm hh
 refine S.lb0 (o:=1) rfl (S.newB λb5 w2 S f2 _=>S.st0 (by rfl) λw3 S f3=>?_)
 have ld4:∀ {w0 w':World} {E:Nat->Prop} {A:List Asr} (i:Nat) (S:Sep E w0 w' A) (hi:A[i]? = some (BoxA p 212 bv)) {K:Option Nat->Prop},K (some r)->LoadS w' ((⟨p,0,none⟩:Addr).add 4) .map K:=λ{w0 w' E A} i S hi {K} hk=>by
  rw [show (⟨p,0,none⟩:Addr).add 4=⟨p,4,none⟩ by simp [Addr.add_lit]]
  exact S.ld i hi (j:=4) (h:=.map) (some r) hbv hk
 have S:=S.sel [3,0,0,0,0] rfl
 refine Sep.regC [_] S λG D hG T S hDt hDo hkeep back=>?_
 have hGr:G r:=by
  obtain ⟨F,⟨h1,l,cc,h2,-⟩,h3⟩:=T.get (i:=0) rfl
  exact (h3 r h1).1.resolve_right (λh=>by have:=(Array.getElem?_eq_some_iff.1 h2).1;omega)
 have hk2:∀ w',Fr (λk=>k=r) w3.drew w'->KeepOn D w3.drew w':=λw' f=>hkeep w' (f.mono λk hk=>by subst hk;exact hGr)
 have rv:Rng .i64 (m (c.s.b,c.s.p)-1):=Rng.i64 (by omega) (by omega)
 refine ⟨by rw [add_block];exact hDt 2 _ _ _ rfl,ld4 3 S rfl ⟨hDt 0 _ _ _ rfl,S.la1 rfl ⟨?_,?_⟩⟩⟩
 ·refine T.incA (k:=(c.s.b,c.s.p)) (λx=>x-1) 0 rfl hk2 rv λw4 T f4=>?_
  have S:=back _ _ T
  dsimp only [List.set_cons_zero,List.cons_append,List.nil_append] at S
  have hu:updM m (c.s.b,c.s.p) (m (c.s.b,c.s.p)-1) (c.s.b,c.s.p)=m (c.s.b,c.s.p)-1:=if_pos rfl
  refine S.reg λD hD hkeep S T=>?_
  refine ⟨by rw [add_block];exact hD _ (S.lt 3 rfl),ld4 3 S rfl ⟨hD _ S.bl1,S.la1 rfl ?_⟩⟩
  refine S.lookM (k:=(c.s.b,c.s.p)) 0 rfl ⟨hkeep _ (Fr.refl _ _),?_⟩
  dsimp only
  rw [hu]
  refine cond_d (λhp=>?_) (λhp=>?_)
  ·refine ⟨a,n,cp,updM m (c.s.b,c.s.p) (m (c.s.b,c.s.p)-1),rfl,by omega,λk=>by unfold losM;rw [if_pos hh],?_⟩
   have:losL m c L=L:=by unfold losL;rw [if_neg (λk=>k.2 hp)]
   rw [this]
   exact S.sel [3,0,2] rfl
  ·have S:=S.sel [0,0,0,0,0] rfl
   refine Sep.regC [_] S λG D hG T S hDt hDo hkeep back=>?_
   have hGr:G r:=by
    obtain ⟨F,⟨h1,l,cc,h2,-⟩,h3⟩:=T.get (i:=0) rfl
    exact (h3 r h1).1.resolve_right (λh=>by have:=(Array.getElem?_eq_some_iff.1 h2).1;omega)
   refine ⟨by rw [add_block];exact hDt 2 _ _ _ rfl,ld4 3 S rfl ⟨hDt 0 _ _ _ rfl,S.la1 rfl ?_⟩⟩
   refine T.delM (k:=(c.s.b,c.s.p)) 0 rfl λw5 T f5=>⟨hkeep _ (f5.mono λk hk=>by subst hk;exact hGr),?_⟩
   have S:=back _ _ T
   dsimp only [List.set_cons_zero,List.cons_append,List.nil_append] at S
   refine S.la1 rfl (S.newB λb26 w6 S f6 _=>?_)
   refine AppS.of (news:=plV (c.s.b,c.s.p)) rfl (.inr ⟨_,rfl,S.cells 0 rfl⟩) ?_
   refine S.ap5 rfl (plV_one _) (by omega) (by omega) λa' c' w7 S f7=>?_
   refine ⟨a',n+1,c',updM (updM m (c.s.b,c.s.p) (m (c.s.b,c.s.p)-1)) (c.s.b,c.s.p) 0,rfl,Nat.le_refl _,λk=>?_,?_⟩
   rotate_left
   ·have e:losL m c L=L++[(c.s.b,c.s.p)]:=by unfold losL;rw [if_pos ⟨hh,hp⟩]
    rw [e]
    unfold outA
    rw [List.flatMap_append,List.flatMap_singleton]
    exact S.sel [4,1,3] rfl
   ·unfold losM updM
    rw [if_pos hh]
    by_cases hkk:k=(c.s.b,c.s.p)
    ·rw [if_pos hkk,if_pos hkk];omega
    ·rw [if_neg hkk,if_neg hkk]
 ·refine T.incB (k:=(c.s.b,c.s.p)) (λx=>x-1) 0 rfl hk2 rv λw4 T f4=>?_
  have S:=back _ _ T
  dsimp only [List.set_cons_zero,List.cons_append,List.nil_append] at S
  have hu:updM m (c.s.b,c.s.p) (m (c.s.b,c.s.p)-1) (c.s.b,c.s.p)=m (c.s.b,c.s.p)-1:=if_pos rfl
  refine S.reg λD hD hkeep S T=>?_
  refine ⟨by rw [add_block];exact hD _ (S.lt 3 rfl),ld4 3 S rfl ⟨hD _ S.bl1,S.la1 rfl ?_⟩⟩
  refine S.lookM (k:=(c.s.b,c.s.p)) 0 rfl ⟨hkeep _ (Fr.refl _ _),?_⟩
  dsimp only
  rw [hu]
  refine cond_d (λhp=>?_) (λhp=>?_)
  ·refine ⟨a,n,cp,updM m (c.s.b,c.s.p) (m (c.s.b,c.s.p)-1),rfl,by omega,λk=>by unfold losM;rw [if_pos hh],?_⟩
   have:losL m c L=L:=by unfold losL;rw [if_neg (λk=>k.2 hp)]
   rw [this]
   exact S.sel [3,0,2] rfl
  ·have S:=S.sel [0,0,0,0,0] rfl
   refine Sep.regC [_] S λG D hG T S hDt hDo hkeep back=>?_
   have hGr:G r:=by
    obtain ⟨F,⟨h1,l,cc,h2,-⟩,h3⟩:=T.get (i:=0) rfl
    exact (h3 r h1).1.resolve_right (λh=>by have:=(Array.getElem?_eq_some_iff.1 h2).1;omega)
   refine ⟨by rw [add_block];exact hDt 2 _ _ _ rfl,ld4 3 S rfl ⟨hDt 0 _ _ _ rfl,S.la1 rfl ?_⟩⟩
   refine T.delM (k:=(c.s.b,c.s.p)) 0 rfl λw5 T f5=>⟨hkeep _ (f5.mono λk hk=>by subst hk;exact hGr),?_⟩
   have S:=back _ _ T
   dsimp only [List.set_cons_zero,List.cons_append,List.nil_append] at S
   refine S.la1 rfl (S.newB λb26 w6 S f6 _=>?_)
   refine AppS.of (news:=plV (c.s.b,c.s.p)) rfl (.inr ⟨_,rfl,S.cells 0 rfl⟩) ?_
   refine S.ap5 rfl (plV_one _) (by omega) (by omega) λa' c' w7 S f7=>?_
   refine ⟨a',n+1,c',updM (updM m (c.s.b,c.s.p) (m (c.s.b,c.s.p)-1)) (c.s.b,c.s.p) 0,rfl,Nat.le_refl _,λk=>?_,?_⟩
   rotate_left
   ·have e:losL m c L=L++[(c.s.b,c.s.p)]:=by unfold losL;rw [if_pos ⟨hh,hp⟩]
    rw [e]
    unfold outA
    rw [List.flatMap_append,List.flatMap_singleton]
    exact S.sel [4,1,3] rfl
   ·unfold losM updM
    rw [if_pos hh]
    by_cases hkk:k=(c.s.b,c.s.p)
    ·rw [if_pos hkk,if_pos hkk];omega
    ·rw [if_neg hkk,if_neg hkk]
end
end Go.Proofs.YtcekmdehjnlkpaaGreat.Vc
namespace Go.Proofs.YtcekmdehjnlkpaaGreat
open Go.Shelf Go.Proofs
def Tryz.srtP_ren:Go.Shelf.Ren:=⟨λ| 6=>129 | 15=>111 | 14=>143 | 28=>138 | 29=>139 | 20=>149 | 21=>150 | 22=>151 | 23=>152 | 24=>153 | 25=>154 | 26=>155 | 27=>156 | 46=>158 | 47=>145 | 48=>146 | 49=>159 | 50=>160 | 57=>161 | n=>n,λ| 22=>123 | 24=>57 | 25=>171 | 3=>3 | 39=>220 | 0=>0 | 53=>33 | 55=>25 | 4=>4 | 46=>232 | 45=>231 | 50=>236 | 5=>5 | 9=>9 | 66=>241 | 70=>245 | 76=>252 | 77=>253 | n=>n,λ| n=>n⟩
theorem Tryz.srtP:Go.Proofs.SlLaysF0.n6 Tryz.prog Tryz.srtP_ren:={
 mixed:=by kernel_rfl,
 f6:=⟨Tryz.f129.name,by decide,Tryz.func129.trans (congrArg some (by kernel_rfl))⟩,
 f14:=⟨Tryz.f143.name,by decide,Tryz.func143.trans (congrArg some (by kernel_rfl))⟩,
 f15:=Tryz.func111.trans (congrArg some (by kernel_rfl)),
 f20:=⟨Tryz.f149.name,by decide,Tryz.func149.trans (congrArg some (by kernel_rfl))⟩,
 f21:=⟨Tryz.f150.name,by decide,Tryz.func150.trans (congrArg some (by kernel_rfl))⟩,
 f22:=⟨Tryz.f151.name,by decide,Tryz.func151.trans (congrArg some (by kernel_rfl))⟩,
 f23:=⟨Tryz.f152.name,by decide,Tryz.func152.trans (congrArg some (by kernel_rfl))⟩,
 f24:=⟨Tryz.f153.name,by decide,Tryz.func153.trans (congrArg some (by kernel_rfl))⟩,
 f25:=⟨Tryz.f154.name,by decide,Tryz.func154.trans (congrArg some (by kernel_rfl))⟩,
 f26:=⟨Tryz.f155.name,by decide,Tryz.func155.trans (congrArg some (by kernel_rfl))⟩,
 f27:=⟨Tryz.f156.name,by decide,Tryz.func156.trans (congrArg some (by kernel_rfl))⟩,
 f28:=Tryz.func138.trans (congrArg some (by kernel_rfl)),
 f29:=Tryz.func139.trans (congrArg some (by kernel_rfl)),
 f46:=⟨Tryz.f158.name,by decide,Tryz.func158.trans (congrArg some (by kernel_rfl))⟩,
 f47:=Tryz.func145.trans (congrArg some (by kernel_rfl)),
 f48:=Tryz.func146.trans (congrArg some (by kernel_rfl)),
 f49:=⟨Tryz.f159.name,by decide,Tryz.func159.trans (congrArg some (by kernel_rfl))⟩,
 f50:=⟨Tryz.f160.name,by decide,Tryz.func160.trans (congrArg some (by kernel_rfl))⟩,
 f57:=⟨Tryz.f161.name,by decide,Tryz.func161.trans (congrArg some (by kernel_rfl))⟩,
 t0:=Tryz.underlying0,
 a0:=Tryz.isAgg0,
 z0:=Tryz.sizeOf0,
 v0:=Tryz.zeroValue0,
 t3:=Tryz.underlying3,
 a3:=Tryz.isAgg3,
 z3:=Tryz.sizeOf3,
 v3:=Tryz.zeroValue3,
 t4:=Tryz.underlying4,
 a4:=Tryz.isAgg4,
 z4:=Tryz.sizeOf4,
 v4:=Tryz.zeroValue4,
 t5:=Tryz.underlying5,
 a5:=Tryz.isAgg5,
 z5:=Tryz.sizeOf5,
 v5:=Tryz.zeroValue5,
 t9:=Tryz.underlying9,
 a9:=Tryz.isAgg9,
 z9:=Tryz.sizeOf9,
 v9:=Tryz.zeroValue9,
 t22:=Tryz.underlying123,
 a22:=Tryz.isAgg123,
 z22:=Tryz.sizeOf123,
 v22:=Tryz.zeroValue123,
 t25:=Tryz.underlying171,
 a25:=Tryz.isAgg171,
 z25:=Tryz.sizeOf171,
 v25:=Tryz.zeroValue171,
 t39:=Tryz.underlying220,
 a39:=Tryz.isAgg220,
 z39:=Tryz.sizeOf220,
 v39:=Tryz.zeroValue220,
 t45:=Tryz.underlying231,
 a45:=Tryz.isAgg231,
 z45:=Tryz.sizeOf231,
 v45:=Tryz.zeroValue231,
 t46:=Tryz.underlying232,
 a46:=Tryz.isAgg232,
 z46:=Tryz.sizeOf232,
 v46:=Tryz.zeroValue232,
 t50:=Tryz.underlying236,
 a50:=Tryz.isAgg236,
 z50:=Tryz.sizeOf236,
 v50:=Tryz.zeroValue236,
 t53:=Tryz.underlying33,
 a53:=Tryz.isAgg33,
 z53:=Tryz.sizeOf33,
 v53:=Tryz.zeroValue33,
 t55:=Tryz.underlying25,
 a55:=Tryz.isAgg25,
 z55:=Tryz.sizeOf25,
 v55:=Tryz.zeroValue25,
 t66:=Tryz.underlying241,
 a66:=Tryz.isAgg241,
 z66:=Tryz.sizeOf241,
 v66:=Tryz.zeroValue241,
 t70:=Tryz.underlying245,
 a70:=Tryz.isAgg245,
 z70:=Tryz.sizeOf245,
 v70:=Tryz.zeroValue245,
 t76:=Tryz.underlying252,
 a76:=Tryz.isAgg252,
 z76:=Tryz.sizeOf252,
 v76:=Tryz.zeroValue252,
 t77:=Tryz.underlying253,
 a77:=Tryz.isAgg253,
 z77:=Tryz.sizeOf253,
 v77:=Tryz.zeroValue253}
def Tryz.srtS_ren:Go.Shelf.Ren:=⟨λ| 6=>74 | 15=>111 | 14=>110 | 28=>138 | 29=>139 | 20=>130 | 21=>131 | 22=>132 | 23=>133 | 24=>134 | 25=>135 | 26=>136 | 27=>137 | 46=>144 | 47=>145 | 48=>146 | 49=>147 | 50=>148 | 57=>157 | n=>n,λ| 22=>36 | 24=>59 | 25=>172 | 3=>3 | 39=>220 | 0=>0 | 53=>33 | 55=>25 | 4=>4 | 46=>232 | 45=>231 | 50=>236 | 5=>5 | 9=>9 | 66=>241 | 70=>245 | 76=>252 | 77=>253 | n=>n,λ| n=>n⟩
theorem Tryz.srtS:Go.Proofs.SlLaysF0.n6 Tryz.prog Tryz.srtS_ren:={
 mixed:=by kernel_rfl,
 f6:=⟨Tryz.f74.name,by decide,Tryz.func74.trans (congrArg some (by kernel_rfl))⟩,
 f14:=⟨Tryz.f110.name,by decide,Tryz.func110.trans (congrArg some (by kernel_rfl))⟩,
 f15:=Tryz.func111.trans (congrArg some (by kernel_rfl)),
 f20:=⟨Tryz.f130.name,by decide,Tryz.func130.trans (congrArg some (by kernel_rfl))⟩,
 f21:=⟨Tryz.f131.name,by decide,Tryz.func131.trans (congrArg some (by kernel_rfl))⟩,
 f22:=⟨Tryz.f132.name,by decide,Tryz.func132.trans (congrArg some (by kernel_rfl))⟩,
 f23:=⟨Tryz.f133.name,by decide,Tryz.func133.trans (congrArg some (by kernel_rfl))⟩,
 f24:=⟨Tryz.f134.name,by decide,Tryz.func134.trans (congrArg some (by kernel_rfl))⟩,
 f25:=⟨Tryz.f135.name,by decide,Tryz.func135.trans (congrArg some (by kernel_rfl))⟩,
 f26:=⟨Tryz.f136.name,by decide,Tryz.func136.trans (congrArg some (by kernel_rfl))⟩,
 f27:=⟨Tryz.f137.name,by decide,Tryz.func137.trans (congrArg some (by kernel_rfl))⟩,
 f28:=Tryz.func138.trans (congrArg some (by kernel_rfl)),
 f29:=Tryz.func139.trans (congrArg some (by kernel_rfl)),
 f46:=⟨Tryz.f144.name,by decide,Tryz.func144.trans (congrArg some (by kernel_rfl))⟩,
 f47:=Tryz.func145.trans (congrArg some (by kernel_rfl)),
 f48:=Tryz.func146.trans (congrArg some (by kernel_rfl)),
 f49:=⟨Tryz.f147.name,by decide,Tryz.func147.trans (congrArg some (by kernel_rfl))⟩,
 f50:=⟨Tryz.f148.name,by decide,Tryz.func148.trans (congrArg some (by kernel_rfl))⟩,
 f57:=⟨Tryz.f157.name,by decide,Tryz.func157.trans (congrArg some (by kernel_rfl))⟩,
 t0:=Tryz.underlying0,
 a0:=Tryz.isAgg0,
 z0:=Tryz.sizeOf0,
 v0:=Tryz.zeroValue0,
 t3:=Tryz.underlying3,
 a3:=Tryz.isAgg3,
 z3:=Tryz.sizeOf3,
 v3:=Tryz.zeroValue3,
 t4:=Tryz.underlying4,
 a4:=Tryz.isAgg4,
 z4:=Tryz.sizeOf4,
 v4:=Tryz.zeroValue4,
 t5:=Tryz.underlying5,
 a5:=Tryz.isAgg5,
 z5:=Tryz.sizeOf5,
 v5:=Tryz.zeroValue5,
 t9:=Tryz.underlying9,
 a9:=Tryz.isAgg9,
 z9:=Tryz.sizeOf9,
 v9:=Tryz.zeroValue9,
 t22:=Tryz.underlying36,
 a22:=Tryz.isAgg36,
 z22:=Tryz.sizeOf36,
 v22:=Tryz.zeroValue36,
 t25:=Tryz.underlying172,
 a25:=Tryz.isAgg172,
 z25:=Tryz.sizeOf172,
 v25:=Tryz.zeroValue172,
 t39:=Tryz.underlying220,
 a39:=Tryz.isAgg220,
 z39:=Tryz.sizeOf220,
 v39:=Tryz.zeroValue220,
 t45:=Tryz.underlying231,
 a45:=Tryz.isAgg231,
 z45:=Tryz.sizeOf231,
 v45:=Tryz.zeroValue231,
 t46:=Tryz.underlying232,
 a46:=Tryz.isAgg232,
 z46:=Tryz.sizeOf232,
 v46:=Tryz.zeroValue232,
 t50:=Tryz.underlying236,
 a50:=Tryz.isAgg236,
 z50:=Tryz.sizeOf236,
 v50:=Tryz.zeroValue236,
 t53:=Tryz.underlying33,
 a53:=Tryz.isAgg33,
 z53:=Tryz.sizeOf33,
 v53:=Tryz.zeroValue33,
 t55:=Tryz.underlying25,
 a55:=Tryz.isAgg25,
 z55:=Tryz.sizeOf25,
 v55:=Tryz.zeroValue25,
 t66:=Tryz.underlying241,
 a66:=Tryz.isAgg241,
 z66:=Tryz.sizeOf241,
 v66:=Tryz.zeroValue241,
 t70:=Tryz.underlying245,
 a70:=Tryz.isAgg245,
 z70:=Tryz.sizeOf245,
 v70:=Tryz.zeroValue245,
 t76:=Tryz.underlying252,
 a76:=Tryz.isAgg252,
 z76:=Tryz.sizeOf252,
 v76:=Tryz.zeroValue252,
 t77:=Tryz.underlying253,
 a77:=Tryz.isAgg253,
 z77:=Tryz.sizeOf253,
 v77:=Tryz.zeroValue253}
end Go.Proofs.YtcekmdehjnlkpaaGreat
namespace Go.Proofs.YtcekmdehjnlkpaaGreat.Vc
open Go Go.Eng Go.RowKit
theorem sort0_c {w:World} {a:Option Addr} {c:Nat} {fv:Value}:CallV Tryz.prog 129 #[.slice a 0 c,fv] w [] λ_ w'=>w'=w:=
 Calls.mono (Go.Proofs.AnyF.slices_SortFunc_none Tryz.srtP a c fv w) λe w' ⟨h1,h2⟩=>⟨(),h1,h2⟩
theorem told0_c {w:World} {a:Option Addr} {c:Nat}:CallV Tryz.prog 109 #[.slice a 0 c] w [.one .sl] λr w'=>r.1=(⟨a,0,c⟩:SlV)/\w'=w:=by
 apply pagemap_told.vc
 unfold pagemap_told.P
 refine sort0_c.mono ?_
 rintro ⟨⟩ w1 rfl
 exact ⟨rfl,rfl⟩
abbrev Ce.pl (c:Ce):Int×Int:=(c.s.b,c.s.p)
def isP (k:Int×Int) (c:Ce):Bool:=c.has && decide (c.pl=k)
def cntC (l:List Ce) (k:Int×Int):Nat:=l.countP (isP k)
def flatX (X:List (SlP Ce)):List Ce:=X.flatMap (·.l)
def cntX (X:List (SlP Ce)):Int×Int->Int:=λk=>(cntC (flatX X) k:Int)
def setX (X:List (SlP Ce)) (ns:Int) (j:Nat) (c:Ce):List (SlP Ce):=X.set ns.toNat ⟨(getX X ns).a,(getX X ns).n,(getX X ns).c,(getX X ns).l.set j c⟩
structure XOk (X:List (SlP Ce)):Prop where
 four:X.length=4
 len:∀ x∈X,x.l.length=x.n/\x.n<=65535
theorem getX_at {X:List (SlP Ce)} (hX:X.length=4) {ns:Int} (hn:0<=ns/\ns<4):X[ns.toNat]? = some (getX X ns):=by
 have hl:ns.toNat<X.length:=by omega
 unfold getX
 rw [if_pos hn,List.getD_eq_getElem?_getD,List.getElem?_eq_getElem hl]
 rfl
theorem XOk.get {X:List (SlP Ce)} (h:XOk X) (ns:Int):(getX X ns).l.length=(getX X ns).n/\(getX X ns).n<=65535:=by
 by_cases hn:0<=ns/\ns<4
 ·exact h.len _ (List.mem_of_getElem? (getX_at h.four hn))
 ·unfold getX;rw [if_neg hn];exact ⟨rfl,Nat.zero_le _⟩
theorem setX_get {X:List (SlP Ce)} (hX:X.length=4) {ns:Int} (hn:0<=ns/\ns<4) {j:Nat} {c:Ce} (ns':Int):getX (setX X ns j c) ns'=if ns'=ns then ⟨(getX X ns).a,(getX X ns).n,(getX X ns).c,(getX X ns).l.set j c⟩ else getX X ns':=by
 by_cases hn':0<=ns'/\ns'<4
 ·have h1:=getX_at (X:=setX X ns j c) (by unfold setX;rw [List.length_set];exact hX) hn'
  unfold setX at h1
  rw [List.getElem?_set] at h1
  by_cases h:ns'=ns
  ·subst h
   rw [if_pos rfl,if_pos (by omega)] at h1
   rw [if_pos rfl]
   exact (Option.some.inj h1).symm
  ·rw [if_neg (by omega),getX_at hX hn'] at h1
   rw [if_neg h]
   exact (Option.some.inj h1).symm
 ·have h:ns'≠ns:=λe=>hn' (e ▸ hn)
  rw [if_neg h]
  unfold getX
  rw [if_neg hn',if_neg hn']
theorem XOk.set {X:List (SlP Ce)} (h:XOk X) {ns:Int} {j:Nat} {c:Ce}:XOk (setX X ns j c):=by
 refine ⟨by unfold setX;rw [List.length_set];exact h.four,λx hx=>?_⟩
 unfold setX at hx
 rcases List.mem_or_eq_of_mem_set hx with hx | hx
 ·exact h.len x hx
 ·rw [hx]
  have:=h.get ns
  exact ⟨by show ((getX X ns).l.set j c).length=_;rw [List.length_set];exact this.1,this.2⟩
theorem setX_sl {X:List (SlP Ce)} (hX:X.length=4) {ns:Int} (hn:0<=ns/\ns<4) {j:Nat} {c:Ce}:(setX X ns j c).map slM=X.map slM:=by
 unfold setX
 rw [List.map_set]
 exact List.set_getElem?_self' (by rw [List.getElem?_map,getX_at hX hn];rfl)
theorem cntC_set {l:List Ce} {j:Nat} {c d:Ce} (hj:l[j]? = some c) (k:Int×Int):(cntC (l.set j d) k:Int)=cntC l k-(if isP k c=true then 1 else 0)+(if isP k d=true then 1 else 0):=by
 have hl:j<l.length:=(List.getElem?_eq_some_iff.1 hj).1
 unfold cntC
 have h1:l=l.take j++c::l.drop (j+1):=by
  conv=>lhs;rw [<-List.take_append_drop j l,List.drop_eq_getElem_cons hl,(List.getElem?_eq_some_iff.1 hj).2]
 have h2:l.set j d=l.take j++d::l.drop (j+1):=by rw [List.set_eq_take_append_cons_drop,if_pos hl]
 rw [h2]
 conv=>rhs;rw [h1]
 rw [List.countP_append,List.countP_append,List.countP_cons,List.countP_cons]
 have e:List.take j (l.take j++c::l.drop (j+1))=l.take j:=by rw [<-h1]
 have e':List.drop (j+1) (l.take j++c::l.drop (j+1))=l.drop (j+1):=by rw [<-h1]
 split <;> split <;> omega
theorem cntX_set {X:List (SlP Ce)} (hX:X.length=4) {ns:Int} (hn:0<=ns/\ns<4) {j:Nat} {c d:Ce} (hj:(getX X ns).l[j]? = some c) (k:Int×Int):cntX (setX X ns j d) k=cntX X k-(if isP k c=true then 1 else 0)+(if isP k d=true then 1 else 0):=by
 unfold cntX
 obtain ⟨m1,m2⟩:=flat_mid (f:=λx:SlP Ce=>x.l) (z:=(⟨(getX X ns).a,(getX X ns).n,(getX X ns).c,(getX X ns).l.set j d⟩:SlP Ce)) (getX_at hX hn)
 have h1:flatX X=_:=m1
 have h2:flatX (setX X ns j d)=_:=m2
 rw [h1,h2]
 have:=cntC_set (d:=d) hj k
 unfold cntC at this ⊢
 simp only [List.countP_append] at this ⊢
 push_cast
 omega
theorem cntX_pos {X:List (SlP Ce)} (hX:X.length=4) {ns:Int} (hn:0<=ns/\ns<4) {j:Nat} {c:Ce} (hj:(getX X ns).l[j]? = some c) (hh:c.has=true):1<=cntX X c.pl:=by
 unfold cntX cntC
 have:0<(flatX X).countP (isP c.pl):=by
  rw [List.countP_pos_iff]
  refine ⟨c,?_,by unfold isP;rw [hh];simp⟩
  unfold flatX
  exact List.mem_flatMap.2 ⟨_,List.mem_of_getElem? (getX_at hX hn),List.mem_of_getElem? hj⟩
 omega
theorem cntX_le {X:List (SlP Ce)} (h:XOk X) (k:Int×Int):0<=cntX X k/\cntX X k<=262140:=by
 unfold cntX cntC
 refine ⟨Int.natCast_nonneg _,?_⟩
 have h1:=List.countP_le_length (p:=isP k) (l:=flatX X)
 have h2:(flatX X).length<=X.length*65535:=by
  unfold flatX
  have:∀ (Y:List (SlP Ce)),(∀ x∈Y,x.l.length<=65535)->(Y.flatMap (·.l)).length<=Y.length*65535:=by
   intro Y
   induction Y with
   | nil=>intro _;simp
   | cons x Y ih=>
    intro hY
    rw [List.flatMap_cons,List.length_append,List.length_cons]
    have:=ih λy hy=>hY y (List.mem_cons_of_mem _ hy)
    have:=hY x List.mem_cons_self
    omega
  exact this X λx hx=>by have:=h.len x hx;omega
 rw [h.four] at h2
 omega
theorem put_m {Y:List (SlP Ce)} (hY:XOk Y) {ns:Int} (hns:0<=ns/\ns<4) {j:Nat} {x:Ce} (hx:(getX Y ns).l[j]? = some x) (s:Sp) (L:List (Int×Int)) :
  (x.has=true->1<=updM (cntX Y) (s.b,s.p) (cntX Y (s.b,s.p)+1) (x.s.b,x.s.p)/\updM (cntX Y) (s.b,s.p) (cntX Y (s.b,s.p)+1) (x.s.b,x.s.p)<=1000000) /\
  (∀ k,losM (updM (cntX Y) (s.b,s.p) (cntX Y (s.b,s.p)+1)) x k=cntX (setX Y ns j ⟨true,s⟩) k) /\
  losL (updM (cntX Y) (s.b,s.p) (cntX Y (s.b,s.p)+1)) x L=if x.has=true/\cntX (setX Y ns j ⟨true,s⟩) x.pl=0 then L++[x.pl] else L:=by
 have hm:∀ k,updM (cntX Y) (s.b,s.p) (cntX Y (s.b,s.p)+1) k=cntX Y k+(if isP k ⟨true,s⟩=true then 1 else 0):=λk=>by
  unfold updM
  by_cases h:k=(s.b,s.p)
  ·rw [if_pos h,h,if_pos (by simp [isP])]
  ·rw [if_neg h,if_neg (by simpa [isP] using λe=>h e.symm)];omega
 generalize updM (cntX Y) (s.b,s.p) (cntX Y (s.b,s.p)+1)=m1 at hm
 have hl:∀ k,losM m1 x k=m1 k-(if isP k x=true then 1 else 0):=λk=>by
  unfold losM
  by_cases hh:x.has=true
  ·rw [if_pos hh]
   unfold updM
   by_cases h:k=x.pl
   ·rw [if_pos h,h,if_pos (by simp [isP,hh])]
   ·rw [if_neg h,if_neg (by simpa [isP,hh] using λe=>h e.symm)];omega
  ·rw [if_neg hh,if_neg (by simp [isP,hh])];omega
 have hc:=cntX_set (d:=⟨true,s⟩) hY.four hns hx
 have hmm:∀ k,losM m1 x k=cntX (setX Y ns j ⟨true,s⟩) k:=λk=>by rw [hl,hm,hc];omega
 have h1:x.has=true->1<=m1 x.pl/\m1 x.pl<=1000000:=λh=>by
  have h1:=cntX_pos hY.four hns hx h
  have h2:=(cntX_le hY x.pl).2
  rw [hm]
  split <;> omega
 refine ⟨h1,hmm,?_⟩
 unfold losL
 by_cases hh:x.has=true
 ·have h2:=hmm x.pl
  rw [hl,if_pos (by simp [isP,hh])] at h2
  have h3:=(h1 hh).1
  by_cases h4:0<m1 x.pl-1
  ·rw [if_neg (λk=>k.2 h4),if_neg (λk=>by omega)]
  ·rw [if_pos ⟨hh,h4⟩,if_pos ⟨hh,by omega⟩]
 ·rw [if_neg (λk=>hh k.1),if_neg (λk=>hh k.1)]
def stepP (s:Sp) (j:Nat) (st:List (SlP Ce)×List (Int×Int)):List (SlP Ce)×List (Int×Int):=
 let c:=(getX st.1 s.h.n).l.getD j Ce0
 if c.has=true/\¬ nwrH s c.s then st else (setX st.1 s.h.n j ⟨true,s⟩,if c.has=true/\cntX (setX st.1 s.h.n j ⟨true,s⟩) c.pl=0 then st.2++[c.pl] else st.2)
def putP (s:Sp) (X:List (SlP Ce)):Nat->List (SlP Ce)×List (Int×Int)
 | 0=>(X,[])
 | i+1=>stepP s (s.h.l.toNat+i) (putP s X i)
theorem stepP_ok {s:Sp} {j:Nat} {st:List (SlP Ce)×List (Int×Int)} (h:XOk st.1):XOk (stepP s j st).1:=by
 unfold stepP
 dsimp only
 split
 ·exact h
 ·exact h.set
theorem stepP_sl {s:Sp} {j:Nat} {st:List (SlP Ce)×List (Int×Int)} (h:XOk st.1) (hn:0<=s.h.n/\s.h.n<4):(stepP s j st).1.map slM=st.1.map slM:=by
 unfold stepP
 dsimp only
 split
 ·rfl
 ·exact setX_sl h.four hn
theorem nodup_sub {α:Type} [DecidableEq α]:∀ (L M:List α),L.Nodup->(∀ k∈L,k∈M)->L.length<=M.length
 | [],M,_,_=>Nat.zero_le _
 | k::L,M,hn,hs=>by
  rw [List.nodup_cons] at hn
  have h1:k∈M:=hs k List.mem_cons_self
  have h2:=nodup_sub L (M.erase k) hn.2 λx hx=>by
   have:x≠k:=λe=>hn.1 (e ▸ hx)
   exact (List.mem_erase_of_ne this).2 (hs x (List.mem_cons_of_mem _ hx))
  rw [List.length_erase_of_mem h1] at h2
  have:=List.length_pos_of_mem h1
  rw [List.length_cons]
  omega
abbrev Sp.pl (s:Sp):Int×Int:=(s.b,s.p)
def putC (s:Sp) (c:Ce):Ce:=if c.has=true/\¬ nwrH s c.s then c else ⟨true,s⟩
theorem getX_l_set {X:List (SlP Ce)} (hX:X.length=4) {ns:Int} (hn:0<=ns/\ns<4) {j:Nat} {c:Ce} (ns':Int):(getX (setX X ns j c) ns').l=if ns'=ns then (getX X ns).l.set j c else (getX X ns').l:=by
 rw [setX_get hX hn];split <;> rfl
structure PutI (s:Sp) (X:List (SlP Ce)) (i:Nat) (Y:List (SlP Ce)) (L:List (Int×Int)):Prop where
 ok:XOk Y
 nd:L.Nodup
 mem:∀ k,k∈L↔1<=cntX X k/\cntX Y k=0
 up:cntX X s.pl<=cntX Y s.pl
 cell:∀ (ns:Int) (j:Nat),(getX Y ns).l[j]? = if ns=s.h.n/\s.h.l.toNat<=j/\j<s.h.l.toNat+i then ((getX X ns).l[j]?).map (putC s) else (getX X ns).l[j]?
 sl:Y.map slM=X.map slM
theorem putP_inv {s:Sp} {X:List (SlP Ce)} (hX:XOk X) (hn:0<=s.h.n/\s.h.n<4):∀ (i:Nat),s.h.l.toNat+i<=(getX X s.h.n).n->PutI s X i (putP s X i).1 (putP s X i).2
 | 0,_=>⟨hX,.nil,λk=>⟨λh=>(List.not_mem_nil h).elim,λh=>by have h1:=h.1;have h2:cntX X k=0:=h.2;omega⟩,Int.le_refl _,λns j=>by rw [if_neg (by omega)];rfl,rfl⟩
 | i+1,hi=>by
  have ih:=putP_inv hX hn i (by omega)
  show PutI s X (i+1) (stepP s (s.h.l.toNat+i) (putP s X i)).1 (stepP s (s.h.l.toNat+i) (putP s X i)).2
  generalize putP s X i=st at ih ⊢
  obtain ⟨Y,L⟩:=st
  dsimp only at ih
  obtain ⟨c,hc⟩:∃ c,(getX X s.h.n).l[s.h.l.toNat+i]? = some c:=⟨_,List.getElem?_eq_getElem (by rw [(hX.get _).1];omega)⟩
  have hy:(getX Y s.h.n).l[s.h.l.toNat+i]? = some c:=by rw [ih.cell,if_neg (by omega),hc]
  have hd:(getX Y s.h.n).l.getD (s.h.l.toNat+i) Ce0=c:=by rw [List.getD_eq_getElem?_getD,hy];rfl
  unfold stepP
  dsimp only
  rw [hd]
  by_cases h:c.has=true/\¬ nwrH s c.s
  ·rw [if_pos h]
   refine ⟨ih.ok,ih.nd,ih.mem,ih.up,λns j=>?_,ih.sl⟩
   rw [ih.cell]
   by_cases h1:ns=s.h.n/\j=s.h.l.toNat+i
   ·rw [if_neg (by omega),if_pos (by omega),h1.1,h1.2,hc]
    show some c=some (putC s c)
    unfold putC;rw [if_pos h]
   ·by_cases h2:ns=s.h.n/\s.h.l.toNat<=j/\j<s.h.l.toNat+i
    ·rw [if_pos h2,if_pos (by omega)]
    ·rw [if_neg h2,if_neg (by omega)]
  ·rw [if_neg h]
   dsimp only
   have hcnt:=cntX_set (d:=⟨true,s⟩) ih.ok.four hn hy
   have hpos:=λhh=>cntX_pos ih.ok.four hn hy hh
   have hle:=cntX_le ih.ok
   have isC:∀ k,isP k c=true↔c.has=true/\c.pl=k:=λk=>by unfold isP;simp
   have isS:∀ k,isP k ⟨true,s⟩=true↔s.pl=k:=λk=>by unfold isP;simp [Sp.pl]
   have hup:cntX X s.pl<=cntX (setX Y s.h.n (s.h.l.toNat+i) ⟨true,s⟩) s.pl:=by
    have:=ih.up
    rw [hcnt,if_pos ((isS _).2 rfl)]
    split <;> omega
   refine ⟨ih.ok.set,?_,λk=>?_,hup,λns j=>?_,(setX_sl ih.ok.four hn).trans ih.sl⟩
   ·split
    ·rename_i h1
     rw [List.nodup_append]
     refine ⟨ih.nd,by simp,λa ha b hb e=>?_⟩
     have hb:=List.mem_singleton.1 hb
     have:=((ih.mem a).1 ha).2
     have:=hpos h1.1
     rw [e,hb] at *
     omega
    ·exact ih.nd
   ·have hck:=hcnt k
    have hk0:=(hle k).1
    have hup2:=ih.up
    by_cases hs:s.pl=k
    ·subst hs
     have hcs:=hcnt s.pl
     rw [if_pos ((isS _).2 rfl)] at hcs
     have hpl:cntX (setX Y s.h.n (s.h.l.toNat+i) ⟨true,s⟩) s.pl≥1:=by
      by_cases hh:isP s.pl c=true
      ·have:=hpos ((isC _).1 hh).1
       rw [((isC _).1 hh).2] at this
       rw [if_pos hh] at hcs
       omega
      ·rw [if_neg hh] at hcs;omega
     refine ⟨λhm=>?_,λhm=>by omega⟩
     exfalso
     split at hm
     ·rename_i h1
      rw [List.mem_append] at hm
      rcases hm with hm | hm
      ·have:=(ih.mem _).1 hm;omega
      ·have hm:=List.mem_singleton.1 hm
       rw [<-hm] at h1
       omega
     ·have:=(ih.mem _).1 hm;omega
    ·rw [if_neg (λe=>hs ((isS _).1 e)),Int.add_zero] at hck
     by_cases hh:isP k c=true
     ·rw [if_pos hh] at hck
      obtain ⟨h1,h2⟩:=(isC _).1 hh
      have hp:=hpos h1
      rw [h2] at hp ⊢
      have hX1:1<=cntX X k:=by
       rw [<-h2];exact cntX_pos hX.four hn hc h1
      by_cases h0:cntX (setX Y s.h.n (s.h.l.toNat+i) ⟨true,s⟩) k=0
      ·rw [if_pos ⟨h1,h0⟩]
       exact ⟨λ_=>⟨hX1,h0⟩,λ_=>by simp⟩
      ·rw [if_neg (λe=>h0 e.2)]
       exact ⟨λhm=>by have:=(ih.mem _).1 hm;omega,λhm=>absurd hm.2 h0⟩
     ·rw [if_neg hh,Int.sub_zero] at hck
      rw [hck]
      split
      ·rename_i h1
       rw [List.mem_append]
       refine ⟨λhm=>hm.elim (λx=>(ih.mem k).1 x) λx=>?_,λhm=>.inl ((ih.mem k).2 hm)⟩
       exact absurd ((isC k).2 ⟨h1.1,(List.mem_singleton.1 x).symm⟩) hh
      ·exact ih.mem k
   ·rw [getX_l_set ih.ok.four hn]
    by_cases h1:ns=s.h.n
    ·rw [if_pos h1,List.getElem?_set,<- h1,ih.cell,h1]
     by_cases h2:s.h.l.toNat+i=j
     ·rw [if_pos h2,if_pos (List.getElem?_eq_some_iff.1 hy).1,if_pos (by omega),<- h2,hc]
      show some _=some (putC s c)
      unfold putC;rw [if_neg h]
     ·rw [if_neg h2]
      by_cases h3:s.h.l.toNat<=j/\j<s.h.l.toNat+i
      ·rw [if_pos ⟨rfl,h3⟩,if_pos (by omega)]
      ·rw [if_neg (λe=>h3 e.2),if_neg (by omega)]
    ·rw [if_neg h1,ih.cell,if_neg (λe=>h1 e.1),if_neg (λe=>h1 e.1)]
end Go.Proofs.YtcekmdehjnlkpaaGreat.Vc
namespace Go.Eng
open Go Go.RowKit
theorem Own.nthF {w:World} {B m:Nat} {e:TypeId} {α:Type} {f:α->List Value} {a:Option Addr} {n c:Nat} {L:List α} (h:Own w B e m a n c (L.flatMap f)) (hm:∀ x,(f x).length=m) (hp:0<m) {j:Int} (h0:0<=j) (h1:j<(n:Int)) :
  ∃ q x,a=some q/\L[j.toNat]? = some x/\CellsAt w (q.add (j.toNat*m)) (f x)/\q.block<w.heap.size:=by
 have S:Sep (λk=>k<w.heap.size) w w [OwnA e m a n c (L.flatMap f)]:=Sep.begin1 ⟨h.mono (Nat.zero_le _),λq hq=>h.lt q hq⟩ λk hk=>hk
 obtain ⟨q,x,h2,h3,h4⟩:=S.nthF 0 rfl hm hp h0 h1
 exact ⟨q,x,h2,h3,h4,h.lt q h2⟩
theorem Own.lenF {w:World} {B m:Nat} {e:TypeId} {α:Type} {f:α->List Value} {a:Option Addr} {n c:Nat} {L:List α} (h:Own w B e m a n c (L.flatMap f)) (hm:∀ x,(f x).length=m) (hp:0<m):L.length=n:=by
 have:=h.len
 rw [flatF_len hm] at this
 exact Nat.eq_of_mul_eq_mul_right hp this
end Go.Eng
namespace Go.Proofs.YtcekmdehjnlkpaaGreat.Vc
open Go Go.Eng Go.RowKit
structure Rc where
 ns:Int
 lba:Int
 s:Sp
abbrev Rc.vs (c:Rc):List Value:=[.int .i64 c.ns,.int .i64 c.lba,.int .i64 c.s.b,.int .i64 c.s.p,.int .i64 c.s.h.k,.int .i64 c.s.h.n,.int .i64 c.s.h.c,.int .u32 c.s.h.l,.int .u64 c.s.h.e,.int .u64 c.s.h.t,.int .i64 c.s.o.k,.int .i64 c.s.o.n,.int .i64 c.s.o.c,.int .u32 c.s.o.l,.int .u64 c.s.o.e,.int .u64 c.s.o.t]
abbrev Rc.pl (c:Rc):Int×Int:=(c.s.b,c.s.p)
def hh23 (h:Hd):Hh:=⟨h.k,h.n,h.c,h.l,h.e,h.t⟩
def dnP (g:Geo) (xs:List Int) (k:Int):Prop:=lenP g xs/\okR (endP g xs)/\comm (endP g xs)=true/\(hdOf (endP g xs)).k=k
instance (g:Geo) (xs:List Int) (k:Int):Decidable (dnP g xs k):=by unfold dnP lenP okR;infer_instance
structure Tb where
 kn:Bool
 ns:Int
 er:Int
 od:Hh
 sp:List Sp
def Tb0:Tb:=⟨false,0,0,Hh0,[]⟩
abbrev hd23 (g:Geo) (L:List (List Int)) (i:Nat):Hd:=hdOf (endP g (L.getD i []))
def tel (g:Geo) (ns:Int) (L:List (List Int)) (i:Nat):Prop:=(dnP g (L.getD i []) 1\/dnP g (L.getD i []) 2)/\(hd23 g L i).n=ns
instance (g:Geo) (ns:Int) (L:List (List Int)) (i:Nat):Decidable (tel g ns L i):=by unfold tel;infer_instance
def spB (g:Geo) (bl ns:Int) (od:Hh) (L:List (List Int)):Nat->List Sp
 | 0=>[]
 | n+1=>spB g bl ns od L n++(if tel g ns L (n+1) then [⟨bl,((n+1:Nat):Int),hh23 (hd23 g L (n+1)),od⟩] else [])
def knB (g:Geo) (L:List (List Int)):Prop:=dnP g (L.getD 0 []) 3/\(hd23 g L 0).n<4
instance (g:Geo) (L:List (List Int)):Decidable (knB g L):=by unfold knB;infer_instance
def tdB (g:Geo) (bl:Int) (L:List (List Int)):Tb:=
 if knB g L then ⟨true,(hd23 g L 0).n,(hd23 g L 0).l,hh23 (hd23 g L 0),spB g bl (hd23 g L 0).n (hh23 (hd23 g L 0)) L (g.p.toNat-1)⟩ else Tb0
theorem spB_mem {g:Geo} {bl ns:Int} {od:Hh} {L:List (List Int)}:∀ {n:Nat} {s:Sp},s∈spB g bl ns od L n->s.b=bl/\s.o=od/\s.h.n=ns/\(s.h.k=1\/s.h.k=2)/\∃ i:Nat,s.p=(i:Int)/\1<=i/\i<=n/\s.h=hh23 (hd23 g L i)
 | 0,s,h=>(List.not_mem_nil h).elim
 | n+1,s,h=>by
  unfold spB at h
  rcases List.mem_append.1 h with h | h
  ·obtain ⟨h1,h2,h3,h4,i,h5,h6,h7,h8⟩:=spB_mem h
   exact ⟨h1,h2,h3,h4,i,h5,h6,by omega,h8⟩
  ·split at h
   ·rename_i ht
    have h:=List.mem_singleton.1 h
    subst h
    exact ⟨rfl,rfl,ht.2,ht.1.elim (λk=>.inl k.2.2.2) (λk=>.inr k.2.2.2),n+1,rfl,by omega,by omega,rfl⟩
   ·cases h
theorem spB_len {g:Geo} {bl ns:Int} {od:Hh} {L:List (List Int)}:∀ (n:Nat),(spB g bl ns od L n).length<=n
 | 0=>Nat.le_refl _
 | n+1=>by
  unfold spB
  rw [List.length_append]
  have:=spB_len (g:=g) (bl:=bl) (ns:=ns) (od:=od) (L:=L) n
  split
  ·rw [List.length_singleton];omega
  ·rw [List.length_nil];omega
structure Slt where
 us:Bool
 sz:Int
 ep:Int
 ct:Int
 y:SlV
abbrev Slt.vs (s:Slt):List Value:=[.bool s.us,.int .i64 s.sz,.int .u64 s.ep,.int .u64 s.ct,.slice s.y.a s.y.n s.y.c]
abbrev Slt.val (s:Slt):Value:=.agg #[.bool s.us,.int .i64 s.sz,.int .u64 s.ep,.int .u64 s.ct,.slice s.y.a s.y.n s.y.c]
abbrev Slt.tup (s:Slt):Bool×Int×Int×Int×SlV×Unit:=(s.us,s.sz,s.ep,s.ct,s.y,())
structure Sl4 where
 a:Slt
 b:Slt
 c:Slt
 d:Slt
abbrev Sl4.vs (x:Sl4):List Value:=[.bool x.a.us,.int .i64 x.a.sz,.int .u64 x.a.ep,.int .u64 x.a.ct,.slice x.a.y.a x.a.y.n x.a.y.c,.bool x.b.us,.int .i64 x.b.sz,.int .u64 x.b.ep,.int .u64 x.b.ct,.slice x.b.y.a x.b.y.n x.b.y.c,
 .bool x.c.us,.int .i64 x.c.sz,.int .u64 x.c.ep,.int .u64 x.c.ct,.slice x.c.y.a x.c.y.n x.c.y.c,.bool x.d.us,.int .i64 x.d.sz,.int .u64 x.d.ep,.int .u64 x.d.ct,.slice x.d.y.a x.d.y.n x.d.y.c]
abbrev Sl4.val (x:Sl4):Value:=.agg #[.bool x.a.us,.int .i64 x.a.sz,.int .u64 x.a.ep,.int .u64 x.a.ct,.slice x.a.y.a x.a.y.n x.a.y.c,.bool x.b.us,.int .i64 x.b.sz,.int .u64 x.b.ep,.int .u64 x.b.ct,.slice x.b.y.a x.b.y.n x.b.y.c,
 .bool x.c.us,.int .i64 x.c.sz,.int .u64 x.c.ep,.int .u64 x.c.ct,.slice x.c.y.a x.c.y.n x.c.y.c,.bool x.d.us,.int .i64 x.d.sz,.int .u64 x.d.ep,.int .u64 x.d.ct,.slice x.d.y.a x.d.y.n x.d.y.c]
def Sl4.get (x:Sl4) (i:Int):Slt:=if i=0 then x.a else if i=1 then x.b else if i=2 then x.c else x.d
def okSl (s:Slt):Prop:=if s.us=true then (1<=s.sz/\s.sz<=65535)/\(s.y.n:Int)=104 else s.sz=0/\s.ep=0/\s.ct=0/\(s.y.n:Int)=0
instance (s:Slt):Decidable (okSl s):=by unfold okSl;infer_instance
def ddS (s:Slt) (h:Hh):Prop:=s.us=false\/¬ lesH ⟨0,0,0,0,s.ep,s.ct⟩ h
instance (s:Slt) (h:Hh):Decidable (ddS s h):=by unfold ddS;infer_instance
structure BX (X:List (SlP Ce)):Prop where
 ok:XOk X
 bd:∀ k,1<=cntX X k->(0<=k.1/\k.1<64)/\(0<=k.2/\k.2<32)
instance (X:List (SlP Ce)) (s:Sp):Decidable (okT X s):=by unfold okT;infer_instance
def pt1 (X:List (SlP Ce)) (s:Sp):List (SlP Ce):=if okT X s then (putP s X s.h.c.toNat).1 else X
def pt2 (t:Slt) (ns:Int) (X:List (SlP Ce)) (s:Sp):List (SlP Ce):=if 0<(getX X ns).n/\¬ ddS t s.h then pt1 X s else X
def ptN (t:Slt) (ns:Int) (l:List Sp) (X:List (SlP Ce)):Nat->List (SlP Ce)
 | 0=>X
 | i+1=>pt2 t ns (ptN t ns l X i) (l.getD i Sp0)
theorem okT_ns {X:List (SlP Ce)} {s:Sp} (h:okT X s):0<=s.h.n/\s.h.n<4:=by
 refine Classical.byContradiction λk=>?_
 have:(getX X s.h.n).n=0:=by unfold getX;rw [if_neg k];rfl
 have:=h.2
 omega
theorem cell_ex {X:List (SlP Ce)} (hX:X.length=4) {k:Int×Int} (h:1<=cntX X k):∃ (ns:Int) (j:Nat) (c:Ce),(0<=ns/\ns<4)/\(getX X ns).l[j]? = some c/\c.has=true/\c.pl=k:=by
 unfold cntX cntC at h
 have h:0<(flatX X).countP (isP k):=by omega
 obtain ⟨c,hc,hp⟩:=List.countP_pos_iff.1 h
 unfold isP at hp
 rw [Bool.and_eq_true,decide_eq_true_iff] at hp
 obtain ⟨x,hx,hc⟩:=List.mem_flatMap.1 hc
 obtain ⟨i,hi,rfl⟩:=List.getElem_of_mem hx
 obtain ⟨j,hj⟩:=List.getElem?_of_mem hc
 have hg:=getX_at hX (ns:=(i:Int)) (by omega)
 rw [Int.toNat_natCast,List.getElem?_eq_getElem hi] at hg
 rw [Option.some.inj hg] at hj
 exact ⟨i,j,c,by omega,hj,hp.1,hp.2⟩
theorem BX.pt1 {X:List (SlP Ce)} {s:Sp} (h:BX X) (hl:0<=s.h.l) (hs:(0<=s.b/\s.b<64)/\(0<=s.p/\s.p<32)):BX (pt1 X s):=by
 unfold Vc.pt1
 split
 ·rename_i hk
  have hn:=okT_ns hk
  have I:=putP_inv (s:=s) h.ok hn s.h.c.toNat (by have:=hk.2;omega)
  refine ⟨I.ok,λk hc=>?_⟩
  obtain ⟨ns,j,c,h1,hj,hh,rfl⟩:=cell_ex I.ok.four hc
  rw [I.cell] at hj
  split at hj
  ·obtain ⟨d,hd,rfl⟩:=Option.map_eq_some_iff.1 hj
   unfold putC at hh ⊢
   split
   ·rename_i e
    rw [if_pos e] at hh
    exact h.bd _ (cntX_pos h.ok.four h1 hd hh)
   ·exact hs
  ·exact h.bd _ (cntX_pos h.ok.four h1 hj hh)
 ·exact h
theorem BX.pt2 {X:List (SlP Ce)} {s:Sp} {t:Slt} {ns:Int} (h:BX X) (hl:0<=s.h.l) (hs:(0<=s.b/\s.b<64)/\(0<=s.p/\s.p<32)):BX (pt2 t ns X s):=by
 unfold Vc.pt2
 split
 ·exact h.pt1 hl hs
 ·exact h
def SpO (l:List Sp):Prop:=∀ s∈l,(0<=s.h.l/\s.h.l<4294967296)/\(0<=s.b/\s.b<64)/\(0<=s.p/\s.p<32)
theorem BX.ptN {X:List (SlP Ce)} {t:Slt} {ns:Int} {l:List Sp} (h:BX X) (hl:SpO l):∀ (i:Nat),i<=l.length->BX (ptN t ns l X i)
 | 0,_=>h
 | i+1,hi=>by
  obtain ⟨h1,h2⟩:=hl _ (List.getElem_mem (show i<l.length by omega))
  unfold Vc.ptN
  rw [List.getD_eq_getElem?_getD,List.getElem?_eq_getElem (show i<l.length by omega)]
  exact (h.ptN hl i (by omega)).pt2 h1.1 h2
end Go.Proofs.YtcekmdehjnlkpaaGreat.Vc
namespace Go.Proofs.YtcekmdehjnlkpaaGreat.Vc
open Go Go.Eng
def scan_Block.A:Ann:=.two .no (.two .no (.join [7,8,23,24,25,26,27,28,29,30] [(7,.one .ptr),(8,.one .bool)] (.draw (.take 0 (.take 1 (.take 2 (.take 3 (.both 4 (.take 5 (.take 6 (.take 7 (.eff 8 (.eff 9 (.take 10 (.done))))))) 8 (.eff 4 (.take 5 (.take 6 (.take 7 (.eff 9 (.take 10 (.done))))))))))))) (.two .no (.two .no (.two .no (.two (.two .no (.one (.loop [11,51,52,53,54,55,56,57,58,59,60,61,62,63] [(11,.one (.int .i64))] .no))) .no))))))
def scan_Block.P (p0_0 p0_1 p0_2 p0_3 p0_4 p0_5 p1:Int) (a2:Option Addr) (n2 c2:Nat) (w:World) (K:(Bool×Int×Int×Int×Int×Int×Int×Int×Int×SlV×Unit)×Unit->World->Prop):Prop:=
 NewV #[.int .i64 p0_0,.int .i64 p0_1,.int .i64 p0_2,.int .i64 p0_3,.int .i64 p0_4,.int .i64 p0_5] 23 w λb1 w2=>
 NewV #[.int .i64 p1] 3 w2 λb3 w4=>
 NewV #[.slice a2 n2 c2] 48 w4 λb5 w6=>
 NewV #[.bool false,.int .i64 0,.int .i64 0,.int .i64 0,.int .i64 0,.int .i64 0,.int .u32 0,.int .u64 0,.int .u64 0,.slice none 0 0] 38 w6 λb7 w8=>
 LoadA w8 ⟨b1,0,none⟩ [.int .i64,.int .i64,.int .i64,.int .i64,.int .i64,.int .i64] λ(x9:Int×Int×Int×Int×Int×Int×Unit)=>
 CallV Tryz.prog 18 #[.agg #[.int .i64 x9.1,.int .i64 x9.2.1,.int .i64 x9.2.2.1,.int .i64 x9.2.2.2.1,.int .i64 x9.2.2.2.2.1,.int .i64 x9.2.2.2.2.2.1]] w8 [.one (.int .i64)] λ(r10:Int×Unit) w11=>
 cond (r10.1 != 0)
 (StoreV w11 ⟨b7,0,none⟩ [.bool false,.int .i64 0,.int .i64 0,.int .i64 0,.int .i64 0,.int .i64 0,.int .u32 0,.int .u64 0,.int .u64 0,.slice none 0 0] λw12=>
 LoadA w12 ⟨b7,0,none⟩ [.bool,.int .i64,.int .i64,.int .i64,.int .i64,.int .i64,.int .u32,.int .u64,.int .u64,.sl] λ(x13:Bool×Int×Int×Int×Int×Int×Int×Int×Int×SlV×Unit)=>
 K ((x13.1,x13.2.1,x13.2.2.1,x13.2.2.2.1,x13.2.2.2.2.1,x13.2.2.2.2.2.1,x13.2.2.2.2.2.2.1,x13.2.2.2.2.2.2.2.1,x13.2.2.2.2.2.2.2.2.1,x13.2.2.2.2.2.2.2.2.2.1,()),()) w12)
 (LoadS w11 ⟨b5,0,none⟩ .sl λ(x14:SlV)=>
 LoadS w11 ⟨b1,1,none⟩ (.int .i64) λ(x15:Int)=>
 cond (decide (((x14.n:Nat):Int)<x15))
 (StoreV w11 ⟨b7,0,none⟩ [.bool false,.int .i64 0,.int .i64 0,.int .i64 0,.int .i64 0,.int .i64 0,.int .u32 0,.int .u64 0,.int .u64 0,.slice none 0 0] λw16=>
 LoadA w16 ⟨b7,0,none⟩ [.bool,.int .i64,.int .i64,.int .i64,.int .i64,.int .i64,.int .u32,.int .u64,.int .u64,.sl] λ(x17:Bool×Int×Int×Int×Int×Int×Int×Int×Int×SlV×Unit)=>
 K ((x17.1,x17.2.1,x17.2.2.1,x17.2.2.2.1,x17.2.2.2.2.1,x17.2.2.2.2.2.1,x17.2.2.2.2.2.2.1,x17.2.2.2.2.2.2.2.1,x17.2.2.2.2.2.2.2.2.1,x17.2.2.2.2.2.2.2.2.2.1,()),()) w16)
 (JoinV [.one .ptr,.one .bool] (λ(v19:(Option Addr)×Bool×Unit) w20=>
 cond (!v19.2.1)
 (StoreV w20 ⟨b7,0,none⟩ [.bool false,.int .i64 0,.int .i64 0,.int .i64 0,.int .i64 0,.int .i64 0,.int .u32 0,.int .u64 0,.int .u64 0,.slice none 0 0] λw21=>
 LoadA w21 ⟨b7,0,none⟩ [.bool,.int .i64,.int .i64,.int .i64,.int .i64,.int .i64,.int .u32,.int .u64,.int .u64,.sl] λ(x22:Bool×Int×Int×Int×Int×Int×Int×Int×Int×SlV×Unit)=>
 K ((x22.1,x22.2.1,x22.2.2.1,x22.2.2.2.1,x22.2.2.2.2.1,x22.2.2.2.2.2.1,x22.2.2.2.2.2.2.1,x22.2.2.2.2.2.2.2.1,x22.2.2.2.2.2.2.2.2.1,x22.2.2.2.2.2.2.2.2.2.1,()),()) w21)
 (PtrK v19.1 λq23=>
 LoadS w20 (q23.add 1) (.int .i64) λ(x24:Int)=>
 cond (decide (x24≥4))
 (StoreV w20 ⟨b7,0,none⟩ [.bool false,.int .i64 0,.int .i64 0,.int .i64 0,.int .i64 0,.int .i64 0,.int .u32 0,.int .u64 0,.int .u64 0,.slice none 0 0] λw25=>
 LoadA w25 ⟨b7,0,none⟩ [.bool,.int .i64,.int .i64,.int .i64,.int .i64,.int .i64,.int .u32,.int .u64,.int .u64,.sl] λ(x26:Bool×Int×Int×Int×Int×Int×Int×Int×Int×SlV×Unit)=>
 K ((x26.1,x26.2.1,x26.2.2.1,x26.2.2.2.1,x26.2.2.2.2.1,x26.2.2.2.2.2.1,x26.2.2.2.2.2.2.1,x26.2.2.2.2.2.2.2.1,x26.2.2.2.2.2.2.2.2.1,x26.2.2.2.2.2.2.2.2.2.1,()),()) w25)
 (PtrK v19.1 λq27=>
 LoadS w20 (q27.add 1) (.int .i64) λ(x28:Int)=>
 PtrK v19.1 λq29=>
 LoadS w20 (q29.add 3) (.int .u32) λ(x30:Int)=>
 PtrK v19.1 λq31=>
 LoadA w20 q31 [.int .i64,.int .i64,.int .i64,.int .u32,.int .u64,.int .u64] λ(x32:Int×Int×Int×Int×Int×Int×Unit)=>
 NewV #[.bool false,.int .i64 0,.int .i64 0,.int .i64 0,.int .i64 0,.int .i64 0,.int .u32 0,.int .u64 0,.int .u64 0,.slice none 0 0] 38 w20 λb33 w34=>
 StoreV w34 ⟨b33,0,none⟩ [.bool true,.int .i64 x28,.int .i64 (IntKind.i64.wrap x30),.int .i64 x32.1,.int .i64 x32.2.1,.int .i64 x32.2.2.1,.int .u32 x32.2.2.2.1,.int .u64 x32.2.2.2.2.1,.int .u64 x32.2.2.2.2.2.1,.slice none 0 0] λw35=>
 LoopV [.one (.int .i64)] ((1:Int),()) w35 λ(z36:Int×Unit) w37 (K38:Int×Unit->World->Prop)=>
 LoadS w37 ⟨b1,1,none⟩ (.int .i64) λ(x39:Int)=>
 cond (decide (z36.1<x39))
 (CallV Tryz.prog 20 #[.int .i64 z36.1,.int .i64 1,.pointer (some ⟨b1,0,none⟩),.pointer (some ⟨b5,0,none⟩),.pointer (some ⟨b33,0,none⟩),.pointer (some ⟨b3,0,none⟩)] w37 [.one .bool] λ(r40:Bool×Unit) w41=>
 cond (!r40.1)
 (CallV Tryz.prog 20 #[.int .i64 z36.1,.int .i64 2,.pointer (some ⟨b1,0,none⟩),.pointer (some ⟨b5,0,none⟩),.pointer (some ⟨b33,0,none⟩),.pointer (some ⟨b3,0,none⟩)] w41 [.one .bool] λ(r42:Bool×Unit) w43=>
 Rng .i64 (z36.1+1) /\
 K38 (z36.1+1,()) w43)
 (Rng .i64 (z36.1+1) /\
 K38 (z36.1+1,()) w41))
 (LoadA w37 ⟨b33,0,none⟩ [.bool,.int .i64,.int .i64,.int .i64,.int .i64,.int .i64,.int .u32,.int .u64,.int .u64,.sl] λ(x44:Bool×Int×Int×Int×Int×Int×Int×Int×Int×SlV×Unit)=>
 StoreV w37 ⟨b7,0,none⟩ [.bool x44.1,.int .i64 x44.2.1,.int .i64 x44.2.2.1,.int .i64 x44.2.2.2.1,.int .i64 x44.2.2.2.2.1,.int .i64 x44.2.2.2.2.2.1,.int .u32 x44.2.2.2.2.2.2.1,.int .u64 x44.2.2.2.2.2.2.2.1,.int .u64 x44.2.2.2.2.2.2.2.2.1,.slice x44.2.2.2.2.2.2.2.2.2.1.a x44.2.2.2.2.2.2.2.2.2.1.n x44.2.2.2.2.2.2.2.2.2.1.c] λw45=>
 LoadA w45 ⟨b7,0,none⟩ [.bool,.int .i64,.int .i64,.int .i64,.int .i64,.int .i64,.int .u32,.int .u64,.int .u64,.sl] λ(x46:Bool×Int×Int×Int×Int×Int×Int×Int×Int×SlV×Unit)=>
 K ((x46.1,x46.2.1,x46.2.2.1,x46.2.2.2.1,x46.2.2.2.2.1,x46.2.2.2.2.2.1,x46.2.2.2.2.2.2.1,x46.2.2.2.2.2.2.2.1,x46.2.2.2.2.2.2.2.2.1,x46.2.2.2.2.2.2.2.2.2.1,()),()) w45)))) λ(J18:(Option Addr)×Bool×Unit->World->Prop)=>
 DrawV λD47=>
 (D47 b1/\LoadA w11.drew ⟨b1,0,none⟩ [.int .i64,.int .i64,.int .i64,.int .i64,.int .i64,.int .i64] λ(x48:Int×Int×Int×Int×Int×Int×Unit)=>
 (D47 b5/\LoadS w11.drew ⟨b5,0,none⟩ .sl λ(x49:SlV)=>
 (0<=(0:Int)/\0<((x49.n:Nat):Int))/\∃ q50:Addr,x49.a=some q50 /\
 (D47 (q50.add (0*1)).block/\LoadS w11.drew (q50.add (0*1)) .sl λ(x51:SlV)=>
 ((CallV Tryz.prog 19 #[.agg #[.int .i64 x48.1,.int .i64 x48.2.1,.int .i64 x48.2.2.1,.int .i64 x48.2.2.2.1,.int .i64 x48.2.2.2.2.1,.int .i64 x48.2.2.2.2.2.1],.slice x51.a x51.n x51.c,.int .i64 3] w11.drew [.agg [.int .i64,.int .i64,.int .i64,.int .u32,.int .u64,.int .u64,.sl,.sl,.bool],.one .bool] λ(r52:(Int×Int×Int×Int×Int×Int×SlV×SlV×Bool×Unit)×Bool×Unit) w53=>
 KeepOn D47 w11.drew w53 /\
 NewV #[.int .i64 0,.int .i64 0,.int .i64 0,.int .u32 0,.int .u64 0,.int .u64 0,.slice none 0 0,.slice none 0 0,.bool false] 90 w53 λb54 w55=>
 KeepOn D47 w11.drew w55 /\
 StoreV w55 ⟨b54,0,none⟩ [.int .i64 r52.1.1,.int .i64 r52.1.2.1,.int .i64 r52.1.2.2.1,.int .u32 r52.1.2.2.2.1,.int .u64 r52.1.2.2.2.2.1,.int .u64 r52.1.2.2.2.2.2.1,.slice r52.1.2.2.2.2.2.2.1.a r52.1.2.2.2.2.2.2.1.n r52.1.2.2.2.2.2.2.1.c,.slice r52.1.2.2.2.2.2.2.2.1.a r52.1.2.2.2.2.2.2.2.1.n r52.1.2.2.2.2.2.2.2.1.c,.bool r52.1.2.2.2.2.2.2.2.2.1] λw56=>
 KeepOn D47 w11.drew w56 /\
 J18 ((some ⟨b54,0,none⟩),r52.2.1,()) w56) /\
 (NewV #[.int .i64 0,.int .i64 0,.int .i64 0,.int .u32 0,.int .u64 0,.int .u64 0,.slice none 0 0,.slice none 0 0,.bool false] 90 w11.drew λb57 w58=>
 KeepOn D47 w11.drew w58 /\
 CallV Tryz.prog 19 #[.agg #[.int .i64 x48.1,.int .i64 x48.2.1,.int .i64 x48.2.2.1,.int .i64 x48.2.2.2.1,.int .i64 x48.2.2.2.2.1,.int .i64 x48.2.2.2.2.2.1],.slice x51.a x51.n x51.c,.int .i64 3] w58 [.agg [.int .i64,.int .i64,.int .i64,.int .u32,.int .u64,.int .u64,.sl,.sl,.bool],.one .bool] λ(r59:(Int×Int×Int×Int×Int×Int×SlV×SlV×Bool×Unit)×Bool×Unit) w60=>
 KeepOn D47 w11.drew w60 /\
 StoreV w60 ⟨b57,0,none⟩ [.int .i64 r59.1.1,.int .i64 r59.1.2.1,.int .i64 r59.1.2.2.1,.int .u32 r59.1.2.2.2.1,.int .u64 r59.1.2.2.2.2.1,.int .u64 r59.1.2.2.2.2.2.1,.slice r59.1.2.2.2.2.2.2.1.a r59.1.2.2.2.2.2.2.1.n r59.1.2.2.2.2.2.2.1.c,.slice r59.1.2.2.2.2.2.2.2.1.a r59.1.2.2.2.2.2.2.2.1.n r59.1.2.2.2.2.2.2.2.1.c,.bool r59.1.2.2.2.2.2.2.2.2.1] λw61=>
 KeepOn D47 w11.drew w61 /\
 J18 ((some ⟨b57,0,none⟩),r59.2.1,()) w61)))))))
theorem scan_Block.vc (p0_0 p0_1 p0_2 p0_3 p0_4 p0_5 p1:Int) (a2:Option Addr) (n2 c2:Nat) (w:World) (K:(Bool×Int×Int×Int×Int×Int×Int×Int×Int×SlV×Unit)×Unit->World->Prop) (h:scan_Block.P p0_0 p0_1 p0_2 p0_3 p0_4 p0_5 p1 a2 n2 c2 w K):CallV Tryz.prog 7 #[.agg #[.int .i64 p0_0,.int .i64 p0_1,.int .i64 p0_2,.int .i64 p0_3,.int .i64 p0_4,.int .i64 p0_5],.int .i64 p1,.slice a2 n2 c2] w [.agg [.bool,.int .i64,.int .i64,.int .i64,.int .i64,.int .i64,.int .u32,.int .u64,.int .u64,.sl]] K:=by
 refine vcFun.of (A:=scan_Block.A) (wr:=false) okf_ok follows h Tryz.func7 ?_
 kernel_rfl
def scan_Block_1.A:Ann:=.two .no (.join [9,10,11,12,13,14,15,16,17,18,19,20] [(9,.one .ptr),(10,.one .bool)] (.draw (.take 0 (.take 1 (.take 2 (.take 3 (.take 4 (.take 5 (.both 6 (.take 7 (.take 8 (.take 9 (.eff 10 (.eff 11 (.take 12 (.done))))))) 10 (.eff 6 (.take 7 (.take 8 (.take 9 (.eff 11 (.take 12 (.done))))))))))))))) .no)
def scan_Block_1.P (p0 p1:Int) (cq0 cq1 cq2 cq3:Addr) (w:World) (K:Bool×Unit->World->Prop):Prop:=
 JoinV [.one .ptr,.one .bool] (λ(v2:(Option Addr)×Bool×Unit) w3=>
 cond v2.2.1
 (PtrK v2.1 λq4=>
 LoadS w3 (q4.add 1) (.int .i64) λ(x5:Int)=>
 LoadS w3 (cq2.add 1) (.int .i64) λ(x6:Int)=>
 cond (x5 == x6)
 (LoadS w3 (cq2.add 9) .sl λ(x7:SlV)=>
 LoadS w3 cq3 (.int .i64) λ(x8:Int)=>
 PtrK v2.1 λq9=>
 LoadA w3 q9 [.int .i64,.int .i64,.int .i64,.int .u32,.int .u64,.int .u64] λ(x10:Int×Int×Int×Int×Int×Int×Unit)=>
 LoadA w3 (cq2.add 3) [.int .i64,.int .i64,.int .i64,.int .u32,.int .u64,.int .u64] λ(x11:Int×Int×Int×Int×Int×Int×Unit)=>
 NewV #[.int .i64 x8,.int .i64 p0,.int .i64 x10.1,.int .i64 x10.2.1,.int .i64 x10.2.2.1,.int .u32 x10.2.2.2.1,.int .u64 x10.2.2.2.2.1,.int .u64 x10.2.2.2.2.2.1,.int .i64 x11.1,.int .i64 x11.2.1,.int .i64 x11.2.2.1,.int .u32 x11.2.2.2.1,.int .u64 x11.2.2.2.2.1,.int .u64 x11.2.2.2.2.2.1] 59 w3 λb12 w13=>
 AppS w13 (some ⟨b12,0,none⟩) 1 14 λns18=>
 AppV w13 59 14 112 x7.a x7.n x7.c ns18 1 λa14 n15 c16 w17=>
 StoreV w17 (cq2.add 9) [.slice a14 n15 c16] λw19=>
 K (v2.2.1,()) w19)
 (K (v2.2.1,()) w3))
 (K (v2.2.1,()) w3)) λ(J1:(Option Addr)×Bool×Unit->World->Prop)=>
 DrawV λD20=>
 (D20 cq0.block/\LoadA w.drew cq0 [.int .i64,.int .i64,.int .i64,.int .i64,.int .i64,.int .i64] λ(x21:Int×Int×Int×Int×Int×Int×Unit)=>
 (D20 cq1.block/\LoadS w.drew cq1 .sl λ(x22:SlV)=>
 (0<=p0/\p0<((x22.n:Nat):Int))/\∃ q23:Addr,x22.a=some q23 /\
 (D20 (q23.add (p0.toNat*1)).block/\LoadS w.drew (q23.add (p0.toNat*1)) .sl λ(x24:SlV)=>
 ((CallV Tryz.prog 19 #[.agg #[.int .i64 x21.1,.int .i64 x21.2.1,.int .i64 x21.2.2.1,.int .i64 x21.2.2.2.1,.int .i64 x21.2.2.2.2.1,.int .i64 x21.2.2.2.2.2.1],.slice x24.a x24.n x24.c,.int .i64 p1] w.drew [.agg [.int .i64,.int .i64,.int .i64,.int .u32,.int .u64,.int .u64,.sl,.sl,.bool],.one .bool] λ(r25:(Int×Int×Int×Int×Int×Int×SlV×SlV×Bool×Unit)×Bool×Unit) w26=>
 KeepOn D20 w.drew w26 /\
 NewV #[.int .i64 0,.int .i64 0,.int .i64 0,.int .u32 0,.int .u64 0,.int .u64 0,.slice none 0 0,.slice none 0 0,.bool false] 90 w26 λb27 w28=>
 KeepOn D20 w.drew w28 /\
 StoreV w28 ⟨b27,0,none⟩ [.int .i64 r25.1.1,.int .i64 r25.1.2.1,.int .i64 r25.1.2.2.1,.int .u32 r25.1.2.2.2.1,.int .u64 r25.1.2.2.2.2.1,.int .u64 r25.1.2.2.2.2.2.1,.slice r25.1.2.2.2.2.2.2.1.a r25.1.2.2.2.2.2.2.1.n r25.1.2.2.2.2.2.2.1.c,.slice r25.1.2.2.2.2.2.2.2.1.a r25.1.2.2.2.2.2.2.2.1.n r25.1.2.2.2.2.2.2.2.1.c,.bool r25.1.2.2.2.2.2.2.2.2.1] λw29=>
 KeepOn D20 w.drew w29 /\
 J1 ((some ⟨b27,0,none⟩),r25.2.1,()) w29) /\
 (NewV #[.int .i64 0,.int .i64 0,.int .i64 0,.int .u32 0,.int .u64 0,.int .u64 0,.slice none 0 0,.slice none 0 0,.bool false] 90 w.drew λb30 w31=>
 KeepOn D20 w.drew w31 /\
 CallV Tryz.prog 19 #[.agg #[.int .i64 x21.1,.int .i64 x21.2.1,.int .i64 x21.2.2.1,.int .i64 x21.2.2.2.1,.int .i64 x21.2.2.2.2.1,.int .i64 x21.2.2.2.2.2.1],.slice x24.a x24.n x24.c,.int .i64 p1] w31 [.agg [.int .i64,.int .i64,.int .i64,.int .u32,.int .u64,.int .u64,.sl,.sl,.bool],.one .bool] λ(r32:(Int×Int×Int×Int×Int×Int×SlV×SlV×Bool×Unit)×Bool×Unit) w33=>
 KeepOn D20 w.drew w33 /\
 StoreV w33 ⟨b30,0,none⟩ [.int .i64 r32.1.1,.int .i64 r32.1.2.1,.int .i64 r32.1.2.2.1,.int .u32 r32.1.2.2.2.1,.int .u64 r32.1.2.2.2.2.1,.int .u64 r32.1.2.2.2.2.2.1,.slice r32.1.2.2.2.2.2.2.1.a r32.1.2.2.2.2.2.2.1.n r32.1.2.2.2.2.2.2.1.c,.slice r32.1.2.2.2.2.2.2.2.1.a r32.1.2.2.2.2.2.2.2.1.n r32.1.2.2.2.2.2.2.2.1.c,.bool r32.1.2.2.2.2.2.2.2.2.1] λw34=>
 KeepOn D20 w.drew w34 /\
 J1 ((some ⟨b30,0,none⟩),r32.2.1,()) w34)))))
theorem scan_Block_1.vc (p0 p1:Int) (cq0 cq1 cq2 cq3:Addr) (w:World) (K:Bool×Unit->World->Prop) (h:scan_Block_1.P p0 p1 cq0 cq1 cq2 cq3 w K):CallV Tryz.prog 20 #[.int .i64 p0,.int .i64 p1,.pointer (some cq0),.pointer (some cq1),.pointer (some cq2),.pointer (some cq3)] w [.one .bool] K:=by
 refine vcFun.of (A:=scan_Block_1.A) (wr:=false) okf_ok follows h Tryz.func20 ?_
 kernel_rfl
def scan_pages.A:Ann:=.two .no (.two .no (.two (.two .no (.one (.loop [6,7,8,9,10,11,14,15,16,17,18,19,20,21,22,23,24,25,26,27,28,29,30,31,32] [(8,.one .sl),(14,.one (.int .i64))] .no))) .no))
def scan_pages.P (p0:Addr) (p1_0 p1_1 p1_2 p1_3 p1_4 p1_5 p2:Int) (w:World) (K:SlV×Int×Unit->World->Prop):Prop:=
 NewV #[.int .i64 p1_0,.int .i64 p1_1,.int .i64 p1_2,.int .i64 p1_3,.int .i64 p1_4,.int .i64 p1_5] 23 w λb1 w2=>
 LoadS w2 ⟨b1,1,none⟩ (.int .i64) λ(x3:Int)=>
 LoopV [.one .sl,.one (.int .i64)] ((⟨none,0,0⟩:SlV),(0:Int),()) w2 λ(z4:SlV×Int×Unit) w5 (K6:SlV×Int×Unit->World->Prop)=>
 cond (decide (z4.2.1<x3))
 (CallV Tryz.prog 70 #[.pointer (some p0),.agg #[.int .i64 p2,.int .i64 z4.2.1]] w5 [.one .sl,.one (.int .i64)] λ(r7:SlV×Int×Unit) w8=>
 cond (r7.2.1 != 0)
 (K ((⟨none,0,0⟩:SlV),r7.2.1,()) w8)
 (NewV #[.slice r7.1.a r7.1.n r7.1.c] 26 w8 λb9 w10=>
 AppS w10 (some ⟨b9,0,none⟩) 1 1 λns15=>
 AppV w10 26 1 24 z4.1.a z4.1.n z4.1.c ns15 1 λa11 n12 c13 w14=>
 Rng .i64 (z4.2.1+1) /\
 K6 ((⟨a11,n12,c13⟩:SlV),z4.2.1+1,()) w14))
 (K (z4.1,(0:Int),()) w5)
theorem scan_pages.vc (p0:Addr) (p1_0 p1_1 p1_2 p1_3 p1_4 p1_5 p2:Int) (w:World) (K:SlV×Int×Unit->World->Prop) (h:scan_pages.P p0 p1_0 p1_1 p1_2 p1_3 p1_4 p1_5 p2 w K):CallV Tryz.prog 32 #[.pointer (some p0),.agg #[.int .i64 p1_0,.int .i64 p1_1,.int .i64 p1_2,.int .i64 p1_3,.int .i64 p1_4,.int .i64 p1_5],.int .i64 p2] w [.one .sl,.one (.int .i64)] K:=by
 refine vcFun.of (A:=scan_pages.A) (wr:=false) okf_ok follows h Tryz.func32 ?_
 kernel_rfl
def scan_mapped.A:Ann:=.two .no (.two .no (.two (.two .no (.one (.loop [4,5,8,9,10,11,12,13,14,15,16,17,18,19,20,21,22,23] [(8,.one (.int .i64))] .no))) .no))
def scan_mapped.P (p0_0:Bool) (p0_1 p0_2 p0_3:Int) (a0_4:Option Addr) (n0_4 c0_4:Nat) (p0_5:Bool) (p0_6 p0_7 p0_8:Int) (a0_9:Option Addr) (n0_9 c0_9:Nat) (p0_10:Bool) (p0_11 p0_12 p0_13:Int) (a0_14:Option Addr) (n0_14 c0_14:Nat) (p0_15:Bool) (p0_16 p0_17 p0_18:Int) (a0_19:Option Addr) (n0_19 c0_19:Nat) (w:World) (K:(Option Addr)×Unit->World->Prop):Prop:=
 NewV #[.bool p0_0,.int .i64 p0_1,.int .u64 p0_2,.int .u64 p0_3,.slice a0_4 n0_4 c0_4,.bool p0_5,.int .i64 p0_6,.int .u64 p0_7,.int .u64 p0_8,.slice a0_9 n0_9 c0_9,.bool p0_10,.int .i64 p0_11,.int .u64 p0_12,.int .u64 p0_13,.slice a0_14 n0_14 c0_14,.bool p0_15,.int .i64 p0_16,.int .u64 p0_17,.int .u64 p0_18,.slice a0_19 n0_19 c0_19] 29 w λb1 w2=>
 CallV Tryz.prog 65 #[] w2 [.one .ptr] λ(r3:(Option Addr)×Unit) w4=>
 LoadA w4 ⟨b1,0,none⟩ [.bool,.int .i64,.int .u64,.int .u64,.sl,.bool,.int .i64,.int .u64,.int .u64,.sl,.bool,.int .i64,.int .u64,.int .u64,.sl,.bool,.int .i64,.int .u64,.int .u64,.sl] λ(x5:Bool×Int×Int×Int×SlV×Bool×Int×Int×Int×SlV×Bool×Int×Int×Int×SlV×Bool×Int×Int×Int×SlV×Unit)=>
 LoopV [.one (.int .i64)] ((0:Int),()) w4 λ(z6:Int×Unit) w7 (K8:Int×Unit->World->Prop)=>
 cond (decide (z6.1<4))
 ((0<=z6.1/\z6.1<(4:Int))/\∃ y9:Bool×Int×Int×Int×SlV×Unit,(List.take 5 (List.drop (z6.1.toNat*5) ([.bool x5.1,.int .i64 x5.2.1,.int .u64 x5.2.2.1,.int .u64 x5.2.2.2.1,.slice x5.2.2.2.2.1.a x5.2.2.2.2.1.n x5.2.2.2.2.1.c,.bool x5.2.2.2.2.2.1,.int .i64 x5.2.2.2.2.2.2.1,.int .u64 x5.2.2.2.2.2.2.2.1,.int .u64 x5.2.2.2.2.2.2.2.2.1,.slice x5.2.2.2.2.2.2.2.2.2.1.a x5.2.2.2.2.2.2.2.2.2.1.n x5.2.2.2.2.2.2.2.2.2.1.c,.bool x5.2.2.2.2.2.2.2.2.2.2.1,.int .i64 x5.2.2.2.2.2.2.2.2.2.2.2.1,.int .u64 x5.2.2.2.2.2.2.2.2.2.2.2.2.1,.int .u64 x5.2.2.2.2.2.2.2.2.2.2.2.2.2.1,.slice x5.2.2.2.2.2.2.2.2.2.2.2.2.2.2.1.a x5.2.2.2.2.2.2.2.2.2.2.2.2.2.2.1.n x5.2.2.2.2.2.2.2.2.2.2.2.2.2.2.1.c,.bool x5.2.2.2.2.2.2.2.2.2.2.2.2.2.2.2.1,.int .i64 x5.2.2.2.2.2.2.2.2.2.2.2.2.2.2.2.2.1,.int .u64 x5.2.2.2.2.2.2.2.2.2.2.2.2.2.2.2.2.2.1,.int .u64 x5.2.2.2.2.2.2.2.2.2.2.2.2.2.2.2.2.2.2.1,.slice x5.2.2.2.2.2.2.2.2.2.2.2.2.2.2.2.2.2.2.2.1.a x5.2.2.2.2.2.2.2.2.2.2.2.2.2.2.2.2.2.2.2.1.n x5.2.2.2.2.2.2.2.2.2.2.2.2.2.2.2.2.2.2.2.1.c]:List Value)))=[.bool y9.1,.int .i64 y9.2.1,.int .u64 y9.2.2.1,.int .u64 y9.2.2.2.1,.slice y9.2.2.2.2.1.a y9.2.2.2.2.1.n y9.2.2.2.2.1.c] /\
 NewV #[.bool false,.int .i64 0,.int .u64 0,.int .u64 0,.slice none 0 0] 28 w7 λb10 w11=>
 StoreV w11 ⟨b10,0,none⟩ [.bool y9.1,.int .i64 y9.2.1,.int .u64 y9.2.2.1,.int .u64 y9.2.2.2.1,.slice y9.2.2.2.2.1.a y9.2.2.2.2.1.n y9.2.2.2.2.1.c] λw12=>
 LoadA w12 ⟨b10,0,none⟩ [.bool,.int .i64,.int .u64,.int .u64,.sl] λ(x13:Bool×Int×Int×Int×SlV×Unit)=>
 CallV Tryz.prog 66 #[.agg #[.bool x13.1,.int .i64 x13.2.1,.int .u64 x13.2.2.1,.int .u64 x13.2.2.2.1,.slice x13.2.2.2.2.1.a x13.2.2.2.2.1.n x13.2.2.2.2.1.c]] w12 [.one .bool] λ(r14:Bool×Unit) w15=>
 cond r14.1
 (LoadS w15 ⟨b10,0,none⟩ .bool λ(x16:Bool)=>
 cond x16
 (LoadS w15 ⟨b10,1,none⟩ (.int .i64) λ(x17:Int)=>
 CallV Tryz.prog 67 #[.pointer r3.1,.int .i64 z6.1,.int .i64 x17] w15 [.one (.int .i64)] λ(r18:Int×Unit) w19=>
 Rng .i64 (z6.1+1) /\
 K8 (z6.1+1,()) w19)
 (Rng .i64 (z6.1+1) /\
 K8 (z6.1+1,()) w15))
 (Rng .i64 (z6.1+1) /\
 K8 (z6.1+1,()) w15))
 (K (r3.1,()) w7)
theorem scan_mapped.vc (p0_0:Bool) (p0_1 p0_2 p0_3:Int) (a0_4:Option Addr) (n0_4 c0_4:Nat) (p0_5:Bool) (p0_6 p0_7 p0_8:Int) (a0_9:Option Addr) (n0_9 c0_9:Nat) (p0_10:Bool) (p0_11 p0_12 p0_13:Int) (a0_14:Option Addr) (n0_14 c0_14:Nat) (p0_15:Bool) (p0_16 p0_17 p0_18:Int) (a0_19:Option Addr) (n0_19 c0_19:Nat) (w:World) (K:(Option Addr)×Unit->World->Prop) (h:scan_mapped.P p0_0 p0_1 p0_2 p0_3 a0_4 n0_4 c0_4 p0_5 p0_6 p0_7 p0_8 a0_9 n0_9 c0_9 p0_10 p0_11 p0_12 p0_13 a0_14 n0_14 c0_14 p0_15 p0_16 p0_17 p0_18 a0_19 n0_19 c0_19 w K):CallV Tryz.prog 30 #[.agg #[.bool p0_0,.int .i64 p0_1,.int .u64 p0_2,.int .u64 p0_3,.slice a0_4 n0_4 c0_4,.bool p0_5,.int .i64 p0_6,.int .u64 p0_7,.int .u64 p0_8,.slice a0_9 n0_9 c0_9,.bool p0_10,.int .i64 p0_11,.int .u64 p0_12,.int .u64 p0_13,.slice a0_14 n0_14 c0_14,.bool p0_15,.int .i64 p0_16,.int .u64 p0_17,.int .u64 p0_18,.slice a0_19 n0_19 c0_19]] w [.one .ptr] K:=by
 refine vcFun.of (A:=scan_mapped.A) (wr:=false) okf_ok follows h Tryz.func30 ?_
 kernel_rfl
def scan_put.A:Ann:=.two .no (.two .no (.one (.loop [7,11,12,13,14,15,16,17,18,19,20,21,22,23,24,25,26,27,28,29,30,31,32,33] [(11,.one (.int .i64))] (.two .no (.two .no (.two (.one (.two .no (.two (.draw (.take 0 (.take 1 (.take 2 (.eff 3 (.take 4 (.take 5 (.take 6 (.take 7 (.take 8 (.take 9 (.take 10 (.take 11 (.eff 12 (.take 13 (.take 14 (.done))))))))))))))))) .no))) .no))))))
def scan_put.P (p0:Addr) (p1_0:Bool) (p1_1 p1_2 p1_3:Int) (a1_4:Option Addr) (n1_4 c1_4:Nat) (p1_5:Bool) (p1_6 p1_7 p1_8:Int) (a1_9:Option Addr) (n1_9 c1_9:Nat) (p1_10:Bool) (p1_11 p1_12 p1_13:Int) (a1_14:Option Addr) (n1_14 c1_14:Nat) (p1_15:Bool) (p1_16 p1_17 p1_18:Int) (a1_19:Option Addr) (n1_19 c1_19:Nat) (p2_0:Bool) (p2_1 p2_2 p2_3 p2_4 p2_5 p2_6 p2_7 p2_8:Int) (a2_9:Option Addr) (n2_9 c2_9:Nat) (w:World) (K:Unit->World->Prop):Prop:=
 NewV #[.bool p1_0,.int .i64 p1_1,.int .u64 p1_2,.int .u64 p1_3,.slice a1_4 n1_4 c1_4,.bool p1_5,.int .i64 p1_6,.int .u64 p1_7,.int .u64 p1_8,.slice a1_9 n1_9 c1_9,.bool p1_10,.int .i64 p1_11,.int .u64 p1_12,.int .u64 p1_13,.slice a1_14 n1_14 c1_14,.bool p1_15,.int .i64 p1_16,.int .u64 p1_17,.int .u64 p1_18,.slice a1_19 n1_19 c1_19] 29 w λb1 w2=>
 NewV #[.bool p2_0,.int .i64 p2_1,.int .i64 p2_2,.int .i64 p2_3,.int .i64 p2_4,.int .i64 p2_5,.int .u32 p2_6,.int .u64 p2_7,.int .u64 p2_8,.slice a2_9 n2_9 c2_9] 38 w2 λb3 w4=>
 LoadS w4 ⟨b3,9,none⟩ .sl λ(x5:SlV)=>
 LoopV [.one (.int .i64)] ((0:Int),()) w4 λ(z6:Int×Unit) w7 (K8:Int×Unit->World->Prop)=>
 cond (decide (z6.1<((x5.n:Nat):Int)))
 ((0<=z6.1/\z6.1<((x5.n:Nat):Int))/\∃ q9:Addr,x5.a=some q9 /\
 LoadA w7 (q9.add (z6.1.toNat*14)) [.int .i64,.int .i64,.int .i64,.int .i64,.int .i64,.int .u32,.int .u64,.int .u64,.int .i64,.int .i64,.int .i64,.int .u32,.int .u64,.int .u64] λ(x10:Int×Int×Int×Int×Int×Int×Int×Int×Int×Int×Int×Int×Int×Int×Unit)=>
 NewV #[.int .i64 0,.int .i64 0,.int .i64 0,.int .i64 0,.int .i64 0,.int .u32 0,.int .u64 0,.int .u64 0,.int .i64 0,.int .i64 0,.int .i64 0,.int .u32 0,.int .u64 0,.int .u64 0] 59 w7 λb11 w12=>
 StoreV w12 ⟨b11,0,none⟩ [.int .i64 x10.1,.int .i64 x10.2.1,.int .i64 x10.2.2.1,.int .i64 x10.2.2.2.1,.int .i64 x10.2.2.2.2.1,.int .u32 x10.2.2.2.2.2.1,.int .u64 x10.2.2.2.2.2.2.1,.int .u64 x10.2.2.2.2.2.2.2.1,.int .i64 x10.2.2.2.2.2.2.2.2.1,.int .i64 x10.2.2.2.2.2.2.2.2.2.1,.int .i64 x10.2.2.2.2.2.2.2.2.2.2.1,.int .u32 x10.2.2.2.2.2.2.2.2.2.2.2.1,.int .u64 x10.2.2.2.2.2.2.2.2.2.2.2.2.1,.int .u64 x10.2.2.2.2.2.2.2.2.2.2.2.2.2.1] λw13=>
 DrawV λD14=>
 (D14 b3/\LoadS w13.drew ⟨b3,1,none⟩ (.int .i64) λ(x15:Int)=>
 CallV Tryz.prog 45 #[.pointer (some p0),.int .i64 x15] w13.drew [.one (.int .i64)] λ(r16:Int×Unit) w17=>
 KeepOn D14 w13.drew w17 /\
 cond (decide (r16.1>0))
 ((D14 b3/\LoadS w13.drew ⟨b3,1,none⟩ (.int .i64) λ(x18:Int)=>
 (0<=x18/\x18<(4:Int)) /\
 (D14 ((⟨b1,0,none⟩:Addr).add (x18.toNat*5)).block/\LoadA w13.drew ((⟨b1,0,none⟩:Addr).add (x18.toNat*5)) [.bool,.int .i64,.int .u64,.int .u64,.sl] λ(x19:Bool×Int×Int×Int×SlV×Unit)=>
 (D14 b11/\LoadA w13.drew ⟨b11,2,none⟩ [.int .i64,.int .i64,.int .i64,.int .u32,.int .u64,.int .u64] λ(x20:Int×Int×Int×Int×Int×Int×Unit)=>
 CallV Tryz.prog 71 #[.agg #[.bool x19.1,.int .i64 x19.2.1,.int .u64 x19.2.2.1,.int .u64 x19.2.2.2.1,.slice x19.2.2.2.2.1.a x19.2.2.2.2.1.n x19.2.2.2.2.1.c],.agg #[.int .i64 x20.1,.int .i64 x20.2.1,.int .i64 x20.2.2.1,.int .u32 x20.2.2.2.1,.int .u64 x20.2.2.2.2.1,.int .u64 x20.2.2.2.2.2.1]] w17 [.one .bool] λ(r21:Bool×Unit) w22=>
 KeepOn D14 w13.drew w22 /\
 cond (!r21.1)
 (LoadA w22 ⟨b11,0,none⟩ [.int .i64,.int .i64,.int .i64,.int .i64,.int .i64,.int .u32,.int .u64,.int .u64,.int .i64,.int .i64,.int .i64,.int .u32,.int .u64,.int .u64] λ(x23:Int×Int×Int×Int×Int×Int×Int×Int×Int×Int×Int×Int×Int×Int×Unit)=>
 CallV Tryz.prog 72 #[.pointer (some p0),.agg #[.int .i64 x23.1,.int .i64 x23.2.1,.int .i64 x23.2.2.1,.int .i64 x23.2.2.2.1,.int .i64 x23.2.2.2.2.1,.int .u32 x23.2.2.2.2.2.1,.int .u64 x23.2.2.2.2.2.2.1,.int .u64 x23.2.2.2.2.2.2.2.1,.int .i64 x23.2.2.2.2.2.2.2.2.1,.int .i64 x23.2.2.2.2.2.2.2.2.2.1,.int .i64 x23.2.2.2.2.2.2.2.2.2.2.1,.int .u32 x23.2.2.2.2.2.2.2.2.2.2.2.1,.int .u64 x23.2.2.2.2.2.2.2.2.2.2.2.2.1,.int .u64 x23.2.2.2.2.2.2.2.2.2.2.2.2.2.1]] w22 [.one .sl,.one (.int .i64)] λ(r24:SlV×Int×Unit) w25=>
 Rng .i64 (z6.1+1) /\
 K8 (z6.1+1,()) w25)
 (Rng .i64 (z6.1+1) /\
 K8 (z6.1+1,()) w22)))))
 (Rng .i64 (z6.1+1) /\
 K8 (z6.1+1,()) w17)))
 (K () w7)
set_option maxRecDepth 65536 in
theorem scan_put.vc (p0:Addr) (p1_0:Bool) (p1_1 p1_2 p1_3:Int) (a1_4:Option Addr) (n1_4 c1_4:Nat) (p1_5:Bool) (p1_6 p1_7 p1_8:Int) (a1_9:Option Addr) (n1_9 c1_9:Nat) (p1_10:Bool) (p1_11 p1_12 p1_13:Int) (a1_14:Option Addr) (n1_14 c1_14:Nat) (p1_15:Bool) (p1_16 p1_17 p1_18:Int) (a1_19:Option Addr) (n1_19 c1_19:Nat) (p2_0:Bool) (p2_1 p2_2 p2_3 p2_4 p2_5 p2_6 p2_7 p2_8:Int) (a2_9:Option Addr) (n2_9 c2_9:Nat) (w:World) (K:Unit->World->Prop) (h:scan_put.P p0 p1_0 p1_1 p1_2 p1_3 a1_4 n1_4 c1_4 p1_5 p1_6 p1_7 p1_8 a1_9 n1_9 c1_9 p1_10 p1_11 p1_12 p1_13 a1_14 n1_14 c1_14 p1_15 p1_16 p1_17 p1_18 a1_19 n1_19 c1_19 p2_0 p2_1 p2_2 p2_3 p2_4 p2_5 p2_6 p2_7 p2_8 a2_9 n2_9 c2_9 w K):CallV Tryz.prog 33 #[.pointer (some p0),.agg #[.bool p1_0,.int .i64 p1_1,.int .u64 p1_2,.int .u64 p1_3,.slice a1_4 n1_4 c1_4,.bool p1_5,.int .i64 p1_6,.int .u64 p1_7,.int .u64 p1_8,.slice a1_9 n1_9 c1_9,.bool p1_10,.int .i64 p1_11,.int .u64 p1_12,.int .u64 p1_13,.slice a1_14 n1_14 c1_14,.bool p1_15,.int .i64 p1_16,.int .u64 p1_17,.int .u64 p1_18,.slice a1_19 n1_19 c1_19],.agg #[.bool p2_0,.int .i64 p2_1,.int .i64 p2_2,.int .i64 p2_3,.int .i64 p2_4,.int .i64 p2_5,.int .u32 p2_6,.int .u64 p2_7,.int .u64 p2_8,.slice a2_9 n2_9 c2_9]] w [] K:=by
 refine vcFun.of (A:=scan_put.A) (wr:=false) okf_ok follows h Tryz.func33 ?_
 kernel_rfl
def scan_most.A:Ann:=.two .no (.two .no (.two (.two .no (.one (.loop [3,5,8,9,10,11,12,13,14,15,16] [(3,.one (.int .i64)),(8,.one (.int .i64))] .no))) .no))
def scan_most.P (a0:Option Addr) (n0 c0:Nat) (w:World) (K:Int×Unit->World->Prop):Prop:=
 LoopV [.one (.int .i64),.one (.int .i64)] ((0:Int),(0:Int),()) w λ(z1:Int×Int×Unit) w2 (K3:Int×Int×Unit->World->Prop)=>
 cond (decide (z1.2.1<((n0:Nat):Int)))
 ((0<=z1.2.1/\z1.2.1<((n0:Nat):Int))/\∃ q4:Addr,a0=some q4 /\
 LoadA w2 (q4.add (z1.2.1.toNat*10)) [.bool,.int .i64,.int .i64,.int .i64,.int .i64,.int .i64,.int .u32,.int .u64,.int .u64,.sl] λ(x5:Bool×Int×Int×Int×Int×Int×Int×Int×Int×SlV×Unit)=>
 NewV #[.bool false,.int .i64 0,.int .i64 0,.int .i64 0,.int .i64 0,.int .i64 0,.int .u32 0,.int .u64 0,.int .u64 0,.slice none 0 0] 38 w2 λb6 w7=>
 StoreV w7 ⟨b6,0,none⟩ [.bool x5.1,.int .i64 x5.2.1,.int .i64 x5.2.2.1,.int .i64 x5.2.2.2.1,.int .i64 x5.2.2.2.2.1,.int .i64 x5.2.2.2.2.2.1,.int .u32 x5.2.2.2.2.2.2.1,.int .u64 x5.2.2.2.2.2.2.2.1,.int .u64 x5.2.2.2.2.2.2.2.2.1,.slice x5.2.2.2.2.2.2.2.2.2.1.a x5.2.2.2.2.2.2.2.2.2.1.n x5.2.2.2.2.2.2.2.2.2.1.c] λw8=>
 LoadS w8 ⟨b6,2,none⟩ (.int .i64) λ(x9:Int)=>
 NameI (max z1.1 x9) λz10=>
 Rng .i64 (z1.2.1+1) /\
 K3 (z10,z1.2.1+1,()) w8)
 (K (z1.1,()) w2)
theorem scan_most.vc (a0:Option Addr) (n0 c0:Nat) (w:World) (K:Int×Unit->World->Prop) (h:scan_most.P a0 n0 c0 w K):CallV Tryz.prog 37 #[.slice a0 n0 c0] w [.one (.int .i64)] K:=by
 refine vcFun.of (A:=scan_most.A) (wr:=false) okf_ok follows h Tryz.func37 ?_
 kernel_rfl
def scan_known.A:Ann:=.two .no (.two .no (.two (.two .no (.two (.draw (.take 0 (.take 1 (.take 2 (.take 3 (.take 4 (.eff 5 (.take 6 (.eff 7 (.done)))))))))) .no)) (.two (.two .no (.two (.draw (.take 0 (.take 1 (.take 2 (.take 3 (.take 4 (.eff 5 (.take 6 (.eff 7 (.take 8 (.eff 9 (.done)))))))))))) .no)) .no)))
def scan_known.P (p0_0 p0_1 p0_2 p0_3 p0_4 p0_5:Int) (p1_0:Bool) (p1_1 p1_2 p1_3 p1_4 p1_5 p1_6 p1_7 p1_8:Int) (a1_9:Option Addr) (n1_9 c1_9:Nat) (p2 p3:Int) (w:World) (K:(Int×Int×Int×Int×Bool×Bool×Bool×Bool×Bool×Unit)×Unit->World->Prop):Prop:=
 NewV #[.int .i64 p0_0,.int .i64 p0_1,.int .i64 p0_2,.int .i64 p0_3,.int .i64 p0_4,.int .i64 p0_5] 23 w λb1 w2=>
 NewV #[.bool p1_0,.int .i64 p1_1,.int .i64 p1_2,.int .i64 p1_3,.int .i64 p1_4,.int .i64 p1_5,.int .u32 p1_6,.int .u64 p1_7,.int .u64 p1_8,.slice a1_9 n1_9 c1_9] 38 w2 λb3 w4=>
 NewV #[.int .i64 0,.int .i64 0,.int .i64 0,.int .i64 0,.bool false,.bool false,.bool false,.bool false,.bool false] 98 w4 λb5 w6=>
 NewV #[.int .i64 0,.int .i64 0,.int .i64 0,.int .i64 0,.bool false,.bool false,.bool false,.bool false,.bool false] 98 w6 λb7 w8=>
 StoreV w8 ⟨b7,0,none⟩ [.int .i64 (-1),.int .i64 0,.int .i64 0,.int .i64 p3,.bool false,.bool false,.bool false,.bool false,.bool false] λw9=>
 LoadS w9 ⟨b3,0,none⟩ .bool λ(x10:Bool)=>
 cond x10
 (DrawV λD11=>
 (D11 b3/\LoadS w9.drew ⟨b3,1,none⟩ (.int .i64) λ(x12:Int)=>
 (D11 b3/\LoadS w9.drew ⟨b3,2,none⟩ (.int .i64) λ(x13:Int)=>
 StoreV w9.drew ⟨b7,0,none⟩ [.int .i64 x12] λw14=>
 KeepOn D11 w9.drew w14 /\
 StoreV w14 ⟨b7,3,none⟩ [.int .i64 x13] λw15=>
 KeepOn D11 w9.drew w15 /\
 cond (decide (p2>0))
 (DrawV λD16=>
 (D16 b1/\LoadS w15.drew ⟨b1,1,none⟩ (.int .i64) λ(x17:Int)=>
 Rng .i64 (x17-1) /\
 StoreV w15.drew ⟨b7,4,none⟩ [.bool true] λw18=>
 KeepOn D16 w15.drew w18 /\
 StoreV w18 ⟨b7,1,none⟩ [.int .i64 (x17-1)] λw19=>
 KeepOn D16 w15.drew w19 /\
 StoreV w19 ⟨b7,2,none⟩ [.int .i64 p2] λw20=>
 KeepOn D16 w15.drew w20 /\
 LoadA w20 ⟨b7,0,none⟩ [.int .i64,.int .i64,.int .i64,.int .i64,.bool,.bool,.bool,.bool,.bool] λ(x21:Int×Int×Int×Int×Bool×Bool×Bool×Bool×Bool×Unit)=>
 StoreV w20 ⟨b5,0,none⟩ [.int .i64 x21.1,.int .i64 x21.2.1,.int .i64 x21.2.2.1,.int .i64 x21.2.2.2.1,.bool x21.2.2.2.2.1,.bool x21.2.2.2.2.2.1,.bool x21.2.2.2.2.2.2.1,.bool x21.2.2.2.2.2.2.2.1,.bool x21.2.2.2.2.2.2.2.2.1] λw22=>
 LoadA w22 ⟨b5,0,none⟩ [.int .i64,.int .i64,.int .i64,.int .i64,.bool,.bool,.bool,.bool,.bool] λ(x23:Int×Int×Int×Int×Bool×Bool×Bool×Bool×Bool×Unit)=>
 K ((x23.1,x23.2.1,x23.2.2.1,x23.2.2.2.1,x23.2.2.2.2.1,x23.2.2.2.2.2.1,x23.2.2.2.2.2.2.1,x23.2.2.2.2.2.2.2.1,x23.2.2.2.2.2.2.2.2.1,()),()) w22))
 (LoadA w15 ⟨b7,0,none⟩ [.int .i64,.int .i64,.int .i64,.int .i64,.bool,.bool,.bool,.bool,.bool] λ(x24:Int×Int×Int×Int×Bool×Bool×Bool×Bool×Bool×Unit)=>
 StoreV w15 ⟨b5,0,none⟩ [.int .i64 x24.1,.int .i64 x24.2.1,.int .i64 x24.2.2.1,.int .i64 x24.2.2.2.1,.bool x24.2.2.2.2.1,.bool x24.2.2.2.2.2.1,.bool x24.2.2.2.2.2.2.1,.bool x24.2.2.2.2.2.2.2.1,.bool x24.2.2.2.2.2.2.2.2.1] λw25=>
 LoadA w25 ⟨b5,0,none⟩ [.int .i64,.int .i64,.int .i64,.int .i64,.bool,.bool,.bool,.bool,.bool] λ(x26:Int×Int×Int×Int×Bool×Bool×Bool×Bool×Bool×Unit)=>
 K ((x26.1,x26.2.1,x26.2.2.1,x26.2.2.2.1,x26.2.2.2.2.1,x26.2.2.2.2.2.1,x26.2.2.2.2.2.2.1,x26.2.2.2.2.2.2.2.1,x26.2.2.2.2.2.2.2.2.1,()),()) w25))))
 (cond (decide (p2>0))
 (DrawV λD27=>
 (D27 b1/\LoadS w9.drew ⟨b1,1,none⟩ (.int .i64) λ(x28:Int)=>
 Rng .i64 (x28-1) /\
 StoreV w9.drew ⟨b7,4,none⟩ [.bool true] λw29=>
 KeepOn D27 w9.drew w29 /\
 StoreV w29 ⟨b7,1,none⟩ [.int .i64 (x28-1)] λw30=>
 KeepOn D27 w9.drew w30 /\
 StoreV w30 ⟨b7,2,none⟩ [.int .i64 p2] λw31=>
 KeepOn D27 w9.drew w31 /\
 LoadA w31 ⟨b7,0,none⟩ [.int .i64,.int .i64,.int .i64,.int .i64,.bool,.bool,.bool,.bool,.bool] λ(x32:Int×Int×Int×Int×Bool×Bool×Bool×Bool×Bool×Unit)=>
 StoreV w31 ⟨b5,0,none⟩ [.int .i64 x32.1,.int .i64 x32.2.1,.int .i64 x32.2.2.1,.int .i64 x32.2.2.2.1,.bool x32.2.2.2.2.1,.bool x32.2.2.2.2.2.1,.bool x32.2.2.2.2.2.2.1,.bool x32.2.2.2.2.2.2.2.1,.bool x32.2.2.2.2.2.2.2.2.1] λw33=>
 LoadA w33 ⟨b5,0,none⟩ [.int .i64,.int .i64,.int .i64,.int .i64,.bool,.bool,.bool,.bool,.bool] λ(x34:Int×Int×Int×Int×Bool×Bool×Bool×Bool×Bool×Unit)=>
 K ((x34.1,x34.2.1,x34.2.2.1,x34.2.2.2.1,x34.2.2.2.2.1,x34.2.2.2.2.2.1,x34.2.2.2.2.2.2.1,x34.2.2.2.2.2.2.2.1,x34.2.2.2.2.2.2.2.2.1,()),()) w33))
 (LoadA w9 ⟨b7,0,none⟩ [.int .i64,.int .i64,.int .i64,.int .i64,.bool,.bool,.bool,.bool,.bool] λ(x35:Int×Int×Int×Int×Bool×Bool×Bool×Bool×Bool×Unit)=>
 StoreV w9 ⟨b5,0,none⟩ [.int .i64 x35.1,.int .i64 x35.2.1,.int .i64 x35.2.2.1,.int .i64 x35.2.2.2.1,.bool x35.2.2.2.2.1,.bool x35.2.2.2.2.2.1,.bool x35.2.2.2.2.2.2.1,.bool x35.2.2.2.2.2.2.2.1,.bool x35.2.2.2.2.2.2.2.2.1] λw36=>
 LoadA w36 ⟨b5,0,none⟩ [.int .i64,.int .i64,.int .i64,.int .i64,.bool,.bool,.bool,.bool,.bool] λ(x37:Int×Int×Int×Int×Bool×Bool×Bool×Bool×Bool×Unit)=>
 K ((x37.1,x37.2.1,x37.2.2.1,x37.2.2.2.1,x37.2.2.2.2.1,x37.2.2.2.2.2.1,x37.2.2.2.2.2.2.1,x37.2.2.2.2.2.2.2.1,x37.2.2.2.2.2.2.2.2.1,()),()) w36))
theorem scan_known.vc (p0_0 p0_1 p0_2 p0_3 p0_4 p0_5:Int) (p1_0:Bool) (p1_1 p1_2 p1_3 p1_4 p1_5 p1_6 p1_7 p1_8:Int) (a1_9:Option Addr) (n1_9 c1_9:Nat) (p2 p3:Int) (w:World) (K:(Int×Int×Int×Int×Bool×Bool×Bool×Bool×Bool×Unit)×Unit->World->Prop) (h:scan_known.P p0_0 p0_1 p0_2 p0_3 p0_4 p0_5 p1_0 p1_1 p1_2 p1_3 p1_4 p1_5 p1_6 p1_7 p1_8 a1_9 n1_9 c1_9 p2 p3 w K):CallV Tryz.prog 35 #[.agg #[.int .i64 p0_0,.int .i64 p0_1,.int .i64 p0_2,.int .i64 p0_3,.int .i64 p0_4,.int .i64 p0_5],.agg #[.bool p1_0,.int .i64 p1_1,.int .i64 p1_2,.int .i64 p1_3,.int .i64 p1_4,.int .i64 p1_5,.int .u32 p1_6,.int .u64 p1_7,.int .u64 p1_8,.slice a1_9 n1_9 c1_9],.int .i64 p2,.int .i64 p3] w [.agg [.int .i64,.int .i64,.int .i64,.int .i64,.bool,.bool,.bool,.bool,.bool]] K:=by
 refine vcFun.of (A:=scan_known.A) (wr:=false) okf_ok follows h Tryz.func35 ?_
 kernel_rfl
def slot_Right.A:Ann:=.no
def slot_Right.P (p0_0:Bool) (p0_1 p0_2 p0_3:Int) (a0_4:Option Addr) (n0_4 c0_4:Nat) (w:World) (K:Bool×Unit->World->Prop):Prop:=
 NewV #[.bool p0_0,.int .i64 p0_1,.int .u64 p0_2,.int .u64 p0_3,.slice a0_4 n0_4 c0_4] 28 w λb1 w2=>
 LoadS w2 ⟨b1,0,none⟩ .bool λ(x3:Bool)=>
 cond (!x3)
 (LoadS w2 ⟨b1,1,none⟩ (.int .i64) λ(x4:Int)=>
 cond (x4 == 0)
 (LoadS w2 ⟨b1,2,none⟩ (.int .u64) λ(x5:Int)=>
 cond (x5 == 0)
 (LoadS w2 ⟨b1,3,none⟩ (.int .u64) λ(x6:Int)=>
 cond (x6 == 0)
 (LoadS w2 ⟨b1,4,none⟩ .sl λ(x7:SlV)=>
 K ((((x7.n:Nat):Int) == 0),()) w2)
 (K (false,()) w2))
 (K (false,()) w2))
 (K (false,()) w2))
 (LoadS w2 ⟨b1,1,none⟩ (.int .i64) λ(x8:Int)=>
 cond (decide (x8≥1))
 (LoadS w2 ⟨b1,1,none⟩ (.int .i64) λ(x9:Int)=>
 cond (decide (x9<=65535))
 (LoadS w2 ⟨b1,4,none⟩ .sl λ(x10:SlV)=>
 K ((((x10.n:Nat):Int) == 104),()) w2)
 (K (false,()) w2))
 (K (false,()) w2))
theorem slot_Right.vc (p0_0:Bool) (p0_1 p0_2 p0_3:Int) (a0_4:Option Addr) (n0_4 c0_4:Nat) (w:World) (K:Bool×Unit->World->Prop) (h:slot_Right.P p0_0 p0_1 p0_2 p0_3 a0_4 n0_4 c0_4 w K):CallV Tryz.prog 66 #[.agg #[.bool p0_0,.int .i64 p0_1,.int .u64 p0_2,.int .u64 p0_3,.slice a0_4 n0_4 c0_4]] w [.one .bool] K:=by
 refine vcFun.of (A:=slot_Right.A) (wr:=false) okf_ok follows h Tryz.func66 ?_
 kernel_rfl
def slot_Dead.A:Ann:=.no
def slot_Dead.P (p0_0:Bool) (p0_1 p0_2 p0_3:Int) (a0_4:Option Addr) (n0_4 c0_4:Nat) (p1_0 p1_1 p1_2 p1_3 p1_4 p1_5:Int) (w:World) (K:Bool×Unit->World->Prop):Prop:=
 NewV #[.bool p0_0,.int .i64 p0_1,.int .u64 p0_2,.int .u64 p0_3,.slice a0_4 n0_4 c0_4] 28 w λb1 w2=>
 NewV #[.int .i64 p1_0,.int .i64 p1_1,.int .i64 p1_2,.int .u32 p1_3,.int .u64 p1_4,.int .u64 p1_5] 35 w2 λb3 w4=>
 LoadS w4 ⟨b1,0,none⟩ .bool λ(x5:Bool)=>
 cond (!x5)
 (K (true,()) w4)
 (LoadS w4 ⟨b1,2,none⟩ (.int .u64) λ(x6:Int)=>
 LoadS w4 ⟨b1,3,none⟩ (.int .u64) λ(x7:Int)=>
 LoadA w4 ⟨b3,0,none⟩ [.int .i64,.int .i64,.int .i64,.int .u32,.int .u64,.int .u64] λ(x8:Int×Int×Int×Int×Int×Int×Unit)=>
 CallV Tryz.prog 105 #[.agg #[.int .i64 0,.int .i64 0,.int .i64 0,.int .u32 0,.int .u64 x6,.int .u64 x7],.agg #[.int .i64 x8.1,.int .i64 x8.2.1,.int .i64 x8.2.2.1,.int .u32 x8.2.2.2.1,.int .u64 x8.2.2.2.2.1,.int .u64 x8.2.2.2.2.2.1]] w4 [.one .bool] λ(r9:Bool×Unit) w10=>
 K (!r9.1,()) w10)
theorem slot_Dead.vc (p0_0:Bool) (p0_1 p0_2 p0_3:Int) (a0_4:Option Addr) (n0_4 c0_4:Nat) (p1_0 p1_1 p1_2 p1_3 p1_4 p1_5:Int) (w:World) (K:Bool×Unit->World->Prop) (h:slot_Dead.P p0_0 p0_1 p0_2 p0_3 a0_4 n0_4 c0_4 p1_0 p1_1 p1_2 p1_3 p1_4 p1_5 w K):CallV Tryz.prog 71 #[.agg #[.bool p0_0,.int .i64 p0_1,.int .u64 p0_2,.int .u64 p0_3,.slice a0_4 n0_4 c0_4],.agg #[.int .i64 p1_0,.int .i64 p1_1,.int .i64 p1_2,.int .u32 p1_3,.int .u64 p1_4,.int .u64 p1_5]] w [.one .bool] K:=by
 refine vcFun.of (A:=slot_Dead.A) (wr:=false) okf_ok follows h Tryz.func71 ?_
 kernel_rfl
def scan_Array.A:Ann:=.two .no (.two .no (.two .no (.two .no (.two .no (.two (.two .no (.one (.loop [7,10,11,12,13,14,29,30,31,32,33,34,35,36,37,38,39,40,41,42,43,44,45,46,47,48,49,50,51,52,53,54,55,56,57,58,59,60,61,62,63,64,65] [(10,.one .sl),(29,.one (.int .i64))] (.two .no (.two .no (.two (.one (.two .no (.two .no (.two .no (.two .no (.two .no (.draw (.take 0 (.take 1 (.take 4 (.take 6 (.take 7 (.three 2 (.three 3 (.both 5 (.eff 8 (.eff 9 (.take 10 (.take 11 (.eff 12 (.done)))))) 8 (.eff 5 (.eff 9 (.take 10 (.take 11 (.eff 12 (.done))))))) 5 (.both 3 (.eff 8 (.eff 9 (.take 10 (.take 11 (.eff 12 (.done)))))) 8 (.eff 3 (.eff 9 (.take 10 (.take 11 (.eff 12 (.done))))))) 8 (.both 3 (.eff 5 (.eff 9 (.take 10 (.take 11 (.eff 12 (.done)))))) 5 (.eff 3 (.eff 9 (.take 10 (.take 11 (.eff 12 (.done)))))))) 5 (.both 2 (.both 3 (.eff 8 (.eff 9 (.take 10 (.take 11 (.eff 12 (.done)))))) 8 (.eff 3 (.eff 9 (.take 10 (.take 11 (.eff 12 (.done))))))) 8 (.eff 2 (.eff 3 (.eff 9 (.take 10 (.take 11 (.eff 12 (.done)))))))) 8 (.both 2 (.both 3 (.eff 5 (.eff 9 (.take 10 (.take 11 (.eff 12 (.done)))))) 5 (.eff 3 (.eff 9 (.take 10 (.take 11 (.eff 12 (.done))))))) 5 (.eff 2 (.eff 3 (.eff 9 (.take 10 (.take 11 (.eff 12 (.done))))))))))))))))))))) .no)))))) (.two .no (.two (.two .no (.one (.loop [15,16,17,75,76,77,78,79,80,81,82,83,84,85,86,87,88,89,90,91,92,93,94,95,96,97,98,99,100,101,102,103] [(75,.one (.int .i64))] (.two .no (.two .no (.two (.one (.two .no (.join [17,80,81,82,83,84,85,86,87,88,89,90] [(17,.one .ptr)] (.draw (.take 0 (.take 1 (.take 2 (.take 3 (.take 4 (.take 5 (.take 8 (.both 6 (.take 7 (.both 9 (.both 10 (.eff 11 (.eff 12 (.done))) 11 (.eff 10 (.eff 12 (.done)))) 11 (.eff 9 (.eff 10 (.eff 12 (.done)))))) 11 (.eff 6 (.take 7 (.eff 9 (.eff 10 (.eff 12 (.done))))))))))))))) .no))) .no)))))) .no)))))))
def scan_Array.P (p0:Addr) (p1_0:Bool) (p1_1 p1_2 p1_3:Int) (a1_4:Option Addr) (n1_4 c1_4:Nat) (p1_5:Bool) (p1_6 p1_7 p1_8:Int) (a1_9:Option Addr) (n1_9 c1_9:Nat) (p1_10:Bool) (p1_11 p1_12 p1_13:Int) (a1_14:Option Addr) (n1_14 c1_14:Nat) (p1_15:Bool) (p1_16 p1_17 p1_18:Int) (a1_19:Option Addr) (n1_19 c1_19:Nat) (p2:Int) (w:World) (K:((Option Addr)×(Option Addr)×SlV×Unit)×Int×Unit->World->Prop):Prop:=
 NewV #[.bool p1_0,.int .i64 p1_1,.int .u64 p1_2,.int .u64 p1_3,.slice a1_4 n1_4 c1_4,.bool p1_5,.int .i64 p1_6,.int .u64 p1_7,.int .u64 p1_8,.slice a1_9 n1_9 c1_9,.bool p1_10,.int .i64 p1_11,.int .u64 p1_12,.int .u64 p1_13,.slice a1_14 n1_14 c1_14,.bool p1_15,.int .i64 p1_16,.int .u64 p1_17,.int .u64 p1_18,.slice a1_19 n1_19 c1_19] 29 w λb1 w2=>
 NewV #[.pointer none,.pointer none,.slice none 0 0] 69 w2 λb3 w4=>
 CallV Tryz.prog 28 #[.pointer (some p0)] w4 [.one .bool] λ(r5:Bool×Unit) w6=>
 cond (!r5.1)
 (StoreV w6 ⟨b3,0,none⟩ [.pointer none,.pointer none,.slice none 0 0] λw7=>
 LoadA w7 ⟨b3,0,none⟩ [.ptr,.ptr,.sl] λ(x8:(Option Addr)×(Option Addr)×SlV×Unit)=>
 K ((x8.1,x8.2.1,x8.2.2.1,()),(4:Int),()) w7)
 (CallV Tryz.prog 29 #[.pointer (some p0)] w6 [.agg [.int .i64,.int .i64,.int .i64,.int .i64,.int .i64,.int .i64]] λ(r9:(Int×Int×Int×Int×Int×Int×Unit)×Unit) w10=>
 NewV #[.int .i64 0,.int .i64 0,.int .i64 0,.int .i64 0,.int .i64 0,.int .i64 0] 23 w10 λb11 w12=>
 StoreV w12 ⟨b11,0,none⟩ [.int .i64 r9.1.1,.int .i64 r9.1.2.1,.int .i64 r9.1.2.2.1,.int .i64 r9.1.2.2.2.1,.int .i64 r9.1.2.2.2.2.1,.int .i64 r9.1.2.2.2.2.2.1] λw13=>
 LoadA w13 ⟨b1,0,none⟩ [.bool,.int .i64,.int .u64,.int .u64,.sl,.bool,.int .i64,.int .u64,.int .u64,.sl,.bool,.int .i64,.int .u64,.int .u64,.sl,.bool,.int .i64,.int .u64,.int .u64,.sl] λ(x14:Bool×Int×Int×Int×SlV×Bool×Int×Int×Int×SlV×Bool×Int×Int×Int×SlV×Bool×Int×Int×Int×SlV×Unit)=>
 CallV Tryz.prog 30 #[.agg #[.bool x14.1,.int .i64 x14.2.1,.int .u64 x14.2.2.1,.int .u64 x14.2.2.2.1,.slice x14.2.2.2.2.1.a x14.2.2.2.2.1.n x14.2.2.2.2.1.c,.bool x14.2.2.2.2.2.1,.int .i64 x14.2.2.2.2.2.2.1,.int .u64 x14.2.2.2.2.2.2.2.1,.int .u64 x14.2.2.2.2.2.2.2.2.1,.slice x14.2.2.2.2.2.2.2.2.2.1.a x14.2.2.2.2.2.2.2.2.2.1.n x14.2.2.2.2.2.2.2.2.2.1.c,.bool x14.2.2.2.2.2.2.2.2.2.2.1,.int .i64 x14.2.2.2.2.2.2.2.2.2.2.2.1,.int .u64 x14.2.2.2.2.2.2.2.2.2.2.2.2.1,.int .u64 x14.2.2.2.2.2.2.2.2.2.2.2.2.2.1,.slice x14.2.2.2.2.2.2.2.2.2.2.2.2.2.2.1.a x14.2.2.2.2.2.2.2.2.2.2.2.2.2.2.1.n x14.2.2.2.2.2.2.2.2.2.2.2.2.2.2.1.c,.bool x14.2.2.2.2.2.2.2.2.2.2.2.2.2.2.2.1,.int .i64 x14.2.2.2.2.2.2.2.2.2.2.2.2.2.2.2.2.1,.int .u64 x14.2.2.2.2.2.2.2.2.2.2.2.2.2.2.2.2.2.1,.int .u64 x14.2.2.2.2.2.2.2.2.2.2.2.2.2.2.2.2.2.2.1,.slice x14.2.2.2.2.2.2.2.2.2.2.2.2.2.2.2.2.2.2.2.1.a x14.2.2.2.2.2.2.2.2.2.2.2.2.2.2.2.2.2.2.2.1.n x14.2.2.2.2.2.2.2.2.2.2.2.2.2.2.2.2.2.2.2.1.c]] w13 [.one .ptr] λ(r15:(Option Addr)×Unit) w16=>
 NewV #[.pointer none,.pointer none,.slice none 0 0] 69 w16 λb17 w18=>
 StoreV w18 ⟨b17,0,none⟩ [.pointer r15.1,.pointer none,.slice none 0 0] λw19=>
 LoadA w19 ⟨b11,0,none⟩ [.int .i64,.int .i64,.int .i64,.int .i64,.int .i64,.int .i64] λ(x20:Int×Int×Int×Int×Int×Int×Unit)=>
 CallV Tryz.prog 31 #[.agg #[.int .i64 x20.1,.int .i64 x20.2.1,.int .i64 x20.2.2.1,.int .i64 x20.2.2.2.1,.int .i64 x20.2.2.2.2.1,.int .i64 x20.2.2.2.2.2.1]] w19 [.one (.int .i64)] λ(r21:Int×Unit) w22=>
 LoopV [.one .sl,.one (.int .i64)] ((⟨none,0,0⟩:SlV),(0:Int),()) w22 λ(z23:SlV×Int×Unit) w24 (K25:SlV×Int×Unit->World->Prop)=>
 cond (decide (z23.2.1<r21.1))
 (LoadA w24 ⟨b11,0,none⟩ [.int .i64,.int .i64,.int .i64,.int .i64,.int .i64,.int .i64] λ(x26:Int×Int×Int×Int×Int×Int×Unit)=>
 Rng .i64 ((4:Int)+z23.2.1) /\
 CallV Tryz.prog 32 #[.pointer (some p0),.agg #[.int .i64 x26.1,.int .i64 x26.2.1,.int .i64 x26.2.2.1,.int .i64 x26.2.2.2.1,.int .i64 x26.2.2.2.2.1,.int .i64 x26.2.2.2.2.2.1],.int .i64 ((4:Int)+z23.2.1)] w24 [.one .sl,.one (.int .i64)] λ(r27:SlV×Int×Unit) w28=>
 cond (r27.2.1 != 0)
 (StoreV w28 ⟨b3,0,none⟩ [.pointer none,.pointer none,.slice none 0 0] λw29=>
 LoadA w29 ⟨b3,0,none⟩ [.ptr,.ptr,.sl] λ(x30:(Option Addr)×(Option Addr)×SlV×Unit)=>
 K ((x30.1,x30.2.1,x30.2.2.1,()),r27.2.1,()) w29)
 (LoadA w28 ⟨b11,0,none⟩ [.int .i64,.int .i64,.int .i64,.int .i64,.int .i64,.int .i64] λ(x31:Int×Int×Int×Int×Int×Int×Unit)=>
 Rng .i64 ((4:Int)+z23.2.1) /\
 CallV Tryz.prog 7 #[.agg #[.int .i64 x31.1,.int .i64 x31.2.1,.int .i64 x31.2.2.1,.int .i64 x31.2.2.2.1,.int .i64 x31.2.2.2.2.1,.int .i64 x31.2.2.2.2.2.1],.int .i64 ((4:Int)+z23.2.1),.slice r27.1.a r27.1.n r27.1.c] w28 [.agg [.bool,.int .i64,.int .i64,.int .i64,.int .i64,.int .i64,.int .u32,.int .u64,.int .u64,.sl]] λ(r32:(Bool×Int×Int×Int×Int×Int×Int×Int×Int×SlV×Unit)×Unit) w33=>
 NewV #[.bool false,.int .i64 0,.int .i64 0,.int .i64 0,.int .i64 0,.int .i64 0,.int .u32 0,.int .u64 0,.int .u64 0,.slice none 0 0] 38 w33 λb34 w35=>
 StoreV w35 ⟨b34,0,none⟩ [.bool r32.1.1,.int .i64 r32.1.2.1,.int .i64 r32.1.2.2.1,.int .i64 r32.1.2.2.2.1,.int .i64 r32.1.2.2.2.2.1,.int .i64 r32.1.2.2.2.2.2.1,.int .u32 r32.1.2.2.2.2.2.2.1,.int .u64 r32.1.2.2.2.2.2.2.2.1,.int .u64 r32.1.2.2.2.2.2.2.2.2.1,.slice r32.1.2.2.2.2.2.2.2.2.2.1.a r32.1.2.2.2.2.2.2.2.2.2.1.n r32.1.2.2.2.2.2.2.2.2.2.1.c] λw36=>
 LoadS w36 ⟨b17,0,none⟩ .ptr λ(x37:Option Addr)=>
 LoadA w36 ⟨b1,0,none⟩ [.bool,.int .i64,.int .u64,.int .u64,.sl,.bool,.int .i64,.int .u64,.int .u64,.sl,.bool,.int .i64,.int .u64,.int .u64,.sl,.bool,.int .i64,.int .u64,.int .u64,.sl] λ(x38:Bool×Int×Int×Int×SlV×Bool×Int×Int×Int×SlV×Bool×Int×Int×Int×SlV×Bool×Int×Int×Int×SlV×Unit)=>
 LoadA w36 ⟨b34,0,none⟩ [.bool,.int .i64,.int .i64,.int .i64,.int .i64,.int .i64,.int .u32,.int .u64,.int .u64,.sl] λ(x39:Bool×Int×Int×Int×Int×Int×Int×Int×Int×SlV×Unit)=>
 CallV Tryz.prog 33 #[.pointer x37,.agg #[.bool x38.1,.int .i64 x38.2.1,.int .u64 x38.2.2.1,.int .u64 x38.2.2.2.1,.slice x38.2.2.2.2.1.a x38.2.2.2.2.1.n x38.2.2.2.2.1.c,.bool x38.2.2.2.2.2.1,.int .i64 x38.2.2.2.2.2.2.1,.int .u64 x38.2.2.2.2.2.2.2.1,.int .u64 x38.2.2.2.2.2.2.2.2.1,.slice x38.2.2.2.2.2.2.2.2.2.1.a x38.2.2.2.2.2.2.2.2.2.1.n x38.2.2.2.2.2.2.2.2.2.1.c,.bool x38.2.2.2.2.2.2.2.2.2.2.1,.int .i64 x38.2.2.2.2.2.2.2.2.2.2.2.1,.int .u64 x38.2.2.2.2.2.2.2.2.2.2.2.2.1,.int .u64 x38.2.2.2.2.2.2.2.2.2.2.2.2.2.1,.slice x38.2.2.2.2.2.2.2.2.2.2.2.2.2.2.1.a x38.2.2.2.2.2.2.2.2.2.2.2.2.2.2.1.n x38.2.2.2.2.2.2.2.2.2.2.2.2.2.2.1.c,.bool x38.2.2.2.2.2.2.2.2.2.2.2.2.2.2.2.1,.int .i64 x38.2.2.2.2.2.2.2.2.2.2.2.2.2.2.2.2.1,.int .u64 x38.2.2.2.2.2.2.2.2.2.2.2.2.2.2.2.2.2.1,.int .u64 x38.2.2.2.2.2.2.2.2.2.2.2.2.2.2.2.2.2.2.1,.slice x38.2.2.2.2.2.2.2.2.2.2.2.2.2.2.2.2.2.2.2.1.a x38.2.2.2.2.2.2.2.2.2.2.2.2.2.2.2.2.2.2.2.1.n x38.2.2.2.2.2.2.2.2.2.2.2.2.2.2.2.2.2.2.2.1.c],.agg #[.bool x39.1,.int .i64 x39.2.1,.int .i64 x39.2.2.1,.int .i64 x39.2.2.2.1,.int .i64 x39.2.2.2.2.1,.int .i64 x39.2.2.2.2.2.1,.int .u32 x39.2.2.2.2.2.2.1,.int .u64 x39.2.2.2.2.2.2.2.1,.int .u64 x39.2.2.2.2.2.2.2.2.1,.slice x39.2.2.2.2.2.2.2.2.2.1.a x39.2.2.2.2.2.2.2.2.2.1.n x39.2.2.2.2.2.2.2.2.2.1.c]] w36 [] λ(r40:Unit) w41=>
 DrawV λD42=>
 (D42 b34/\LoadA w41.drew ⟨b34,0,none⟩ [.bool,.int .i64,.int .i64,.int .i64,.int .i64,.int .i64,.int .u32,.int .u64,.int .u64,.sl] λ(x43:Bool×Int×Int×Int×Int×Int×Int×Int×Int×SlV×Unit)=>
 (D42 b34/\LoadA w41.drew ⟨b34,3,none⟩ [.int .i64,.int .i64,.int .i64,.int .u32,.int .u64,.int .u64] λ(x44:Int×Int×Int×Int×Int×Int×Unit)=>
 ((NewV #[.bool x43.1,.int .i64 x43.2.1,.int .i64 x43.2.2.1,.int .i64 x43.2.2.2.1,.int .i64 x43.2.2.2.2.1,.int .i64 x43.2.2.2.2.2.1,.int .u32 x43.2.2.2.2.2.2.1,.int .u64 x43.2.2.2.2.2.2.2.1,.int .u64 x43.2.2.2.2.2.2.2.2.1,.slice x43.2.2.2.2.2.2.2.2.2.1.a x43.2.2.2.2.2.2.2.2.2.1.n x43.2.2.2.2.2.2.2.2.2.1.c] 38 w41.drew λb45 w46=>
 KeepOn D42 w41.drew w46 /\
 ((AppS w46 (some ⟨b45,0,none⟩) 1 10 λns51=>
 AppV w46 38 10 96 z23.1.a z23.1.n z23.1.c ns51 1 λa47 n48 c49 w50=>
 KeepOn D42 w41.drew w50 /\
 ((LoadS w50 ⟨b17,2,none⟩ .sl λ(x52:SlV)=>
 KeepOn D42 w41.drew w50 /\
 NewV #[.int .i64 x44.1,.int .i64 x44.2.1,.int .i64 x44.2.2.1,.int .u32 x44.2.2.2.1,.int .u64 x44.2.2.2.2.1,.int .u64 x44.2.2.2.2.2.1] 35 w50 λb53 w54=>
 KeepOn D42 w41.drew w54 /\
 AppS w54 (some ⟨b53,0,none⟩) 1 6 λns59=>
 AppV w54 35 6 48 x52.a x52.n x52.c ns59 1 λa55 n56 c57 w58=>
 KeepOn D42 w41.drew w58 /\
 StoreV w58 ⟨b17,2,none⟩ [.slice a55 n56 c57] λw60=>
 KeepOn D42 w41.drew w60 /\
 Rng .i64 (z23.2.1+1) /\
 K25 ((⟨a47,n48,c49⟩:SlV),z23.2.1+1,()) w60) /\
 (NewV #[.int .i64 x44.1,.int .i64 x44.2.1,.int .i64 x44.2.2.1,.int .u32 x44.2.2.2.1,.int .u64 x44.2.2.2.2.1,.int .u64 x44.2.2.2.2.2.1] 35 w50 λb61 w62=>
 KeepOn D42 w41.drew w62 /\
 LoadS w62 ⟨b17,2,none⟩ .sl λ(x63:SlV)=>
 KeepOn D42 w41.drew w62 /\
 AppS w62 (some ⟨b61,0,none⟩) 1 6 λns68=>
 AppV w62 35 6 48 x63.a x63.n x63.c ns68 1 λa64 n65 c66 w67=>
 KeepOn D42 w41.drew w67 /\
 StoreV w67 ⟨b17,2,none⟩ [.slice a64 n65 c66] λw69=>
 KeepOn D42 w41.drew w69 /\
 Rng .i64 (z23.2.1+1) /\
 K25 ((⟨a47,n48,c49⟩:SlV),z23.2.1+1,()) w69))) /\
 (LoadS w46 ⟨b17,2,none⟩ .sl λ(x70:SlV)=>
 KeepOn D42 w41.drew w46 /\
 ((AppS w46 (some ⟨b45,0,none⟩) 1 10 λns75=>
 AppV w46 38 10 96 z23.1.a z23.1.n z23.1.c ns75 1 λa71 n72 c73 w74=>
 KeepOn D42 w41.drew w74 /\
 NewV #[.int .i64 x44.1,.int .i64 x44.2.1,.int .i64 x44.2.2.1,.int .u32 x44.2.2.2.1,.int .u64 x44.2.2.2.2.1,.int .u64 x44.2.2.2.2.2.1] 35 w74 λb76 w77=>
 KeepOn D42 w41.drew w77 /\
 AppS w77 (some ⟨b76,0,none⟩) 1 6 λns82=>
 AppV w77 35 6 48 x70.a x70.n x70.c ns82 1 λa78 n79 c80 w81=>
 KeepOn D42 w41.drew w81 /\
 StoreV w81 ⟨b17,2,none⟩ [.slice a78 n79 c80] λw83=>
 KeepOn D42 w41.drew w83 /\
 Rng .i64 (z23.2.1+1) /\
 K25 ((⟨a71,n72,c73⟩:SlV),z23.2.1+1,()) w83) /\
 (NewV #[.int .i64 x44.1,.int .i64 x44.2.1,.int .i64 x44.2.2.1,.int .u32 x44.2.2.2.1,.int .u64 x44.2.2.2.2.1,.int .u64 x44.2.2.2.2.2.1] 35 w46 λb84 w85=>
 KeepOn D42 w41.drew w85 /\
 AppS w85 (some ⟨b45,0,none⟩) 1 10 λns90=>
 AppV w85 38 10 96 z23.1.a z23.1.n z23.1.c ns90 1 λa86 n87 c88 w89=>
 KeepOn D42 w41.drew w89 /\
 AppS w89 (some ⟨b84,0,none⟩) 1 6 λns95=>
 AppV w89 35 6 48 x70.a x70.n x70.c ns95 1 λa91 n92 c93 w94=>
 KeepOn D42 w41.drew w94 /\
 StoreV w94 ⟨b17,2,none⟩ [.slice a91 n92 c93] λw96=>
 KeepOn D42 w41.drew w96 /\
 Rng .i64 (z23.2.1+1) /\
 K25 ((⟨a86,n87,c88⟩:SlV),z23.2.1+1,()) w96))) /\
 (NewV #[.int .i64 x44.1,.int .i64 x44.2.1,.int .i64 x44.2.2.1,.int .u32 x44.2.2.2.1,.int .u64 x44.2.2.2.2.1,.int .u64 x44.2.2.2.2.2.1] 35 w46 λb97 w98=>
 KeepOn D42 w41.drew w98 /\
 ((AppS w98 (some ⟨b45,0,none⟩) 1 10 λns103=>
 AppV w98 38 10 96 z23.1.a z23.1.n z23.1.c ns103 1 λa99 n100 c101 w102=>
 KeepOn D42 w41.drew w102 /\
 LoadS w102 ⟨b17,2,none⟩ .sl λ(x104:SlV)=>
 KeepOn D42 w41.drew w102 /\
 AppS w102 (some ⟨b97,0,none⟩) 1 6 λns109=>
 AppV w102 35 6 48 x104.a x104.n x104.c ns109 1 λa105 n106 c107 w108=>
 KeepOn D42 w41.drew w108 /\
 StoreV w108 ⟨b17,2,none⟩ [.slice a105 n106 c107] λw110=>
 KeepOn D42 w41.drew w110 /\
 Rng .i64 (z23.2.1+1) /\
 K25 ((⟨a99,n100,c101⟩:SlV),z23.2.1+1,()) w110) /\
 (LoadS w98 ⟨b17,2,none⟩ .sl λ(x111:SlV)=>
 KeepOn D42 w41.drew w98 /\
 AppS w98 (some ⟨b45,0,none⟩) 1 10 λns116=>
 AppV w98 38 10 96 z23.1.a z23.1.n z23.1.c ns116 1 λa112 n113 c114 w115=>
 KeepOn D42 w41.drew w115 /\
 AppS w115 (some ⟨b97,0,none⟩) 1 6 λns121=>
 AppV w115 35 6 48 x111.a x111.n x111.c ns121 1 λa117 n118 c119 w120=>
 KeepOn D42 w41.drew w120 /\
 StoreV w120 ⟨b17,2,none⟩ [.slice a117 n118 c119] λw122=>
 KeepOn D42 w41.drew w122 /\
 Rng .i64 (z23.2.1+1) /\
 K25 ((⟨a112,n113,c114⟩:SlV),z23.2.1+1,()) w122))))) /\
 (LoadS w41.drew ⟨b17,2,none⟩ .sl λ(x123:SlV)=>
 KeepOn D42 w41.drew w41.drew /\
 ((NewV #[.bool x43.1,.int .i64 x43.2.1,.int .i64 x43.2.2.1,.int .i64 x43.2.2.2.1,.int .i64 x43.2.2.2.2.1,.int .i64 x43.2.2.2.2.2.1,.int .u32 x43.2.2.2.2.2.2.1,.int .u64 x43.2.2.2.2.2.2.2.1,.int .u64 x43.2.2.2.2.2.2.2.2.1,.slice x43.2.2.2.2.2.2.2.2.2.1.a x43.2.2.2.2.2.2.2.2.2.1.n x43.2.2.2.2.2.2.2.2.2.1.c] 38 w41.drew λb124 w125=>
 KeepOn D42 w41.drew w125 /\
 ((AppS w125 (some ⟨b124,0,none⟩) 1 10 λns130=>
 AppV w125 38 10 96 z23.1.a z23.1.n z23.1.c ns130 1 λa126 n127 c128 w129=>
 KeepOn D42 w41.drew w129 /\
 NewV #[.int .i64 x44.1,.int .i64 x44.2.1,.int .i64 x44.2.2.1,.int .u32 x44.2.2.2.1,.int .u64 x44.2.2.2.2.1,.int .u64 x44.2.2.2.2.2.1] 35 w129 λb131 w132=>
 KeepOn D42 w41.drew w132 /\
 AppS w132 (some ⟨b131,0,none⟩) 1 6 λns137=>
 AppV w132 35 6 48 x123.a x123.n x123.c ns137 1 λa133 n134 c135 w136=>
 KeepOn D42 w41.drew w136 /\
 StoreV w136 ⟨b17,2,none⟩ [.slice a133 n134 c135] λw138=>
 KeepOn D42 w41.drew w138 /\
 Rng .i64 (z23.2.1+1) /\
 K25 ((⟨a126,n127,c128⟩:SlV),z23.2.1+1,()) w138) /\
 (NewV #[.int .i64 x44.1,.int .i64 x44.2.1,.int .i64 x44.2.2.1,.int .u32 x44.2.2.2.1,.int .u64 x44.2.2.2.2.1,.int .u64 x44.2.2.2.2.2.1] 35 w125 λb139 w140=>
 KeepOn D42 w41.drew w140 /\
 AppS w140 (some ⟨b124,0,none⟩) 1 10 λns145=>
 AppV w140 38 10 96 z23.1.a z23.1.n z23.1.c ns145 1 λa141 n142 c143 w144=>
 KeepOn D42 w41.drew w144 /\
 AppS w144 (some ⟨b139,0,none⟩) 1 6 λns150=>
 AppV w144 35 6 48 x123.a x123.n x123.c ns150 1 λa146 n147 c148 w149=>
 KeepOn D42 w41.drew w149 /\
 StoreV w149 ⟨b17,2,none⟩ [.slice a146 n147 c148] λw151=>
 KeepOn D42 w41.drew w151 /\
 Rng .i64 (z23.2.1+1) /\
 K25 ((⟨a141,n142,c143⟩:SlV),z23.2.1+1,()) w151))) /\
 (NewV #[.int .i64 x44.1,.int .i64 x44.2.1,.int .i64 x44.2.2.1,.int .u32 x44.2.2.2.1,.int .u64 x44.2.2.2.2.1,.int .u64 x44.2.2.2.2.2.1] 35 w41.drew λb152 w153=>
 KeepOn D42 w41.drew w153 /\
 NewV #[.bool x43.1,.int .i64 x43.2.1,.int .i64 x43.2.2.1,.int .i64 x43.2.2.2.1,.int .i64 x43.2.2.2.2.1,.int .i64 x43.2.2.2.2.2.1,.int .u32 x43.2.2.2.2.2.2.1,.int .u64 x43.2.2.2.2.2.2.2.1,.int .u64 x43.2.2.2.2.2.2.2.2.1,.slice x43.2.2.2.2.2.2.2.2.2.1.a x43.2.2.2.2.2.2.2.2.2.1.n x43.2.2.2.2.2.2.2.2.2.1.c] 38 w153 λb154 w155=>
 KeepOn D42 w41.drew w155 /\
 AppS w155 (some ⟨b154,0,none⟩) 1 10 λns160=>
 AppV w155 38 10 96 z23.1.a z23.1.n z23.1.c ns160 1 λa156 n157 c158 w159=>
 KeepOn D42 w41.drew w159 /\
 AppS w159 (some ⟨b152,0,none⟩) 1 6 λns165=>
 AppV w159 35 6 48 x123.a x123.n x123.c ns165 1 λa161 n162 c163 w164=>
 KeepOn D42 w41.drew w164 /\
 StoreV w164 ⟨b17,2,none⟩ [.slice a161 n162 c163] λw166=>
 KeepOn D42 w41.drew w166 /\
 Rng .i64 (z23.2.1+1) /\
 K25 ((⟨a156,n157,c158⟩:SlV),z23.2.1+1,()) w166))) /\
 (NewV #[.int .i64 x44.1,.int .i64 x44.2.1,.int .i64 x44.2.2.1,.int .u32 x44.2.2.2.1,.int .u64 x44.2.2.2.2.1,.int .u64 x44.2.2.2.2.2.1] 35 w41.drew λb167 w168=>
 KeepOn D42 w41.drew w168 /\
 ((NewV #[.bool x43.1,.int .i64 x43.2.1,.int .i64 x43.2.2.1,.int .i64 x43.2.2.2.1,.int .i64 x43.2.2.2.2.1,.int .i64 x43.2.2.2.2.2.1,.int .u32 x43.2.2.2.2.2.2.1,.int .u64 x43.2.2.2.2.2.2.2.1,.int .u64 x43.2.2.2.2.2.2.2.2.1,.slice x43.2.2.2.2.2.2.2.2.2.1.a x43.2.2.2.2.2.2.2.2.2.1.n x43.2.2.2.2.2.2.2.2.2.1.c] 38 w168 λb169 w170=>
 KeepOn D42 w41.drew w170 /\
 ((AppS w170 (some ⟨b169,0,none⟩) 1 10 λns175=>
 AppV w170 38 10 96 z23.1.a z23.1.n z23.1.c ns175 1 λa171 n172 c173 w174=>
 KeepOn D42 w41.drew w174 /\
 LoadS w174 ⟨b17,2,none⟩ .sl λ(x176:SlV)=>
 KeepOn D42 w41.drew w174 /\
 AppS w174 (some ⟨b167,0,none⟩) 1 6 λns181=>
 AppV w174 35 6 48 x176.a x176.n x176.c ns181 1 λa177 n178 c179 w180=>
 KeepOn D42 w41.drew w180 /\
 StoreV w180 ⟨b17,2,none⟩ [.slice a177 n178 c179] λw182=>
 KeepOn D42 w41.drew w182 /\
 Rng .i64 (z23.2.1+1) /\
 K25 ((⟨a171,n172,c173⟩:SlV),z23.2.1+1,()) w182) /\
 (LoadS w170 ⟨b17,2,none⟩ .sl λ(x183:SlV)=>
 KeepOn D42 w41.drew w170 /\
 AppS w170 (some ⟨b169,0,none⟩) 1 10 λns188=>
 AppV w170 38 10 96 z23.1.a z23.1.n z23.1.c ns188 1 λa184 n185 c186 w187=>
 KeepOn D42 w41.drew w187 /\
 AppS w187 (some ⟨b167,0,none⟩) 1 6 λns193=>
 AppV w187 35 6 48 x183.a x183.n x183.c ns193 1 λa189 n190 c191 w192=>
 KeepOn D42 w41.drew w192 /\
 StoreV w192 ⟨b17,2,none⟩ [.slice a189 n190 c191] λw194=>
 KeepOn D42 w41.drew w194 /\
 Rng .i64 (z23.2.1+1) /\
 K25 ((⟨a184,n185,c186⟩:SlV),z23.2.1+1,()) w194))) /\
 (LoadS w168 ⟨b17,2,none⟩ .sl λ(x195:SlV)=>
 KeepOn D42 w41.drew w168 /\
 NewV #[.bool x43.1,.int .i64 x43.2.1,.int .i64 x43.2.2.1,.int .i64 x43.2.2.2.1,.int .i64 x43.2.2.2.2.1,.int .i64 x43.2.2.2.2.2.1,.int .u32 x43.2.2.2.2.2.2.1,.int .u64 x43.2.2.2.2.2.2.2.1,.int .u64 x43.2.2.2.2.2.2.2.2.1,.slice x43.2.2.2.2.2.2.2.2.2.1.a x43.2.2.2.2.2.2.2.2.2.1.n x43.2.2.2.2.2.2.2.2.2.1.c] 38 w168 λb196 w197=>
 KeepOn D42 w41.drew w197 /\
 AppS w197 (some ⟨b196,0,none⟩) 1 10 λns202=>
 AppV w197 38 10 96 z23.1.a z23.1.n z23.1.c ns202 1 λa198 n199 c200 w201=>
 KeepOn D42 w41.drew w201 /\
 AppS w201 (some ⟨b167,0,none⟩) 1 6 λns207=>
 AppV w201 35 6 48 x195.a x195.n x195.c ns207 1 λa203 n204 c205 w206=>
 KeepOn D42 w41.drew w206 /\
 StoreV w206 ⟨b17,2,none⟩ [.slice a203 n204 c205] λw208=>
 KeepOn D42 w41.drew w208 /\
 Rng .i64 (z23.2.1+1) /\
 K25 ((⟨a198,n199,c200⟩:SlV),z23.2.1+1,()) w208))))))))
 (CallV Tryz.prog 34 #[.int .i64 ((z23.1.n:Nat):Int)] w24 [.one .ptr,.one (.int .i64)] λ(r209:(Option Addr)×Int×Unit) w210=>
 StoreV w210 ⟨b17,1,none⟩ [.pointer r209.1] λw211=>
 LoopV [.one (.int .i64)] ((0:Int),()) w211 λ(z212:Int×Unit) w213 (K214:Int×Unit->World->Prop)=>
 cond (decide (z212.1<((z23.1.n:Nat):Int)))
 ((0<=z212.1/\z212.1<((z23.1.n:Nat):Int))/\∃ q215:Addr,z23.1.a=some q215 /\
 LoadA w213 (q215.add (z212.1.toNat*10)) [.bool,.int .i64,.int .i64,.int .i64,.int .i64,.int .i64,.int .u32,.int .u64,.int .u64,.sl] λ(x216:Bool×Int×Int×Int×Int×Int×Int×Int×Int×SlV×Unit)=>
 NewV #[.bool false,.int .i64 0,.int .i64 0,.int .i64 0,.int .i64 0,.int .i64 0,.int .u32 0,.int .u64 0,.int .u64 0,.slice none 0 0] 38 w213 λb217 w218=>
 StoreV w218 ⟨b217,0,none⟩ [.bool x216.1,.int .i64 x216.2.1,.int .i64 x216.2.2.1,.int .i64 x216.2.2.2.1,.int .i64 x216.2.2.2.2.1,.int .i64 x216.2.2.2.2.2.1,.int .u32 x216.2.2.2.2.2.2.1,.int .u64 x216.2.2.2.2.2.2.2.1,.int .u64 x216.2.2.2.2.2.2.2.2.1,.slice x216.2.2.2.2.2.2.2.2.2.1.a x216.2.2.2.2.2.2.2.2.2.1.n x216.2.2.2.2.2.2.2.2.2.1.c] λw219=>
 JoinV [.one .ptr] (λ(v221:(Option Addr)×Unit) w222=>
 Rng .i64 ((4:Int)+z212.1) /\
 (0:Int)<=((4:Int)+z212.1) /\
 PtrK v221.1 λq223=>
 StoreV w222 (q223.add 6) [.bool ((Go.bits .and .u64 (Int.fdiv p2 (2 ^ (Nat.min (((4:Int)+z212.1)).toNat 64))) 1) == 1)] λw224=>
 LoadS w224 ⟨b17,1,none⟩ .ptr λ(x225:Option Addr)=>
 PtrK v221.1 λq226=>
 LoadA w224 q226 [.int .i64,.int .i64,.int .i64,.int .i64,.bool,.bool,.bool,.bool,.bool] λ(x227:Int×Int×Int×Int×Bool×Bool×Bool×Bool×Bool×Unit)=>
 CallV Tryz.prog 38 #[.pointer x225,.int .i64 z212.1,.agg #[.int .i64 x227.1,.int .i64 x227.2.1,.int .i64 x227.2.2.1,.int .i64 x227.2.2.2.1,.bool x227.2.2.2.2.1,.bool x227.2.2.2.2.2.1,.bool x227.2.2.2.2.2.2.1,.bool x227.2.2.2.2.2.2.2.1,.bool x227.2.2.2.2.2.2.2.2.1]] w224 [.one (.int .i64)] λ(r228:Int×Unit) w229=>
 Rng .i64 (z212.1+1) /\
 K214 (z212.1+1,()) w229) λ(J220:(Option Addr)×Unit->World->Prop)=>
 DrawV λD230=>
 (D230 b11/\LoadA w219.drew ⟨b11,0,none⟩ [.int .i64,.int .i64,.int .i64,.int .i64,.int .i64,.int .i64] λ(x231:Int×Int×Int×Int×Int×Int×Unit)=>
 (D230 b217/\LoadA w219.drew ⟨b217,0,none⟩ [.bool,.int .i64,.int .i64,.int .i64,.int .i64,.int .i64,.int .u32,.int .u64,.int .u64,.sl] λ(x232:Bool×Int×Int×Int×Int×Int×Int×Int×Int×SlV×Unit)=>
 (D230 b17/\LoadS w219.drew ⟨b17,0,none⟩ .ptr λ(x233:Option Addr)=>
 Rng .i64 ((4:Int)+z212.1) /\
 ((CallV Tryz.prog 36 #[.pointer x233,.int .i64 ((4:Int)+z212.1)] w219.drew [.one .sl] λ(r234:SlV×Unit) w235=>
 KeepOn D230 w219.drew w235 /\
 ((CallV Tryz.prog 37 #[.slice z23.1.a z23.1.n z23.1.c] w235 [.one (.int .i64)] λ(r236:Int×Unit) w237=>
 KeepOn D230 w219.drew w237 /\
 ((CallV Tryz.prog 35 #[.agg #[.int .i64 x231.1,.int .i64 x231.2.1,.int .i64 x231.2.2.1,.int .i64 x231.2.2.2.1,.int .i64 x231.2.2.2.2.1,.int .i64 x231.2.2.2.2.2.1],.agg #[.bool x232.1,.int .i64 x232.2.1,.int .i64 x232.2.2.1,.int .i64 x232.2.2.2.1,.int .i64 x232.2.2.2.2.1,.int .i64 x232.2.2.2.2.2.1,.int .u32 x232.2.2.2.2.2.2.1,.int .u64 x232.2.2.2.2.2.2.2.1,.int .u64 x232.2.2.2.2.2.2.2.2.1,.slice x232.2.2.2.2.2.2.2.2.2.1.a x232.2.2.2.2.2.2.2.2.2.1.n x232.2.2.2.2.2.2.2.2.2.1.c],.int .i64 ((r234.1.n:Nat):Int),.int .i64 r236.1] w237 [.agg [.int .i64,.int .i64,.int .i64,.int .i64,.bool,.bool,.bool,.bool,.bool]] λ(r238:(Int×Int×Int×Int×Bool×Bool×Bool×Bool×Bool×Unit)×Unit) w239=>
 KeepOn D230 w219.drew w239 /\
 NewV #[.int .i64 0,.int .i64 0,.int .i64 0,.int .i64 0,.bool false,.bool false,.bool false,.bool false,.bool false] 98 w239 λb240 w241=>
 KeepOn D230 w219.drew w241 /\
 StoreV w241 ⟨b240,0,none⟩ [.int .i64 r238.1.1,.int .i64 r238.1.2.1,.int .i64 r238.1.2.2.1,.int .i64 r238.1.2.2.2.1,.bool r238.1.2.2.2.2.1,.bool r238.1.2.2.2.2.2.1,.bool r238.1.2.2.2.2.2.2.1,.bool r238.1.2.2.2.2.2.2.2.1,.bool r238.1.2.2.2.2.2.2.2.2.1] λw242=>
 KeepOn D230 w219.drew w242 /\
 J220 ((some ⟨b240,0,none⟩),()) w242) /\
 (NewV #[.int .i64 0,.int .i64 0,.int .i64 0,.int .i64 0,.bool false,.bool false,.bool false,.bool false,.bool false] 98 w237 λb243 w244=>
 KeepOn D230 w219.drew w244 /\
 CallV Tryz.prog 35 #[.agg #[.int .i64 x231.1,.int .i64 x231.2.1,.int .i64 x231.2.2.1,.int .i64 x231.2.2.2.1,.int .i64 x231.2.2.2.2.1,.int .i64 x231.2.2.2.2.2.1],.agg #[.bool x232.1,.int .i64 x232.2.1,.int .i64 x232.2.2.1,.int .i64 x232.2.2.2.1,.int .i64 x232.2.2.2.2.1,.int .i64 x232.2.2.2.2.2.1,.int .u32 x232.2.2.2.2.2.2.1,.int .u64 x232.2.2.2.2.2.2.2.1,.int .u64 x232.2.2.2.2.2.2.2.2.1,.slice x232.2.2.2.2.2.2.2.2.2.1.a x232.2.2.2.2.2.2.2.2.2.1.n x232.2.2.2.2.2.2.2.2.2.1.c],.int .i64 ((r234.1.n:Nat):Int),.int .i64 r236.1] w244 [.agg [.int .i64,.int .i64,.int .i64,.int .i64,.bool,.bool,.bool,.bool,.bool]] λ(r245:(Int×Int×Int×Int×Bool×Bool×Bool×Bool×Bool×Unit)×Unit) w246=>
 KeepOn D230 w219.drew w246 /\
 StoreV w246 ⟨b243,0,none⟩ [.int .i64 r245.1.1,.int .i64 r245.1.2.1,.int .i64 r245.1.2.2.1,.int .i64 r245.1.2.2.2.1,.bool r245.1.2.2.2.2.1,.bool r245.1.2.2.2.2.2.1,.bool r245.1.2.2.2.2.2.2.1,.bool r245.1.2.2.2.2.2.2.2.1,.bool r245.1.2.2.2.2.2.2.2.2.1] λw247=>
 KeepOn D230 w219.drew w247 /\
 J220 ((some ⟨b243,0,none⟩),()) w247))) /\
 (NewV #[.int .i64 0,.int .i64 0,.int .i64 0,.int .i64 0,.bool false,.bool false,.bool false,.bool false,.bool false] 98 w235 λb248 w249=>
 KeepOn D230 w219.drew w249 /\
 CallV Tryz.prog 37 #[.slice z23.1.a z23.1.n z23.1.c] w249 [.one (.int .i64)] λ(r250:Int×Unit) w251=>
 KeepOn D230 w219.drew w251 /\
 CallV Tryz.prog 35 #[.agg #[.int .i64 x231.1,.int .i64 x231.2.1,.int .i64 x231.2.2.1,.int .i64 x231.2.2.2.1,.int .i64 x231.2.2.2.2.1,.int .i64 x231.2.2.2.2.2.1],.agg #[.bool x232.1,.int .i64 x232.2.1,.int .i64 x232.2.2.1,.int .i64 x232.2.2.2.1,.int .i64 x232.2.2.2.2.1,.int .i64 x232.2.2.2.2.2.1,.int .u32 x232.2.2.2.2.2.2.1,.int .u64 x232.2.2.2.2.2.2.2.1,.int .u64 x232.2.2.2.2.2.2.2.2.1,.slice x232.2.2.2.2.2.2.2.2.2.1.a x232.2.2.2.2.2.2.2.2.2.1.n x232.2.2.2.2.2.2.2.2.2.1.c],.int .i64 ((r234.1.n:Nat):Int),.int .i64 r250.1] w251 [.agg [.int .i64,.int .i64,.int .i64,.int .i64,.bool,.bool,.bool,.bool,.bool]] λ(r252:(Int×Int×Int×Int×Bool×Bool×Bool×Bool×Bool×Unit)×Unit) w253=>
 KeepOn D230 w219.drew w253 /\
 StoreV w253 ⟨b248,0,none⟩ [.int .i64 r252.1.1,.int .i64 r252.1.2.1,.int .i64 r252.1.2.2.1,.int .i64 r252.1.2.2.2.1,.bool r252.1.2.2.2.2.1,.bool r252.1.2.2.2.2.2.1,.bool r252.1.2.2.2.2.2.2.1,.bool r252.1.2.2.2.2.2.2.2.1,.bool r252.1.2.2.2.2.2.2.2.2.1] λw254=>
 KeepOn D230 w219.drew w254 /\
 J220 ((some ⟨b248,0,none⟩),()) w254))) /\
 (NewV #[.int .i64 0,.int .i64 0,.int .i64 0,.int .i64 0,.bool false,.bool false,.bool false,.bool false,.bool false] 98 w219.drew λb255 w256=>
 KeepOn D230 w219.drew w256 /\
 CallV Tryz.prog 36 #[.pointer x233,.int .i64 ((4:Int)+z212.1)] w256 [.one .sl] λ(r257:SlV×Unit) w258=>
 KeepOn D230 w219.drew w258 /\
 CallV Tryz.prog 37 #[.slice z23.1.a z23.1.n z23.1.c] w258 [.one (.int .i64)] λ(r259:Int×Unit) w260=>
 KeepOn D230 w219.drew w260 /\
 CallV Tryz.prog 35 #[.agg #[.int .i64 x231.1,.int .i64 x231.2.1,.int .i64 x231.2.2.1,.int .i64 x231.2.2.2.1,.int .i64 x231.2.2.2.2.1,.int .i64 x231.2.2.2.2.2.1],.agg #[.bool x232.1,.int .i64 x232.2.1,.int .i64 x232.2.2.1,.int .i64 x232.2.2.2.1,.int .i64 x232.2.2.2.2.1,.int .i64 x232.2.2.2.2.2.1,.int .u32 x232.2.2.2.2.2.2.1,.int .u64 x232.2.2.2.2.2.2.2.1,.int .u64 x232.2.2.2.2.2.2.2.2.1,.slice x232.2.2.2.2.2.2.2.2.2.1.a x232.2.2.2.2.2.2.2.2.2.1.n x232.2.2.2.2.2.2.2.2.2.1.c],.int .i64 ((r257.1.n:Nat):Int),.int .i64 r259.1] w260 [.agg [.int .i64,.int .i64,.int .i64,.int .i64,.bool,.bool,.bool,.bool,.bool]] λ(r261:(Int×Int×Int×Int×Bool×Bool×Bool×Bool×Bool×Unit)×Unit) w262=>
 KeepOn D230 w219.drew w262 /\
 StoreV w262 ⟨b255,0,none⟩ [.int .i64 r261.1.1,.int .i64 r261.1.2.1,.int .i64 r261.1.2.2.1,.int .i64 r261.1.2.2.2.1,.bool r261.1.2.2.2.2.1,.bool r261.1.2.2.2.2.2.1,.bool r261.1.2.2.2.2.2.2.1,.bool r261.1.2.2.2.2.2.2.2.1,.bool r261.1.2.2.2.2.2.2.2.2.1] λw263=>
 KeepOn D230 w219.drew w263 /\
 J220 ((some ⟨b255,0,none⟩),()) w263))))))
 (LoadA w213 ⟨b17,0,none⟩ [.ptr,.ptr,.sl] λ(x264:(Option Addr)×(Option Addr)×SlV×Unit)=>
 StoreV w213 ⟨b3,0,none⟩ [.pointer x264.1,.pointer x264.2.1,.slice x264.2.2.1.a x264.2.2.1.n x264.2.2.1.c] λw265=>
 LoadA w265 ⟨b3,0,none⟩ [.ptr,.ptr,.sl] λ(x266:(Option Addr)×(Option Addr)×SlV×Unit)=>
 K ((x266.1,x266.2.1,x266.2.2.1,()),(0:Int),()) w265)))
theorem scan_Array.vc (p0:Addr) (p1_0:Bool) (p1_1 p1_2 p1_3:Int) (a1_4:Option Addr) (n1_4 c1_4:Nat) (p1_5:Bool) (p1_6 p1_7 p1_8:Int) (a1_9:Option Addr) (n1_9 c1_9:Nat) (p1_10:Bool) (p1_11 p1_12 p1_13:Int) (a1_14:Option Addr) (n1_14 c1_14:Nat) (p1_15:Bool) (p1_16 p1_17 p1_18:Int) (a1_19:Option Addr) (n1_19 c1_19:Nat) (p2:Int) (w:World) (K:((Option Addr)×(Option Addr)×SlV×Unit)×Int×Unit->World->Prop) (h:scan_Array.P p0 p1_0 p1_1 p1_2 p1_3 a1_4 n1_4 c1_4 p1_5 p1_6 p1_7 p1_8 a1_9 n1_9 c1_9 p1_10 p1_11 p1_12 p1_13 a1_14 n1_14 c1_14 p1_15 p1_16 p1_17 p1_18 a1_19 n1_19 c1_19 p2 w K):CallV Tryz.prog 12 #[.pointer (some p0),.agg #[.bool p1_0,.int .i64 p1_1,.int .u64 p1_2,.int .u64 p1_3,.slice a1_4 n1_4 c1_4,.bool p1_5,.int .i64 p1_6,.int .u64 p1_7,.int .u64 p1_8,.slice a1_9 n1_9 c1_9,.bool p1_10,.int .i64 p1_11,.int .u64 p1_12,.int .u64 p1_13,.slice a1_14 n1_14 c1_14,.bool p1_15,.int .i64 p1_16,.int .u64 p1_17,.int .u64 p1_18,.slice a1_19 n1_19 c1_19],.int .u64 p2] w [.agg [.ptr,.ptr,.sl],.one (.int .i64)] K:=by
 refine vcFun.of (A:=scan_Array.A) (wr:=false) okf_ok follows h Tryz.func12 ?_
 kernel_rfl
end Go.Proofs.YtcekmdehjnlkpaaGreat.Vc
namespace Go.Proofs.YtcekmdehjnlkpaaGreat.Vc
open Go Go.Eng Go.RowKit
abbrev ownsA (X:List (SlP Ce)):Asr:=StarA (X.map ownC)
abbrev boxP (p r:Nat) (X:List (SlP Ce)):Asr:=BoxA p 212 (X.map slM++[.map (some r)])
section
variable {E:Nat->Prop} {w0 w:World} {p r:Nat} {X:List (SlP Ce)} {m:Int×Int->Int} {Rs:List Asr}
theorem toQ (S:Sep E w0 w [boxP p r X,MapF r m,ownsA X]):Sep E w0 w (PmQ p r X m []):=by
 have h:=(((S.sel [2,0,0] rfl).unfold (Rs:=X.map ownC) (Ts:=[boxP p r X,MapF r m])).perm List.perm_append_comm)
 show Sep E w0 w (_::_::(X.map ownC++[]))
 rw [List.append_nil]
 exact h
theorem fromQ (S:Sep E w0 w (PmQ p r X m [])):Sep E w0 w [boxP p r X,MapF r m,ownsA X]:=by
 have S:Sep E w0 w ([boxP p r X,MapF r m]++X.map ownC):=by
  have S:Sep E w0 w (_::_::(X.map ownC++[])):=S
  rw [List.append_nil] at S
  exact S
 exact ((S.perm List.perm_append_comm).fold (Rs:=X.map ownC)).sel [1,1,0] rfl
theorem owns_nth (hX:X.length=4) {ns:Int} (hn:0<=ns/\ns<4):(X.map ownC)[ns.toNat]? = some (ownC (getX X ns)):=by
 rw [List.getElem?_map,getX_at hX hn];rfl
theorem cellR (hX:X.length=4) {ns:Int} (hn:0<=ns/\ns<4) (i:Nat) (S:Sep E w0 w Rs) (hi:Rs[i]? = some (ownsA X)) {j:Int} (h0:0<=j) (h1:j<((getX X ns).n:Int)) :
  ∃ q x,(getX X ns).a=some q/\(getX X ns).l[j.toNat]? = some x/\CellsAt w (q.add (j.toNat*15)) x.vs/\q.block<w.heap.size:=by
 have S:=(S.perm (perm_front hi)).unfold (Rs:=X.map ownC)
 have hi2:(X.map ownC++Rs.eraseIdx i)[ns.toNat]? = some (ownC (getX X ns)):=by
  have:=owns_nth hX hn
  rw [List.getElem?_append_left (List.getElem?_eq_some_iff.1 this).1,this]
 obtain ⟨q,x,hq,hx,hc⟩:=S.nthF (f:=Ce.vs) (m:=15) ns.toNat hi2 Ce_len (by decide) h0 h1
 exact ⟨q,x,hq,hx,hc,(S.own ns.toNat hi2).lt q hq⟩
theorem cellW (hX:X.length=4) {ns:Int} (hn:0<=ns/\ns<4) (i:Nat) (S:Sep E w0 w Rs) (hi:Rs[i]? = some (ownsA X)) {q:Addr} (hq:(getX X ns).a=some q) {j:Nat} (hj:j<(getX X ns).n) (c:Ce) {K:World->Prop}
  (hk:∀ w',Sep E w0 w' (Rs.set i (ownsA (setX X ns j c)))->Fr (λk=>k=q.block) w w'->K w'):StoreV w (q.add (j*15)) c.vs K:=by
 have S1:=(S.perm (perm_front hi)).unfold (Rs:=X.map ownC)
 have h4:=owns_nth hX hn
 have S2:Sep E w0 w (ownC (getX X ns)::((X.map ownC).eraseIdx ns.toNat++Rs.eraseIdx i)):=S1.perm ((perm_front h4).append_right (Rs.eraseIdx i))
 obtain ⟨q2,hq2,h⟩:=S2.putF (f:=Ce.vs) (m:=15) Ce_len Ce_one (by decide) (j:=(j:Int)) ⟨by omega,by omega⟩ c (K:=K) λw' S3 f3=>hk w' (by
  rw [Int.toNat_natCast] at S3
  have S4:Sep E w0 w' ((X.map ownC).set ns.toNat (ownC ⟨(getX X ns).a,(getX X ns).n,(getX X ns).c,(getX X ns).l.set j c⟩)++Rs.eraseIdx i):=S3.perm (((perm_set h4).append_right (Rs.eraseIdx i)))
  rw [<-List.map_set (f:=ownC)] at S4
  exact (S4.fold (Rs:=(setX X ns j c).map ownC)).perm (perm_set hi)) (f3.mono λk ⟨q3,hq3,hk⟩=>by rw [hq] at hq3;cases hq3;exact hk)
 rw [hq] at hq2
 cases hq2
 rw [Int.toNat_natCast] at h
 exact h
theorem ld4P (hX:X.length=4) (i:Nat) (S:Sep E w0 w Rs) (hi:Rs[i]? = some (boxP p r X)) {K:Option Nat->Prop} (hk:K (some r)):LoadS w ((⟨p,0,none⟩:Addr).add 4) .map K:=by
 rw [show (⟨p,0,none⟩:Addr).add 4=⟨p,4,none⟩ by simp [Addr.add_lit]]
 refine S.ld i hi (j:=4) (h:=.map) (some r) ?_ hk
 rw [List.getElem?_append_right (by rw [List.length_map,hX];omega),List.length_map,hX]
 rfl
theorem bv4 (hX:X.length=4):(X.map slM++[Value.map (some r)])[4]? = some (.map (some r)):=by
 rw [List.getElem?_append_right (by rw [List.length_map,hX];omega),List.length_map,hX]
 rfl
def Told (T:List (Int×Int)->List (Int×Int)->Prop) (L:List (Int×Int)):Prop:=∀ {E:Nat->Prop} {w0 w:World} {Rs:List Asr} {a:Option Addr} {n c:Nat},Sep E w0 w (outA a n c L::Rs) ->
 CallV Tryz.prog 109 #[.slice a n c] w [.one .sl] λrr w'=>∃ L',T L L'/\rr.1=(⟨a,n,c⟩:SlV)/\Sep E w0 w' (outA a n c L'::Rs)
theorem Told.nil {T:List (Int×Int)->List (Int×Int)->Prop} (hT:T [] []):Told T []:=λ{E w0 w Rs a n c} S=>by
 have hl:=(S.own 0 rfl).len
 have hn:n=0:=by simp at hl;omega
 subst hn
 refine told0_c.mono ?_
 rintro ⟨_,⟨⟩⟩ w1 ⟨h1,rfl⟩
 exact ⟨[],hT,h1,S⟩
theorem Put22_c {s:Sp} {T:List (Int×Int)->List (Int×Int)->Prop} (hl:0<=s.h.l/\s.h.l<4294967296) (hX:XOk X) (hT:okT X s->Told T (putP s X s.h.c.toNat).2) (S:Sep E w0 w [boxP p r X,MapF r (cntX X),ownsA X]) :
  CallV Tryz.prog 72 #[.pointer (some ⟨p,0,none⟩),s.val] w [.one .sl,.one (.int .i64)] λrr w'=>(¬ okT X s->rr.1=(⟨none,0,0⟩:SlV)/\rr.2.1=(2:Int)/\Sep E w0 w' [boxP p r X,MapF r (cntX X),ownsA X]) /\
   (okT X s->rr.2.1=(0:Int)/\∃ (L':List (Int×Int)),T (putP s X s.h.c.toNat).2 L'/\Sep E w0 w' [outA rr.1.a rr.1.n rr.1.c L',boxP p r (putP s X s.h.c.toNat).1,MapF r (cntX (putP s X s.h.c.toNat).1),ownsA (putP s X s.h.c.toNat).1]):=by
 apply pagemap_Map_Put.vc
 unfold pagemap_Map_Put.P
 refine S.newB λb1 w1 S f1 _=>?_
 refine S.la0 rfl ?_
 refine (speaks22_c (s:=s) hl hX.four (by have:=(hX.get s.h.n).2;omega) (toQ (S.sel [1,1,1] rfl))).mono ?_
 rintro ⟨⟨ra,rn,rc⟩,⟨⟩⟩ w2 ⟨x2,h2,h2'⟩
 dsimp only at h2 h2' ⊢
 have S:=S.stepE x2
 by_cases hok:okT X s
 case neg=>
  have h:=h2' hok
  cases h
  exact cond_t rfl ⟨λ_=>⟨rfl,rfl,S.tail⟩,λh=>absurd h hok⟩
 have h:=h2 hok
 cases h
 clear h2 h2'
 obtain ⟨hkd,hc1,hc2,hc3⟩:=hok
 have hns:0<=s.h.n/\s.h.n<4:=by
  refine Classical.byContradiction λh=>?_
  have:(getX X s.h.n).n=0:=by unfold getX;rw [if_neg h];rfl
  omega
 have hgn:=(hX.get s.h.n).2
 refine cond_eq (λh=>?_) (λ_=>?_)
 ·exfalso
  have h:((s.h.c.toNat:Nat):Int)=0:=h
  omega
 have S:=S.nilOwn 57 2
 obtain ⟨q0,hq0⟩:∃ q0,(getX X s.h.n).a=some q0:=by
  obtain ⟨q,_,hq,_⟩:=cellR hX.four hns 4 S rfl (j:=0) (by omega) (by omega)
  exact ⟨q,hq⟩
 have hput:∀ i:Nat,XOk (putP s X i).1/\(putP s X i).1.map slM=X.map slM:=by
  intro i
  induction i with
  | zero=>exact ⟨hX,rfl⟩
  | succ i ih=>exact ⟨stepP_ok ih.1,(stepP_sl ih.1 hns).trans ih.2⟩
 have hsl:∀ i:Nat,(getX (putP s X i).1 s.h.n).a=(getX X s.h.n).a/\(getX (putP s X i).1 s.h.n).n=(getX X s.h.n).n/\(getX (putP s X i).1 s.h.n).c=(getX X s.h.n).c:=by
  intro i
  have h1:((putP s X i).1.map slM)[s.h.n.toNat]? = (X.map slM)[s.h.n.toNat]?:=by rw [(hput i).2]
  rw [List.getElem?_map,List.getElem?_map,getX_at (hput i).1.four hns,getX_at hX.four hns] at h1
  have h2:=Option.some.inj h1
  unfold slM at h2
  injection h2 with e1 e2 e3
  exact ⟨e1,e2,e3⟩
 refine Loop1 (λ(v:SlV×Int×Unit) w'=>∃ i:Nat,v.2.1=(i:Int)/\(i:Int)<=s.h.c/\v.1.n<=i/\Sep E w0 w' [outA v.1.a v.1.n v.1.c (putP s X i).2,BoxA b1 59 s.vs,boxP p r (putP s X i).1,MapF r (cntX (putP s X i).1),ownsA (putP s X i).1])
  (λ(v:SlV×Int×Unit) _=>(s.h.c-v.2.1).toNat) ⟨0,rfl,by omega,Nat.le_refl _,S⟩ ?_
 clear S
 rintro ⟨⟨oa,on,oc⟩,(v:Int),⟨⟩⟩ w3 ⟨i,hv,hi,hon,S⟩
 dsimp only at hv hon S ⊢
 subst hv
 have hcn:((s.h.c.toNat:Nat):Int)=s.h.c:=by omega
 refine cond_d (λhlt=>?_) (λhge=>?_)
 case refine_2=>
  have hie:i=s.h.c.toNat:=by omega
  subst hie
  refine (hT ⟨hkd,hc1,hc2,hc3⟩ S).mono ?_
  rintro ⟨_,⟨⟩⟩ w4 ⟨L',hL',hr,S⟩
  dsimp only at hr
  subst hr
  exact ⟨λh=>absurd ⟨hkd,hc1,hc2,hc3⟩ h,λ_=>⟨rfl,L',hL',S.sel [0,1,1,1] rfl⟩⟩
 obtain ⟨hXi,hbx⟩:=hput i
 obtain ⟨g1,g2,g3⟩:=hsl i
 generalize hXX:(putP s X i).1=Y at S hXi hbx g1 g2 g3
 generalize hLL:(putP s X i).2=L at S
 have hst:putP s X (i+1)=stepP s (s.h.l.toNat+i) (Y,L):=by
  show stepP _ _ (putP s X i)=_
  rw [<-hXX,<- hLL]
 have hj:0<=s.h.l+(i:Int)/\s.h.l+(i:Int)<((getX Y s.h.n).n:Int):=by omega
 have hjn:(s.h.l+(i:Int)).toNat=s.h.l.toNat+i:=by omega
 obtain ⟨q,x,hq,hx,hcx,hqb⟩:=cellR hXi.four hns 4 S rfl hj.1 hj.2
 rw [g1,hq0] at hq
 cases hq
 rw [hjn] at hx hcx
 have hadd:(q0.add (s.h.l.toNat*15)).add (((i:Int)).toNat*15)=q0.add ((s.h.l.toNat+i)*15):=by rw [add_add,Int.toNat_natCast,Nat.add_mul]
 have bnd:0<=(i:Int)/\(i:Int)<((s.h.c.toNat:Nat):Int):=by omega
 refine ⟨bnd,q0.add (s.h.l.toNat*15),by rw [hq0];rfl,x.tup,by rw [hadd];exact hcx,?_⟩
 refine S.newB λb11 w4 S f4 _=>?_
 refine S.st0 (by rfl) λw5 S f5=>?_
 have hgx:(getX Y s.h.n).l.getD (s.h.l.toNat+i) Ce0=x:=by rw [List.getD_eq_getElem?_getD,hx];rfl
 have r1:Rng .i64 ((i:Int)+1):=Rng.i64 (by omega) (by omega)
 have Q:∀ {w':World} {v:SlV×Int×Unit},v.2.1=(i:Int)+1->v.1.n<=i+1->Sep E w0 w' [outA v.1.a v.1.n v.1.c (stepP s (s.h.l.toNat+i) (Y,L)).2,BoxA b1 59 s.vs,boxP p r (stepP s (s.h.l.toNat+i) (Y,L)).1,MapF r (cntX (stepP s (s.h.l.toNat+i) (Y,L)).1),ownsA (stepP s (s.h.l.toNat+i) (Y,L)).1] ->
   (∃ j:Nat,v.2.1=(j:Int)/\(j:Int)<=s.h.c/\v.1.n<=j/\Sep E w0 w' [outA v.1.a v.1.n v.1.c (putP s X j).2,BoxA b1 59 s.vs,boxP p r (putP s X j).1,MapF r (cntX (putP s X j).1),ownsA (putP s X j).1])/\(s.h.c-v.2.1).toNat<(s.h.c-(i:Int)).toNat:=λ{w' v} h1 h2 h3=>
  ⟨⟨i+1,by rw [h1];push_cast;rfl,by push_cast;omega,h2,by rw [hst];exact h3⟩,by rw [h1];omega⟩
 /- what is done where the spot is put -/
 have hbd:∀ k,0<=cntX Y k/\cntX Y k<=262140:=cntX_le hXi
 refine S.ld0 (j:=0) rfl rfl (cond_of (λhh=>?_) (λhh=>?_))
 ·have hh:x.has=true:=hh
  refine S.la2 rfl (S.lb0 (o:=1) rfl ?_)
  refine (Newer22_c (a:=s) (b:=x.s)).mono ?_
  rintro ⟨(rn2:Bool),⟨⟩⟩ w6 ⟨h6,x6⟩
  dsimp only at h6 ⊢
  subst h6
  have S:=S.stepE x6
  by_cases hnw:nwrH s x.s
  case neg=>
   refine cond_t (by rw [decide_eq_false hnw];rfl) ⟨r1,Q (v:=(⟨oa,on,oc⟩,(i:Int)+1,())) rfl (Nat.le_succ_of_le hon) ?_⟩
   have e:stepP s (s.h.l.toNat+i) (Y,L)=(Y,L):=by unfold stepP;dsimp only;rw [hgx,if_pos ⟨hh,hnw⟩]
   rw [e]
   exact S.sel [1,1,1,1,1] rfl
  refine cond_f (by rw [decide_eq_true hnw];rfl) ?_
  have e:stepP s (s.h.l.toNat+i) (Y,L)=(setX Y s.h.n (s.h.l.toNat+i) ⟨true,s⟩,if x.has=true/\cntX (setX Y s.h.n (s.h.l.toNat+i) ⟨true,s⟩) x.pl=0 then L++[x.pl] else L):=by unfold stepP;dsimp only;rw [hgx,if_neg (λk=>k.2 hnw)]
  have S:=S.sel [4,0,0,0,0,0] rfl
  refine Sep.regC [_] S λG D hG T S hDt hDo hkeep back=>?_
  have hGr:G r:=by
   obtain ⟨F,⟨h1,l,cc,h2,-⟩,h3⟩:=T.get (i:=0) rfl
   exact (h3 r h1).1.resolve_right (λh=>by have:=(Array.getElem?_eq_some_iff.1 h2).1;omega)
  have hk2:=λw' (f:Fr (λk=>k=r) _ w')=>hkeep w' (f.mono λk hk=>by subst hk;exact hGr)
  have rv:Rng .i64 (cntX Y (s.b,s.p)+1):=Rng.i64 (by have:=hbd (s.b,s.p);omega) (by have:=hbd (s.b,s.p);omega)
  refine ⟨by rw [add_block];exact hDt 3 _ _ _ rfl,ld4P hXi.four 4 S rfl ⟨hDt 2 _ _ _ rfl,S.lb3 (o:=0) rfl ⟨?_,?_⟩⟩⟩
  ·refine T.incA (k:=(s.b,s.p)) (λx=>x+1) 0 rfl hk2 rv λw7 T f7=>?_
   have S:=back _ _ T
   dsimp only [List.set_cons_zero,List.cons_append,List.nil_append] at S
   refine S.la3 rfl ⟨bnd,q0.add (s.h.l.toNat*15),by rw [hq0];rfl,?_⟩
   rw [hadd]
   refine cellW hXi.four hns 5 S rfl (by rw [g1,hq0]) (j:=s.h.l.toNat+i) (by omega) ⟨true,s⟩ λw8 S f8=>?_
   dsimp only [List.set_cons_succ,List.set_cons_zero] at S
   have S:=S.sel [4,0,1,0,0,0] rfl
   refine S.la3 rfl ?_
   obtain ⟨hm1,hmm,hL⟩:=put_m hXi hns hx s L
   have hbY:Y.map slM=(setX Y s.h.n (s.h.l.toNat+i) ⟨true,s⟩).map slM:=(setX_sl hXi.four hns).symm
   refine Sep.call [_,_,_] (Ts:=[_,_,_]) S (λG SG=>lose22_c (c:=x) (bv4 hXi.four) hm1 (by omega) SG) λG fr rr w9 hr=>?_
   obtain ⟨a9,n9,c9,m9,hr1,hn9,hm9,S9⟩:=hr
   have hm9:m9=cntX (setX Y s.h.n (s.h.l.toNat+i) ⟨true,s⟩):=funext λk=>(hm9 k).trans (hmm k)
   subst hm9
   have S:=fr _ _ S9
   rw [hL] at S
   obtain ⟨rr1,⟨⟩⟩:=rr
   dsimp only at hr1
   subst hr1
   refine ⟨r1,Q (v:=(⟨a9,n9,c9⟩,(i:Int)+1,())) rfl (by dsimp only;omega) ?_⟩
   rw [e]
   show Sep E w0 w9 [_,_,BoxA p _ ((setX Y s.h.n (s.h.l.toNat+i) ⟨true,s⟩).map slM++_),_,_]
   rw [<-hbY]
   exact S.sel [2,3,0,0,1] rfl
  ·refine T.incB (k:=(s.b,s.p)) (λx=>x+1) 0 rfl hk2 rv λw7 T f7=>?_
   have S:=back _ _ T
   dsimp only [List.set_cons_zero,List.cons_append,List.nil_append] at S
   refine S.la3 rfl ⟨bnd,q0.add (s.h.l.toNat*15),by rw [hq0];rfl,?_⟩
   rw [hadd]
   refine cellW hXi.four hns 5 S rfl (by rw [g1,hq0]) (j:=s.h.l.toNat+i) (by omega) ⟨true,s⟩ λw8 S f8=>?_
   dsimp only [List.set_cons_succ,List.set_cons_zero] at S
   have S:=S.sel [4,0,1,0,0,0] rfl
   refine S.la3 rfl ?_
   obtain ⟨hm1,hmm,hL⟩:=put_m hXi hns hx s L
   have hbY:Y.map slM=(setX Y s.h.n (s.h.l.toNat+i) ⟨true,s⟩).map slM:=(setX_sl hXi.four hns).symm
   refine Sep.call [_,_,_] (Ts:=[_,_,_]) S (λG SG=>lose22_c (c:=x) (bv4 hXi.four) hm1 (by omega) SG) λG fr rr w9 hr=>?_
   obtain ⟨a9,n9,c9,m9,hr1,hn9,hm9,S9⟩:=hr
   have hm9:m9=cntX (setX Y s.h.n (s.h.l.toNat+i) ⟨true,s⟩):=funext λk=>(hm9 k).trans (hmm k)
   subst hm9
   have S:=fr _ _ S9
   rw [hL] at S
   obtain ⟨rr1,⟨⟩⟩:=rr
   dsimp only at hr1
   subst hr1
   refine ⟨r1,Q (v:=(⟨a9,n9,c9⟩,(i:Int)+1,())) rfl (by dsimp only;omega) ?_⟩
   rw [e]
   show Sep E w0 w9 [_,_,BoxA p _ ((setX Y s.h.n (s.h.l.toNat+i) ⟨true,s⟩).map slM++_),_,_]
   rw [<-hbY]
   exact S.sel [2,3,0,0,1] rfl
 ·have hh:x.has=false:=hh
  have e:stepP s (s.h.l.toNat+i) (Y,L)=(setX Y s.h.n (s.h.l.toNat+i) ⟨true,s⟩,if x.has=true/\cntX (setX Y s.h.n (s.h.l.toNat+i) ⟨true,s⟩) x.pl=0 then L++[x.pl] else L):=by unfold stepP;dsimp only;rw [hgx,if_neg (λk=>by rw [hh] at k;cases k.1)]
  have S:=S.sel [4,0,0,0,0,0] rfl
  refine Sep.regC [_] S λG D hG T S hDt hDo hkeep back=>?_
  have hGr:G r:=by
   obtain ⟨F,⟨h1,l,cc,h2,-⟩,h3⟩:=T.get (i:=0) rfl
   exact (h3 r h1).1.resolve_right (λh=>by have:=(Array.getElem?_eq_some_iff.1 h2).1;omega)
  have hk2:=λw' (f:Fr (λk=>k=r) _ w')=>hkeep w' (f.mono λk hk=>by subst hk;exact hGr)
  have rv:Rng .i64 (cntX Y (s.b,s.p)+1):=Rng.i64 (by have:=hbd (s.b,s.p);omega) (by have:=hbd (s.b,s.p);omega)
  refine ⟨by rw [add_block];exact hDt 3 _ _ _ rfl,ld4P hXi.four 4 S rfl ⟨hDt 2 _ _ _ rfl,S.lb3 (o:=0) rfl ⟨?_,?_⟩⟩⟩
  ·refine T.incA (k:=(s.b,s.p)) (λx=>x+1) 0 rfl hk2 rv λw7 T f7=>?_
   have S:=back _ _ T
   dsimp only [List.set_cons_zero,List.cons_append,List.nil_append] at S
   refine S.la3 rfl ⟨bnd,q0.add (s.h.l.toNat*15),by rw [hq0];rfl,?_⟩
   rw [hadd]
   refine cellW hXi.four hns 5 S rfl (by rw [g1,hq0]) (j:=s.h.l.toNat+i) (by omega) ⟨true,s⟩ λw8 S f8=>?_
   dsimp only [List.set_cons_succ,List.set_cons_zero] at S
   have S:=S.sel [4,0,1,0,0,0] rfl
   refine S.la3 rfl ?_
   obtain ⟨hm1,hmm,hL⟩:=put_m hXi hns hx s L
   have hbY:Y.map slM=(setX Y s.h.n (s.h.l.toNat+i) ⟨true,s⟩).map slM:=(setX_sl hXi.four hns).symm
   refine Sep.call [_,_,_] (Ts:=[_,_,_]) S (λG SG=>lose22_c (c:=x) (bv4 hXi.four) hm1 (by omega) SG) λG fr rr w9 hr=>?_
   obtain ⟨a9,n9,c9,m9,hr1,hn9,hm9,S9⟩:=hr
   have hm9:m9=cntX (setX Y s.h.n (s.h.l.toNat+i) ⟨true,s⟩):=funext λk=>(hm9 k).trans (hmm k)
   subst hm9
   have S:=fr _ _ S9
   rw [hL] at S
   obtain ⟨rr1,⟨⟩⟩:=rr
   dsimp only at hr1
   subst hr1
   refine ⟨r1,Q (v:=(⟨a9,n9,c9⟩,(i:Int)+1,())) rfl (by dsimp only;omega) ?_⟩
   rw [e]
   show Sep E w0 w9 [_,_,BoxA p _ ((setX Y s.h.n (s.h.l.toNat+i) ⟨true,s⟩).map slM++_),_,_]
   rw [<-hbY]
   exact S.sel [2,3,0,0,1] rfl
  ·refine T.incB (k:=(s.b,s.p)) (λx=>x+1) 0 rfl hk2 rv λw7 T f7=>?_
   have S:=back _ _ T
   dsimp only [List.set_cons_zero,List.cons_append,List.nil_append] at S
   refine S.la3 rfl ⟨bnd,q0.add (s.h.l.toNat*15),by rw [hq0];rfl,?_⟩
   rw [hadd]
   refine cellW hXi.four hns 5 S rfl (by rw [g1,hq0]) (j:=s.h.l.toNat+i) (by omega) ⟨true,s⟩ λw8 S f8=>?_
   dsimp only [List.set_cons_succ,List.set_cons_zero] at S
   have S:=S.sel [4,0,1,0,0,0] rfl
   refine S.la3 rfl ?_
   obtain ⟨hm1,hmm,hL⟩:=put_m hXi hns hx s L
   have hbY:Y.map slM=(setX Y s.h.n (s.h.l.toNat+i) ⟨true,s⟩).map slM:=(setX_sl hXi.four hns).symm
   refine Sep.call [_,_,_] (Ts:=[_,_,_]) S (λG SG=>lose22_c (c:=x) (bv4 hXi.four) hm1 (by omega) SG) λG fr rr w9 hr=>?_
   obtain ⟨a9,n9,c9,m9,hr1,hn9,hm9,S9⟩:=hr
   have hm9:m9=cntX (setX Y s.h.n (s.h.l.toNat+i) ⟨true,s⟩):=funext λk=>(hm9 k).trans (hmm k)
   subst hm9
   have S:=fr _ _ S9
   rw [hL] at S
   obtain ⟨rr1,⟨⟩⟩:=rr
   dsimp only at hr1
   subst hr1
   refine ⟨r1,Q (v:=(⟨a9,n9,c9⟩,(i:Int)+1,())) rfl (by dsimp only;omega) ?_⟩
   rw [e]
   show Sep E w0 w9 [_,_,BoxA p _ ((setX Y s.h.n (s.h.l.toNat+i) ⟨true,s⟩).map slM++_),_,_]
   rw [<-hbY]
   exact S.sel [2,3,0,0,1] rfl
end
end Go.Proofs.YtcekmdehjnlkpaaGreat.Vc
namespace Go.Eng
open Go Go.RowKit
theorem flat_get {α:Type} {enc:α->List Value} {k:Nat} (hk:∀ x,(enc x).length=k):∀ (l:List α) (i j:Nat),j<k->(l.flatMap enc)[i*k+j]? = (l[i]?).bind λx=>(enc x)[j]?
 | [],i,j,h=>by simp
 | x::l,0,j,h=>by
  simp only [List.flatMap_cons,Nat.zero_mul,Nat.zero_add,List.getElem?_cons_zero,Option.bind_some]
  exact List.getElem?_append_left (by rw [hk];exact h)
 | x::l,i+1,j,h=>by
  simp only [List.flatMap_cons,List.getElem?_cons_succ]
  rw [List.getElem?_append_right (by rw [hk,Nat.succ_mul];omega),hk,show (i+1)*k+j-k=i*k+j by rw [Nat.succ_mul];omega]
  exact flat_get hk l i j h
theorem flat_len {α:Type} {enc:α->List Value} {k:Nat} (hk:∀ x,(enc x).length=k) (l:List α):(l.flatMap enc).length=l.length*k:=by
 induction l with
 | nil=>simp
 | cons x l ih=>simp only [List.flatMap_cons,List.length_append,hk,ih,List.length_cons,Nat.succ_mul];omega
theorem flatK_list {α:Type} [Inhabited α] {enc:α->List Value} {k:Nat} (hk:∀ x,(enc x).length=k) (d:Array α):(Go.Sort.flatK enc k d).toList=d.toList.flatMap enc:=by
 have hl:(Go.Sort.flatK enc k d).toList.length=(d.toList.flatMap enc).length:=by simp [flat_len hk]
 refine List.ext_getElem? λt=>?_
 by_cases h:t<d.size*k
 ·have k0:0<k:=by exact Nat.pos_of_ne_zero λe=>by subst e;simp at h
  have h1:t / k<d.size:=(Nat.div_lt_iff_lt_mul k0).2 h
  have h2:t % k<k:=Nat.mod_lt _ k0
  have e:=Go.Sort.get_flatK enc k d t h
  have e1:=flat_get hk d.toList (t / k) (t % k) h2
  rw [show t / k*k+t % k=t by rw [Nat.mul_comm];exact Nat.div_add_mod t k] at e1
  rw [e1]
  have e2:d.toList[t / k]? = some d[t / k]!:=by simp [h1]
  rw [e2,Option.bind_some]
  have e3:t % k<(enc d[t / k]!).length:=by rw [hk];exact h2
  rw [List.getElem?_eq_getElem e3]
  have h3:t<(Go.Sort.flatK enc k d).size:=by simpa using h
  rw [Array.getElem?_toList,Array.getElem?_eq_getElem h3]
  rw [getElem!_pos _ t h3,getElem!_pos _ (t % k) e3] at e
  rw [e]
 ·rw [List.getElem?_eq_none (by rw [hl,flat_len hk];simpa using h),List.getElem?_eq_none (by rw [flat_len hk];simpa using h)]
theorem sortedIn_pw {α:Type} [Inhabited α] {lt:α->α->Bool} {d:Array α} (h:Go.Sort.SortedIn lt 0 d.size d):d.toList.Pairwise λx y=>lt y x=false:=by
 rw [List.pairwise_iff_getElem]
 intro i j hi hj hij
 have hj':j<d.size:=by simpa using hj
 have hi':i<d.size:=by omega
 have:=h i j (Nat.zero_le _) hij hj'
 rw [getElem!_pos d i hi',getElem!_pos d j hj'] at this
 simpa using this
section
variable {α:Type} [Inhabited α] {enc:α->List Value} {k:Nat} {w:World} {b:Nat} {e:TypeId} {n c:Nat}
theorem Own.holdsK (hk:∀ x,(enc x).length=k) {d:Array α} (h:Own w 0 e k (some ⟨b,0,none⟩) n c (d.toList.flatMap enc)):Go.Sort.HoldsK enc k w b 0 d:=by
 intro j hj
 rcases h.at_ with ⟨h1,_,_⟩ | ⟨b',cs,h1,_,h2,h3,h4⟩
 ·cases h1
 cases h1
 rw [Go.Sort.size_flatK] at hj
 have hl:j<(d.toList.flatMap enc).length:=by rw [flat_len hk];simpa using hj
 have e1:cs.toList[j]? = (Go.Sort.flatK enc k d).toList[j]?:=by
  rw [flatK_list hk,<- h4,List.getElem?_take,if_pos (by rw [flat_len hk] at hl⊢;exact hl)]
 have hj':j<(Go.Sort.flatK enc k d).size:=by simpa using hj
 rw [Array.getElem?_toList,Array.getElem?_toList,Array.getElem?_eq_getElem hj'] at e1
 refine ⟨?_,?_⟩
 ·simp only [World.cell?,h2,Nat.zero_add,id]
  rw [getElem!_pos _ j hj']
  simpa using e1
 ·simp [World.frozen?,h2]
theorem sortWorldK_own (hk:∀ x,(enc x).length=k) (h1:∀ x,∀ v∈enc x,v.oneCell'=true) {L:List α} (h:Own w 0 e k (some ⟨b,0,none⟩) n c (L.flatMap enc)) {d:Array α} (hd:d.size=L.length) (m:Nat) (os:Array Obj) :
  Own (Go.Proofs.sortWorldK enc k w b 0 m d os) 0 e k (some ⟨b,0,none⟩) n c (d.toList.flatMap enc)/\Fr (λx=>x=b) w (Go.Proofs.sortWorldK enc k w b 0 m d os):=by
 have hlen:(d.toList.flatMap enc).length=(L.flatMap enc).length:=by rw [flat_len hk,flat_len hk];simp [hd]
 rcases h.at_ with ⟨e1,_,_⟩ | ⟨b',cs,e1,e0,e2,e3,e4⟩
 ·cases e1
 cases e1
 have hb:b<w.heap.size:=(Array.getElem?_eq_some_iff.1 e2).1
 have hh:∀ x,x<w.heap.size->(Go.Proofs.sortWorldK enc k w b 0 m d os).heap[x]? = if x=b then some (Obj.cells (Go.Sort.putCells id 0 (Go.Sort.flatK enc k d) cs) e (0,0)) else w.heap[x]?:=by
  intro x hx
  unfold Go.Proofs.sortWorldK
  rw [Go.Sort.heap_grow_old _ _ (by unfold Go.Sort.putRowK;rw [Go.Sort.size_putRow];exact hx)]
  show (w.heap.modify b _)[x]? = _
  rw [Array.getElem?_modify]
  by_cases hx':x=b
  ·subst hx';simp [e2,Go.Sort.onCells]
  ·rw [if_neg hx',if_neg (λh=>hx' h.symm)]
 refine ⟨⟨hlen.trans h.len,h.cap,h.lim,?_,.inr ⟨b,_,rfl,e0,by rw [hh b hb,if_pos rfl],by simp [Go.Sort.putCells,e3],?_⟩⟩,⟨rfl,rfl,rfl,?_,λx hx hn=>?_⟩⟩
 ·intro v hv
  obtain ⟨x,_,hx⟩:=List.mem_flatMap.1 hv
  exact h1 x v hx
 ·refine List.ext_getElem? λt=>?_
  rw [List.getElem?_take]
  by_cases ht:t<(d.toList.flatMap enc).length
  ·rw [if_pos ht,<- flatK_list hk]
   have ht':t<(Go.Sort.flatK enc k d).size:=by rw [flat_len hk] at ht;simpa using ht
   have htc:t<cs.size:=by
    have:=congrArg List.length e4
    rw [List.length_take,<- hlen] at this
    exact Nat.lt_of_lt_of_le ht (by have h5:=Nat.min_le_right (d.toList.flatMap enc).length cs.toList.length;have h6:cs.toList.length=cs.size:=rfl;rw [this] at h5;exact h5)
   simp only [Go.Sort.putCells,Array.getElem?_toList,Array.getElem?_mapIdx,Array.getElem?_eq_getElem htc,Option.map_some]
   rw [if_pos ⟨Nat.zero_le _,by omega⟩,Array.getElem?_eq_getElem ht']
   simp only [Nat.sub_zero,id]
   rw [getElem!_pos _ t ht']
  ·rw [if_neg ht,List.getElem?_eq_none (Nat.le_of_not_lt ht)]
 ·unfold Go.Proofs.sortWorldK Go.Sort.putRowK
  rw [Go.Sort.size_grow,Go.Sort.size_putRow]
  exact Nat.le_add_right _ _
 ·rw [hh x hx,if_neg hn]
theorem Sep.sorted {E:Nat->Prop} {w0:World} {Rs:List Asr} (hk:∀ x,(enc x).length=k) (h1:∀ x,∀ v∈enc x,v.oneCell'=true) {L:List α} (S:Sep E w0 w (OwnA e k (some ⟨b,0,none⟩) n c (L.flatMap enc)::Rs)) {d:Array α} (hd:d.size=L.length) (m:Nat) (os:Array Obj) :
  Sep E w0 (Go.Proofs.sortWorldK enc k w b 0 m d os) (OwnA e k (some ⟨b,0,none⟩) n c (d.toList.flatMap enc)::Rs):=by
 obtain ⟨F,⟨ho,hF⟩,h3,h4⟩:=S.step (i:=0) rfl
 obtain ⟨o',fr⟩:=sortWorldK_own hk h1 ho hd m os
 exact h4 _ F (OwnA e k (some ⟨b,0,none⟩) n c (d.toList.flatMap enc)) ⟨o',hF⟩ (fr.mono λx hx=>by subst hx;exact hF ⟨x,0,none⟩ rfl) λx hx=>⟨.inl hx,Nat.lt_of_lt_of_le (h3 x hx) fr.size⟩
end
end Go.Eng
namespace Go.Proofs
open Go.Shelf Go.RowKit Go.Lib Go.Sort
def Tryz.plC (x y:Int×Int):Int:=if (x.1 != y.1)=true then wrap64 (x.1-y.1) else wrap64 (x.2-y.2)
set_option maxHeartbeats 1000000 in
theorem Tryz.less_walk (x y:Int×Int) (W:World):Calls Tryz.prog 76 #[.agg #[.int .i64 x.1,.int .i64 x.2],.agg #[.int .i64 y.1,.int .i64 y.2]] W λe w'=>e=.returned (.int .i64 (Tryz.plC x y))/\∃ q os',w'=grow (W.drewN q) os':=by
 go_enter Tryz.func76,Tryz.ntmps76
 go_wp2
 all_goals rename_i h
 all_goals go_ret
 all_goals exact ⟨by unfold Tryz.plC;rw [h];rfl,0,_,by rw [alloc_eq_grow,alloc_eq_grow,grow_grow];rfl⟩
end Go.Proofs
namespace Go.Proofs.YtcekmdehjnlkpaaGreat.Vc
open Go Go.Eng Go.RowKit Go.Shelf Go.Proofs
theorem plV_one1 (x:Int×Int):∀ v∈plV x,v.oneCell'=true:=λv hv=>by simp at hv;rcases hv with rfl | rfl <;> rfl
theorem less_enters:∀ args w,(callFunc 76 args).run Tryz.prog w=.ok (.enter 76 args) w:=enters_of Tryz.func76 (by kernel_rfl) rfl
def Bd (k:Int×Int):Prop:=-1000<k.1/\k.1<1000/\-1000<k.2/\k.2<1000
def plL (x y:Int×Int):Prop:=x.1<y.1\/x.1=y.1/\x.2<y.2
abbrev BdT:={k:Int×Int // Bd k}
instance:Inhabited BdT:=⟨⟨(0,0),by unfold Bd;decide⟩⟩
theorem wrap64_in {z:Int} (h:-10000<z/\z<10000):wrap64 z=z:=by
 unfold wrap64;omega
theorem plC_lt0 (x y:Int×Int) (hx:Bd x) (hy:Bd y):Tryz.plC x y<0↔plL x y:=by
 unfold Bd at hx hy
 unfold Tryz.plC plL
 rw [wrap64_in (by omega),wrap64_in (by omega)]
 by_cases h:x.1=y.1
 ·rw [if_neg (by simp [h])];omega
 ·rw [if_pos (by simpa using h)];omega
def cfB (x y:BdT):Int:=Tryz.plC x.1 y.1
def encB (x:BdT):List Value:=plV x.1
theorem encB_len (x:BdT):(encB x).length=2:=rfl
theorem encB_one (x:BdT):∀ v∈encB x,v.oneCell'=true:=λv hv=>plV_one1 x.1 v hv
theorem plC_lt (x y:BdT):ltOf cfB x y=true↔plL x.1 y.1:=by
 unfold ltOf
 rw [decide_eq_true_iff]
 exact plC_lt0 x.1 y.1 x.2 y.2
theorem plC_swo:Go.Sort.SWO (ltOf cfB) where
 irrefl x:=Bool.eq_false_iff.2 λh=>by have:=(plC_lt x x).1 h;unfold plL at this;omega
 trans x y z h1 h2:=by rw [plC_lt] at *;unfold plL at *;omega
 ntrans x y z h1 h2:=by
  rw [Bool.eq_false_iff,Ne,plC_lt] at *;unfold plL at *;omega
theorem sortAll_c {E:Nat->Prop} {w0 w:World} {Rs:List Asr} {b n c:Nat} {L:List (Int×Int)} (hB:∀ k∈L,Bd k) (hn:n<=1000000) (S:Sep E w0 w (outA (some ⟨b,0,none⟩) n c L::Rs)) :
  CallV Tryz.prog 129 #[.slice (some ⟨b,0,none⟩) n c,.func (.func 76) #[] #[]] w [] λ_ w'=>∃ L',(L'.Perm L/\L'.Pairwise λx y=>¬ plL y x)/\Sep E w0 w' (outA (some ⟨b,0,none⟩) n c L'::Rs):=by
 obtain ⟨M,rfl⟩:∃ M:List BdT,L=M.map (·.1):=⟨L.pmap Subtype.mk hB,by rw [List.map_pmap];simp⟩
 have e:∀ M:List BdT,(M.map (·.1)).flatMap plV=M.flatMap encB:=λM=>by rw [List.flatMap_map];rfl
 have o:=S.own 0 rfl
 have hL:M.length=n:=by have:=o.len;rw [flat_len plV_len] at this;simp at this;omega
 unfold outA at S
 rw [e] at S o
 have h:=AnyQ.slices_SortFunc Tryz.srtP 2 Tryz.isAgg57 Tryz.sizeOf57 encB encB_len encB_one cfB plC_swo 76 #[] b 0 c M.toArray w less_enters (λ_ _ _ _ x y=>Tryz.less_walk x.1 y.1 _) (Own.holdsK encB_len (d:=M.toArray) o) (o.lt _ rfl) (by simp [hL];omega)
 rw [show M.toArray.size=n by simpa using hL] at h
 refine h.mono λe' w' ⟨he,d',m,os,hp,hs,hw⟩=>⟨(),he,?_⟩
 subst hw
 have hsz:d'.size=M.length:=by simpa using hp.1
 refine ⟨d'.toList.map (·.1),⟨?_,?_⟩,?_⟩
 ·have:=hp.2.2
  rw [show n=d'.size by omega,Array.extract_size,show d'.size=M.toArray.size by simpa using hsz,Array.extract_size] at this
  exact this.map _
 ·rw [List.pairwise_map]
  have:=sortedIn_pw (d:=d') (by rw [hsz,hL];exact hs)
  exact this.imp λ{x y} h=>λk=>by rw [(plC_lt y x).2 k] at h;cases h
 ·unfold outA
  rw [e]
  exact S.sorted encB_len encB_one hsz m os
section
variable {T:List (Int×Int)->List (Int×Int)->Prop} {L:List (Int×Int)}
theorem Told.all (hB:∀ k∈L,Bd k) (hl:L.length<=1000000):Told (λL L'=>L'.Perm L/\L'.Pairwise λx y=>¬ plL y x) L:=λ{E w0 w Rs a n c} S=>by
 have o:=S.own 0 rfl
 have hn:L.length=n:=by have:=o.len;rw [flat_len plV_len] at this;omega
 rcases o.at_ with ⟨h1,h2,h3⟩ | ⟨b,cs,h1,-⟩
 ·have h0:L=[]:=by cases L with | nil=>rfl | cons x l=>cases h3
  subst h0
  exact (Told.nil (T:=λL L'=>L'.Perm L/\L'.Pairwise λx y=>¬ plL y x) ⟨.refl _,.nil⟩) S
 ·subst h1
  apply pagemap_told.vc
  unfold pagemap_told.P
  refine (sortAll_c hB (by omega) S).mono ?_
  rintro ⟨⟩ w1 ⟨L',h,S⟩
  exact ⟨L',h,rfl,S⟩
end
end Go.Proofs.YtcekmdehjnlkpaaGreat.Vc
namespace Go.Proofs
open Go.Shelf Go.RowKit Go.Lib Go.Sort
set_option maxHeartbeats 4000000 in
theorem Tryz.lessS_walk (x y:Go.Proofs.YtcekmdehjnlkpaaGreat.Vc.Sp) (W:World):Calls Tryz.prog 75 #[x.val,y.val] W λe w'=>e=.returned (.int .i64 (Tryz.plC (x.b,x.p) (y.b,y.p)))/\∃ q os',w'=grow (W.drewN q) os':=by
 obtain ⟨x1,x2,⟨x3,x4,x5,x6,x7,x8⟩,⟨x9,x10,x11,x12,x13,x14⟩⟩:=x
 obtain ⟨y1,y2,⟨y3,y4,y5,y6,y7,y8⟩,⟨y9,y10,y11,y12,y13,y14⟩⟩:=y
 have hcon:=λW'=>Tryz.less_walk (x1,x2) (y1,y2) W'
 dsimp only at hcon ⊢
 change ∀ W',Calls Tryz.prog 76 _ _ _ at hcon
 generalize Tryz.plC (x1,x2) (y1,y2)=r at hcon ⊢
 go_enter Tryz.func75,Tryz.ntmps75
 go_wp2_with (go_at_call 76;refine (hcon _).mono ?_;rintro e w' ⟨rfl,q,os,rfl⟩)
 go_ret
 exact ⟨rfl,q,_,by rw [alloc_eq_grow,alloc_eq_grow,grow_grow];show grow (grow (W.drewN q) _) os=_;rw [grow_grow]⟩
end Go.Proofs
namespace Go.Proofs.YtcekmdehjnlkpaaGreat.Vc
open Go Go.Eng Go.RowKit Go.Shelf Go.Proofs
theorem lessS_enters:∀ args w,(callFunc 75 args).run Tryz.prog w=.ok (.enter 75 args) w:=enters_of Tryz.func75 (by kernel_rfl) rfl
abbrev Sp.pk (s:Sp):Int×Int:=(s.b,s.p)
abbrev BdS:={s:Sp // Bd s.pk}
instance:Inhabited BdS:=⟨⟨Sp0,by unfold Bd;decide⟩⟩
def cfS (x y:BdS):Int:=Tryz.plC x.1.pk y.1.pk
def encS (x:BdS):List Value:=x.1.vs
theorem encS_len (x:BdS):(encS x).length=14:=rfl
theorem encS_one (x:BdS):∀ v∈encS x,v.oneCell'=true:=λv hv=>by
 simp [encS] at hv
 rcases hv with h | h | h | h | h | h | h | h | h | h | h | h | h | h <;> subst h <;> rfl
theorem cfS_lt (x y:BdS):ltOf cfS x y=true↔plL x.1.pk y.1.pk:=by
 unfold ltOf
 rw [decide_eq_true_iff]
 exact plC_lt0 x.1.pk y.1.pk x.2 y.2
theorem cfS_swo:Go.Sort.SWO (ltOf cfS) where
 irrefl x:=Bool.eq_false_iff.2 λh=>by have:=(cfS_lt x x).1 h;unfold plL at this;omega
 trans x y z h1 h2:=by rw [cfS_lt] at *;unfold plL at *;omega
 ntrans x y z h1 h2:=by
  rw [Bool.eq_false_iff,Ne,cfS_lt] at *;unfold plL at *;omega
abbrev outS (a:Option Addr) (n c:Nat) (L:List Sp):Asr:=OwnA 59 14 a n c (L.flatMap Sp.vs)
theorem Spv_len (s:Sp):s.vs.length=14:=rfl
theorem sortSp_c {E:Nat->Prop} {w0 w:World} {Rs:List Asr} {a:Option Addr} {n c:Nat} {L:List Sp} (hB:∀ s∈L,Bd s.pk) (hn:n<=1000000) (S:Sep E w0 w (outS a n c L::Rs)) :
  CallV Tryz.prog 74 #[.slice a n c,.func (.func 75) #[] #[]] w [] λ_ w'=>∃ L',(L'.Perm L/\L'.Pairwise λx y=>¬ plL y.pk x.pk)/\Sep E w0 w' (outS a n c L'::Rs):=by
 have o:=S.own 0 rfl
 rcases o.at_ with ⟨h1,h2,h3⟩ | ⟨b,cs,h1,-⟩
 ·have h0:L=[]:=by cases L with | nil=>rfl | cons x l=>cases h3
  subst h0
  have hn0:n=0:=by have:=o.len;simp at this;omega
  subst hn0
  exact Calls.mono (Go.Proofs.AnyF.slices_SortFunc_none Tryz.srtS a c _ w) λe w' ⟨h1,h2⟩=>⟨(),h1,[],⟨.refl _,.nil⟩,by rw [h2];exact S⟩
 subst h1
 obtain ⟨M,rfl⟩:∃ M:List BdS,L=M.map (·.1):=⟨L.pmap Subtype.mk hB,by rw [List.map_pmap];simp⟩
 have e:∀ M:List BdS,(M.map (·.1)).flatMap Sp.vs=M.flatMap encS:=λM=>by rw [List.flatMap_map];rfl
 have hL:M.length=n:=by have:=o.len;rw [flat_len Spv_len] at this;simp at this;omega
 unfold outS at S
 rw [e] at S o
 have h:=AnyQ.slices_SortFunc Tryz.srtS 14 Tryz.isAgg59 Tryz.sizeOf59 encS encS_len encS_one cfS cfS_swo 75 #[] b 0 c M.toArray w lessS_enters (λ_ _ _ _ x y=>Tryz.lessS_walk x.1 y.1 _) (Own.holdsK encS_len (d:=M.toArray) o) (o.lt _ rfl) (by simp [hL];omega)
 rw [show M.toArray.size=n by simpa using hL] at h
 refine h.mono λe' w' ⟨he,d',m,os,hp,hs,hw⟩=>⟨(),he,?_⟩
 subst hw
 have hsz:d'.size=M.length:=by simpa using hp.1
 refine ⟨d'.toList.map (·.1),⟨?_,?_⟩,?_⟩
 ·have:=hp.2.2
  rw [show n=d'.size by omega,Array.extract_size,show d'.size=M.toArray.size by simpa using hsz,Array.extract_size] at this
  exact this.map _
 ·rw [List.pairwise_map]
  have:=sortedIn_pw (d:=d') (by rw [hsz,hL];exact hs)
  exact this.imp λ{x y} h=>λk=>by rw [(cfS_lt y x).2 k] at h;cases h
 ·unfold outS
  rw [e]
  exact S.sorted encS_len encS_one hsz m os
end Go.Proofs.YtcekmdehjnlkpaaGreat.Vc
