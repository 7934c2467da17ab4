/- Texts in one: The plans of functions as plain statements, printed by wip/tools/vcgen.py; the kernel holds each to the code. The contracts of layer 13 (nand): the array's parts, and what only reads it. The contracts of layer 13 (nand): what only reads an array, and a byte changed. The contracts of layer 13 (nand): the power, and a byte changed. The contracts of layer 13 (nand): an operation that is done. The laws FaultBits, FaultSets, FaultClears and FaultWhole of layer 12: each call gives true, and what it read stays. The contracts of layer 13 (nand): a page, programmed. The contracts of layer 13 (nand): a page, programmed. The contracts of layer 13 (nand): a block's bytes; closures of erase and scrub. The contracts of layer 13 (nand): a block, scrubbed or erased. The contracts of layer 13 (nand): a block, erased. The contracts of layer 13 (nand): a new array. The laws GeometryChecks, GeometryIndexes and GeometryQuotas of layer 11: each call gives true, and what it read stays. The contracts of layer 13: the document's array. The contracts of layer 13: the document's array, its blocks. The contracts of layer 13: the document's array, a byte changed. The plans of functions as plain statements, printed by wip/tools/vcgen.py; the kernel holds each to the code. The contracts of layer 21 (ledger): the blocks' changes. The contracts of layer 21 (ledger): its changes. The contracts of layer 21 (ledger): a step, and new ones. Plain laws of layer 21 (ledger): the least one, found upwards and downwards. -/
import Derived.Test.YtbaojfchlhlaeaaGreatZStreamEmptiesb
set_option linter.unusedVariables false
set_option linter.unusedSimpArgs false
namespace Go.Proofs.YtbaojfchlhlaeaaGreat.Vc
open Go Go.Eng
def nand_New.A:Ann:=.two .no (.two .no (.two (.draw (.take 0 (.take 1 (.take 3 (.eff 2 (.eff 4 (.take 5 (.eff 6 (.take 7 (.done)))))))))) (.two (.draw (.take 0 (.take 1 (.take 2 (.take 3 (.take 4 (.take 5 (.take 6 (.take 7 (.take 8 (.eff 9 (.take 10 (.eff 11 (.take 12 (.take 13 (.eff 14 (.done))))))))))))))))) (.two (.two .no (.one (.loop [7,42,43,44,45,46,47,48,49,50,51] [(42,.one (.int .i64))] .no))) (.two .no (.join [61,62,63,64,65,66,67,68,69,70,71,72] [] (.draw (.take 0 (.take 1 (.take 2 (.take 3 (.take 5 (.take 6 (.both 4 (.take 8 (.take 9 (.both 7 (.eff 10 (.take 11 (.take 12 (.eff 13 (.done))))) 10 (.eff 7 (.take 11 (.take 12 (.eff 13 (.done)))))))) 7 (.eff 4 (.take 8 (.take 9 (.eff 10 (.take 11 (.take 12 (.eff 13 (.done)))))))))))))))) (.two (.two .no (.one (.loop [75,76,77,78,79,80,81,82,83,84,85,86] [(75,.one (.int .i64))] .no))) .no)))))))
def nand_New.P (p0_0 p0_1 p0_2 p0_3 p0_4 p0_5:Int) (a1:Option Addr) (n1 c1:Nat) (w:World) (K:(Option Addr)×Int×Unit->World->Prop):Prop:=
 NewV #[.int .i64 p0_0,.int .i64 p0_1,.int .i64 p0_2,.int .i64 p0_3,.int .i64 p0_4,.int .i64 p0_5] 23 w λb1 w2=>
 LoadA w2 ⟨b1,0,none⟩ [.int .i64,.int .i64,.int .i64,.int .i64,.int .i64,.int .i64] λ(x3:Int×Int×Int×Int×Int×Int×Unit)=>
 CallV Tryz.prog 110 #[.agg #[.int .i64 x3.1,.int .i64 x3.2.1,.int .i64 x3.2.2.1,.int .i64 x3.2.2.2.1,.int .i64 x3.2.2.2.2.1,.int .i64 x3.2.2.2.2.2.1]] w2 [.one (.int .i64)] λ(r4:Int×Unit) w5=>
 cond (r4.1 != 0)
 (K (none,(2:Int),()) w5)
 (CallV Tryz.prog 142 #[.slice a1 n1 c1] w5 [.one (.int .i64)] λ(r6:Int×Unit) w7=>
 cond (r6.1 != 0)
 (K (none,(2:Int),()) w7)
 (DrawV λD8=>
 (D8 b1/\LoadA w7.drew ⟨b1,0,none⟩ [.int .i64,.int .i64,.int .i64,.int .i64,.int .i64,.int .i64] λ(x9:Int×Int×Int×Int×Int×Int×Unit)=>
 (D8 b1/\LoadA w7.drew ⟨b1,0,none⟩ [.int .i64,.int .i64,.int .i64,.int .i64,.int .i64,.int .i64] λ(x10:Int×Int×Int×Int×Int×Int×Unit)=>
 CallV Tryz.prog 143 #[.agg #[.int .i64 x10.1,.int .i64 x10.2.1,.int .i64 x10.2.2.1,.int .i64 x10.2.2.2.1,.int .i64 x10.2.2.2.2.1,.int .i64 x10.2.2.2.2.2.1]] w7.drew [.one (.int .i64)] λ(r11:Int×Unit) w12=>
 KeepOn D8 w7.drew w12 /\
 CallV Tryz.prog 144 #[.slice a1 n1 c1] w12 [.one .sl] λ(r13:SlV×Unit) w14=>
 KeepOn D8 w7.drew w14 /\
 NewV #[.int .i64 x9.1,.int .i64 x9.2.1,.int .i64 x9.2.2.1,.int .i64 x9.2.2.2.1,.int .i64 x9.2.2.2.2.1,.int .i64 x9.2.2.2.2.2.1,.int .i64 r11.1,.slice none 0 0,.slice none 0 0,.slice none 0 0,.slice none 0 0,.slice none 0 0,.slice r13.1.a r13.1.n r13.1.c,.bool false,.slice none 0 0] 161 w14 λb15 w16=>
 KeepOn D8 w7.drew w16 /\
 DrawV λD17=>
 (D17 b1/\LoadS w16.drew ⟨b1,0,none⟩ (.int .i64) λ(x18:Int)=>
 (D17 b1/\LoadS w16.drew ⟨b1,1,none⟩ (.int .i64) λ(x19:Int)=>
 Rng .i64 (x18*x19) /\
 LoadS w16.drew ⟨b15,6,none⟩ (.int .i64) λ(x20:Int)=>
 KeepOn D17 w16.drew w16.drew /\
 Rng .i64 ((x18*x19)*x20) /\
 ((0:Int)<=((x18*x19)*x20:Int)/\((x18*x19)*x20:Int)<=((x18*x19)*x20:Int)/\((x18*x19)*x20:Int)<=9223372036854775807/\((1:Nat):Int)*((x18*x19)*x20:Int)<=140737488355328) /\
 NewV (List.replicate (((x18*x19)*x20).toNat) [.int .u8 0]).flatten.toArray 5 w16.drew λb21 w22=>
 KeepOn D17 w16.drew w22 /\
 StoreV w22 ⟨b15,7,none⟩ [.slice (some ⟨b21,0,none⟩) (((x18*x19)*x20).toNat) (((x18*x19)*x20).toNat)] λw23=>
 KeepOn D17 w16.drew w23 /\
 LoadS w23 ⟨b15,7,none⟩ .sl λ(x24:SlV)=>
 LoopV [.one (.int .i64)] ((0:Int),()) w23 λ(z25:Int×Unit) w26 (K27:Int×Unit->World->Prop)=>
 cond (decide (z25.1<((x24.n:Nat):Int)))
 (LoadS w26 ⟨b15,7,none⟩ .sl λ(x28:SlV)=>
 (0<=z25.1/\z25.1<((x28.n:Nat):Int))/\∃ q29:Addr,x28.a=some q29 /\
 StoreV w26 (q29.add (z25.1.toNat*1)) [.int .u8 255] λw30=>
 Rng .i64 (z25.1+1) /\
 K27 (z25.1+1,()) w30)
 (LoadS w26 ⟨b1,0,none⟩ (.int .i64) λ(x31:Int)=>
 LoadS w26 ⟨b1,1,none⟩ (.int .i64) λ(x32:Int)=>
 Rng .i64 (x31*x32) /\
 ((0:Int)<=(x31*x32:Int)/\(x31*x32:Int)<=(x31*x32:Int)/\(x31*x32:Int)<=9223372036854775807/\((8:Nat):Int)*(x31*x32:Int)<=140737488355328) /\
 NewV (List.replicate ((x31*x32).toNat) [.int .i64 0]).flatten.toArray 3 w26 λb33 w34=>
 StoreV w34 ⟨b15,8,none⟩ [.slice (some ⟨b33,0,none⟩) ((x31*x32).toNat) ((x31*x32).toNat)] λw35=>
 JoinV [] (λ(v37:Unit) w38=>
 LoadS w38 ⟨b1,0,none⟩ (.int .i64) λ(x39:Int)=>
 LoopV [.one (.int .i64)] ((0:Int),()) w38 λ(z40:Int×Unit) w41 (K42:Int×Unit->World->Prop)=>
 cond (decide (z40.1<x39))
 (LoadS w41 ⟨b15,9,none⟩ .sl λ(x43:SlV)=>
 NewV #[.int .i64 (-1)] 3 w41 λb44 w45=>
 AppS w45 (some ⟨b44,0,none⟩) 1 1 λns50=>
 AppV w45 3 1 8 x43.a x43.n x43.c ns50 1 λa46 n47 c48 w49=>
 StoreV w49 ⟨b15,9,none⟩ [.slice a46 n47 c48] λw51=>
 Rng .i64 (z40.1+1) /\
 K42 (z40.1+1,()) w51)
 (K ((some ⟨b15,0,none⟩),(0:Int),()) w41)) λ(J36:Unit->World->Prop)=>
 DrawV λD52=>
 (D52 b1/\LoadS w35.drew ⟨b1,0,none⟩ (.int .i64) λ(x53:Int)=>
 (D52 b1/\LoadS w35.drew ⟨b1,0,none⟩ (.int .i64) λ(x54:Int)=>
 ((((0:Int)<=(x53:Int)/\(x53:Int)<=(x53:Int)/\(x53:Int)<=9223372036854775807/\((8:Nat):Int)*(x53:Int)<=140737488355328) /\
 NewV (List.replicate x53.toNat [.int .i64 0]).flatten.toArray 3 w35.drew λb55 w56=>
 KeepOn D52 w35.drew w56 /\
 ((((0:Int)<=(x54:Int)/\(x54:Int)<=(x54:Int)/\(x54:Int)<=9223372036854775807/\((8:Nat):Int)*(x54:Int)<=140737488355328) /\
 NewV (List.replicate x54.toNat [.int .i64 0]).flatten.toArray 3 w56 λb57 w58=>
 KeepOn D52 w35.drew w58 /\
 StoreV w58 ⟨b15,10,none⟩ [.slice (some ⟨b55,0,none⟩) x53.toNat x53.toNat] λw59=>
 KeepOn D52 w35.drew w59 /\
 StoreV w59 ⟨b15,11,none⟩ [.slice (some ⟨b57,0,none⟩) x54.toNat x54.toNat] λw60=>
 KeepOn D52 w35.drew w60 /\
 J36 (()) w60) /\
 (StoreV w56 ⟨b15,10,none⟩ [.slice (some ⟨b55,0,none⟩) x53.toNat x53.toNat] λw61=>
 KeepOn D52 w35.drew w61 /\
 ((0:Int)<=(x54:Int)/\(x54:Int)<=(x54:Int)/\(x54:Int)<=9223372036854775807/\((8:Nat):Int)*(x54:Int)<=140737488355328) /\
 NewV (List.replicate x54.toNat [.int .i64 0]).flatten.toArray 3 w61 λb62 w63=>
 KeepOn D52 w35.drew w63 /\
 StoreV w63 ⟨b15,11,none⟩ [.slice (some ⟨b62,0,none⟩) x54.toNat x54.toNat] λw64=>
 KeepOn D52 w35.drew w64 /\
 J36 (()) w64))) /\
 (((0:Int)<=(x54:Int)/\(x54:Int)<=(x54:Int)/\(x54:Int)<=9223372036854775807/\((8:Nat):Int)*(x54:Int)<=140737488355328) /\
 NewV (List.replicate x54.toNat [.int .i64 0]).flatten.toArray 3 w35.drew λb65 w66=>
 KeepOn D52 w35.drew w66 /\
 ((0:Int)<=(x53:Int)/\(x53:Int)<=(x53:Int)/\(x53:Int)<=9223372036854775807/\((8:Nat):Int)*(x53:Int)<=140737488355328) /\
 NewV (List.replicate x53.toNat [.int .i64 0]).flatten.toArray 3 w66 λb67 w68=>
 KeepOn D52 w35.drew w68 /\
 StoreV w68 ⟨b15,10,none⟩ [.slice (some ⟨b67,0,none⟩) x53.toNat x53.toNat] λw69=>
 KeepOn D52 w35.drew w69 /\
 StoreV w69 ⟨b15,11,none⟩ [.slice (some ⟨b65,0,none⟩) x54.toNat x54.toNat] λw70=>
 KeepOn D52 w35.drew w70 /\
 J36 (()) w70)))))))))))
theorem nand_New.vc (p0_0 p0_1 p0_2 p0_3 p0_4 p0_5:Int) (a1:Option Addr) (n1 c1:Nat) (w:World) (K:(Option Addr)×Int×Unit->World->Prop) (h:nand_New.P p0_0 p0_1 p0_2 p0_3 p0_4 p0_5 a1 n1 c1 w K):CallV Tryz.prog 78 #[.agg #[.int .i64 p0_0,.int .i64 p0_1,.int .i64 p0_2,.int .i64 p0_3,.int .i64 p0_4,.int .i64 p0_5],.slice a1 n1 c1] w [.one .ptr,.one (.int .i64)] K:=by
 refine vcFun.of (A:=nand_New.A) (wr:=false) okf_ok follows h Tryz.func78 ?_
 kernel_rfl
def nand_Chip_page.A:Ann:=.two .no (.two (.draw (.take 0 (.take 1 (.take 2 (.take 3 (.take 4 (.take 5 (.take 6 (.take 7 (.take 8 (.take 9 (.take 10 (.take 11 (.take 12 (.take 13 (.take 14 (.take 15 (.take 16 (.take 17 (.take 18 (.take 19 (.take 20 (.take 21 (.take 22 (.take 23 (.take 24 (.take 25 (.done)))))))))))))))))))))))))))) .no)
def nand_Chip_page.P (p0:Addr) (p1:Int) (w:World) (K:SlV×Unit->World->Prop):Prop:=
 DrawV λD1=>
 (D1 (p0.add 7).block/\LoadS w.drew (p0.add 7) .sl λ(x2:SlV)=>
 (D1 (p0.add 6).block/\LoadS w.drew (p0.add 6) (.int .i64) λ(x3:Int)=>
 Rng .i64 (p1*x3) /\
 Rng .i64 (p1+1) /\
 (D1 (p0.add 6).block/\LoadS w.drew (p0.add 6) (.int .i64) λ(x4:Int)=>
 Rng .i64 ((p1+1)*x4) /\
 Rng .i64 (p1+1) /\
 (D1 (p0.add 6).block/\LoadS w.drew (p0.add 6) (.int .i64) λ(x5:Int)=>
 Rng .i64 ((p1+1)*x5) /\
 ((0:Int)<=(p1*x3)/\(p1*x3)<=((p1+1)*x4)/\((p1+1)*x4)<=((p1+1)*x5)/\((p1+1)*x5)<=((x2.c:Nat):Int)) /\
 SubK x2.a ((p1*x3).toNat) (((p1+1)*x5).toNat) 1 λa6=>
 K ((⟨a6,(((p1+1)*x4).toNat)-((p1*x3).toNat),(((p1+1)*x5).toNat)-((p1*x3).toNat)⟩:SlV),()) w.drew))))
theorem nand_Chip_page.vc (p0:Addr) (p1:Int) (w:World) (K:SlV×Unit->World->Prop) (h:nand_Chip_page.P p0 p1 w K):CallV Tryz.prog 188 #[.pointer (some p0),.int .i64 p1] w [.one .sl] K:=by
 refine vcFun.of (A:=nand_Chip_page.A) (wr:=false) okf_ok follows h Tryz.func188 ?_
 kernel_rfl
def nand_Chip_block.A:Ann:=.two .no (.two (.draw (.take 0 (.take 1 (.take 2 (.take 3 (.take 4 (.take 5 (.take 6 (.take 7 (.take 8 (.take 9 (.take 10 (.done))))))))))))) .no)
def nand_Chip_block.P (p0:Addr) (p1:Int) (w:World) (K:SlV×Unit->World->Prop):Prop:=
 DrawV λD1=>
 (D1 (p0.add 1).block/\LoadS w.drew (p0.add 1) (.int .i64) λ(x2:Int)=>
 (D1 (p0.add 6).block/\LoadS w.drew (p0.add 6) (.int .i64) λ(x3:Int)=>
 Rng .i64 (x2*x3) /\
 LoadS w.drew (p0.add 7) .sl λ(x4:SlV)=>
 Rng .i64 (p1*(x2*x3)) /\
 Rng .i64 (p1+1) /\
 Rng .i64 ((p1+1)*(x2*x3)) /\
 Rng .i64 (p1+1) /\
 Rng .i64 ((p1+1)*(x2*x3)) /\
 ((0:Int)<=(p1*(x2*x3))/\(p1*(x2*x3))<=((p1+1)*(x2*x3))/\((p1+1)*(x2*x3))<=((p1+1)*(x2*x3))/\((p1+1)*(x2*x3))<=((x4.c:Nat):Int)) /\
 SubK x4.a ((p1*(x2*x3)).toNat) (((p1+1)*(x2*x3)).toNat) 1 λa5=>
 K ((⟨a5,(((p1+1)*(x2*x3)).toNat)-((p1*(x2*x3)).toNat),(((p1+1)*(x2*x3)).toNat)-((p1*(x2*x3)).toNat)⟩:SlV),()) w.drew))
theorem nand_Chip_block.vc (p0:Addr) (p1:Int) (w:World) (K:SlV×Unit->World->Prop) (h:nand_Chip_block.P p0 p1 w K):CallV Tryz.prog 213 #[.pointer (some p0),.int .i64 p1] w [.one .sl] K:=by
 refine vcFun.of (A:=nand_Chip_block.A) (wr:=false) okf_ok follows h Tryz.func213 ?_
 kernel_rfl
def nand_Chip_done.A:Ann:=.two .no (.two .no (.join [14,15,16,17,18,19,20,21,22,23,24,25,26,27,28] [(14,.one .ptr),(15,.one .bool)] (.draw (.take 0 (.take 1 (.take 2 (.take 3 (.take 4 (.take 5 (.take 6 (.take 7 (.take 8 (.both 9 (.take 10 (.take 11 (.take 12 (.eff 13 (.eff 14 (.take 15 (.done))))))) 13 (.eff 9 (.take 10 (.take 11 (.take 12 (.eff 14 (.take 15 (.done)))))))))))))))))) (.join [13,29,30,31,32,33,34,35,36,37,38,39,40,41,42,43,44,45,46,47,48,49,50,51,52,53,54] [(13,.one (.int .i64))] .no (.join [55,56,57,58,59,60,61,62,63,64,65,66,67,68,69,70] [] (.draw (.take 0 (.take 1 (.take 2 (.take 3 (.take 5 (.take 6 (.take 8 (.take 10 (.both 4 (.eff 7 (.eff 9 (.take 11 (.eff 12 (.eff 13 (.take 14 (.take 15 (.eff 16 (.done))))))))) 7 (.both 4 (.eff 9 (.take 11 (.eff 12 (.eff 13 (.take 14 (.take 15 (.eff 16 (.done)))))))) 9 (.take 11 (.both 4 (.eff 12 (.eff 13 (.take 14 (.take 15 (.eff 16 (.done)))))) 12 (.eff 4 (.eff 13 (.take 14 (.take 15 (.eff 16 (.done))))))))))))))))))) .no))))
def nand_Chip_done.P (p0:Addr) (p1 p2_0 p2_1:Int) (a3:Option Addr) (n3 c3:Nat) (p4_0 p4_1:(FuncId×Array Value×Array Value)) (a5:Option Addr) (n5 c5:Nat) (w:World) (K:Int×Unit->World->Prop):Prop:=
 NewV #[.int .i64 p2_0,.int .i64 p2_1] 81 w λb1 w2=>
 NewV #[.func (.func p4_0.1) p4_0.2.1 p4_0.2.2,.func (.func p4_1.1) p4_1.2.1 p4_1.2.2] 274 w2 λb3 w4=>
 JoinV [.one .ptr,.one .bool] (λ(v6:(Option Addr)×Bool×Unit) w7=>
 JoinV [.one (.int .i64)] (λ(v9:Int×Unit) w10=>
 JoinV [] (λ(v12:Unit) w13=>
 K (v9.1,()) w13) λ(J11:Unit->World->Prop)=>
 DrawV λD14=>
 (D14 b1/\LoadA w10.drew ⟨b1,0,none⟩ [.int .i64,.int .i64] λ(x15:Int×Int×Unit)=>
 ((LoadS w10.drew (p0.add 14) .sl λ(x16:SlV)=>
 KeepOn D14 w10.drew w10.drew /\
 NewV #[] 5 w10.drew λb17 w18=>
 KeepOn D14 w10.drew w18 /\
 AppS w18 a3 n3 1 λns23=>
 AppV w18 5 1 1 (some ⟨b17,0,none⟩) 0 0 ns23 n3 λa19 n20 c21 w22=>
 KeepOn D14 w10.drew w22 /\
 NewV #[.int .i64 p1,.int .i64 x15.1,.int .i64 x15.2.1,.slice a19 n20 c21,.int .i64 v9.1] 164 w22 λb24 w25=>
 KeepOn D14 w10.drew w25 /\
 AppS w25 (some ⟨b24,0,none⟩) 1 5 λns30=>
 AppV w25 164 5 56 x16.a x16.n x16.c ns30 1 λa26 n27 c28 w29=>
 KeepOn D14 w10.drew w29 /\
 StoreV w29 (p0.add 14) [.slice a26 n27 c28] λw31=>
 KeepOn D14 w10.drew w31 /\
 J11 (()) w31) /\
 (NewV #[] 5 w10.drew λb32 w33=>
 KeepOn D14 w10.drew w33 /\
 ((LoadS w33 (p0.add 14) .sl λ(x34:SlV)=>
 KeepOn D14 w10.drew w33 /\
 AppS w33 a3 n3 1 λns39=>
 AppV w33 5 1 1 (some ⟨b32,0,none⟩) 0 0 ns39 n3 λa35 n36 c37 w38=>
 KeepOn D14 w10.drew w38 /\
 NewV #[.int .i64 p1,.int .i64 x15.1,.int .i64 x15.2.1,.slice a35 n36 c37,.int .i64 v9.1] 164 w38 λb40 w41=>
 KeepOn D14 w10.drew w41 /\
 AppS w41 (some ⟨b40,0,none⟩) 1 5 λns46=>
 AppV w41 164 5 56 x34.a x34.n x34.c ns46 1 λa42 n43 c44 w45=>
 KeepOn D14 w10.drew w45 /\
 StoreV w45 (p0.add 14) [.slice a42 n43 c44] λw47=>
 KeepOn D14 w10.drew w47 /\
 J11 (()) w47) /\
 (AppS w33 a3 n3 1 λns52=>
 AppV w33 5 1 1 (some ⟨b32,0,none⟩) 0 0 ns52 n3 λa48 n49 c50 w51=>
 KeepOn D14 w10.drew w51 /\
 ((LoadS w51 (p0.add 14) .sl λ(x53:SlV)=>
 KeepOn D14 w10.drew w51 /\
 NewV #[.int .i64 p1,.int .i64 x15.1,.int .i64 x15.2.1,.slice a48 n49 c50,.int .i64 v9.1] 164 w51 λb54 w55=>
 KeepOn D14 w10.drew w55 /\
 AppS w55 (some ⟨b54,0,none⟩) 1 5 λns60=>
 AppV w55 164 5 56 x53.a x53.n x53.c ns60 1 λa56 n57 c58 w59=>
 KeepOn D14 w10.drew w59 /\
 StoreV w59 (p0.add 14) [.slice a56 n57 c58] λw61=>
 KeepOn D14 w10.drew w61 /\
 J11 (()) w61) /\
 (NewV #[.int .i64 p1,.int .i64 x15.1,.int .i64 x15.2.1,.slice a48 n49 c50,.int .i64 v9.1] 164 w51 λb62 w63=>
 KeepOn D14 w10.drew w63 /\
 LoadS w63 (p0.add 14) .sl λ(x64:SlV)=>
 KeepOn D14 w10.drew w63 /\
 AppS w63 (some ⟨b62,0,none⟩) 1 5 λns69=>
 AppV w63 164 5 56 x64.a x64.n x64.c ns69 1 λa65 n66 c67 w68=>
 KeepOn D14 w10.drew w68 /\
 StoreV w68 (p0.add 14) [.slice a65 n66 c67] λw70=>
 KeepOn D14 w10.drew w70 /\
 J11 (()) w70)))))))) λ(J8:Int×Unit->World->Prop)=>
 cond (!v6.2.1)
 (LoadS w7 ⟨b3,0,none⟩ .fn λ(x71:(FuncId×Array Value×Array Value))=>
 cond (okf x71.1)
 (CallV Tryz.prog x71.1 ((x71.2.1).toList++([]++(x71.2.2).toList)).toArray w7 [.one .sl] λ(r72:SlV×Unit) w73=>
 CopyV w73 a5 r72.1.a (Nat.min r72.1.n n5) 1 λw74=>
 J8 ((0:Int),()) w74)
 False)
 (PtrK v6.1 λq75=>
 LoadS w7 (q75.add 1) .bool λ(x76:Bool)=>
 cond x76
 (LoadS w7 ⟨b3,1,none⟩ .fn λ(x77:(FuncId×Array Value×Array Value))=>
 PtrK v6.1 λq78=>
 LoadA w7 q78 [.int .i64,.bool,.sl] λ(x79:Int×Bool×SlV×Unit)=>
 cond (okf x77.1)
 (CallV Tryz.prog x77.1 ((x77.2.1).toList++((([.agg #[.int .i64 x79.1,.bool x79.2.1,.slice x79.2.2.1.a x79.2.2.1.n x79.2.2.1.c]]:List Value))++(x77.2.2).toList)).toArray w7 [.one .sl] λ(r80:SlV×Unit) w81=>
 CopyV w81 a5 r80.1.a (Nat.min r80.1.n n5) 1 λw82=>
 StoreV w82 (p0.add 13) [.bool true] λw83=>
 J8 ((4:Int),()) w83)
 False)
 (LoadS w7 ⟨b3,1,none⟩ .fn λ(x84:(FuncId×Array Value×Array Value))=>
 PtrK v6.1 λq85=>
 LoadA w7 q85 [.int .i64,.bool,.sl] λ(x86:Int×Bool×SlV×Unit)=>
 cond (okf x84.1)
 (CallV Tryz.prog x84.1 ((x84.2.1).toList++((([.agg #[.int .i64 x86.1,.bool x86.2.1,.slice x86.2.2.1.a x86.2.2.1.n x86.2.2.1.c]]:List Value))++(x84.2.2).toList)).toArray w7 [.one .sl] λ(r87:SlV×Unit) w88=>
 CopyV w88 a5 r87.1.a (Nat.min r87.1.n n5) 1 λw89=>
 J8 ((5:Int),()) w89)
 False))) λ(J5:(Option Addr)×Bool×Unit->World->Prop)=>
 DrawV λD90=>
 (D90 (p0.add 12).block/\LoadS w4.drew (p0.add 12) .sl λ(x91:SlV)=>
 (D90 (p0.add 14).block/\LoadS w4.drew (p0.add 14) .sl λ(x92:SlV)=>
 ((CallV Tryz.prog 258 #[.slice x91.a x91.n x91.c,.int .i64 ((x92.n:Nat):Int)] w4.drew [.agg [.int .i64,.bool,.sl],.one .bool] λ(r93:(Int×Bool×SlV×Unit)×Bool×Unit) w94=>
 KeepOn D90 w4.drew w94 /\
 NewV #[.int .i64 0,.bool false,.slice none 0 0] 88 w94 λb95 w96=>
 KeepOn D90 w4.drew w96 /\
 StoreV w96 ⟨b95,0,none⟩ [.int .i64 r93.1.1,.bool r93.1.2.1,.slice r93.1.2.2.1.a r93.1.2.2.1.n r93.1.2.2.1.c] λw97=>
 KeepOn D90 w4.drew w97 /\
 J5 ((some ⟨b95,0,none⟩),r93.2.1,()) w97) /\
 (NewV #[.int .i64 0,.bool false,.slice none 0 0] 88 w4.drew λb98 w99=>
 KeepOn D90 w4.drew w99 /\
 CallV Tryz.prog 258 #[.slice x91.a x91.n x91.c,.int .i64 ((x92.n:Nat):Int)] w99 [.agg [.int .i64,.bool,.sl],.one .bool] λ(r100:(Int×Bool×SlV×Unit)×Bool×Unit) w101=>
 KeepOn D90 w4.drew w101 /\
 StoreV w101 ⟨b98,0,none⟩ [.int .i64 r100.1.1,.bool r100.1.2.1,.slice r100.1.2.2.1.a r100.1.2.2.1.n r100.1.2.2.1.c] λw102=>
 KeepOn D90 w4.drew w102 /\
 J5 ((some ⟨b98,0,none⟩),r100.2.1,()) w102))))
theorem nand_Chip_done.vc (p0:Addr) (p1 p2_0 p2_1:Int) (a3:Option Addr) (n3 c3:Nat) (p4_0 p4_1:(FuncId×Array Value×Array Value)) (a5:Option Addr) (n5 c5:Nat) (w:World) (K:Int×Unit->World->Prop) (h:nand_Chip_done.P p0 p1 p2_0 p2_1 a3 n3 c3 p4_0 p4_1 a5 n5 c5 w K):CallV Tryz.prog 217 #[.pointer (some p0),.int .i64 p1,.agg #[.int .i64 p2_0,.int .i64 p2_1],.slice a3 n3 c3,.agg #[.func (.func p4_0.1) p4_0.2.1 p4_0.2.2,.func (.func p4_1.1) p4_1.2.1 p4_1.2.2],.slice a5 n5 c5] w [.one (.int .i64)] K:=by
 refine vcFun.of (A:=nand_Chip_done.A) (wr:=false) okf_ok follows h Tryz.func217 ?_
 kernel_rfl
def nand_Chip_refused.A:Ann:=.two .no (.two .no (.two (.one (.two (.draw (.take 0 (.take 1 (.take 2 (.take 3 (.take 4 (.take 5 (.take 6 (.take 7 (.take 8 (.take 9 (.take 10 (.take 11 (.take 12 (.take 13 (.take 14 (.take 15 (.take 16 (.take 17 (.take 18 (.take 19 (.done)))))))))))))))))))))) (.two .no (.two (.draw (.take 0 (.take 1 (.take 2 (.take 3 (.take 4 (.take 5 (.take 6 (.take 7 (.take 8 (.take 9 (.take 10 (.take 11 (.take 12 (.take 13 (.take 14 (.take 15 (.take 16 (.take 17 (.take 18 (.take 19 (.take 20 (.take 21 (.done)))))))))))))))))))))))) .no)))) .no))
def nand_Chip_refused.P (p0:Addr) (p1_0 p1_1 p2 p3:Int) (w:World) (K:Int×Unit->World->Prop):Prop:=
 NewV #[.int .i64 p1_0,.int .i64 p1_1] 81 w λb1 w2=>
 LoadS w2 (p0.add 6) (.int .i64) λ(x3:Int)=>
 cond (p3 != x3)
 (K ((2:Int),()) w2)
 (DrawV λD4=>
 (D4 (p0.add 10).block/\LoadS w2.drew (p0.add 10) .sl λ(x5:SlV)=>
 (D4 b1/\LoadS w2.drew ⟨b1,0,none⟩ (.int .i64) λ(x6:Int)=>
 (0<=x6/\x6<((x5.n:Nat):Int))/\∃ q7:Addr,x5.a=some q7 /\
 (D4 (q7.add (x6.toNat*1)).block/\LoadS w2.drew (q7.add (x6.toNat*1)) (.int .i64) λ(x8:Int)=>
 cond (decide (x8>0))
 (K ((7:Int),()) w2.drew)
 ((D4 (p0.add 8).block/\LoadS w2.drew (p0.add 8) .sl λ(x9:SlV)=>
 (0<=p2/\p2<((x9.n:Nat):Int))/\∃ q10:Addr,x9.a=some q10 /\
 (D4 (q10.add (p2.toNat*1)).block/\LoadS w2.drew (q10.add (p2.toNat*1)) (.int .i64) λ(x11:Int)=>
 cond (decide (x11≥2))
 (K ((7:Int),()) w2.drew)
 (DrawV λD12=>
 (D12 (p0.add 8).block/\LoadS w2.drew.drew (p0.add 8) .sl λ(x13:SlV)=>
 (0<=p2/\p2<((x13.n:Nat):Int))/\∃ q14:Addr,x13.a=some q14 /\
 (D12 (q14.add (p2.toNat*1)).block/\LoadS w2.drew.drew (q14.add (p2.toNat*1)) (.int .i64) λ(x15:Int)=>
 cond (x15 == 0)
 ((D12 b1/\LoadS w2.drew.drew ⟨b1,1,none⟩ (.int .i64) λ(x16:Int)=>
 (D12 (p0.add 9).block/\LoadS w2.drew.drew (p0.add 9) .sl λ(x17:SlV)=>
 (D12 b1/\LoadS w2.drew.drew ⟨b1,0,none⟩ (.int .i64) λ(x18:Int)=>
 (0<=x18/\x18<((x17.n:Nat):Int))/\∃ q19:Addr,x17.a=some q19 /\
 (D12 (q19.add (x18.toNat*1)).block/\LoadS w2.drew.drew (q19.add (x18.toNat*1)) (.int .i64) λ(x20:Int)=>
 cond (decide (x16<=x20))
 (K ((6:Int),()) w2.drew.drew)
 (K ((0:Int),()) w2.drew.drew))))))
 (K ((0:Int),()) w2.drew.drew)))))))))))
theorem nand_Chip_refused.vc (p0:Addr) (p1_0 p1_1 p2 p3:Int) (w:World) (K:Int×Unit->World->Prop) (h:nand_Chip_refused.P p0 p1_0 p1_1 p2 p3 w K):CallV Tryz.prog 250 #[.pointer (some p0),.agg #[.int .i64 p1_0,.int .i64 p1_1],.int .i64 p2,.int .i64 p3] w [.one (.int .i64)] K:=by
 refine vcFun.of (A:=nand_Chip_refused.A) (wr:=false) okf_ok follows h Tryz.func250 ?_
 kernel_rfl
def nand_Chip_Program.A:Ann:=.two .no (.two .no (.two (.draw (.take 0 (.take 1 (.take 2 (.take 3 (.take 4 (.eff 5 (.take 6 (.take 7 (.take 8 (.take 9 (.take 10 (.done))))))))))))) (.two .no (.two .no (.two .no (.two .no (.join [49,50,51,52,53,54,55,56,57,58,59,60,61,62,63,64,65,66] [] (.draw (.take 0 (.take 1 (.take 2 (.take 4 (.take 5 (.take 6 (.take 7 (.take 8 (.take 10 (.take 11 (.take 14 (.take 15 (.both 3 (.eff 9 (.take 12 (.eff 13 (.take 16 (.take 17 (.eff 18 (.done))))))) 9 (.take 12 (.both 3 (.eff 13 (.take 16 (.take 17 (.eff 18 (.done))))) 13 (.take 16 (.eff 3 (.take 17 (.eff 18 (.done))))))))))))))))))))) .no)))))))
def nand_Chip_Program.P (p0:Addr) (p1_0 p1_1:Int) (a2:Option Addr) (n2 c2:Nat) (w:World) (K:Int×Unit->World->Prop):Prop:=
 NewV #[.int .i64 p1_0,.int .i64 p1_1] 81 w λb1 w2=>
 NewV #[.slice a2 n2 c2] 63 w2 λb3 w4=>
 CallV Tryz.prog 99 #[.pointer (some p0)] w4 [.one .bool] λ(r5:Bool×Unit) w6=>
 cond (!r5.1)
 (K ((4:Int),()) w6)
 (DrawV λD7=>
 (D7 p0.block/\LoadA w6.drew p0 [.int .i64,.int .i64,.int .i64,.int .i64,.int .i64,.int .i64] λ(x8:Int×Int×Int×Int×Int×Int×Unit)=>
 (D7 b1/\LoadA w6.drew ⟨b1,0,none⟩ [.int .i64,.int .i64] λ(x9:Int×Int×Unit)=>
 CallV Tryz.prog 187 #[.agg #[.int .i64 x8.1,.int .i64 x8.2.1,.int .i64 x8.2.2.1,.int .i64 x8.2.2.2.1,.int .i64 x8.2.2.2.2.1,.int .i64 x8.2.2.2.2.2.1],.agg #[.int .i64 x9.1,.int .i64 x9.2.1]] w6.drew [.one (.int .i64),.one (.int .i64)] λ(r10:Int×Int×Unit) w11=>
 KeepOn D7 w6.drew w11 /\
 cond (r10.2.1 != 0)
 (K (r10.2.1,()) w11)
 (LoadA w11 ⟨b1,0,none⟩ [.int .i64,.int .i64] λ(x12:Int×Int×Unit)=>
 LoadS w11 ⟨b3,0,none⟩ .sl λ(x13:SlV)=>
 CallV Tryz.prog 250 #[.pointer (some p0),.agg #[.int .i64 x12.1,.int .i64 x12.2.1],.int .i64 r10.1,.int .i64 ((x13.n:Nat):Int)] w11 [.one (.int .i64)] λ(r14:Int×Unit) w15=>
 cond (r14.1 != 0)
 (K (r14.1,()) w15)
 (CallV Tryz.prog 188 #[.pointer (some p0),.int .i64 r10.1] w15 [.one .sl] λ(r16:SlV×Unit) w17=>
 NewV #[.slice none 0 0] 63 w17 λb18 w19=>
 StoreV w19 ⟨b18,0,none⟩ [.slice r16.1.a r16.1.n r16.1.c] λw20=>
 LoadS w20 (p0.add 8) .sl λ(x21:SlV)=>
 (0<=r10.1/\r10.1<((x21.n:Nat):Int))/\∃ q22:Addr,x21.a=some q22 /\
 LoadS w20 (q22.add (r10.1.toNat*1)) (.int .i64) λ(x23:Int)=>
 Rng .i64 (x23+1) /\
 (0<=r10.1/\r10.1<((x21.n:Nat):Int))/\∃ q24:Addr,x21.a=some q24 /\
 StoreV w20 (q24.add (r10.1.toNat*1)) [.int .i64 (x23+1)] λw25=>
 JoinV [] (λ(v27:Unit) w28=>
 LoadA w28 ⟨b1,0,none⟩ [.int .i64,.int .i64] λ(x29:Int×Int×Unit)=>
 LoadS w28 ⟨b3,0,none⟩ .sl λ(x30:SlV)=>
 LoadS w28 ⟨b18,0,none⟩ .sl λ(x31:SlV)=>
 CallV Tryz.prog 217 #[.pointer (some p0),.int .i64 1,.agg #[.int .i64 x29.1,.int .i64 x29.2.1],.slice x30.a x30.n x30.c,.agg #[.func (.func 251) #[] #[.pointer (some ⟨b18,0,none⟩),.pointer (some ⟨b3,0,none⟩)],.func (.func 252) #[] #[.pointer (some ⟨b18,0,none⟩),.pointer (some ⟨b3,0,none⟩)]],.slice x31.a x31.n x31.c] w28 [.one (.int .i64)] λ(r32:Int×Unit) w33=>
 K (r32.1,()) w33) λ(J26:Unit->World->Prop)=>
 DrawV λD34=>
 (D34 b1/\LoadS w25.drew ⟨b1,0,none⟩ (.int .i64) λ(x35:Int)=>
 (D34 b1/\LoadS w25.drew ⟨b1,0,none⟩ (.int .i64) λ(x36:Int)=>
 (D34 b1/\LoadS w25.drew ⟨b1,1,none⟩ (.int .i64) λ(x37:Int)=>
 ((LoadS w25.drew (p0.add 9) .sl λ(x38:SlV)=>
 KeepOn D34 w25.drew w25.drew /\
 LoadS w25.drew (p0.add 9) .sl λ(x39:SlV)=>
 KeepOn D34 w25.drew w25.drew /\
 (0<=x36/\x36<((x39.n:Nat):Int))/\∃ q40:Addr,x39.a=some q40 /\
 LoadS w25.drew (q40.add (x36.toNat*1)) (.int .i64) λ(x41:Int)=>
 KeepOn D34 w25.drew w25.drew /\
 NameI (max x41 x37) λz42=>
 (0<=x35/\x35<((x38.n:Nat):Int))/\∃ q43:Addr,x38.a=some q43 /\
 StoreV w25.drew (q43.add (x35.toNat*1)) [.int .i64 z42] λw44=>
 KeepOn D34 w25.drew w44 /\
 J26 (()) w44) /\
 (LoadS w25.drew (p0.add 9) .sl λ(x45:SlV)=>
 KeepOn D34 w25.drew w25.drew /\
 (0<=x36/\x36<((x45.n:Nat):Int))/\∃ q46:Addr,x45.a=some q46 /\
 ((LoadS w25.drew (p0.add 9) .sl λ(x47:SlV)=>
 KeepOn D34 w25.drew w25.drew /\
 LoadS w25.drew (q46.add (x36.toNat*1)) (.int .i64) λ(x48:Int)=>
 KeepOn D34 w25.drew w25.drew /\
 NameI (max x48 x37) λz49=>
 (0<=x35/\x35<((x47.n:Nat):Int))/\∃ q50:Addr,x47.a=some q50 /\
 StoreV w25.drew (q50.add (x35.toNat*1)) [.int .i64 z49] λw51=>
 KeepOn D34 w25.drew w51 /\
 J26 (()) w51) /\
 (LoadS w25.drew (q46.add (x36.toNat*1)) (.int .i64) λ(x52:Int)=>
 KeepOn D34 w25.drew w25.drew /\
 NameI (max x52 x37) λz53=>
 LoadS w25.drew (p0.add 9) .sl λ(x54:SlV)=>
 KeepOn D34 w25.drew w25.drew /\
 (0<=x35/\x35<((x54.n:Nat):Int))/\∃ q55:Addr,x54.a=some q55 /\
 StoreV w25.drew (q55.add (x35.toNat*1)) [.int .i64 z53] λw56=>
 KeepOn D34 w25.drew w56 /\
 J26 (()) w56))))))))))))
theorem nand_Chip_Program.vc (p0:Addr) (p1_0 p1_1:Int) (a2:Option Addr) (n2 c2:Nat) (w:World) (K:Int×Unit->World->Prop) (h:nand_Chip_Program.P p0 p1_0 p1_1 a2 n2 c2 w K):CallV Tryz.prog 205 #[.pointer (some p0),.agg #[.int .i64 p1_0,.int .i64 p1_1],.slice a2 n2 c2] w [.one (.int .i64)] K:=by
 refine vcFun.of (A:=nand_Chip_Program.A) (wr:=false) okf_ok follows h Tryz.func205 ?_
 kernel_rfl
def nand_Chip_Program_1.A:Ann:=.no
def nand_Chip_Program_1.P (cq0 cq1:Addr) (w:World) (K:SlV×Unit->World->Prop):Prop:=
 LoadS w cq0 .sl λ(x1:SlV)=>
 LoadS w cq1 .sl λ(x2:SlV)=>
 CallV Tryz.prog 222 #[.slice x1.a x1.n x1.c,.slice x2.a x2.n x2.c,.slice none 0 0] w [.one .sl,.one (.int .i64)] λ(r3:SlV×Int×Unit) w4=>
 K (r3.1,()) w4
theorem nand_Chip_Program_1.vc (cq0 cq1:Addr) (w:World) (K:SlV×Unit->World->Prop) (h:nand_Chip_Program_1.P cq0 cq1 w K):CallV Tryz.prog 251 #[.pointer (some cq0),.pointer (some cq1)] w [.one .sl] K:=by
 refine vcFun.of (A:=nand_Chip_Program_1.A) (wr:=false) okf_ok follows h Tryz.func251 ?_
 kernel_rfl
def nand_Chip_Program_2.A:Ann:=.no
def nand_Chip_Program_2.P (p0_0:Int) (p0_1:Bool) (a0_2:Option Addr) (n0_2 c0_2:Nat) (cq0 cq1:Addr) (w:World) (K:SlV×Unit->World->Prop):Prop:=
 NewV #[.int .i64 p0_0,.bool p0_1,.slice a0_2 n0_2 c0_2] 88 w λb1 w2=>
 LoadS w2 cq0 .sl λ(x3:SlV)=>
 LoadS w2 cq1 .sl λ(x4:SlV)=>
 LoadS w2 ⟨b1,2,none⟩ .sl λ(x5:SlV)=>
 CallV Tryz.prog 222 #[.slice x3.a x3.n x3.c,.slice x4.a x4.n x4.c,.slice x5.a x5.n x5.c] w2 [.one .sl,.one (.int .i64)] λ(r6:SlV×Int×Unit) w7=>
 LoadS w7 ⟨b1,1,none⟩ .bool λ(x8:Bool)=>
 cond (!x8)
 (LoadS w7 cq0 .sl λ(x9:SlV)=>
 LoadS w7 cq1 .sl λ(x10:SlV)=>
 LoadS w7 ⟨b1,2,none⟩ .sl λ(x11:SlV)=>
 CallV Tryz.prog 253 #[.slice x9.a x9.n x9.c,.slice x10.a x10.n x10.c,.slice x11.a x11.n x11.c] w7 [.one .sl,.one (.int .i64)] λ(r12:SlV×Int×Unit) w13=>
 K (r12.1,()) w13)
 (K (r6.1,()) w7)
theorem nand_Chip_Program_2.vc (p0_0:Int) (p0_1:Bool) (a0_2:Option Addr) (n0_2 c0_2:Nat) (cq0 cq1:Addr) (w:World) (K:SlV×Unit->World->Prop) (h:nand_Chip_Program_2.P p0_0 p0_1 a0_2 n0_2 c0_2 cq0 cq1 w K):CallV Tryz.prog 252 #[.agg #[.int .i64 p0_0,.bool p0_1,.slice a0_2 n0_2 c0_2],.pointer (some cq0),.pointer (some cq1)] w [.one .sl] K:=by
 refine vcFun.of (A:=nand_Chip_Program_2.A) (wr:=false) okf_ok follows h Tryz.func252 ?_
 kernel_rfl
def nand_Chip_may.A:Ann:=.no
def nand_Chip_may.P (p0:Addr) (p1:Int) (w:World) (K:Int×Unit->World->Prop):Prop:=
 CallV Tryz.prog 99 #[.pointer (some p0)] w [.one .bool] λ(r1:Bool×Unit) w2=>
 cond (!r1.1)
 (K ((4:Int),()) w2)
 (cond (decide (p1<0))
 (K ((2:Int),()) w2)
 (LoadS w2 p0 (.int .i64) λ(x3:Int)=>
 cond (decide (p1≥x3))
 (K ((2:Int),()) w2)
 (K ((0:Int),()) w2)))
theorem nand_Chip_may.vc (p0:Addr) (p1:Int) (w:World) (K:Int×Unit->World->Prop) (h:nand_Chip_may.P p0 p1 w K):CallV Tryz.prog 212 #[.pointer (some p0),.int .i64 p1] w [.one (.int .i64)] K:=by
 refine vcFun.of (A:=nand_Chip_may.A) (wr:=false) okf_ok follows h Tryz.func212 ?_
 kernel_rfl
def nand_Chip_Erase.A:Ann:=.two .no (.two .no (.two .no (.two .no (.two .no (.two .no (.two .no (.two (.two .no (.two (.two (.draw (.take 0 (.take 1 (.take 2 (.take 3 (.take 4 (.take 5 (.take 6 (.take 7 (.take 8 (.take 9 (.take 10 (.take 11 (.take 12 (.take 13 (.take 14 (.take 15 (.take 16 (.take 17 (.take 18 (.take 19 (.eff 20 (.done))))))))))))))))))))))) (.draw (.take 0 (.take 1 (.take 2 (.take 4 (.take 5 (.take 6 (.take 7 (.take 9 (.both 3 (.eff 8 (.take 10 (.eff 11 (.take 12 (.eff 13 (.done)))))) 8 (.eff 3 (.take 10 (.eff 11 (.take 12 (.eff 13 (.done))))))))))))))))) .no)) .no)))))))
def nand_Chip_Erase.P (p0:Addr) (p1:Int) (w:World) (K:Int×Unit->World->Prop):Prop:=
 CallV Tryz.prog 212 #[.pointer (some p0),.int .i64 p1] w [.one (.int .i64)] λ(r1:Int×Unit) w2=>
 cond (r1.1 != 0)
 (K (r1.1,()) w2)
 (CallV Tryz.prog 213 #[.pointer (some p0),.int .i64 p1] w2 [.one .sl] λ(r3:SlV×Unit) w4=>
 NewV #[.slice none 0 0] 63 w4 λb5 w6=>
 StoreV w6 ⟨b5,0,none⟩ [.slice r3.1.a r3.1.n r3.1.c] λw7=>
 LoadS w7 (p0.add 11) .sl λ(x8:SlV)=>
 (0<=p1/\p1<((x8.n:Nat):Int))/\∃ q9:Addr,x8.a=some q9 /\
 LoadS w7 (q9.add (p1.toNat*1)) (.int .i64) λ(x10:Int)=>
 Rng .i64 (x10+1) /\
 (0<=p1/\p1<((x8.n:Nat):Int))/\∃ q11:Addr,x8.a=some q11 /\
 StoreV w7 (q11.add (p1.toNat*1)) [.int .i64 (x10+1)] λw12=>
 LoadS w12 ⟨b5,0,none⟩ .sl λ(x13:SlV)=>
 CallV Tryz.prog 217 #[.pointer (some p0),.int .i64 2,.agg #[.int .i64 p1,.int .i64 0],.slice none 0 0,.agg #[.func (.func 216) #[] #[.pointer (some ⟨b5,0,none⟩)],.func (.func 214) #[] #[.pointer (some ⟨b5,0,none⟩)]],.slice x13.a x13.n x13.c] w12 [.one (.int .i64)] λ(r14:Int×Unit) w15=>
 cond (r14.1 == 0)
 (DrawV λD16=>
 (D16 (p0.add 8).block/\LoadS w15.drew (p0.add 8) .sl λ(x17:SlV)=>
 (D16 (p0.add 1).block/\LoadS w15.drew (p0.add 1) (.int .i64) λ(x18:Int)=>
 Rng .i64 (p1*x18) /\
 Rng .i64 (p1+1) /\
 (D16 (p0.add 1).block/\LoadS w15.drew (p0.add 1) (.int .i64) λ(x19:Int)=>
 Rng .i64 ((p1+1)*x19) /\
 ((0:Int)<=(p1*x18)/\(p1*x18)<=((p1+1)*x19)/\((p1+1)*x19)<=((x17.c:Nat):Int)) /\
 SubK x17.a ((p1*x18).toNat) x17.c 1 λa20=>
 ClearV w15.drew a20 ((((p1+1)*x19).toNat)-((p1*x18).toNat)) [.int .i64 0] λw21=>
 KeepOn D16 w15.drew w21 /\
 DrawV λD22=>
 ((LoadS w21.drew (p0.add 9) .sl λ(x23:SlV)=>
 KeepOn D22 w21.drew w21.drew /\
 LoadS w21.drew (p0.add 10) .sl λ(x24:SlV)=>
 KeepOn D22 w21.drew w21.drew /\
 (0<=p1/\p1<((x23.n:Nat):Int))/\∃ q25:Addr,x23.a=some q25 /\
 StoreV w21.drew (q25.add (p1.toNat*1)) [.int .i64 (-1)] λw26=>
 KeepOn D22 w21.drew w26 /\
 (0<=p1/\p1<((x24.n:Nat):Int))/\∃ q27:Addr,x24.a=some q27 /\
 StoreV w26 (q27.add (p1.toNat*1)) [.int .i64 0] λw28=>
 KeepOn D22 w21.drew w28 /\
 K (r14.1,()) w28) /\
 (LoadS w21.drew (p0.add 10) .sl λ(x29:SlV)=>
 KeepOn D22 w21.drew w21.drew /\
 LoadS w21.drew (p0.add 9) .sl λ(x30:SlV)=>
 KeepOn D22 w21.drew w21.drew /\
 (0<=p1/\p1<((x30.n:Nat):Int))/\∃ q31:Addr,x30.a=some q31 /\
 StoreV w21.drew (q31.add (p1.toNat*1)) [.int .i64 (-1)] λw32=>
 KeepOn D22 w21.drew w32 /\
 (0<=p1/\p1<((x29.n:Nat):Int))/\∃ q33:Addr,x29.a=some q33 /\
 StoreV w32 (q33.add (p1.toNat*1)) [.int .i64 0] λw34=>
 KeepOn D22 w21.drew w34 /\
 K (r14.1,()) w34))))))
 (K (r14.1,()) w15))
theorem nand_Chip_Erase.vc (p0:Addr) (p1:Int) (w:World) (K:Int×Unit->World->Prop) (h:nand_Chip_Erase.P p0 p1 w K):CallV Tryz.prog 180 #[.pointer (some p0),.int .i64 p1] w [.one (.int .i64)] K:=by
 refine vcFun.of (A:=nand_Chip_Erase.A) (wr:=false) okf_ok follows h Tryz.func180 ?_
 kernel_rfl
def nand_Chip_Erase_1.A:Ann:=.no
def nand_Chip_Erase_1.P (p0_0:Int) (p0_1:Bool) (a0_2:Option Addr) (n0_2 c0_2:Nat) (cq0:Addr) (w:World) (K:SlV×Unit->World->Prop):Prop:=
 NewV #[.int .i64 p0_0,.bool p0_1,.slice a0_2 n0_2 c0_2] 88 w λb1 w2=>
 LoadS w2 cq0 .sl λ(x3:SlV)=>
 LoadS w2 ⟨b1,2,none⟩ .sl λ(x4:SlV)=>
 CallV Tryz.prog 215 #[.slice x3.a x3.n x3.c,.slice x4.a x4.n x4.c] w2 [.one .sl] λ(r5:SlV×Unit) w6=>
 K (r5.1,()) w6
theorem nand_Chip_Erase_1.vc (p0_0:Int) (p0_1:Bool) (a0_2:Option Addr) (n0_2 c0_2:Nat) (cq0:Addr) (w:World) (K:SlV×Unit->World->Prop) (h:nand_Chip_Erase_1.P p0_0 p0_1 a0_2 n0_2 c0_2 cq0 w K):CallV Tryz.prog 214 #[.agg #[.int .i64 p0_0,.bool p0_1,.slice a0_2 n0_2 c0_2],.pointer (some cq0)] w [.one .sl] K:=by
 refine vcFun.of (A:=nand_Chip_Erase_1.A) (wr:=false) okf_ok follows h Tryz.func214 ?_
 kernel_rfl
def nand_Chip_Erase_2.A:Ann:=.no
def nand_Chip_Erase_2.P (cq0:Addr) (w:World) (K:SlV×Unit->World->Prop):Prop:=
 LoadS w cq0 .sl λ(x1:SlV)=>
 CallV Tryz.prog 215 #[.slice x1.a x1.n x1.c,.slice none 0 0] w [.one .sl] λ(r2:SlV×Unit) w3=>
 K (r2.1,()) w3
theorem nand_Chip_Erase_2.vc (cq0:Addr) (w:World) (K:SlV×Unit->World->Prop) (h:nand_Chip_Erase_2.P cq0 w K):CallV Tryz.prog 216 #[.pointer (some cq0)] w [.one .sl] K:=by
 refine vcFun.of (A:=nand_Chip_Erase_2.A) (wr:=false) okf_ok follows h Tryz.func216 ?_
 kernel_rfl
def nand_Chip_Scrub.A:Ann:=.no
def nand_Chip_Scrub.P (p0:Addr) (p1:Int) (w:World) (K:Int×Unit->World->Prop):Prop:=
 CallV Tryz.prog 212 #[.pointer (some p0),.int .i64 p1] w [.one (.int .i64)] λ(r1:Int×Unit) w2=>
 cond (r1.1 != 0)
 (K (r1.1,()) w2)
 (CallV Tryz.prog 213 #[.pointer (some p0),.int .i64 p1] w2 [.one .sl] λ(r3:SlV×Unit) w4=>
 NewV #[.slice none 0 0] 63 w4 λb5 w6=>
 StoreV w6 ⟨b5,0,none⟩ [.slice r3.1.a r3.1.n r3.1.c] λw7=>
 LoadS w7 (p0.add 10) .sl λ(x8:SlV)=>
 (0<=p1/\p1<((x8.n:Nat):Int))/\∃ q9:Addr,x8.a=some q9 /\
 StoreV w7 (q9.add (p1.toNat*1)) [.int .i64 1] λw10=>
 LoadS w10 ⟨b5,0,none⟩ .sl λ(x11:SlV)=>
 ((0:Int)<=(((x11.n:Nat):Int):Int)/\(((x11.n:Nat):Int):Int)<=(((x11.n:Nat):Int):Int)/\(((x11.n:Nat):Int):Int)<=9223372036854775807/\((1:Nat):Int)*(((x11.n:Nat):Int):Int)<=140737488355328) /\
 NewV (List.replicate (((x11.n:Nat):Int).toNat) [.int .u8 0]).flatten.toArray 5 w10 λb12 w13=>
 NewV #[.slice none 0 0] 63 w13 λb14 w15=>
 StoreV w15 ⟨b14,0,none⟩ [.slice (some ⟨b12,0,none⟩) (((x11.n:Nat):Int).toNat) (((x11.n:Nat):Int).toNat)] λw16=>
 LoadS w16 ⟨b5,0,none⟩ .sl λ(x17:SlV)=>
 CallV Tryz.prog 217 #[.pointer (some p0),.int .i64 3,.agg #[.int .i64 p1,.int .i64 0],.slice none 0 0,.agg #[.func (.func 220) #[] #[.pointer (some ⟨b14,0,none⟩)],.func (.func 221) #[] #[.pointer (some ⟨b5,0,none⟩),.pointer (some ⟨b14,0,none⟩)]],.slice x17.a x17.n x17.c] w16 [.one (.int .i64)] λ(r18:Int×Unit) w19=>
 K (r18.1,()) w19)
theorem nand_Chip_Scrub.vc (p0:Addr) (p1:Int) (w:World) (K:Int×Unit->World->Prop) (h:nand_Chip_Scrub.P p0 p1 w K):CallV Tryz.prog 183 #[.pointer (some p0),.int .i64 p1] w [.one (.int .i64)] K:=by
 refine vcFun.of (A:=nand_Chip_Scrub.A) (wr:=false) okf_ok follows h Tryz.func183 ?_
 kernel_rfl
def nand_Chip_Scrub_1.A:Ann:=.no
def nand_Chip_Scrub_1.P (cq0:Addr) (w:World) (K:SlV×Unit->World->Prop):Prop:=
 LoadS w cq0 .sl λ(x1:SlV)=>
 K (x1,()) w
theorem nand_Chip_Scrub_1.vc (cq0:Addr) (w:World) (K:SlV×Unit->World->Prop) (h:nand_Chip_Scrub_1.P cq0 w K):CallV Tryz.prog 220 #[.pointer (some cq0)] w [.one .sl] K:=by
 refine vcFun.of (A:=nand_Chip_Scrub_1.A) (wr:=false) okf_ok follows h Tryz.func220 ?_
 kernel_rfl
def nand_Chip_Scrub_2.A:Ann:=.no
def nand_Chip_Scrub_2.P (p0_0:Int) (p0_1:Bool) (a0_2:Option Addr) (n0_2 c0_2:Nat) (cq0 cq1:Addr) (w:World) (K:SlV×Unit->World->Prop):Prop:=
 NewV #[.int .i64 p0_0,.bool p0_1,.slice a0_2 n0_2 c0_2] 88 w λb1 w2=>
 LoadS w2 cq0 .sl λ(x3:SlV)=>
 LoadS w2 cq1 .sl λ(x4:SlV)=>
 LoadS w2 ⟨b1,2,none⟩ .sl λ(x5:SlV)=>
 CallV Tryz.prog 222 #[.slice x3.a x3.n x3.c,.slice x4.a x4.n x4.c,.slice x5.a x5.n x5.c] w2 [.one .sl,.one (.int .i64)] λ(r6:SlV×Int×Unit) w7=>
 K (r6.1,()) w7
theorem nand_Chip_Scrub_2.vc (p0_0:Int) (p0_1:Bool) (a0_2:Option Addr) (n0_2 c0_2:Nat) (cq0 cq1:Addr) (w:World) (K:SlV×Unit->World->Prop) (h:nand_Chip_Scrub_2.P p0_0 p0_1 a0_2 n0_2 c0_2 cq0 cq1 w K):CallV Tryz.prog 221 #[.agg #[.int .i64 p0_0,.bool p0_1,.slice a0_2 n0_2 c0_2],.pointer (some cq0),.pointer (some cq1)] w [.one .sl] K:=by
 refine vcFun.of (A:=nand_Chip_Scrub_2.A) (wr:=false) okf_ok follows h Tryz.func221 ?_
 kernel_rfl
def nand_Chip_Read.A:Ann:=.two .no (.two .no (.two (.draw (.take 0 (.take 1 (.take 2 (.take 3 (.take 4 (.eff 5 (.take 6 (.take 7 (.take 8 (.take 9 (.take 10 (.done))))))))))))) .no))
def nand_Chip_Read.P (p0:Addr) (p1_0 p1_1:Int) (w:World) (K:SlV×Int×Unit->World->Prop):Prop:=
 NewV #[.int .i64 p1_0,.int .i64 p1_1] 81 w λb1 w2=>
 CallV Tryz.prog 99 #[.pointer (some p0)] w2 [.one .bool] λ(r3:Bool×Unit) w4=>
 cond (!r3.1)
 (K ((⟨none,0,0⟩:SlV),(4:Int),()) w4)
 (DrawV λD5=>
 (D5 p0.block/\LoadA w4.drew p0 [.int .i64,.int .i64,.int .i64,.int .i64,.int .i64,.int .i64] λ(x6:Int×Int×Int×Int×Int×Int×Unit)=>
 (D5 b1/\LoadA w4.drew ⟨b1,0,none⟩ [.int .i64,.int .i64] λ(x7:Int×Int×Unit)=>
 CallV Tryz.prog 187 #[.agg #[.int .i64 x6.1,.int .i64 x6.2.1,.int .i64 x6.2.2.1,.int .i64 x6.2.2.2.1,.int .i64 x6.2.2.2.2.1,.int .i64 x6.2.2.2.2.2.1],.agg #[.int .i64 x7.1,.int .i64 x7.2.1]] w4.drew [.one (.int .i64),.one (.int .i64)] λ(r8:Int×Int×Unit) w9=>
 KeepOn D5 w4.drew w9 /\
 cond (r8.2.1 != 0)
 (K ((⟨none,0,0⟩:SlV),r8.2.1,()) w9)
 (NewV #[] 5 w9 λb10 w11=>
 CallV Tryz.prog 188 #[.pointer (some p0),.int .i64 r8.1] w11 [.one .sl] λ(r12:SlV×Unit) w13=>
 AppS w13 r12.1.a r12.1.n 1 λns18=>
 AppV w13 5 1 1 (some ⟨b10,0,none⟩) 0 0 ns18 r12.1.n λa14 n15 c16 w17=>
 K ((⟨a14,n15,c16⟩:SlV),(0:Int),()) w17))))
theorem nand_Chip_Read.vc (p0:Addr) (p1_0 p1_1:Int) (w:World) (K:SlV×Int×Unit->World->Prop) (h:nand_Chip_Read.P p0 p1_0 p1_1 w K):CallV Tryz.prog 130 #[.pointer (some p0),.agg #[.int .i64 p1_0,.int .i64 p1_1]] w [.one .sl,.one (.int .i64)] K:=by
 refine vcFun.of (A:=nand_Chip_Read.A) (wr:=false) okf_ok follows h Tryz.func130 ?_
 kernel_rfl
def nand_Chip_On.A:Ann:=.no
def nand_Chip_On.P (p0:Addr) (w:World) (K:Bool×Unit->World->Prop):Prop:=
 LoadS w (p0.add 6) (.int .i64) λ(x1:Int)=>
 cond (decide (x1>0))
 (LoadS w (p0.add 13) .bool λ(x2:Bool)=>
 K (!x2,()) w)
 (K (false,()) w)
theorem nand_Chip_On.vc (p0:Addr) (w:World) (K:Bool×Unit->World->Prop) (h:nand_Chip_On.P p0 w K):CallV Tryz.prog 99 #[.pointer (some p0)] w [.one .bool] K:=by
 refine vcFun.of (A:=nand_Chip_On.A) (wr:=false) okf_ok follows h Tryz.func99 ?_
 kernel_rfl
def nand_Chip_Ops.A:Ann:=.no
def nand_Chip_Ops.P (p0:Addr) (w:World) (K:Int×Unit->World->Prop):Prop:=
 LoadS w (p0.add 14) .sl λ(x1:SlV)=>
 K (((x1.n:Nat):Int),()) w
theorem nand_Chip_Ops.vc (p0:Addr) (w:World) (K:Int×Unit->World->Prop) (h:nand_Chip_Ops.P p0 w K):CallV Tryz.prog 96 #[.pointer (some p0)] w [.one (.int .i64)] K:=by
 refine vcFun.of (A:=nand_Chip_Ops.A) (wr:=false) okf_ok follows h Tryz.func96 ?_
 kernel_rfl
def nand_Chip_Geometry.A:Ann:=.no
def nand_Chip_Geometry.P (p0:Addr) (w:World) (K:(Int×Int×Int×Int×Int×Int×Unit)×Unit->World->Prop):Prop:=
 NewV #[.int .i64 0,.int .i64 0,.int .i64 0,.int .i64 0,.int .i64 0,.int .i64 0] 23 w λb1 w2=>
 LoadA w2 p0 [.int .i64,.int .i64,.int .i64,.int .i64,.int .i64,.int .i64] λ(x3:Int×Int×Int×Int×Int×Int×Unit)=>
 StoreV w2 ⟨b1,0,none⟩ [.int .i64 x3.1,.int .i64 x3.2.1,.int .i64 x3.2.2.1,.int .i64 x3.2.2.2.1,.int .i64 x3.2.2.2.2.1,.int .i64 x3.2.2.2.2.2.1] λw4=>
 LoadA w4 ⟨b1,0,none⟩ [.int .i64,.int .i64,.int .i64,.int .i64,.int .i64,.int .i64] λ(x5:Int×Int×Int×Int×Int×Int×Unit)=>
 K ((x5.1,x5.2.1,x5.2.2.1,x5.2.2.2.1,x5.2.2.2.2.1,x5.2.2.2.2.2.1,()),()) w4
theorem nand_Chip_Geometry.vc (p0:Addr) (w:World) (K:(Int×Int×Int×Int×Int×Int×Unit)×Unit->World->Prop) (h:nand_Chip_Geometry.P p0 w K):CallV Tryz.prog 100 #[.pointer (some p0)] w [.agg [.int .i64,.int .i64,.int .i64,.int .i64,.int .i64,.int .i64]] K:=by
 refine vcFun.of (A:=nand_Chip_Geometry.A) (wr:=false) okf_ok follows h Tryz.func100 ?_
 kernel_rfl
end Go.Proofs.YtbaojfchlhlaeaaGreat.Vc
namespace Go.Proofs.YtbaojfchlhlaeaaGreat.Vc
open Go Go.Eng Go.RowKit
def RdT (t:Ty) (x:t.T):Asr:=⟨λw F=>t.rd w F x,λh k=>t.rd_kp (λi hi _=>k i hi) h⟩
theorem rdT_get {t:Ty} {x:t.T} {E:Nat->Prop} {w0 w:World} {Rs:List Asr} (S:Sep E w0 w Rs) (i:Nat) (hi:Rs[i]? = some (RdT t x)):t.rd w All x:=by
 obtain ⟨F,h,_⟩:=S.get hi
 exact t.rd_mono (λ_ _ _=>trivial) h
structure TOp where
 k:Int
 bl:Int
 pa:Int
 d:SlP Int
 e:Int
abbrev TOp.vs (o:TOp):List Value:=[.int .i64 o.k,.int .i64 o.bl,.int .i64 o.pa,.slice o.d.a o.d.n o.d.c,.int .i64 o.e]
abbrev TOp.dat (o:TOp):Int×Int×Int×List Int×Int:=(o.k,o.bl,o.pa,o.d.l,o.e)
theorem TOp.one (o:TOp):oneAll o.vs:=λu hu=>by
 simp only [List.mem_cons,List.not_mem_nil,or_false] at hu
 rcases hu with rfl | rfl | rfl | rfl | rfl <;> rfl
structure Lay where
 P:SlV
 U:SlV
 A:SlV
 S:SlV
 E:SlV
 F:SlP TF.T
 T:SlV
def pagesC (C:CD):List (List Int):=C.bs.flatMap (·.pg)
def imgC (C:CD):List Int:=C.bs.flatMap λx=>x.pg.flatten
def usL (C:CD):List Int:=C.bs.flatMap (·.us)
def laL (C:CD):List Int:=C.bs.map (·.la)
def scI (b:Bool):Int:=if b then 1 else 0
def scL (C:CD):List Int:=C.bs.map λx=>scI x.sc
def erL (C:CD):List Int:=C.bs.map (·.er)
abbrev iv (l:List Int):List Value:=l.map (Value.int .i64)
abbrev bv8 (l:List Int):List Value:=l.map (Value.int .u8)
abbrev chipV (y:Lay) (C:CD):List Value:=[.int .i64 C.g.b,.int .i64 C.g.p,.int .i64 C.g.s,.int .i64 C.g.sp,.int .i64 C.g.wr,.int .i64 C.g.ro,.int .i64 (C.g.s+88),.slice y.P.a y.P.n y.P.c,.slice y.U.a y.U.n y.U.c,.slice y.A.a y.A.n y.A.c,
 .slice y.S.a y.S.n y.S.c,.slice y.E.a y.E.n y.E.c,.slice y.F.a y.F.n y.F.c,.bool C.off,.slice y.T.a C.ops y.T.c]
abbrev ChipQ (p:Nat) (y:Lay) (C:CD) (L:List TOp) (Rs:List Asr):List Asr:=BoxA p 161 (chipV y C)::OwnA 5 1 y.P.a y.P.n y.P.c (bv8 (imgC C))::OwnA 3 1 y.U.a y.U.n y.U.c (iv (usL C))::OwnA 3 1 y.A.a y.A.n y.A.c (iv (laL C))::
 OwnA 3 1 y.S.a y.S.n y.S.c (iv (scL C))::OwnA 3 1 y.E.a y.E.n y.E.c (iv (erL C))::RdT LF y.F::OwnA 164 5 y.T.a C.ops y.T.c (L.flatMap TOp.vs)::RdL (L.map (·.d))::Rs
abbrev ChipP (p:Nat) (y:Lay) (C:CD) (L:List TOp):List Asr:=ChipQ p y C L []
theorem COk.num {C:CD} (h:COk C):(7<=C.g.b/\C.g.b<=16)/\(4<=C.g.p/\C.g.p<=20)/\(32<=C.g.s/\C.g.s<=128)/\szP C.g=C.g.s.toNat+88/\(szP C.g:Int)=C.g.s+88:=by
 have h1:=h.g.1
 obtain ⟨h2,h3,h4⟩:=h.lg
 unfold Kept at h1
 refine ⟨by omega,by omega,by omega,?_,?_⟩
 ·show (C.g.s+88).toNat=_;omega
 ·show (((C.g.s+88).toNat:Nat):Int)=_;omega
theorem COk.blk {C:CD} (h:COk C) {bl:Int} (hb:0<=bl/\bl<C.g.b):C.bs[bl.toNat]? = some (blkC C bl)/\BOk C.g C.ops (blkC C bl):=by
 have hl:bl.toNat<C.bs.length:=by rw [h.bl];omega
 have:=some_getD (d:=default) hl
 exact ⟨this,h.bo _ (List.mem_of_getElem? this)⟩
theorem COk.page {C:CD} (h:COk C) {bl pa:Int} (hi:inC C bl pa):(blkC C bl).pg[pa.toNat]? = some (pgC13 C bl pa)/\(pgC13 C bl pa).length=szP C.g/\Byt (pgC13 C bl pa):=by
 obtain ⟨-,hb⟩:=h.blk hi.1
 have hl:pa.toNat<(blkC C bl).pg.length:=by rw [hb.pl];have:=hi.2;omega
 have:=some_getD (d:=[]) hl
 exact ⟨this,hb.pb _ (List.mem_of_getElem? this)⟩
theorem COk.us {C:CD} (h:COk C) {bl pa:Int} (hi:inC C bl pa):(blkC C bl).us[pa.toNat]? = some (usC C bl pa)/\(0<=usC C bl pa/\usC C bl pa<=2):=by
 obtain ⟨-,hb⟩:=h.blk hi.1
 have hl:pa.toNat<(blkC C bl).us.length:=by rw [hb.ul];have:=hi.2;omega
 have:=some_getD (d:=0) hl
 exact ⟨this,hb.ub _ (List.mem_of_getElem? this)⟩
abbrev ixC (C:CD) (bl pa:Int):Nat:=bl.toNat*C.g.p.toNat+pa.toNat
theorem COk.ix {C:CD} (h:COk C) {bl pa:Int} (hi:inC C bl pa):((ixC C bl pa:Nat):Int)=bl*C.g.p+pa/\ixC C bl pa<C.g.b.toNat*C.g.p.toNat/\C.g.b.toNat*C.g.p.toNat<=320:=by
 obtain ⟨⟨n1,n2⟩,⟨n3,n4⟩,-⟩:=h.num
 obtain ⟨⟨b0,b1⟩,⟨p0,p1⟩⟩:=hi
 have e:(bl.toNat:Int)*(C.g.p.toNat:Int)=bl*C.g.p:=by rw [Int.toNat_of_nonneg b0,Int.toNat_of_nonneg (by omega)]
 have m1:(bl.toNat+1)*C.g.p.toNat<=C.g.b.toNat*C.g.p.toNat:=Nat.mul_le_mul_right _ (by omega)
 have m2:C.g.b.toNat*C.g.p.toNat<=16*20:=Nat.mul_le_mul (by omega) (by omega)
 rw [Nat.add_mul] at m1
 refine ⟨by push_cast;omega,by show bl.toNat*C.g.p.toNat+pa.toNat<_;omega,by omega⟩
theorem pagesC_len {C:CD} (h:COk C):(pagesC C).length=C.g.b.toNat*C.g.p.toNat:=by
 unfold pagesC
 rw [fl_len (m:=C.g.p.toNat) λx hx=>(h.bo x hx).pl,h.bl]
theorem pagesC_mem {C:CD} (h:COk C):∀ q∈pagesC C,q.length=szP C.g:=λq hq=>by
 obtain ⟨x,hx,hq⟩:=List.mem_flatMap.1 hq
 exact ((h.bo x hx).pb q hq).1
theorem imgC_pages (C:CD):imgC C=(pagesC C).flatMap id:=by
 unfold imgC pagesC
 rw [List.flatMap_assoc]
 congr 1
 funext x
 simp [List.flatMap_id]
theorem imgC_len {C:CD} (h:COk C):(imgC C).length=C.g.b.toNat*C.g.p.toNat*szP C.g:=by
 rw [imgC_pages,fl_len (f:=id) (m:=szP C.g) (pagesC_mem h),pagesC_len h]
theorem pagesC_get {C:CD} (h:COk C) {bl pa:Int} (hi:inC C bl pa):(pagesC C)[ixC C bl pa]? = some (pgC13 C bl pa):=by
 unfold pagesC
 rw [fl_get (m:=C.g.p.toNat) (λx hx=>(h.bo x hx).pl) (h.blk hi.1).1 (by have:=hi.2;omega)]
 exact (h.page hi).1
theorem imgC_split {C:CD} (h:COk C) {bl pa:Int} (hi:inC C bl pa):∃ pre post,imgC C=pre++(pgC13 C bl pa++post)/\pre.length=ixC C bl pa*szP C.g /\
  ∀ q:List Int,∀ C':CD,C'.bs=C.bs.set bl.toNat {blkC C bl with pg:=(blkC C bl).pg.set pa.toNat q,us:=(C'.bs.getD bl.toNat default).us,la:=(C'.bs.getD bl.toNat default).la}->imgC C'=pre++(q++post):=by
 have hs:=pagesC_get h hi
 refine ⟨((pagesC C).take (ixC C bl pa)).flatMap id,((pagesC C).drop (ixC C bl pa+1)).flatMap id,?_,?_,λq C' hC=>?_⟩
 ·rw [imgC_pages];exact fl_split (f:=id) hs
 ·exact fl_take (pagesC_mem h) (by rw [pagesC_len h];exact Nat.le_of_lt (h.ix hi).2.1)
 ·rw [imgC_pages,show pagesC C'=(pagesC C).set (ixC C bl pa) q from ?_]
  ·exact fl_set (f:=id) hs
  ·unfold pagesC
   rw [hC]
   exact fl_put (m:=C.g.p.toNat) (λx hx=>(h.bo x hx).pl) (h.blk hi.1).1 (by have:=hi.2;omega) rfl
section
variable {E:Nat->Prop} {w0 w:World} {Rs:List Asr} {p:Nat} {y:Lay} {C:CD} {L:List TOp}
theorem On_c (hC:COk C) (S:Sep E w0 w (BoxA p 161 (chipV y C)::Rs)):CallV Tryz.prog 99 #[.pointer (some ⟨p,0,none⟩)] w [.one .bool] λr w'=>r.1=(!C.off)/\w'=w:=by
 apply nand_Chip_On.vc
 unfold nand_Chip_On.P
 simp only [Addr.add_lit,Nat.zero_add]
 have n:=hC.num
 refine S.ld0 (j:=6) rfl rfl (cond_d (λ_=>S.ld0 (j:=13) rfl rfl ⟨rfl,trivial⟩) λh=>absurd (by omega) h)
theorem Ops_c (S:Sep E w0 w (BoxA p 161 (chipV y C)::Rs)):CallV Tryz.prog 96 #[.pointer (some ⟨p,0,none⟩)] w [.one (.int .i64)] λr w'=>r.1=(C.ops:Int)/\w'=w:=by
 apply nand_Chip_Ops.vc
 unfold nand_Chip_Ops.P
 simp only [Addr.add_lit,Nat.zero_add]
 exact S.ld0 (j:=14) rfl rfl ⟨rfl,trivial⟩
theorem may_c {n:Int} (hC:COk C) (S:Sep E w0 w (BoxA p 161 (chipV y C)::Rs)):CallV Tryz.prog 212 #[.pointer (some ⟨p,0,none⟩),.int .i64 n] w [.one (.int .i64)] λr w'=>r.1=mayC C n/\w'=w:=by
 apply nand_Chip_may.vc
 unfold nand_Chip_may.P mayC
 refine (On_c hC S).mono ?_
 rintro ⟨(r:Bool),⟨⟩⟩ w1 ⟨h1,rfl⟩
 dsimp only at h1 ⊢
 subst h1
 by_cases ho:C.off=true
 ·rw [if_pos ho,ho]
  exact cond_t rfl ⟨rfl,rfl⟩
 rw [if_neg ho]
 refine cond_f (by simpa using ho) (cond_d (λh=>⟨by rw [if_pos (by omega)],rfl⟩) λh=>?_)
 refine S.ld0 (j:=0) rfl rfl (cond_d (λh=>⟨by rw [if_pos (by omega)],rfl⟩) λh=>⟨by rw [if_neg (by omega)],rfl⟩)
theorem page_c {k blk:Nat} (hC:COk C) (hk:k<C.g.b.toNat*C.g.p.toNat) (hP:y.P.a=some ⟨blk,0,none⟩) (hc:C.g.b.toNat*C.g.p.toNat*szP C.g<=y.P.c) (S:Sep E w0 w (BoxA p 161 (chipV y C)::Rs)) :
  CallV Tryz.prog 188 #[.pointer (some ⟨p,0,none⟩),.int .i64 (k:Int)] w [.one .sl] λr w'=>r.1=(⟨some ⟨blk,k*szP C.g,none⟩,szP C.g,szP C.g⟩:SlV)/\Ext w w':=by
 apply nand_Chip_page.vc
 unfold nand_Chip_page.P
 simp only [Addr.add_lit,Nat.zero_add]
 obtain ⟨⟨n1,n2⟩,⟨n3,n4⟩,⟨n5,n6⟩,n7,n8⟩:=hC.num
 have m1:(k+1)*szP C.g<=C.g.b.toNat*C.g.p.toNat*szP C.g:=Nat.mul_le_mul_right _ hk
 have m2:C.g.b.toNat*C.g.p.toNat<=16*20:=Nat.mul_le_mul (by omega) (by omega)
 have m3:C.g.b.toNat*C.g.p.toNat*szP C.g<=320*216:=Nat.mul_le_mul (by omega) (by omega)
 have m4:(k+1)*szP C.g=k*szP C.g+szP C.g:=by rw [Nat.add_mul,Nat.one_mul]
 have e1:(k:Int)*(C.g.s+88)=((k*szP C.g:Nat):Int):=by rw [<-n8];push_cast;rfl
 have e2:((k:Int)+1)*(C.g.s+88)=(((k+1)*szP C.g:Nat):Int):=by rw [<-n8];push_cast;rfl
 generalize hz:szP C.g=z at *
 refine S.reg λD hD hkeep S T=>?_
 have hb:=hD _ S.bl0
 refine ⟨hb,S.ld0 (j:=7) rfl rfl ⟨hb,S.ld0 (j:=6) rfl rfl ⟨by rw [e1];exact Rng.i64 (by omega) (by omega),Rng.i64 (by omega) (by omega),hb,S.ld0 (j:=6) rfl rfl ⟨by rw [e2];exact Rng.i64 (by omega) (by omega),Rng.i64 (by omega) (by omega),hb,S.ld0 (j:=6) rfl rfl
  ⟨by rw [e2];exact Rng.i64 (by omega) (by omega),⟨by rw [e1];omega,by rw [e1,e2];omega,by omega,by rw [e2];dsimp only;omega⟩,?_⟩⟩⟩⟩⟩
 intro a6 ha6
 rw [e1,e2] at ha6 ⊢
 rw [Int.toNat_natCast,Int.toNat_natCast,if_neg (by omega),hP] at ha6
 refine ⟨?_,Ext.drew _⟩
 rw [ha6,Int.toNat_natCast,Int.toNat_natCast]
 have e3:(⟨blk,0,none⟩:Addr).add (k*z*1)=⟨blk,k*z,none⟩:=by simp [Addr.add_lit]
 show (⟨some ((⟨blk,0,none⟩:Addr).add (k*z*1)),_,_⟩:SlV)=_
 rw [e3,show (k+1)*z-k*z=z by omega]
end
theorem usL_len {C:CD} (h:COk C):(usL C).length=C.g.b.toNat*C.g.p.toNat:=by
 unfold usL
 rw [fl_len (m:=C.g.p.toNat) λx hx=>(h.bo x hx).ul,h.bl]
theorem usL_get {C:CD} (h:COk C) {bl pa:Int} (hi:inC C bl pa):(usL C).getD (ixC C bl pa) 0=usC C bl pa:=by
 apply getD_some
 unfold usL
 rw [fl_get (m:=C.g.p.toNat) (λx hx=>(h.bo x hx).ul) (h.blk hi.1).1 (by have:=hi.2;omega)]
 exact (h.us hi).1
theorem laL_get {C:CD} (h:COk C) {bl:Int} (hb:0<=bl/\bl<C.g.b):(laL C).getD bl.toNat 0=(blkC C bl).la:=getD_some (by unfold laL;rw [List.getElem?_map,(h.blk hb).1];rfl)
theorem scL_get {C:CD} (h:COk C) {bl:Int} (hb:0<=bl/\bl<C.g.b):(scL C).getD bl.toNat 0=scI (blkC C bl).sc:=getD_some (by unfold scL;rw [List.getElem?_map,(h.blk hb).1];rfl)
theorem erL_get {C:CD} (h:COk C) {bl:Int} (hb:0<=bl/\bl<C.g.b):(erL C).getD bl.toNat 0=(blkC C bl).er:=getD_some (by unfold erL;rw [List.getElem?_map,(h.blk hb).1];rfl)
section
variable {E:Nat->Prop} {w0 w:World} {Rs:List Asr} {p:Nat} {y:Lay} {C:CD} {L:List TOp}
theorem chip_len (hC:COk C) (S:Sep E w0 w (ChipQ p y C L Rs)):y.P.n=C.g.b.toNat*C.g.p.toNat*szP C.g/\y.P.n<=y.P.c/\y.U.n=C.g.b.toNat*C.g.p.toNat/\y.U.n<=y.U.c/\y.A.n=C.g.b.toNat/\y.S.n=C.g.b.toNat/\y.E.n=C.g.b.toNat/\L.length=C.ops:=by
 have h1:=(S.own 1 rfl).len
 have h2:=(S.own 2 rfl).len
 have h3:=(S.own 3 rfl).len
 have h4:=(S.own 4 rfl).len
 have h5:=(S.own 5 rfl).len
 have h7:=(S.own 7 rfl).len
 have c1:=(S.own 1 rfl).cap
 have c2:=(S.own 2 rfl).cap
 rw [List.length_map,imgC_len hC] at h1
 rw [List.length_map,usL_len hC] at h2
 rw [List.length_map,laL,List.length_map,hC.bl] at h3
 rw [List.length_map,scL,List.length_map,hC.bl] at h4
 rw [List.length_map,erL,List.length_map,hC.bl] at h5
 rw [flatF_len (f:=TOp.vs) (m:=5) (λ_=>rfl)] at h7
 refine ⟨by omega,c1,by omega,c2,by omega,by omega,by omega,by omega⟩
theorem chip_adr (hC:COk C) (S:Sep E w0 w (ChipQ p y C L Rs)):∃ blk,y.P.a=some ⟨blk,0,none⟩:=by
 have hl:=chip_len hC S
 obtain ⟨⟨n1,n2⟩,⟨n3,n4⟩,⟨n5,n6⟩,n7,n8⟩:=hC.num
 have h0:0<C.g.b.toNat*C.g.p.toNat*szP C.g:=Nat.mul_pos (Nat.mul_pos (by omega) (by omega)) (by omega)
 rcases (S.own 1 rfl).at_ with ⟨_,_,h⟩ | ⟨b,cs,h,_⟩
 ·have:=congrArg List.length h
  rw [List.length_map,imgC_len hC,List.length_nil] at this
  omega
 ·exact ⟨b,h⟩
theorem refused_c {bl pa:Int} {n:Nat} (hC:COk C) (hi:inC C bl pa) (S0:Sep E w0 w (ChipQ p y C L Rs)) :
  CallV Tryz.prog 250 #[.pointer (some ⟨p,0,none⟩),.agg #[.int .i64 bl,.int .i64 pa],.int .i64 ((ixC C bl pa:Nat):Int),.int .i64 (n:Int)] w [.one (.int .i64)] λr w'=>
   r.1=(if n≠szP C.g then 2 else if (blkC C bl).sc=true\/2<=usC C bl pa then 7 else if usC C bl pa=0/\pa<=(blkC C bl).la then 6 else (0:Int))/\Ext w w':=by
 apply nand_Chip_refused.vc
 unfold nand_Chip_refused.P
 simp only [Addr.add_lit,Nat.zero_add]
 obtain ⟨⟨n1,n2⟩,⟨n3,n4⟩,⟨n5,n6⟩,n7,n8⟩:=hC.num
 obtain ⟨l1,l1',l2,l2',l3,l4,l5,-⟩:=chip_len hC S0
 obtain ⟨i1,i2,-⟩:=hC.ix hi
 have T:=Sep.start NoB w
 refine T.newB λb1 w1 T f1 _=>?_
 have S0:=S0.stepE T.ext
 refine S0.ld0 (j:=6) rfl rfl (cond_ne (λh=>⟨by rw [if_pos (by omega)],T.ext⟩) λh=>?_)
 rw [if_neg (by omega)]
 refine T.reg λD hD hkeep T _=>?_
 have S1:=S0.drew
 have hs:(0:Int)<=bl/\bl<(y.S.n:Int):=by rw [l4];have:=hi.1;omega
 have hu:(0:Int)<=((ixC C bl pa:Nat):Int)/\((ixC C bl pa:Nat):Int)<(y.U.n:Int):=by rw [l2];omega
 have ha:(0:Int)<=bl/\bl<(y.A.n:Int):=by rw [l3];have:=hi.1;omega
 refine ⟨hD _ S0.bl0,S1.ld0 (j:=10) rfl rfl ⟨hD _ T.bl0,T.ld0 (j:=0) rfl rfl ((S0.ints 4 rfl).idxD (Ext.drew _) hs.1 hs.2 hD ?_)⟩⟩
 rw [scL_get hC hi.1]
 refine cond_d (λhg=>?_) (λhg=>?_)
 ·have hsc:(blkC C bl).sc=true:=by
   unfold scI at hg
   by_cases h:(blkC C bl).sc=true
   ·exact h
   ·rw [if_neg h] at hg;omega
  exact ⟨by rw [if_pos (.inl hsc)],T.ext⟩
 have hsc:¬ (blkC C bl).sc=true:=λh=>hg (by unfold scI;rw [if_pos h];decide)
 refine ⟨hD _ S0.bl0,S1.ld0 (j:=8) rfl rfl ((S0.ints 2 rfl).idxD (Ext.drew _) hu.1 hu.2 hD ?_)⟩
 rw [Int.toNat_natCast,usL_get hC hi]
 refine cond_d (λhg=>⟨by rw [if_pos (.inr hg)],T.ext⟩) (λhg2=>?_)
 rw [if_neg (λh=>h.elim hsc hg2)]
 refine T.reg λD2 hD2 hkeep2 T2 _=>?_
 have S2:=S1.drew
 refine ⟨hD2 _ S1.bl0,S2.ld0 (j:=8) rfl rfl ((S1.ints 2 rfl).idxD (Ext.drew _) hu.1 hu.2 hD2 ?_)⟩
 rw [Int.toNat_natCast,usL_get hC hi]
 refine cond_eq (λh0=>?_) (λh0=>⟨by rw [if_neg (λh=>h0 h.1)],T2.ext⟩)
 refine ⟨hD2 _ T.bl0,T2.ld0 (j:=1) rfl rfl ⟨hD2 _ S1.bl0,S2.ld0 (j:=9) rfl rfl ⟨hD2 _ T.bl0,T2.ld0 (j:=0) rfl rfl ((S1.ints 3 rfl).idxD (Ext.drew _) ha.1 ha.2 hD2 ?_)⟩⟩⟩
 rw [laL_get hC hi.1]
 exact cond_d (λh=>⟨by rw [if_pos ⟨h0,h⟩],T2.ext⟩) (λh=>⟨by rw [if_neg (λk=>h k.2)],T2.ext⟩)
theorem Geometry_c (S:Sep E w0 w (BoxA p 161 (chipV y C)::Rs)) :
  CallV Tryz.prog 100 #[.pointer (some ⟨p,0,none⟩)] w [.agg [.int .i64,.int .i64,.int .i64,.int .i64,.int .i64,.int .i64]] λr w'=>r.1=C.g.tup/\Ext w w':=by
 apply nand_Chip_Geometry.vc
 unfold nand_Chip_Geometry.P
 have T:=Sep.start NoB w
 refine T.newB λb1 w1 T f1 _=>?_
 have S:=S.stepE T.ext
 refine S.lb0 (o:=0) rfl (T.st0 (by rfl) λw2 T f2=>T.la0 rfl ?_)
 exact ⟨rfl,T.ext⟩
theorem page_ints {bl pa:Int} {blk:Nat} (hC:COk C) (hi:inC C bl pa) (hP:y.P.a=some ⟨blk,0,none⟩) (S:Sep E w0 w (ChipQ p y C L Rs)):Ints w .u8 (some ⟨blk,ixC C bl pa*szP C.g,none⟩) (szP C.g) (szP C.g) (pgC13 C bl pa):=by
 have hI:=S.ints 1 rfl
 obtain ⟨l1,l1',-⟩:=chip_len hC S
 obtain ⟨pre,post,h1,h2,-⟩:=imgC_split hC hi
 have hp:=(hC.page hi).2.1
 have i2:=(hC.ix hi).2.1
 have m1:(ixC C bl pa+1)*szP C.g<=C.g.b.toNat*C.g.p.toNat*szP C.g:=Nat.mul_le_mul_right _ i2
 rw [Nat.add_mul,Nat.one_mul] at m1
 obtain ⟨-,-,-,n7,-⟩:=hC.num
 have:=hI.sub (l:=ixC C bl pa*szP C.g) (hh:=ixC C bl pa*szP C.g+szP C.g) (m:=ixC C bl pa*szP C.g+szP C.g) (by omega) (by omega) (Nat.le_refl _) (a':=some ⟨blk,ixC C bl pa*szP C.g,none⟩) (by
  rw [if_neg (by omega),hP]
  show some _=some ((⟨blk,0,none⟩:Addr).add _)
  simp [Addr.add_lit])
 rw [h1,<- h2,List.drop_append_of_le_length (Nat.le_refl _),List.drop_length,List.nil_append,Nat.add_sub_cancel_left] at this
 rw [<-hp,List.take_append_of_le_length (by omega),List.take_length,hp] at this
 rw [h2] at this
 exact this
def readC (C:CD) (bl pa:Int):Int:=if C.off=true then 4 else if inC C bl pa then 0 else 2
theorem Read13_c {bl pa:Int} (hC:COk C) (S:Sep E w0 w (ChipQ p y C L Rs)) :
  CallV Tryz.prog 130 #[.pointer (some ⟨p,0,none⟩),.agg #[.int .i64 bl,.int .i64 pa]] w [.one .sl,.one (.int .i64)] λr w'=>
   r.2.1=readC C bl pa/\(readC C bl pa≠0->r.1=(⟨none,0,0⟩:SlV)/\Ext w w')/\(readC C bl pa=0->Res w w' r.1 (pgC13 C bl pa)):=by
 apply nand_Chip_Read.vc
 unfold nand_Chip_Read.P readC
 have T:=Sep.start NoB w
 refine T.newB λb1 w1 T f1 _=>?_
 have S:=S.stepE T.ext
 refine (On_c hC S).mono ?_
 rintro ⟨(r:Bool),⟨⟩⟩ w2 ⟨h2,rfl⟩
 dsimp only at h2 ⊢
 subst h2
 by_cases ho:C.off=true
 ·rw [if_pos ho,ho]
  exact cond_t rfl ⟨rfl,λ_=>⟨rfl,T.ext⟩,λh=>by cases h⟩
 rw [if_neg ho]
 refine cond_f (by simpa using ho) ?_
 refine T.reg λD hD hkeep T _=>?_
 have S1:=S.drew
 refine ⟨hD _ S.bl0,S1.lb0 (o:=0) rfl ⟨hD _ T.bl0,T.la0 rfl ?_⟩⟩
 refine (Index_c (g:=C.g) (b:=bl) (p:=pa)).mono ?_
 rintro ⟨(ix:Int),(e:Int),⟨⟩⟩ w3 ⟨h3,h3',x3⟩
 dsimp only at h3 h3' ⊢
 have S3:=S1.stepE x3
 have T3:=(Sep.start NoB _).stepE x3
 refine ⟨hkeep _ T3.fr,?_⟩
 have T:=T.stepE x3
 by_cases hi:inC C bl pa
 case neg=>
  rw [if_neg (λh=>hi h.2)] at h3'
  subst h3'
  rw [if_neg hi]
  exact cond_t rfl ⟨rfl,λ_=>⟨rfl,T.ext⟩,λh=>by cases h⟩
 have hok:plOk C.g bl pa:=⟨hC.g,hi⟩
 rw [if_pos hok] at h3 h3'
 obtain ⟨i1,i2,-⟩:=hC.ix hi
 rw [<-i1] at h3
 subst h3;subst h3'
 rw [if_pos hi]
 refine cond_f rfl (T.newB λb10 w11 T f11 _=>?_)
 have X:Ext w3 w11:=Fr.ext f11
 have S4:=S3.stepE X
 obtain ⟨blk,hP⟩:=chip_adr hC S4
 obtain ⟨l1,l1',-⟩:=chip_len hC S4
 refine (page_c (k:=ixC C bl pa) hC i2 hP (by omega) S4).mono ?_
 rintro ⟨⟨ra,rn,rc⟩,⟨⟩⟩ w13 ⟨h13,x13⟩
 cases h13
 dsimp only
 have T:=(T.stepE x13).asOwn (sz:=1) (n:=0) rfl (by omega) oneAll.nil
 have I:=page_ints hC hi hP (S4.stepE x13)
 obtain ⟨-,-,⟨n5,n6⟩,n7,-⟩:=hC.num
 refine T.ab0 (xs:=[]) I (by omega) λa' c' w' T f'=>⟨rfl,λh=>absurd rfl h,λ_=>?_⟩
 exact T.out
end
theorem fl_same {α β:Type} {f:α->List β} {l:List α} {i:Nat} {x y:α} (hi:l[i]? = some x) (h:f y=f x):(l.set i y).flatMap f=l.flatMap f:=by
 rw [fl_set hi,fl_split hi,h]
theorem map_set_same {α β:Type} {f:α->β} {l:List α} {i:Nat} {x y:α} (hi:l[i]? = some x) (h:f y=f x):(l.set i y).map f=l.map f:=by
 rw [List.map_set,h]
 refine List.ext_getElem? λj=>?_
 rw [List.getElem?_set]
 split
 ·rename_i e
  subst e
  split
  ·rw [List.getElem?_map,hi];rfl
  ·rename_i hh
   rw [List.length_map] at hh
   exact absurd (List.getElem?_eq_some_iff.1 hi).1 hh
 ·rfl
theorem BOk.up {g:Geo} {m m':Nat} {x:BD} (h:BOk g m x) (hm:m<=m'):BOk g m' x:=⟨h.pl,h.pb,h.ul,h.ub,h.la,h.er.1,by have:=h.er.2;omega⟩
theorem COk.upd {C:CD} (h:COk C) {i:Nat} {y:BD} {off:Bool} {ops:Nat} {tr:List (Int×Int)} (ho:C.ops<=ops) (ho2:ops<=1000000000000) (hy:BOk C.g ops y):COk {C with bs:=C.bs.set i y,off:=off,ops:=ops,tr:=tr}:=
 ⟨h.g,h.lg,by show (C.bs.set i y).length=_;rw [List.length_set];exact h.bl,λx hx=>by
  rcases List.mem_or_eq_of_mem_set hx with h1 | h1
  ·exact (h.bo x h1).up ho
  ·rw [h1];exact hy,h.pm,ho2⟩
theorem pg_set_ok {C:CD} (h:COk C) {bl pa:Int} (hi:inC C bl pa) {q:List Int} (hq:q.length=szP C.g/\Byt q):((blkC C bl).pg.set pa.toNat q).length=C.g.p.toNat/\∀ z∈(blkC C bl).pg.set pa.toNat q,z.length=szP C.g/\Byt z:=by
 obtain ⟨-,hb⟩:=h.blk hi.1
 refine ⟨by rw [List.length_set];exact hb.pl,λz hz=>?_⟩
 rcases List.mem_or_eq_of_mem_set hz with h1 | h1
 ·exact hb.pb z h1
 ·rw [h1];exact hq
theorem chip_mk {E:Nat->Prop} {w0 w:World} {p:Nat} {y:Lay} {C:CD} {L:List TOp} {Rs:List Asr} {i1 i2 i3 i4 i5:List Int}
  (S:Sep E w0 w (BoxA p 161 (chipV y C)::OwnA 5 1 y.P.a y.P.n y.P.c (bv8 i1)::OwnA 3 1 y.U.a y.U.n y.U.c (iv i2)::OwnA 3 1 y.A.a y.A.n y.A.c (iv i3)::
   OwnA 3 1 y.S.a y.S.n y.S.c (iv i4)::OwnA 3 1 y.E.a y.E.n y.E.c (iv i5)::RdT LF y.F::OwnA 164 5 y.T.a C.ops y.T.c (L.flatMap TOp.vs)::RdL (L.map (·.d))::Rs))
  (h1:imgC C=i1) (h2:usL C=i2) (h3:laL C=i3) (h4:scL C=i4) (h5:erL C=i5):Sep E w0 w (ChipQ p y C L Rs):=by
 subst h1;subst h2;subst h3;subst h4;subst h5;exact S
def newX (C:CD) (whole:List Int) (torn:FD->List Int):List Int:=match atF C.pl (C.ops:Int) with | none=>whole | some f=>torn f
abbrev upT (y:Lay) (ta:Option Addr) (tc:Nat):Lay:={y with T:=⟨ta,0,tc⟩}
def DoneR (F:Nat->Prop) (w w':World) (p:Nat) (y:Lay) (C:CD) (L:List TOp) (ds dS:List (SlP Int)) (blk:Nat) (eb:TypeId) (pre post:List Value) (xs':List Int) (op:Int×Int×Int×List Int×Int):Prop:=
 ∃ (ta:Option Addr) (tc:Nat) (o:TOp),o.dat=op/\Sep F w w' [BoxA p 161 (chipV (upT y ta tc) {C with off:=(codeC C).2.2,ops:=C.ops+1}),BoxA blk eb (pre++(bv8 xs'++post)),RdT LF y.F,OwnA 164 5 ta (C.ops+1) tc ((L++[o]).flatMap TOp.vs),RdL (ds++[o.d]),RdL dS]
theorem ap56 {n:Nat} (h:n<=1000000000000):(2*(n+1)+256)*56<=281474976710656:=by omega
theorem ap63' {n:Nat} (h:n<=1000000000000):n+1<=9223372036854775807:=by omega
theorem done_c {F:Nat->Prop} {w:World} {p:Nat} {y:Lay} {C:CD} {L:List TOp} {ds:List (SlP Int)} {dd:SlP Int} {dS:List (SlP Int)} {blk o:Nat} {eb:TypeId} {pre post:List Value} {xs whole:List Int} {torn:FD->List Int} {k bl pa:Int} {n5 c5:Nat} {f1 f2:FuncId} {c1 c2:Array Value}
  (hF:fds y.F=C.pl) (hm:mFit C.pl) (hops:C.ops<=1000000000000) (hof:C.off=false) (ho:o=pre.length) (hdn:dd.n<=1000000) (hn5:n5=xs.length) (hw:whole.length=xs.length) (ht:∀ f,(torn f).length=xs.length)
  (hf1:okf f1=true) (hf2:okf f2=true)
  (h1:∀ w',Ext w w'->CallV Tryz.prog f1 ((#[]:Array Value).toList++([]++c1.toList)).toArray w' [.one .sl] λr w2=>Ints w2 .u8 r.1.a r.1.n r.1.c whole/\Ext w' w2)
  (h2:∀ w' (f:FD) (s:SlV),Ext w w'->atF C.pl (C.ops:Int)=some f->Ints w' .u8 s.a s.n s.c f.2.2.1->CallV Tryz.prog f2 ((#[]:Array Value).toList++((([.agg #[.int .i64 f.1,.bool f.2.1,.slice s.a s.n s.c]]:List Value))++c2.toList)).toArray w' [.one .sl] λr w2=>Ints w2 .u8 r.1.a r.1.n r.1.c (torn f)/\Ext w' w2)
  (S:Sep F w w [BoxA p 161 (chipV y C),BoxA blk eb (pre++(bv8 xs++post)),RdT LF y.F,OwnA 164 5 y.T.a C.ops y.T.c (L.flatMap TOp.vs),RdL ds,RdL dS]) (hdS:dd∈dS:=by simp) :
  CallV Tryz.prog 217 #[.pointer (some ⟨p,0,none⟩),.int .i64 k,.agg #[.int .i64 bl,.int .i64 pa],.slice dd.a dd.n dd.c,.agg #[.func (.func f1) #[] c1,.func (.func f2) #[] c2],.slice (some ⟨blk,o,none⟩) n5 c5] w [.one (.int .i64)] λr w'=>
   r.1=(codeC C).1/\DoneR F w w' p y C L ds dS blk eb pre post (newX C whole torn) (k,bl,pa,dd.l,(codeC C).1):=by
 apply nand_Chip_done.vc (p4_0:=(f1,#[],c1)) (p4_1:=(f2,#[],c2))
 unfold nand_Chip_done.P
 simp only [Addr.add_lit,Nat.zero_add]
 refine S.newB λb1 w1 S f1' _=>?_
 refine S.newB λb3 w3 S f3' _=>?_
 have X3:Ext w w3:=Fr.ext (f1'.trans f3')
 refine ⟨λ(v:Option Addr×Bool×Unit) w'=>∃ (b:Nat) (s:SlV) (f0:Int) (fb:Bool),v.1=some ⟨b,0,none⟩/\Ext w w'/\(match atF C.pl (C.ops:Int) with | none=>v.2.1=false | some f=>v.2.1=true/\f0=f.1/\fb=f.2.1/\Ints w' .u8 s.a s.n s.c f.2.2.1) /\
  Sep F w w' [BoxA b 88 [.int .i64 f0,.bool fb,.slice s.a s.n s.c],BoxA b3 274 [.func (.func f1) #[] c1,.func (.func f2) #[] c2],BoxA b1 81 [.int .i64 bl,.int .i64 pa],BoxA p 161 (chipV y C),BoxA blk eb (pre++(bv8 xs++post)),RdT LF y.F,OwnA 164 5 y.T.a C.ops y.T.c (L.flatMap TOp.vs),RdL ds,RdL dS],?_,?_⟩
 case refine_2=>
  refine S.reg λD hD hkeep S1 T=>?_
  have X1:Ext w w3.drew:=X3.trans (Ext.drew _)
  have hLF:=rdT_get S1 4 rfl
  have hmF:mFit (fds y.F):=by rw [hF];exact hm
  refine ⟨hD _ S.bl2,S1.ld2 (j:=12) rfl rfl ⟨hD _ S.bl2,S1.ld2 (j:=14) rfl rfl ⟨?_,?_⟩⟩⟩
  ·refine (At_c (n:=(C.ops:Int)) hLF hmF).mono ?_
   rintro ⟨⟨(f0:Int),(fb:Bool),⟨sa,sn,sc⟩,⟨⟩⟩,(ok:Bool),⟨⟩⟩ w5 ⟨x5,h5⟩
   have T:=T.stepE x5
   refine ⟨hkeep _ T.fr,T.newB λb w6 T f6 _=>⟨hkeep _ T.fr,T.st0 (by rfl) λw7 T f7=>⟨hkeep _ T.fr,b,⟨sa,sn,sc⟩,f0,fb,rfl,X1.trans T.ext,?_,S1.frame0 T⟩⟩⟩
   rw [hF] at h5
   have e7:Ext w5 w7:=Fr.ext (f6.trans' f7 λk hk=>.inr (by omega))
   cases hat:atF C.pl (C.ops:Int) with
   | none=>rw [hat] at h5;exact h5.1
   | some f=>rw [hat] at h5;exact ⟨h5.1,h5.2.1,h5.2.2.1,h5.2.2.2.ints.ext e7⟩
  ·refine T.newB λb w6 T f6 _=>⟨hkeep _ T.fr,?_⟩
   refine (At_c (n:=(C.ops:Int)) (Ty.rd_ext T.ext _ hLF) hmF).mono ?_
   rintro ⟨⟨(f0:Int),(fb:Bool),⟨sa,sn,sc⟩,⟨⟩⟩,(ok:Bool),⟨⟩⟩ w5 ⟨x5,h5⟩
   have hbb:=T.bl0
   have T:=T.stepE x5
   refine ⟨hkeep _ T.fr,T.st0 (by rfl) λw7 T f7=>⟨hkeep _ T.fr,b,⟨sa,sn,sc⟩,f0,fb,rfl,X1.trans T.ext,?_,S1.frame0 T⟩⟩
   rw [hF] at h5
   cases hat:atF C.pl (C.ops:Int) with
   | none=>rw [hat] at h5;exact h5.1
   | some f=>
    rw [hat] at h5
    refine ⟨h5.1,h5.2.1,h5.2.2.1,?_⟩
    have own:=h5.2.2.2.own
    exact (own.other λq hq=>f7.block _ (own.lt q hq) (by have:=own.ge q hq;omega)).ints
 rintro ⟨v1,(v2:Bool),⟨⟩⟩ w7 ⟨b,s,f0,fb,hv,X7,hat,S⟩
 dsimp only at hv hat ⊢
 subst hv
 have hlx:xs.length<=9223372036854775807\/True:=.inr trivial
 have oneB:∀ l:List Int,oneAll (bv8 l):=λl=>oneAll.ints _ _
 refine ⟨λ(v:Int×Unit) w'=>v.1=(codeC C).1/\Sep F w w' [BoxA b1 81 [.int .i64 bl,.int .i64 pa],BoxA p 161 (chipV y {C with off:=(codeC C).2.2}),BoxA blk eb (pre++(bv8 (newX C whole torn)++post)),RdT LF y.F,OwnA 164 5 y.T.a C.ops y.T.c (L.flatMap TOp.vs),RdL ds,RdL dS],?_,?_⟩
 case refine_2=>
  cases hatc:atF C.pl (C.ops:Int) with
  | none=>
   rw [hatc] at hat
   dsimp only at hat
   have hcode:codeC C=(0,[],false):=by unfold codeC;rw [hatc]
   have hnew:newX C whole torn=whole:=by unfold newX;rw [hatc]
   refine cond_t (by rw [hat];rfl) (S.ld1 (j:=0) rfl rfl (cond_t hf1 ?_))
   refine (h1 w7 X7).mono ?_
   rintro ⟨⟨ra,rn,rc⟩,⟨⟩⟩ w8 ⟨i8,x8⟩
   dsimp only at i8 ⊢
   have S:=S.stepE x8
   have ln:=i8.len
   refine S.cpM 4 (news:=bv8 whole) rfl ho (by rw [List.length_map];show min rn n5=_;omega) (by rw [List.length_map,List.length_map,hw]) i8.rd (oneB _) λw9 S f9=>⟨?_,?_⟩
   ·rw [hcode]
   ·rw [hnew,hcode,<- hof]
    exact S.sel [2,2,2,2,2,2,2] rfl
  | some f=>
   rw [hatc] at hat
   obtain ⟨k1,k2,k3,k4⟩:=hat
   have hnew:newX C whole torn=torn f:=by unfold newX;rw [hatc]
   have hcode:codeC C=(if f.2.1 then 4 else 5,f.2.2.1,f.2.1):=by unfold codeC;rw [hatc]
   subst k2;subst k3
   refine cond_f (by rw [k1];rfl) (PtrK.of rfl (S.ld0 (j:=1) rfl rfl ?_))
   refine cond_of (λhfb=>?_) (λhfb=>?_)
   ·refine S.ld1 (j:=1) rfl rfl (PtrK.of rfl (S.la0 rfl (cond_t hf2 ?_)))
    refine (h2 w7 f s X7 hatc k4).mono ?_
    rintro ⟨⟨ra,rn,rc⟩,⟨⟩⟩ w8 ⟨i8,x8⟩
    dsimp only at i8 ⊢
    have S:=S.stepE x8
    have ln:=i8.len
    have htf:=ht f
    refine S.cpM 4 (news:=bv8 (torn f)) rfl ho (by rw [List.length_map];show min rn n5=_;omega) (by rw [List.length_map,List.length_map,htf]) i8.rd (oneB _) λw9 S f9=>?_
    refine S.su3 (j:=13) (by rfl) λw10 S f10=>⟨?_,?_⟩
    ·rw [hcode,hfb];rfl
    ·rw [hnew,hcode,hfb]
     exact S.sel [2,2,2,2,2,2,2] rfl
   ·refine S.ld1 (j:=1) rfl rfl (PtrK.of rfl (S.la0 rfl (cond_t hf2 ?_)))
    refine (h2 w7 f s X7 hatc k4).mono ?_
    rintro ⟨⟨ra,rn,rc⟩,⟨⟩⟩ w8 ⟨i8,x8⟩
    dsimp only at i8 ⊢
    have S:=S.stepE x8
    have ln:=i8.len
    have htf:=ht f
    refine S.cpM 4 (news:=bv8 (torn f)) rfl ho (by rw [List.length_map];show min rn n5=_;omega) (by rw [List.length_map,List.length_map,htf]) i8.rd (oneB _) λw9 S f9=>⟨?_,?_⟩
    ·rw [hcode,hfb];rfl
    ·rw [hnew,hcode,hfb,<- hof]
     exact S.sel [2,2,2,2,2,2,2] rfl
 rintro ⟨e,⟨⟩⟩ w10 ⟨he,S⟩
 dsimp only at he ⊢
 subst he
 refine ⟨λ(_:Unit) w'=>DoneR F w w' p y C L ds dS blk eb pre post (newX C whole torn) (k,bl,pa,dd.l,(codeC C).1),λ_ w13 h=>⟨rfl,h⟩,?_⟩
 have hne:=S.ne 0 1 (by decide) rfl rfl
 have hnt:=S.neO 0 4 (by decide) rfl rfl
 refine S.regX (λk=>k=p\/∃ q:Addr,y.T.a=some q/\k=q.block) λD hD hkeep S T=>?_
 have d1:dd.n<=1000000:=hdn
 have hid:Ints w10.drew .u8 dd.a dd.n dd.c dd.l/\Byt dd.l:=by
  obtain ⟨F1,h,_⟩:=S.get (i:=6) rfl
  have:=h dd hdS
  exact ⟨Ty.ints this,Ty.byt this⟩
 have k0:=hkeep _ (Fr.refl _ _)
 refine ⟨hD _ S.bl0 (λh=>h.elim (λh=>hne h) λ⟨q,hq,h⟩=>hnt q hq h),S.la0 rfl ?_⟩
 dsimp only
 have fin:∀ {w5:World} {b24:Nat} {a:Option Addr} {c:Nat},Sep NoB w10.drew w5 [BoxA b24 164 [.int .i64 k,.int .i64 bl,.int .i64 pa,.slice a (0+dd.n) c,.int .i64 (codeC C).1],OwnA 5 1 a (0+dd.n) c (([]++dd.l).map (Value.int .u8))] ->
   AppS w5 (some ⟨b24,0,none⟩) 1 5 λns=>AppV w5 164 5 56 y.T.a C.ops y.T.c ns 1 λa26 n27 c28 w29=>KeepOn D w10.drew w29/\StoreV w29 ⟨p,14,none⟩ [.slice a26 n27 c28] λw31=>KeepOn D w10.drew w31/\DoneR F w w31 p y C L ds dS blk eb pre post (newX C whole torn) (k,bl,pa,dd.l,(codeC C).1):=by
  intro w5 b24 a c T
  have S:=S.frame0 T
  dsimp only [List.cons_append,List.nil_append] at S
  refine AppS.of (news:=TOp.vs ⟨k,bl,pa,⟨a,0+dd.n,c,dd.l⟩,(codeC C).1⟩) rfl (.inr ⟨_,rfl,S.cells 0 rfl⟩) ?_
  refine S.ap6 (by rfl) (TOp.one _) (ap56 hops) (ap63' hops) λa26 c28 w29 S f29=>?_
  have g29:Fr (λk=>k=p\/∃ q:Addr,y.T.a=some q/\k=q.block) w10.drew w29:=T.fr.any.trans (f29.mono λk hk=>.inr hk)
  refine ⟨hkeep _ g29,S.su3 (j:=14) (by rfl) λw31 S f31=>⟨hkeep _ (g29.trans (f31.mono λk hk=>.inl hk)),a26,c28,⟨k,bl,pa,⟨a,0+dd.n,c,dd.l⟩,(codeC C).1⟩,rfl,?_⟩⟩
  have S:=((S.sel [1,6,2,2,2,2,2] rfl).addL hid.2).sel [1,1,1,1,0,0] rfl
  rw [List.flatMap_append]
  exact S
 have lT:Sep NoB w10.drew w10.drew []:=T
 refine ⟨?_,?_⟩
 ·refine S.ld1 (j:=14) rfl rfl ⟨k0,T.newB λb17 w18 T f18 _=>⟨hkeep _ T.fr.any,?_⟩⟩
  have T:=T.asOwn (sz:=1) (n:=0) rfl (by omega) oneAll.nil
  refine T.ab0 (xs:=[]) (hid.1.ext T.ext) (by omega) λa c w22 T f22=>⟨hkeep _ T.fr.any,T.newB λb24 w25 T f25 _=>⟨hkeep _ T.fr.any,fin T⟩⟩
 ·refine T.newB λb17 w18 T f18 _=>⟨hkeep _ T.fr.any,?_⟩
  have hk18:=hkeep _ T.fr.any
  have T:=T.asOwn (sz:=1) (n:=0) rfl (by omega) oneAll.nil
  refine ⟨?_,?_⟩
  ·refine (S.stepE T.ext).ld1 (j:=14) rfl rfl ⟨hk18,?_⟩
   refine T.ab0 (xs:=[]) (hid.1.ext T.ext) (by omega) λa c w22 T f22=>⟨hkeep _ T.fr.any,T.newB λb24 w25 T f25 _=>⟨hkeep _ T.fr.any,fin T⟩⟩
  ·refine T.ab0 (xs:=[]) (hid.1.ext T.ext) (by omega) λa c w22 T f22=>⟨hkeep _ T.fr.any,?_⟩
   have hk22:=hkeep _ T.fr.any
   refine ⟨?_,?_⟩
   ·refine (S.stepE T.ext).ld1 (j:=14) rfl rfl ⟨hk22,?_⟩
    exact T.newB λb24 w25 T f25 _=>⟨hkeep _ T.fr.any,fin T⟩
   ·refine T.newB λb24 w25 T f25 _=>⟨hkeep _ T.fr.any,?_⟩
    have hk25:=hkeep _ T.fr.any
    refine (S.stepE T.ext).ld1 (j:=14) rfl rfl ⟨hk25,?_⟩
    dsimp only
    exact fin T
theorem nilU {w:World}:Ints w .u8 none 0 0 []:=⟨rfl,Nat.le_refl _,by omega,.inl ⟨rfl,rfl⟩⟩
theorem erase_whole {xs:List Int} (bx:Byt xs) {n:Nat} (hl:xs.length=n):turn xs (erF xs []) (8*n)=List.replicate n 255:=by
 refine bits_ext (turn_byt bx _ _) (Byt.replicate (by omega) (by omega) _) (by rw [turn_length,List.length_replicate];exact hl) λi hi=>?_
 rw [turn_length] at hi
 rw [hasL_turn bx _ hi (8*n) (by omega)]
 have hr:hasL (List.replicate n 255) i=true:=by
  unfold hasL
  rw [getD_get (by rw [List.length_replicate];omega),List.getElem_replicate]
  exact bit_255 ⟨i % 8,mod8 i⟩
 rw [hr]
 have hm:mBit [] i=true:=rfl
 by_cases h:hasL xs i=true
 ·rw [if_neg (λhh=>by have:=hh.2;unfold erF at this;rw [h] at this;simp at this),h]
 ·have h':hasL xs i=false:=by simpa using h
  rw [if_pos ⟨by omega,by unfold erF;rw [h',hm];rfl⟩,h'];rfl
theorem hasL_whole {xs ys:List Int} (bx:Byt xs) (by':Byt ys) {n i:Nat} (hl:xs.length=n) (hi:i<8*n):hasL (andL xs ys) i=if prC xs ys i then false else hasL xs i:=by
 rw [hasL_and bx by' (by omega)]
 unfold prC
 cases hasL xs i <;> cases hasL ys i <;> rfl
theorem clear_whole {xs ys:List Int} (bx:Byt xs) (by':Byt ys) {n:Nat} (hl:xs.length=n):turn xs (prF xs ys [] false n) (8*n)=andL xs ys:=by
 refine bits_ext (turn_byt bx _ _) (andL_byt _ _) (by rw [turn_length,andL_length]) λi hi=>?_
 rw [turn_length] at hi
 rw [hasL_turn bx _ hi (8*n) (by omega),hasL_whole bx by' hl (by omega)]
 have hF:prF xs ys [] false n i=prC xs ys i:=by
  unfold prF
  have:mBit [] i=true:=rfl
  rw [this]
  cases prC xs ys i <;> rfl
 rw [hF]
 by_cases h:prC xs ys i=true
 ·rw [if_pos ⟨by omega,h⟩,if_pos h]
  have:hasL xs i=true:=by
   unfold prC at h
   cases hh:hasL xs i
   ·rw [hh] at h;simp at h
   ·rfl
  rw [this];rfl
 ·rw [if_neg (λhh=>h hh.2),if_neg h]
theorem img_focus {E:Nat->Prop} {w0 w:World} {Rs:List Asr} {a:Option Addr} {n c:Nat} {pre mid post:List Int} (S:Sep E w0 w (OwnA 5 1 a n c (bv8 (pre++(mid++post)))::Rs)) (hm:mid≠[]) :
  ∃ blk tl,a=some ⟨blk,0,none⟩/\Sep E w0 w (BoxA blk 5 (bv8 pre++(bv8 mid++(bv8 post++tl)))::Rs) /\
   ∀ (E':Nat->Prop) (w0' w':World) (Rs':List Asr) (mid':List Int),mid'.length=mid.length->Sep E' w0' w' (BoxA blk 5 (bv8 pre++(bv8 mid'++(bv8 post++tl)))::Rs')->Sep E' w0' w' (OwnA 5 1 a n c (bv8 (pre++(mid'++post)))::Rs'):=by
 obtain ⟨blk,tl,ha,q1,q2,q3,q4,q5,S1⟩:=S.focus (by
  intro h
  have:=congrArg List.length h
  rw [List.length_map,List.length_append,List.length_append,List.length_nil] at this
  have:mid.length=0:=by omega
  exact hm (List.eq_nil_of_length_eq_zero this))
 have e:∀ m:List Int,bv8 pre++(bv8 m++(bv8 post++tl))=bv8 (pre++(m++post))++tl:=λm=>by simp [bv8,List.append_assoc]
 refine ⟨blk,tl,ha,by rw [e];exact S1,λE' w0' w' Rs' mid' hl S'=>?_⟩
 rw [e] at S'
 subst ha
 have hlen:(bv8 (pre++(mid'++post))).length=(bv8 (pre++(mid++post))).length:=by simp [bv8,hl]
 exact S'.unfocus (n:=n) (c:=c) (sz:=1) (by rw [hlen];exact q1) (by rw [List.length_append,hlen,<- List.length_append];exact q2) q3 q4 (oneAll.ints _ _)
section
variable {E:Nat->Prop} {w0 w:World} {Rs:List Asr} {q0 q1:Nat} {e0 e1:TypeId} {s t:SlV} {was b:List Int}
theorem Prog1_c (S:Sep E w0 w (BoxA q0 e0 [.slice s.a s.n s.c]::BoxA q1 e1 [.slice t.a t.n t.c]::Rs)) (hs:Ints w .u8 s.a s.n s.c was) (ht:Ints w .u8 t.a t.n t.c b) (bs:Byt was) (bt:Byt b) (hn:t.n=s.n) (hn2:s.n<=100000) :
  CallV Tryz.prog 251 #[.pointer (some ⟨q0,0,none⟩),.pointer (some ⟨q1,0,none⟩)] w [.one .sl] λr w'=>Ints w' .u8 r.1.a r.1.n r.1.c (andL was b)/\Ext w w':=by
 apply nand_Chip_Program_1.vc
 unfold nand_Chip_Program_1.P
 obtain ⟨ta,tn,tc⟩:=t
 dsimp only at hn ht
 subst hn
 refine S.ld0 rfl rfl (S.ld1 rfl rfl ?_)
 refine (Clear_c hs bs ht bt nilU Byt.nil hn2).mono ?_
 rintro ⟨r1,(r2:Int),⟨⟩⟩ w' ⟨h1,-⟩
 dsimp only at h1 ⊢
 rw [clear_whole bs bt hs.len] at h1
 exact ⟨h1.ints,h1.ext⟩
theorem Prog2_c {f:FD} {m:SlV} (S:Sep E w0 w (BoxA q0 e0 [.slice s.a s.n s.c]::BoxA q1 e1 [.slice t.a t.n t.c]::Rs)) (hs:Ints w .u8 s.a s.n s.c was) (ht:Ints w .u8 t.a t.n t.c b) (hm:Ints w .u8 m.a m.n m.c f.2.2.1) (bs:Byt was) (bt:Byt b) (bm:Byt f.2.2.1) (hn:t.n=s.n) (hn2:s.n<=100000) :
  CallV Tryz.prog 252 #[.agg #[.int .i64 f.1,.bool f.2.1,.slice m.a m.n m.c],.pointer (some ⟨q0,0,none⟩),.pointer (some ⟨q1,0,none⟩)] w [.one .sl] λr w'=>Ints w' .u8 r.1.a r.1.n r.1.c (progL was b f.2.2.1 (!f.2.1))/\Ext w w':=by
 apply nand_Chip_Program_2.vc
 unfold nand_Chip_Program_2.P
 obtain ⟨ta,tn,tc⟩:=t
 dsimp only at hn ht
 subst hn
 have T:=Sep.start NoB w
 refine T.newB λb1 w1 T f1 _=>?_
 have X:=T.ext
 have S:=S.stepE X
 refine S.ld0 rfl rfl (S.ld1 rfl rfl (T.ld0 rfl rfl ?_))
 refine (Clear_c (hs.ext X) bs (ht.ext X) bt (hm.ext X) bm hn2).mono ?_
 rintro ⟨r1,(r2:Int),⟨⟩⟩ w2 ⟨h1,-⟩
 dsimp only at h1 ⊢
 have T:=T.stepE h1.ext
 have X2:=T.ext
 have S:=S.stepE h1.ext
 refine T.ld0 rfl rfl (cond_of (λhc=>?_) λhc=>?_)
 ·refine S.ld0 rfl rfl (S.ld1 rfl rfl (T.ld0 rfl rfl ?_))
  refine (Fail_c (hs.ext X2) bs (ht.ext X2) bt (hm.ext X2) bm hn2).mono ?_
  rintro ⟨r3,(r4:Int),⟨⟩⟩ w3 ⟨h3,-⟩
  dsimp only at h3 ⊢
  refine ⟨?_,X2.trans h3.ext⟩
  have:=h3.ints
  unfold progL
  rw [hc,hs.len]
  exact this
 ·refine ⟨?_,X2⟩
  have:=h1.ints
  unfold progL
  rw [hc,hs.len]
  exact this
end
theorem turn_len (xs:List Int) (f:Nat->Bool):∀ n,(turn xs f n).length=xs.length
 | 0=>rfl
 | n+1=>by
  unfold turn
  split
  ·unfold flip1;rw [List.length_set];exact turn_len xs f n
  ·exact turn_len xs f n
theorem atF_byt {C:CD} (h:COk C) {f:FD} {n:Int} (hf:atF C.pl n=some f):Byt f.2.2.1:=(h.pm f (List.mem_of_find?_eq_some hf)).1
theorem COk.mfit {C:CD} (h:COk C):mFit C.pl:=λf hf=>(h.pm f hf).2
def OpR (F:Nat->Prop) (w w':World) (p:Nat) (y:Lay) (C':CD) (L:List TOp) (tr:List (Int×Int×Int×List Int×Int)) (Rs:List Asr):Prop:=
 ∃ (ta:Option Addr) (tc:Nat) (L':List TOp),L'.map TOp.dat=L.map TOp.dat++tr/\Sep F w w' (ChipQ p (upT y ta tc) C' L' Rs)
theorem OpR.none {F:Nat->Prop} {w w':World} {p:Nat} {y:Lay} {C:CD} {L:List TOp} {Rs:List Asr} (S:Sep F w w' (ChipQ p y C L Rs)):OpR F w w' p y C L [] Rs:=⟨y.T.a,y.T.c,L,by simp,S⟩
theorem refC_eq {C:CD} {bl pa:Int} {n:Nat} (ho:¬ C.off=true) (hi:inC C bl pa):refC C bl pa n=if n≠szP C.g then 2 else if (blkC C bl).sc=true\/2<=usC C bl pa then 7 else if usC C bl pa=0/\pa<=(blkC C bl).la then 6 else (0:Int):=by
 unfold refC
 rw [if_neg ho]
 by_cases hn:n=szP C.g
 ·rw [if_neg (show ¬ ¬ (inC C bl pa/\n=szP C.g) from λh=>h ⟨hi,hn⟩),if_neg (show ¬ n≠szP C.g from λh=>h hn)]
 ·rw [if_pos (show ¬ (inC C bl pa/\n=szP C.g) from λh=>hn h.2),if_pos hn]
def ProgS (F:Nat->Prop) (w w':World) (p:Nat) (y:Lay) (C:CD) (L:List TOp) (dd:SlP Int) (dS:List (SlP Int)) (bl pa:Int) (blk b18 b3 b1:Nat):Prop:=
 Sep F w w' [BoxA b18 63 [.slice (some ⟨blk,ixC C bl pa*szP C.g,none⟩) (szP C.g) (szP C.g)],BoxA b3 63 [.slice dd.a dd.n dd.c],BoxA b1 81 [.int .i64 bl,.int .i64 pa],BoxA p 161 (chipV y C),OwnA 5 1 y.P.a y.P.n y.P.c (bv8 (imgC C)),
  OwnA 3 1 y.U.a y.U.n y.U.c (iv ((usL C).set (ixC C bl pa) (usC C bl pa+1))),OwnA 3 1 y.A.a y.A.n y.A.c (iv ((laL C).set bl.toNat (max (blkC C bl).la pa))),OwnA 3 1 y.S.a y.S.n y.S.c (iv (scL C)),OwnA 3 1 y.E.a y.E.n y.E.c (iv (erL C)),RdT LF y.F,OwnA 164 5 y.T.a C.ops y.T.c (L.flatMap TOp.vs),RdL (L.map (·.d)),RdL dS]
theorem iv_set (l:List Int) (i:Nat) (v:Int):(iv l).set i (.int .i64 v)=iv (l.set i v):=(List.map_set).symm
theorem Program13_c {F:Nat->Prop} {w:World} {p:Nat} {y:Lay} {C:CD} {L:List TOp} {dd:SlP Int} {dS:List (SlP Int)} {bl pa:Int} (hC:COk C) (hF:fds y.F=C.pl) (hdn:dd.n<=100000) (S:Sep F w w (ChipQ p y C L [RdL dS])) (hdS:dd∈dS:=by simp) :
  CallV Tryz.prog 205 #[.pointer (some ⟨p,0,none⟩),.agg #[.int .i64 bl,.int .i64 pa],.slice dd.a dd.n dd.c] w [.one (.int .i64)] λr w'=>
   r.1=(progC C bl pa dd.l).2/\OpR F w w' p y (progC C bl pa dd.l).1 L (if refC C bl pa dd.l.length=0 then [(1,bl,pa,dd.l,(codeC C).1)] else []) [RdL dS]:=by
 have hdl:dd.l.length=dd.n:=by
  obtain ⟨F1,h,_⟩:=S.get (i:=9) rfl
  exact (Ty.ints (h dd hdS)).len
 have bdd:Byt dd.l:=by
  obtain ⟨F1,h,_⟩:=S.get (i:=9) rfl
  exact Ty.byt (h dd hdS)
 have no:∀ {w':World} {e:Int},refC C bl pa dd.l.length=e->e≠0->Sep F w w' (ChipQ p y C L [RdL dS])->e=(progC C bl pa dd.l).2/\OpR F w w' p y (progC C bl pa dd.l).1 L (if refC C bl pa dd.l.length=0 then [(1,bl,pa,dd.l,(codeC C).1)] else []) [RdL dS]:=λhe h0 S=>by
  unfold progC
  rw [he,if_neg h0,if_neg h0]
  exact ⟨rfl,.none S⟩
 apply nand_Chip_Program.vc
 unfold nand_Chip_Program.P
 refine S.newB λb1 w1 S f1 _=>?_
 refine S.newB λb3 w3 S f3 _=>?_
 refine (On_c hC (S.sel [2] rfl)).mono ?_
 rintro ⟨(r:Bool),⟨⟩⟩ w4 ⟨h4,rfl⟩
 dsimp only at h4 ⊢
 subst h4
 by_cases ho:C.off=true
 ·rw [ho]
  refine cond_t rfl (no (by unfold refC;rw [if_pos ho]) (by decide) (S.sel [2,2,2,2,2,2,2,2,2,2] rfl))
 refine cond_f (by simpa using ho) ?_
 refine S.reg λD hD hkeep S1 T=>?_
 refine ⟨hD _ S.bl2,S1.lb2 (o:=0) rfl ⟨hD _ S.bl1,S1.la1 rfl ?_⟩⟩
 refine (Index_c (g:=C.g) (b:=bl) (p:=pa)).mono ?_
 rintro ⟨(ix:Int),(e:Int),⟨⟩⟩ w5 ⟨h5,h5',x5⟩
 dsimp only at h5 h5' ⊢
 have T3:=T.stepE x5
 refine ⟨hkeep _ T3.fr,?_⟩
 have S:=S1.stepE x5
 clear S1 T T3 hkeep hD
 by_cases hi:inC C bl pa
 case neg=>
  rw [if_neg (λh=>hi h.2)] at h5'
  subst h5'
  refine cond_t rfl (no (by unfold refC;rw [if_neg ho,if_pos (λh=>hi h.1)]) (by decide) (S.sel [2,2,2,2,2,2,2,2,2,2] rfl))
 have hok:plOk C.g bl pa:=⟨hC.g,hi⟩
 rw [if_pos hok] at h5 h5'
 obtain ⟨i1,i2,i3⟩:=hC.ix hi
 rw [<-i1] at h5
 subst h5;subst h5'
 refine cond_f rfl (S.la1 rfl (S.ld0 rfl rfl ?_))
 refine (refused_c (n:=dd.n) hC hi (S.sel [2,2,2,2,2,2,2,2,2,2] rfl)).mono ?_
 rintro ⟨(e:Int),⟨⟩⟩ w6 ⟨h6,x6⟩
 dsimp only at h6 ⊢
 rw [<-refC_eq ho hi,<- hdl] at h6
 subst h6
 have S:=S.stepE x6
 refine cond_ne (λh=>no rfl h (S.sel [2,2,2,2,2,2,2,2,2,2] rfl)) λhref=>?_
 have hSC:=S.sel [2,2,2,2,2,2,2,2,2,2] rfl
 obtain ⟨blk,hP⟩:=chip_adr hC hSC
 obtain ⟨l1,l1',l2,l2',l3,l4,l5,l6⟩:=chip_len hC hSC
 obtain ⟨⟨n1,n2⟩,⟨n3,n4⟩,⟨n5,n6⟩,n7,n8⟩:=hC.num
 have hdz:dd.n=szP C.g:=by
  rw [refC_eq ho hi,hdl] at href
  by_cases h:dd.n=szP C.g
  ·exact h
  ·rw [if_pos h] at href;cases href
 have hu2:0<=usC C bl pa/\usC C bl pa<2:=by
  rw [refC_eq ho hi,hdl,if_neg (λh=>h hdz)] at href
  have:=(hC.us hi).2
  by_cases h:(blkC C bl).sc=true\/2<=usC C bl pa
  ·rw [if_pos h] at href;cases href
  ·refine ⟨this.1,?_⟩
   have:¬ 2<=usC C bl pa:=λk=>h (.inr k)
   omega
 refine (page_c (k:=ixC C bl pa) hC i2 hP (by omega) hSC).mono ?_
 rintro ⟨⟨ra,rn,rc⟩,⟨⟩⟩ w7 ⟨h7,x7⟩
 cases h7
 dsimp only
 have S:=S.stepE x7
 refine S.newB λb18 w8 S f8 _=>?_
 refine S.st0 (by rfl) λw9 S f9=>?_
 simp only [Addr.add_lit,Nat.zero_add]
 have hu:(0:Int)<=((ixC C bl pa:Nat):Int)/\((ixC C bl pa:Nat):Int)<(y.U.n:Int):=by rw [l2];omega
 have ha:(0:Int)<=bl/\bl<(y.A.n:Int):=by rw [l3];have:=hi.1;omega
 refine S.ld3 (j:=8) rfl rfl ((S.ints 5 rfl).idx hu.1 hu.2 ?_)
 have eU:(usL C).getD (((ixC C bl pa:Nat):Int)).toNat 0=usC C bl pa:=by rw [Int.toNat_natCast];exact usL_get hC hi
 rw [eU]
 refine ⟨Rng.i64 (by omega) (by omega),?_⟩
 refine S.put (i:=5) rfl hu.1 hu.2 (v:=.int .i64 (usC C bl pa+1)) rfl λw10 S f10=>?_
 rw [Int.toNat_natCast] at S
 dsimp only [List.set_cons_succ,List.set_cons_zero] at S
 rw [iv_set] at S
 refine ⟨λ(_:Unit) w'=>ProgS F w w' p y C L dd dS bl pa blk b18 b3 b1,?_,?_⟩
 case refine_2=>
  have hnA:=S.neO 2 6 (by decide) rfl rfl
  have hnp:=S.neO 3 6 (by decide) rfl rfl
  refine S.regX (λk=>∃ q:Addr,y.A.a=some q/\k=q.block) λD hD hkeep S T=>?_
  have hb1:D b1:=hD _ S.bl2 (λ⟨q,hq,h⟩=>hnA q hq h)
  have k0:=hkeep _ (Fr.refl _ _)
  have hI:=S.ints 6 rfl
  obtain ⟨q,hq,hqb,hcell⟩:=hI.at ha.1 ha.2
  rw [laL_get hC hi.1] at hcell
  have fin:(0<=bl/\bl<(y.A.n:Int))/\∃ q:Addr,y.A.a=some q/\StoreV w10.drew (q.add (bl.toNat*1)) [.int .i64 (max (blkC C bl).la pa)] λw44=>KeepOn D w10.drew w44/\ProgS F w w44 p y C L dd dS bl pa blk b18 b3 b1:=S.put (i:=6) rfl ha.1 ha.2 (v:=.int .i64 (max (blkC C bl).la pa)) rfl λw44 S f44=>⟨hkeep _ f44,(by
   dsimp only [List.set_cons_succ,List.set_cons_zero] at S
   rw [iv_set] at S
   exact S)⟩
  refine ⟨hb1,S.ld2 (j:=0) rfl rfl ⟨hb1,S.ld2 (j:=0) rfl rfl ⟨hb1,S.ld2 (j:=1) rfl rfl ⟨?_,?_⟩⟩⟩⟩
  ·refine S.ld3 (j:=9) rfl rfl ⟨k0,S.ld3 (j:=9) rfl rfl ⟨k0,ha,q,hq,(blkC C bl).la,hcell,k0,?_⟩⟩
   intro z hz
   subst hz
   exact fin
  ·refine S.ld3 (j:=9) rfl rfl ⟨k0,ha,q,hq,?_,?_⟩
   ·refine S.ld3 (j:=9) rfl rfl ⟨k0,(blkC C bl).la,hcell,k0,?_⟩
    intro z hz
    subst hz
    exact fin
   ·refine ⟨(blkC C bl).la,hcell,k0,?_⟩
    intro z hz
    subst hz
    exact S.ld3 (j:=9) rfl rfl ⟨k0,fin⟩
 rintro ⟨⟩ w11 S
 unfold ProgS at S
 refine S.la2 rfl (S.ld1 rfl rfl (S.ld0 rfl rfl ?_))
 dsimp only
 obtain ⟨pre,post,g1,g2,g3⟩:=imgC_split hC hi
 have hlp:=(hC.page hi).2.1
 have hbp:=(hC.page hi).2.2
 have hbl:=hC.blk hi.1
 rw [g1] at S
 have hne:pgC13 C bl pa≠[]:=λh=>by rw [h] at hlp;simp at hlp;omega
 obtain ⟨blk2,tl,ha2,S2,back⟩:=img_focus (S.sel [4,3,7,7,7,7,0,0,0,0,0,0,0] rfl) hne
 rw [hP] at ha2
 cases ha2
 have hol:ixC C bl pa*szP C.g=(bv8 pre).length:=by rw [List.length_map,g2]
 have hI:Ints w11 .u8 (some ⟨blk,ixC C bl pa*szP C.g,none⟩) (szP C.g) (szP C.g) (pgC13 C bl pa):=S2.intsM 0 rfl hol hlp.symm (Nat.le_refl _) (by omega)
 have hdI:Ints w11 .u8 dd.a dd.n dd.c dd.l:=by
  obtain ⟨F1,h,_⟩:=S2.get (i:=5) rfl
  exact Ty.ints (h dd hdS)
 have hcap:=S2.sel [6,6] rfl
 have hlA:(andL (pgC13 C bl pa) dd.l).length=(pgC13 C bl pa).length:=by simp [andL]
 refine Sep.call [BoxA p 161 (chipV y C),BoxA blk 5 (bv8 pre++(bv8 (pgC13 C bl pa)++(bv8 post++tl))),RdT LF y.F,OwnA 164 5 y.T.a C.ops y.T.c (L.flatMap TOp.vs),RdL (L.map (·.d)),RdL dS] (Ts:=_) (S2.sel [1,0,0,0,0,0,0,0,0,0,0,0,0] rfl)
  (λF S=>done_c (whole:=andL (pgC13 C bl pa) dd.l) (torn:=λf=>progL (pgC13 C bl pa) dd.l f.2.2.1 (!f.2.1)) hF hC.mfit hC.ops (by simpa using ho) hol (by omega) hlp.symm hlA (λf=>by unfold progL;rw [turn_len]) (by kernel_rfl) (by kernel_rfl)
   (λw' x'=>Prog1_c (s:=⟨some ⟨blk,ixC C bl pa*szP C.g,none⟩,szP C.g,szP C.g⟩) (t:=⟨dd.a,dd.n,dd.c⟩) (hcap.stepE x') (hI.ext x') (hdI.ext x') hbp bdd hdz (by dsimp only;omega))
   (λw' f s x' hat hm=>Prog2_c (f:=f) (m:=s) (s:=⟨some ⟨blk,ixC C bl pa*szP C.g,none⟩,szP C.g,szP C.g⟩) (t:=⟨dd.a,dd.n,dd.c⟩) (hcap.stepE x') (hI.ext x') (hdI.ext x') hm hbp bdd (atF_byt hC hat) hdz (by dsimp only;omega)) S hdS) ?_
 rintro F2 bk ⟨(e:Int),⟨⟩⟩ w12 ⟨h12,ta,tc,oo,hoo,S3⟩
 dsimp only at h12 ⊢
 subst h12
 have S4:=bk _ _ S3
 have hnew:newX C (andL (pgC13 C bl pa) dd.l) (λf=>progL (pgC13 C bl pa) dd.l f.2.2.1 (!f.2.1))=if (codeC C).1=0 then andL (pgC13 C bl pa) dd.l else progL (pgC13 C bl pa) dd.l (codeC C).2.1 (!(codeC C).2.2):=by
  unfold newX codeC
  cases atF C.pl (C.ops:Int) with
  | none=>rfl
  | some f=>
   dsimp only
   rw [if_neg]
   split <;> omega
 rw [hnew] at S4
 have hlq:(if (codeC C).1=0 then andL (pgC13 C bl pa) dd.l else progL (pgC13 C bl pa) dd.l (codeC C).2.1 (!(codeC C).2.2)).length=(pgC13 C bl pa).length:=by
  split
  ·exact hlA
  ·unfold progL;rw [turn_len]
 have S5:=(back _ _ _ _ _ hlq (S4.sel [1,0,0,0,0,0,3,3,3,3] rfl)).sel [1,0,4,4,4,4,0,0,0,0] rfl
 unfold progC
 rw [if_pos href,if_pos href]
 refine ⟨rfl,ta,tc,L++[oo],by rw [List.map_append,List.map_singleton,hoo],?_⟩
 have hlt:bl.toNat<C.bs.length:=by rw [hC.bl];have:=hi.1;omega
 have e1:=g3 (if (codeC C).1=0 then andL (pgC13 C bl pa) dd.l else progL (pgC13 C bl pa) dd.l (codeC C).2.1 (!(codeC C).2.2)) (progX C bl pa dd.l) (by
  unfold progX
  dsimp only
  rw [List.getD_eq_getElem?_getD,List.getElem?_set_self hlt]
  rfl)
 have e2:usL (progX C bl pa dd.l)=(usL C).set (ixC C bl pa) (usC C bl pa+1):=fl_put (m:=C.g.p.toNat) (λx hx=>(hC.bo x hx).ul) hbl.1 (by have:=hi.2;omega) rfl
 have e3:laL (progX C bl pa dd.l)=(laL C).set bl.toNat (max (blkC C bl).la pa):=List.map_set
 have e4:scL (progX C bl pa dd.l)=scL C:=map_set_same hbl.1 rfl
 have e5:erL (progX C bl pa dd.l)=erL C:=map_set_same hbl.1 rfl
 have e6:(L++[oo]).map (·.d)=L.map (·.d)++[oo.d]:=List.map_append
 refine chip_mk (y:=upT y ta tc) (C:=progX C bl pa dd.l) (L:=L++[oo]) (Rs:=[RdL dS]) ?_ e1 e2 e3 e4 e5
 rw [e6]
 exact S5
theorem progX_ok {C:CD} (hC:COk C) {bl pa:Int} {b:List Int} (hr:refC C bl pa b.length=0) (bb:Byt b) (ho:C.ops<1000000000000):COk (progX C bl pa b):=by
 have hoff:¬ C.off=true:=λh=>by unfold refC at hr;rw [if_pos h] at hr;cases hr
 have hi:inC C bl pa:=by
  unfold refC at hr
  rw [if_neg hoff] at hr
  by_cases h:inC C bl pa/\b.length=szP C.g
  ·exact h.1
  ·rw [if_pos h] at hr;cases hr
 have hb:=(hC.blk hi.1).2
 obtain ⟨hp1,hp2,hp3⟩:=hC.page hi
 have hus:=(hC.us hi).2
 have hu2:usC C bl pa<2:=by
  rw [refC_eq hoff hi] at hr
  by_cases hn:b.length≠szP C.g
  ·rw [if_pos hn] at hr;cases hr
  rw [if_neg hn] at hr
  by_cases h:(blkC C bl).sc=true\/2<=usC C bl pa
  ·rw [if_pos h] at hr;cases hr
  ·have:¬ 2<=usC C bl pa:=λk=>h (.inr k)
   omega
 have hnew:∀ q:List Int,(q=andL (pgC13 C bl pa) b\/∃ ms fl,q=progL (pgC13 C bl pa) b ms fl)->q.length=szP C.g/\Byt q:=λq hq=>by
  rcases hq with rfl | ⟨ms,fl,rfl⟩
  ·exact ⟨by rw [<-hp2];simp [andL],andL_byt _ _⟩
  ·exact ⟨by unfold progL;rw [turn_len];exact hp2,turn_byt hp3 _ _⟩
 have hq:=pg_set_ok hC hi (hnew (if (codeC C).1=0 then andL (pgC13 C bl pa) b else progL (pgC13 C bl pa) b (codeC C).2.1 (!(codeC C).2.2)) (by
  split
  ·exact .inl rfl
  ·exact .inr ⟨_,_,rfl⟩))
 have hpa:=hi.2
 refine hC.upd (by omega) (by omega) ⟨hq.1,hq.2,by dsimp only;rw [List.length_set];exact hb.ul,λu hu=>?_,?_,hb.er.1,by dsimp only;have:=hb.er.2;omega⟩
 ·rcases List.mem_or_eq_of_mem_set hu with h | h
  ·exact hb.ub u h
  ·rw [h];omega
 ·have:=hb.la
  dsimp only
  omega
theorem int_focus {E:Nat->Prop} {w0 w:World} {Rs:List Asr} {e:TypeId} {k:IntKind} {a:Option Addr} {n c:Nat} {pre mid post:List Int} (S:Sep E w0 w (OwnA e 1 a n c ((pre++(mid++post)).map (Value.int k))::Rs)) (hm:mid≠[]) :
  ∃ blk tl,a=some ⟨blk,0,none⟩/\Sep E w0 w (BoxA blk e (pre.map (Value.int k)++(mid.map (Value.int k)++(post.map (Value.int k)++tl)))::Rs) /\
   ∀ (E':Nat->Prop) (w0' w':World) (Rs':List Asr) (mid':List Int),mid'.length=mid.length->Sep E' w0' w' (BoxA blk e (pre.map (Value.int k)++(mid'.map (Value.int k)++(post.map (Value.int k)++tl)))::Rs')->Sep E' w0' w' (OwnA e 1 a n c ((pre++(mid'++post)).map (Value.int k))::Rs'):=by
 obtain ⟨blk,tl,ha,q1,q2,q3,q4,q5,S1⟩:=S.focus (by
  intro h
  have:=congrArg List.length h
  rw [List.length_map,List.length_append,List.length_append,List.length_nil] at this
  have:mid.length=0:=by omega
  exact hm (List.eq_nil_of_length_eq_zero this))
 have ee:∀ m:List Int,pre.map (Value.int k)++(m.map (Value.int k)++(post.map (Value.int k)++tl))=(pre++(m++post)).map (Value.int k)++tl:=λm=>by simp [List.append_assoc]
 refine ⟨blk,tl,ha,by rw [ee];exact S1,λE' w0' w' Rs' mid' hl S'=>?_⟩
 rw [ee] at S'
 subst ha
 have hlen:((pre++(mid'++post)).map (Value.int k)).length=((pre++(mid++post)).map (Value.int k)).length:=by simp [hl]
 exact S'.unfocus (n:=n) (c:=c) (sz:=1) (by rw [hlen];exact q1) (by rw [List.length_append,hlen,<- List.length_append];exact q2) q3 q4 (oneAll.ints _ _)
theorem _root_.Go.Eng.Sep.clM {E:Nat->Prop} {w0 w:World} {Rs:List Asr} (i:Nat) {b o:Nat} {e:TypeId} {pre xs post:List Value} (S:Sep E w0 w Rs) (hi:Rs[i]? = some (BoxA b e (pre++(xs++post)))) (ho:o=pre.length) {k:Nat} {z:Value} (hk:k=xs.length) (h1:z.oneCell'=true) {K:World->Prop}
  (hK:∀ w',Sep E w0 w' (Rs.set i (BoxA b e (pre++(List.replicate k z++post))))->Fr (λk=>k=b) w w'->K w'):ClearV w (some ⟨b,o,none⟩) k [z] K:=by
 have e1:(List.replicate k [z]).flatten=List.replicate k z:=by
  clear hK hk
  induction k with
  | zero=>rfl
  | succ k ih=>rw [List.replicate_succ,List.flatten_cons,ih];rfl
 refine ⟨λu hu=>by rw [List.mem_singleton.1 hu];exact h1,.inr ⟨_,rfl,?_⟩⟩
 rw [e1]
 refine S.stM0 i hi ho (news:=List.replicate k z) (by rw [List.length_replicate];omega) λw' S' f=>hK w' ?_ f
 rw [List.length_replicate,hk,List.drop_length,List.append_nil] at S'
 rw [hk]
 exact S'
abbrev bszC (C:CD):Nat:=C.g.p.toNat*szP C.g
abbrev allC (C:CD) (n:Int):List Int:=(blkC C n).pg.flatten
theorem flatten_len {l:List (List Int)} {m:Nat} (h:∀ x∈l,x.length=m):l.flatten.length=l.length*m:=by
 have:=fl_len (f:=id) h
 rwa [List.flatMap_id] at this
theorem BOk.all {g:Geo} {m:Nat} {x:BD} (h:BOk g m x):x.pg.flatten.length=g.p.toNat*szP g/\Byt x.pg.flatten:=by
 refine ⟨by rw [flatten_len λq hq=>(h.pb q hq).1,h.pl],λv hv=>?_⟩
 obtain ⟨q,hq,hv⟩:=List.mem_flatten.1 hv
 exact (h.pb q hq).2 v hv
theorem imgC_blk {C:CD} (h:COk C) {n:Int} (hn:0<=n/\n<C.g.b):∃ pre post,imgC C=pre++(allC C n++post)/\pre.length=n.toNat*bszC C/\∀ (x:BD) (C':CD),C'.bs=C.bs.set n.toNat x->imgC C'=pre++(x.pg.flatten++post):=by
 have hb:=(h.blk hn).1
 refine ⟨(C.bs.take n.toNat).flatMap (λx:BD=>x.pg.flatten),(C.bs.drop (n.toNat+1)).flatMap (λx:BD=>x.pg.flatten),fl_split (f:=λx:BD=>x.pg.flatten) hb,?_,λx C' hC=>?_⟩
 ·exact fl_take (λx hx=>(h.bo x hx).all.1) (by rw [h.bl];omega)
 ·unfold imgC
  rw [hC]
  exact fl_set (f:=λx:BD=>x.pg.flatten) hb
theorem cutL_flat {all:List Int} {p z:Nat} (hp:0<p) (h:all.length=p*z):(cutL all p).flatten=all/\(cutL all p).length=p/\∀ q∈cutL all p,q.length=z:=by
 have hz:all.length / p=z:=by rw [h];exact Nat.mul_div_cancel_left z hp
 refine ⟨?_,by simp [cutL],λq hq=>?_⟩
 ·unfold cutL
  rw [hz,chunks_join,<- h,List.take_length]
 ·obtain ⟨i,hi,rfl⟩:=List.mem_map.1 hq
  have hi:=List.mem_range.1 hi
  have:(i+1)*z<=p*z:=Nat.mul_le_mul_right _ hi
  rw [Nat.add_mul,Nat.one_mul] at this
  rw [hz,List.length_take,List.length_drop,h]
  omega
theorem cutL_byt {all:List Int} {p:Nat} (h:Byt all):∀ q∈cutL all p,Byt q:=λq hq=>by
 obtain ⟨i,-,rfl⟩:=List.mem_map.1 hq
 exact (h.drop _).take _
section
variable {E:Nat->Prop} {w0 w:World} {Rs:List Asr} {p:Nat} {y:Lay} {C:CD} {L:List TOp}
theorem block_c {n:Int} {blk:Nat} (hC:COk C) (hn:0<=n/\n<C.g.b) (hP:y.P.a=some ⟨blk,0,none⟩) (hc:C.g.b.toNat*C.g.p.toNat*szP C.g<=y.P.c) (S:Sep E w0 w (BoxA p 161 (chipV y C)::Rs)) :
  CallV Tryz.prog 213 #[.pointer (some ⟨p,0,none⟩),.int .i64 n] w [.one .sl] λr w'=>r.1=(⟨some ⟨blk,n.toNat*bszC C,none⟩,bszC C,bszC C⟩:SlV)/\Ext w w':=by
 apply nand_Chip_block.vc
 unfold nand_Chip_block.P
 simp only [Addr.add_lit,Nat.zero_add]
 obtain ⟨⟨n1,n2⟩,⟨n3,n4⟩,⟨n5,n6⟩,n7,n8⟩:=hC.num
 obtain ⟨k,rfl⟩:∃ k:Nat,n=(k:Int):=⟨n.toNat,by omega⟩
 have hk:k<C.g.b.toNat:=by omega
 have m0:C.g.b.toNat*C.g.p.toNat*szP C.g=C.g.b.toNat*bszC C:=Nat.mul_assoc _ _ _
 have m1:(k+1)*bszC C<=C.g.b.toNat*bszC C:=Nat.mul_le_mul_right _ hk
 have m2:bszC C<=20*216:=Nat.mul_le_mul (by omega) (by omega)
 have m3:C.g.b.toNat*bszC C<=16*(20*216):=Nat.mul_le_mul (by omega) m2
 have m4:(k+1)*bszC C=k*bszC C+bszC C:=by rw [Nat.add_mul,Nat.one_mul]
 have m5:0<bszC C:=Nat.mul_pos (by omega) (by omega)
 have e0:C.g.p*(C.g.s+88)=((bszC C:Nat):Int):=by rw [<-n8];show _=((C.g.p.toNat*szP C.g:Nat):Int);push_cast;rw [Int.toNat_of_nonneg (show 0<=C.g.p by omega)]
 have e1:(k:Int)*(C.g.p*(C.g.s+88))=((k*bszC C:Nat):Int):=by rw [e0];push_cast;rfl
 have e2:((k:Int)+1)*(C.g.p*(C.g.s+88))=(((k+1)*bszC C:Nat):Int):=by rw [e0];push_cast;rfl
 rw [Int.toNat_natCast]
 generalize hz:bszC C=z at *
 refine S.reg λD hD hkeep S T=>?_
 have hb:=hD _ S.bl0
 refine ⟨hb,S.ld0 (j:=1) rfl rfl ⟨hb,S.ld0 (j:=6) rfl rfl ⟨by rw [e0];exact Rng.i64 (by omega) (by omega),S.ld0 (j:=7) rfl rfl ⟨by rw [e1];exact Rng.i64 (by omega) (by omega),Rng.i64 (by omega) (by omega),by rw [e2];exact Rng.i64 (by omega) (by omega),Rng.i64 (by omega) (by omega),by rw [e2];exact Rng.i64 (by omega) (by omega),
  ⟨by rw [e1];omega,by rw [e1,e2];omega,by omega,by rw [e2];dsimp only;omega⟩,?_⟩⟩⟩⟩
 intro a6 ha6
 rw [e1,e2] at ha6 ⊢
 rw [Int.toNat_natCast,Int.toNat_natCast,if_neg (by omega),hP] at ha6
 refine ⟨?_,Ext.drew _⟩
 rw [ha6,Int.toNat_natCast,Int.toNat_natCast]
 have e3:(⟨blk,0,none⟩:Addr).add (k*z*1)=⟨blk,k*z,none⟩:=by simp [Addr.add_lit]
 show (⟨some ((⟨blk,0,none⟩:Addr).add (k*z*1)),_,_⟩:SlV)=_
 rw [e3,show (k+1)*z-k*z=z by omega]
variable {q0 q1:Nat} {e0 e1:TypeId} {s t:SlV} {was b:List Int}
theorem Erase2_c (S:Sep E w0 w (BoxA q0 e0 [.slice s.a s.n s.c]::Rs)) (hs:Ints w .u8 s.a s.n s.c was) (bs:Byt was) (hn2:s.n<=60000) :
  CallV Tryz.prog 216 #[.pointer (some ⟨q0,0,none⟩)] w [.one .sl] λr w'=>Ints w' .u8 r.1.a r.1.n r.1.c (List.replicate s.n 255)/\Ext w w':=by
 apply nand_Chip_Erase_2.vc
 unfold nand_Chip_Erase_2.P
 refine S.ld0 rfl rfl ?_
 refine (Set_c hs bs nilU Byt.nil hn2).mono ?_
 rintro ⟨r1,⟨⟩⟩ w' h1
 rw [erase_whole bs hs.len] at h1
 exact ⟨h1.ints,h1.ext⟩
theorem Erase1_c {f:FD} {m:SlV} (S:Sep E w0 w (BoxA q0 e0 [.slice s.a s.n s.c]::Rs)) (hs:Ints w .u8 s.a s.n s.c was) (hm:Ints w .u8 m.a m.n m.c f.2.2.1) (bs:Byt was) (bm:Byt f.2.2.1) (hn2:s.n<=60000) :
  CallV Tryz.prog 214 #[.agg #[.int .i64 f.1,.bool f.2.1,.slice m.a m.n m.c],.pointer (some ⟨q0,0,none⟩)] w [.one .sl] λr w'=>Ints w' .u8 r.1.a r.1.n r.1.c (eraL was f.2.2.1)/\Ext w w':=by
 apply nand_Chip_Erase_1.vc
 unfold nand_Chip_Erase_1.P
 have T:=Sep.start NoB w
 refine T.newB λb1 w1 T f1 _=>?_
 have X:=T.ext
 have S:=S.stepE X
 refine S.ld0 rfl rfl (T.ld0 rfl rfl ?_)
 refine (Set_c (hs.ext X) bs (hm.ext X) bm hn2).mono ?_
 rintro ⟨r1,⟨⟩⟩ w2 h1
 refine ⟨?_,X.trans h1.ext⟩
 have:=h1.ints
 unfold eraL
 rw [hs.len]
 exact this
theorem Scrub1_c (S:Sep E w0 w (BoxA q0 e0 [.slice s.a s.n s.c]::Rs)) (hs:Ints w .u8 s.a s.n s.c was) :
  CallV Tryz.prog 220 #[.pointer (some ⟨q0,0,none⟩)] w [.one .sl] λr w'=>Ints w' .u8 r.1.a r.1.n r.1.c was/\Ext w w':=by
 apply nand_Chip_Scrub_1.vc
 unfold nand_Chip_Scrub_1.P
 exact S.ld0 rfl rfl ⟨hs,Ext.refl _⟩
theorem Scrub2_c {f:FD} {m:SlV} (S:Sep E w0 w (BoxA q0 e0 [.slice s.a s.n s.c]::BoxA q1 e1 [.slice t.a t.n t.c]::Rs)) (hs:Ints w .u8 s.a s.n s.c was) (ht:Ints w .u8 t.a t.n t.c b) (hm:Ints w .u8 m.a m.n m.c f.2.2.1) (bs:Byt was) (bt:Byt b) (bm:Byt f.2.2.1) (hn:t.n=s.n) (hn2:s.n<=100000) :
  CallV Tryz.prog 221 #[.agg #[.int .i64 f.1,.bool f.2.1,.slice m.a m.n m.c],.pointer (some ⟨q0,0,none⟩),.pointer (some ⟨q1,0,none⟩)] w [.one .sl] λr w'=>Ints w' .u8 r.1.a r.1.n r.1.c (progL was b f.2.2.1 false)/\Ext w w':=by
 apply nand_Chip_Scrub_2.vc
 unfold nand_Chip_Scrub_2.P
 obtain ⟨ta,tn,tc⟩:=t
 dsimp only at hn ht
 subst hn
 have T:=Sep.start NoB w
 refine T.newB λb1 w1 T f1 _=>?_
 have X:=T.ext
 have S:=S.stepE X
 refine S.ld0 rfl rfl (S.ld1 rfl rfl (T.ld0 rfl rfl ?_))
 refine (Clear_c (hs.ext X) bs (ht.ext X) bt (hm.ext X) bm hn2).mono ?_
 rintro ⟨r1,(r2:Int),⟨⟩⟩ w2 ⟨h1,-⟩
 dsimp only at h1 ⊢
 refine ⟨?_,X.trans h1.ext⟩
 have:=h1.ints
 unfold progL
 rw [hs.len]
 exact this
end
abbrev noD:SlP Int:=⟨none,0,0,[]⟩
theorem TB_nil0 {w:World} {F:Nat->Prop}:TB.rd w F noD:=⟨rfl,Nat.le_refl _,Nat.zero_le _,.inl ⟨rfl,rfl⟩,λy hy=>(List.not_mem_nil hy).elim⟩
theorem _root_.Go.Eng.Sep.nilD {E:Nat->Prop} {w0 w:World} {Rs:List Asr} (S:Sep E w0 w Rs):Sep E w0 w (RdL [noD]::Rs):=
 S.push (F:=NoB) (Fr.refl _ _) (λx hx=>by rw [List.mem_singleton.1 hx];exact TB_nil0) λ_ x=>x.elim
theorem rep_flat (n:Nat) (v:Value):(List.replicate n [v]).flatten=List.replicate n v:=by
 induction n with
 | zero=>rfl
 | succ n ih=>rw [List.replicate_succ,List.flatten_cons,ih];rfl
theorem may_zero {C:CD} {n:Int} (h:mayC C n=0):C.off=false/\0<=n/\n<C.g.b:=by
 unfold mayC at h
 split at h
 ·cases h
 ·rename_i ho
  split at h
  ·cases h
  ·rename_i hn
   exact ⟨by simpa using ho,Decidable.not_not.1 hn⟩
theorem Scrub13_c {F:Nat->Prop} {w:World} {p:Nat} {y:Lay} {C:CD} {L:List TOp} {n:Int} (hC:COk C) (hF:fds y.F=C.pl) (S:Sep F w w (ChipP p y C L)) :
  CallV Tryz.prog 183 #[.pointer (some ⟨p,0,none⟩),.int .i64 n] w [.one (.int .i64)] λr w'=>
   r.1=(scrC C n).2/\OpR F w w' p y (scrC C n).1 L (if mayC C n=0 then [(3,n,0,[],(codeC C).1)] else []) []:=by
 apply nand_Chip_Scrub.vc
 unfold nand_Chip_Scrub.P
 refine (may_c (n:=n) hC S).mono ?_
 rintro ⟨(e:Int),⟨⟩⟩ w1 ⟨h1,rfl⟩
 dsimp only at h1 ⊢
 subst h1
 refine cond_ne (λh=>?_) λhmay=>?_
 ·unfold scrC
  rw [if_neg h,if_neg h]
  exact ⟨rfl,.none S⟩
 obtain ⟨hoff,hn⟩:=may_zero hmay
 obtain ⟨blk,hP⟩:=chip_adr hC S
 obtain ⟨l1,l1',l2,l2',l3,l4,l5,l6⟩:=chip_len hC S
 obtain ⟨⟨n1,n2⟩,⟨n3,n4⟩,⟨n5,n6⟩,n7,n8⟩:=hC.num
 have hb:=(hC.blk hn).2
 have hbs:=(hC.blk hn).1
 have m2:bszC C<=20*216:=Nat.mul_le_mul (by omega) (by omega)
 have m5:0<bszC C:=Nat.mul_pos (by omega) (by omega)
 refine (block_c (n:=n) hC hn hP (by omega) S).mono ?_
 rintro ⟨⟨ra,rn,rc⟩,⟨⟩⟩ w2 ⟨h2,x2⟩
 cases h2
 dsimp only
 have S:=S.stepE x2
 refine S.newB λb5 w3 S f3 _=>?_
 refine S.st0 (by rfl) λw4 S f4=>?_
 simp only [Addr.add_lit,Nat.zero_add]
 have hs:(0:Int)<=n/\n<(y.S.n:Int):=by rw [l4];omega
 refine S.ld1 (j:=10) rfl rfl ?_
 refine S.put (i:=5) rfl hs.1 hs.2 (v:=.int .i64 1) rfl λw5 S f5=>?_
 dsimp only [List.set_cons_succ,List.set_cons_zero] at S
 rw [iv_set] at S
 refine S.ld0 rfl rfl ?_
 dsimp only
 refine ⟨⟨by omega,by omega,by omega,by omega⟩,?_⟩
 rw [Int.toNat_natCast]
 refine S.newB λb12 w6 S f6 _=>?_
 refine S.newB λb14 w7 S f7 _=>?_
 refine S.st0 (by rfl) λw8 S f8=>?_
 refine S.ld2 rfl rfl ?_
 dsimp only
 obtain ⟨pre,post,g1,g2,g3⟩:=imgC_blk hC hn
 have hall:=hb.all
 rw [g1] at S
 have hne:allC C n≠[]:=λh=>by have:=hall.1;rw [show (blkC C n).pg.flatten=allC C n from rfl,h] at this;have:0=bszC C:=this;omega
 have S:=S.nilD
 obtain ⟨blk2,tl,ha2,S2,back⟩:=int_focus (k:=.u8) (S.sel [5,4,8,8,8,0,0,0,0,0,0,0,0] rfl) hne
 rw [hP] at ha2
 cases ha2
 have hol:n.toNat*bszC C=(pre.map (Value.int .u8)).length:=by rw [List.length_map,g2]
 have hI:Ints w8 .u8 (some ⟨blk,n.toNat*bszC C,none⟩) (bszC C) (bszC C) (allC C n):=S2.intsM 0 rfl hol hall.1.symm (Nat.le_refl _) (by omega)
 have hzl:(List.replicate (bszC C) (0:Int)).map (Value.int .u8)=(List.replicate (bszC C) [Value.int .u8 0]).flatten:=by rw [rep_flat,List.map_replicate]
 have hZ:Ints w8 .u8 (some ⟨b12,0,none⟩) (bszC C) (bszC C) (List.replicate (bszC C) 0):=⟨by simp,Nat.le_refl _,by omega,.inr ⟨_,rfl,by rw [hzl];exact S2.cells 7 rfl⟩⟩
 have bz:Byt (List.replicate (bszC C) (0:Int)):=Byt.replicate (by decide) (by decide) _
 have hla:(allC C n).length=bszC C:=hall.1
 refine Sep.call [BoxA p 161 (chipV y C),BoxA blk 5 (pre.map (Value.int .u8)++((allC C n).map (Value.int .u8)++(post.map (Value.int .u8)++tl))),RdT LF y.F,OwnA 164 5 y.T.a C.ops y.T.c (L.flatMap TOp.vs),RdL (L.map (·.d)),RdL [noD]] (Ts:=_) (S2.sel [1,0,0,0,0,0,0,0,0,0,0,0,0] rfl)
  (λF S=>done_c (dd:=noD) (whole:=List.replicate (bszC C) 0) (torn:=λf=>progL (allC C n) (List.replicate (bszC C) 0) f.2.2.1 false) hF hC.mfit hC.ops hoff hol (by decide) hla.symm (by rw [List.length_replicate,hla]) (λf=>by unfold progL;rw [turn_len]) (by kernel_rfl) (by kernel_rfl)
   (λw' x'=>Scrub1_c (s:=⟨some ⟨b12,0,none⟩,bszC C,bszC C⟩) ((S2.sel [6] rfl).stepE x') (hZ.ext x'))
   (λw' f s x' hat hm=>Scrub2_c (f:=f) (m:=s) (s:=⟨some ⟨blk,n.toNat*bszC C,none⟩,bszC C,bszC C⟩) (t:=⟨some ⟨b12,0,none⟩,bszC C,bszC C⟩) ((S2.sel [8,6] rfl).stepE x') (hI.ext x') (hZ.ext x') hm hall.2 bz (atF_byt hC hat) rfl (by dsimp only;omega)) S) ?_
 rintro F2 bk ⟨(e:Int),⟨⟩⟩ w12 ⟨h12,ta,tc,oo,hoo,S3⟩
 dsimp only at h12 ⊢
 subst h12
 have S4:=bk _ _ S3
 have hnew:newX C (List.replicate (bszC C) 0) (λf=>progL (allC C n) (List.replicate (bszC C) 0) f.2.2.1 false)=if (codeC C).1=0 then List.replicate (allC C n).length 0 else progL (allC C n) (List.replicate (allC C n).length 0) (codeC C).2.1 false:=by
  rw [hla]
  unfold newX codeC
  cases atF C.pl (C.ops:Int) with
  | none=>rfl
  | some f=>
   dsimp only
   rw [if_neg]
   split <;> omega
 rw [hnew] at S4
 have hlq:(if (codeC C).1=0 then List.replicate (allC C n).length 0 else progL (allC C n) (List.replicate (allC C n).length 0) (codeC C).2.1 false).length=(allC C n).length:=by
  split
  ·rw [List.length_replicate]
  ·unfold progL;rw [turn_len]
 have S5:=(back _ _ _ _ _ hlq (S4.sel [1,0,0,0,0,4,4,4,4] rfl)).sel [1,0,3,3,3,3,0,0,0] rfl
 unfold scrC
 rw [if_pos hmay,if_pos hmay]
 refine ⟨rfl,ta,tc,L++[oo],by rw [List.map_append,List.map_singleton,hoo],?_⟩
 have e1:imgC (scrX C n)=pre++((if (codeC C).1=0 then List.replicate (allC C n).length 0 else progL (allC C n) (List.replicate (allC C n).length 0) (codeC C).2.1 false)++post):=by
  rw [g3 _ (scrX C n) rfl]
  have:=(cutL_flat (all:=(if (codeC C).1=0 then List.replicate (allC C n).length 0 else progL (allC C n) (List.replicate (allC C n).length 0) (codeC C).2.1 false)) (p:=C.g.p.toNat) (z:=szP C.g) (by omega) (by rw [hlq];exact hla)).1
  dsimp only
  rw [this]
 have e2:usL (scrX C n)=usL C:=fl_same hbs rfl
 have e3:laL (scrX C n)=laL C:=map_set_same hbs rfl
 have e4:scL (scrX C n)=(scL C).set n.toNat 1:=List.map_set
 have e5:erL (scrX C n)=erL C:=map_set_same hbs rfl
 have e6:(L++[oo]).map (·.d)=L.map (·.d)++[oo.d]:=List.map_append
 refine chip_mk (y:=upT y ta tc) (C:=scrX C n) (L:=L++[oo]) (Rs:=[]) ?_ e1 e2 e3 e4 e5
 rw [e6]
 exact S5
theorem scrX_ok {C:CD} (hC:COk C) {n:Int} (hr:mayC C n=0) (ho:C.ops<1000000000000):COk (scrX C n):=by
 obtain ⟨hoff,hn⟩:=may_zero hr
 obtain ⟨⟨n1,n2⟩,⟨n3,n4⟩,-⟩:=hC.num
 have hb:=(hC.blk hn).2
 have hall:=hb.all
 have hq:∀ Q:List Int,Q.length=C.g.p.toNat*szP C.g->Byt Q->(cutL Q C.g.p.toNat).length=C.g.p.toNat/\∀ q∈cutL Q C.g.p.toNat,q.length=szP C.g/\Byt q:=λQ h1 h2=>
  ⟨(cutL_flat (by omega) h1).2.1,λq hq=>⟨(cutL_flat (by omega) h1).2.2 q hq,cutL_byt h2 q hq⟩⟩
 have h:=hq (if (codeC C).1=0 then List.replicate (allC C n).length 0 else progL (allC C n) (List.replicate (allC C n).length 0) (codeC C).2.1 false) (by
  split
  ·rw [List.length_replicate];exact hall.1
  ·unfold progL;rw [turn_len];exact hall.1) (by
  split
  ·exact Byt.replicate (by decide) (by decide) _
  ·exact turn_byt hall.2 _ _)
 exact hC.upd (by omega) (by omega) ⟨h.1,h.2,hb.ul,hb.ub,hb.la,hb.er.1,by dsimp only;have:=hb.er.2;omega⟩
theorem Erase13_c {F:Nat->Prop} {w:World} {p:Nat} {y:Lay} {C:CD} {L:List TOp} {n:Int} (hC:COk C) (hF:fds y.F=C.pl) (S:Sep F w w (ChipP p y C L)) :
  CallV Tryz.prog 180 #[.pointer (some ⟨p,0,none⟩),.int .i64 n] w [.one (.int .i64)] λr w'=>
   r.1=(eraC C n).2/\OpR F w w' p y (eraC C n).1 L (if mayC C n=0 then [(2,n,0,[],(codeC C).1)] else []) []:=by
 apply nand_Chip_Erase.vc
 unfold nand_Chip_Erase.P
 refine (may_c (n:=n) hC S).mono ?_
 rintro ⟨(e:Int),⟨⟩⟩ w1 ⟨h1,rfl⟩
 dsimp only at h1 ⊢
 subst h1
 refine cond_ne (λh=>?_) λhmay=>?_
 ·unfold eraC
  rw [if_neg h,if_neg h]
  exact ⟨rfl,.none S⟩
 obtain ⟨hoff,hn⟩:=may_zero hmay
 obtain ⟨blk,hP⟩:=chip_adr hC S
 obtain ⟨l1,l1',l2,l2',l3,l4,l5,l6⟩:=chip_len hC S
 obtain ⟨⟨n1,n2⟩,⟨n3,n4⟩,⟨n5,n6⟩,n7,n8⟩:=hC.num
 have hb:=(hC.blk hn).2
 have hbs:=(hC.blk hn).1
 have m2:bszC C<=20*216:=Nat.mul_le_mul (by omega) (by omega)
 have m5:0<bszC C:=Nat.mul_pos (by omega) (by omega)
 refine (block_c (n:=n) hC hn hP (by omega) S).mono ?_
 rintro ⟨⟨ra,rn,rc⟩,⟨⟩⟩ w2 ⟨h2,x2⟩
 cases h2
 dsimp only
 have S:=S.stepE x2
 refine S.newB λb5 w3 S f3 _=>?_
 refine S.st0 (by rfl) λw4 S f4=>?_
 simp only [Addr.add_lit,Nat.zero_add]
 have he:(0:Int)<=n/\n<(y.E.n:Int):=by rw [l5];omega
 refine S.ld1 (j:=11) rfl rfl ((S.ints 6 rfl).idx he.1 he.2 ?_)
 rw [erL_get hC hn]
 have her:=hb.er
 have hops:=hC.ops
 refine ⟨Rng.i64 (by omega) (by omega),?_⟩
 refine S.put (i:=6) rfl he.1 he.2 (v:=.int .i64 ((blkC C n).er+1)) rfl λw5 S f5=>?_
 dsimp only [List.set_cons_succ,List.set_cons_zero] at S
 rw [iv_set] at S
 refine S.ld0 rfl rfl ?_
 dsimp only
 obtain ⟨pre,post,g1,g2,g3⟩:=imgC_blk hC hn
 have hall:=hb.all
 have hla:(allC C n).length=bszC C:=hall.1
 rw [g1] at S
 have hne:allC C n≠[]:=λh=>by rw [h] at hla;have:0=bszC C:=hla;omega
 have S:=S.nilD
 obtain ⟨blk2,tl,ha2,S2,back⟩:=int_focus (k:=.u8) (S.sel [3,2,6,6,6,0,0,0,0,0,0] rfl) hne
 rw [hP] at ha2
 cases ha2
 have hol:n.toNat*bszC C=(pre.map (Value.int .u8)).length:=by rw [List.length_map,g2]
 have hI:Ints w5 .u8 (some ⟨blk,n.toNat*bszC C,none⟩) (bszC C) (bszC C) (allC C n):=S2.intsM 0 rfl hol hla.symm (Nat.le_refl _) (by omega)
 refine Sep.call [BoxA p 161 (chipV y C),BoxA blk 5 (pre.map (Value.int .u8)++((allC C n).map (Value.int .u8)++(post.map (Value.int .u8)++tl))),RdT LF y.F,OwnA 164 5 y.T.a C.ops y.T.c (L.flatMap TOp.vs),RdL (L.map (·.d)),RdL [noD]] (Ts:=_) (S2.sel [1,0,0,0,0,0,0,0,0,0,0] rfl)
  (λF S=>done_c (dd:=noD) (whole:=List.replicate (bszC C) 255) (torn:=λf=>eraL (allC C n) f.2.2.1) hF hC.mfit hC.ops hoff hol (by decide) hla.symm (by rw [List.length_replicate,hla]) (λf=>by unfold eraL;rw [turn_len]) (by kernel_rfl) (by kernel_rfl)
   (λw' x'=>Erase2_c (s:=⟨some ⟨blk,n.toNat*bszC C,none⟩,bszC C,bszC C⟩) ((S2.sel [6] rfl).stepE x') (hI.ext x') hall.2 (by dsimp only;omega))
   (λw' f s x' hat hm=>Erase1_c (f:=f) (m:=s) (s:=⟨some ⟨blk,n.toNat*bszC C,none⟩,bszC C,bszC C⟩) ((S2.sel [6] rfl).stepE x') (hI.ext x') hm hall.2 (atF_byt hC hat) (by dsimp only;omega)) S) ?_
 rintro F2 bk ⟨(e:Int),⟨⟩⟩ w12 ⟨h12,ta,tc,oo,hoo,S3⟩
 dsimp only at h12 ⊢
 subst h12
 have S4:=bk _ _ S3
 have hnew:newX C (List.replicate (bszC C) 255) (λf=>eraL (allC C n) f.2.2.1)=if (codeC C).1=0 then List.replicate (bszC C) 255 else eraL (allC C n) (codeC C).2.1:=by
  unfold newX codeC
  cases atF C.pl (C.ops:Int) with
  | none=>rfl
  | some f=>
   dsimp only
   rw [if_neg]
   split <;> omega
 rw [hnew] at S4
 have hlq:(if (codeC C).1=0 then List.replicate (bszC C) 255 else eraL (allC C n) (codeC C).2.1).length=(allC C n).length:=by
  split
  ·rw [List.length_replicate,hla]
  ·unfold eraL;rw [turn_len]
 have S5:=(back _ _ _ _ _ hlq (S4.sel [1,0,0,0,0,2,2,2,2] rfl)).sel [1,0,3,3,3,3,0,0,0] rfl
 unfold eraC
 rw [if_pos hmay,if_pos hmay]
 have e6:(L++[oo]).map (·.d)=L.map (·.d)++[oo.d]:=List.map_append
 have e5:erL (eraX C n)=(erL C).set n.toNat ((blkC C n).er+1):=by
  have:∀ x:BD,x.er=(blkC C n).er+1->(C.bs.set n.toNat x).map (·.er)=(erL C).set n.toNat ((blkC C n).er+1):=λx hx=>by rw [List.map_set,hx];rfl
  refine this _ ?_
  split <;> rfl
 refine cond_eq (λhc0=>?_) (λhc0=>?_)
 case refine_2=>
  have hc0:¬ (codeC C).1=0:=hc0
  rw [if_neg hc0] at S5 hlq
  have hX:(eraX C n).bs=C.bs.set n.toNat {blkC C n with pg:=cutL (eraL (blkC C n).pg.flatten (codeC C).2.1) C.g.p.toNat,er:=(blkC C n).er+1}:=by unfold eraX;rw [if_neg hc0]
  have e1:imgC (eraX C n)=pre++(eraL (allC C n) (codeC C).2.1++post):=by
   rw [g3 _ (eraX C n) hX]
   have:=(cutL_flat (all:=eraL (allC C n) (codeC C).2.1) (p:=C.g.p.toNat) (z:=szP C.g) (by omega) (by rw [hlq];exact hla)).1
   dsimp only
   rw [this]
  have e2:usL (eraX C n)=usL C:=by unfold usL;rw [hX];exact fl_same hbs rfl
  have e3:laL (eraX C n)=laL C:=by unfold laL;rw [hX];exact map_set_same hbs rfl
  have e4:scL (eraX C n)=scL C:=by unfold scL;rw [hX];exact map_set_same hbs rfl
  refine ⟨rfl,ta,tc,L++[oo],by rw [List.map_append,List.map_singleton,hoo],?_⟩
  refine chip_mk (y:=upT y ta tc) (C:=eraX C n) (L:=L++[oo]) (Rs:=[]) ?_ e1 e2 e3 e4 e5
  rw [e6]
  exact S5
 have hc0:(codeC C).1=0:=hc0
 rw [if_pos hc0] at S5
 have hX:(eraX C n).bs=C.bs.set n.toNat {blankB C.g with er:=(blkC C n).er+1}:=by unfold eraX;rw [if_pos hc0]
 have e1:imgC (eraX C n)=pre++(List.replicate (bszC C) 255++post):=by
  rw [g3 _ (eraX C n) hX]
  have:(blankB C.g).pg.flatten=List.replicate (bszC C) 255:=by unfold blankB;exact List.flatten_replicate_replicate
  dsimp only
  rw [this]
 obtain ⟨pre2,post2,u1,u2,u3⟩:∃ pre2 post2,usL C=pre2++((blkC C n).us++post2)/\pre2.length=n.toNat*C.g.p.toNat/\usL (eraX C n)=pre2++(List.replicate C.g.p.toNat 0++post2):=by
  refine ⟨(C.bs.take n.toNat).flatMap (λx:BD=>x.us),(C.bs.drop (n.toNat+1)).flatMap (λx:BD=>x.us),fl_split (f:=λx:BD=>x.us) hbs,fl_take (λx hx=>(hC.bo x hx).ul) (by rw [hC.bl];omega),?_⟩
  unfold usL
  rw [hX]
  exact fl_set (f:=λx:BD=>x.us) hbs
 have hneP:=S5.neO 0 2 (by decide) rfl rfl
 have k0:C.g.p.toNat*n.toNat+C.g.p.toNat<=C.g.p.toNat*C.g.b.toNat:=by
  have:C.g.p.toNat*(n.toNat+1)<=C.g.p.toNat*C.g.b.toNat:=Nat.mul_le_mul_left _ (by omega)
  rwa [Nat.mul_add,Nat.mul_one] at this
 have c1:C.g.p.toNat*n.toNat=n.toNat*C.g.p.toNat:=Nat.mul_comm _ _
 have c2:C.g.p.toNat*C.g.b.toNat=C.g.b.toNat*C.g.p.toNat:=Nat.mul_comm _ _
 have i3:C.g.b.toNat*C.g.p.toNat<=16*20:=Nat.mul_le_mul (by omega) (by omega)
 have v1:n*C.g.p=((n.toNat*C.g.p.toNat:Nat):Int):=by push_cast;rw [Int.toNat_of_nonneg hn.1,Int.toNat_of_nonneg (show 0<=C.g.p by omega)]
 have v2:(n+1)*C.g.p=((n.toNat*C.g.p.toNat+C.g.p.toNat:Nat):Int):=by rw [Int.add_mul,Int.one_mul,v1];push_cast;rw [Int.toNat_of_nonneg (show 0<=C.g.p by omega)]
 refine S5.regX (λk=>∃ q:Addr,y.U.a=some q/\k=q.block) λD hD hkeep S6 T=>?_
 have hDp:D p:=hD _ S6.bl0 (λ⟨q,hq,h⟩=>hneP q hq h)
 refine ⟨hDp,S6.ld0 (j:=8) rfl rfl ⟨hDp,S6.ld0 (j:=1) rfl rfl ⟨by rw [v1];exact Rng.i64 (by omega) (by omega),Rng.i64 (by omega) (by omega),hDp,S6.ld0 (j:=1) rfl rfl ⟨by rw [v2];exact Rng.i64 (by omega) (by omega),⟨by rw [v1];omega,by rw [v1,v2];omega,by rw [v2];dsimp only;omega⟩,?_⟩⟩⟩⟩
 intro a20 ha20
 rw [v1] at ha20 ⊢
 rw [v2,Int.toNat_natCast,Int.toNat_natCast]
 dsimp only at ha20 ⊢
 rw [Int.toNat_natCast,if_neg (by omega)] at ha20
 rw [u1] at S6
 have hneU:(blkC C n).us≠[]:=λh=>by have:=hb.ul;rw [h] at this;have:0=C.g.p.toNat:=this;omega
 obtain ⟨ublk,utl,hU,S7,uback⟩:=int_focus (k:=.i64) (S6.sel [2,0,0,0,0,0,0,0,0] rfl) hneU
 rw [hU] at ha20
 have ea:a20=some ⟨ublk,n.toNat*C.g.p.toNat,none⟩:=by
  rw [ha20]
  show some ((⟨ublk,0,none⟩:Addr).add (n.toNat*C.g.p.toNat*1))=_
  simp [Addr.add_lit]
 rw [ea]
 refine S7.clM 0 rfl (by rw [List.length_map,u2]) (by rw [List.length_map,hb.ul];omega) rfl λw21 S8 f21=>⟨hkeep _ (f21.mono λk hk=>⟨_,hU,hk⟩),?_⟩
 have S8:=S8.sel [0,0,0,0,0,0,0,0,0] rfl
 have hrep:List.replicate (n.toNat*C.g.p.toNat+C.g.p.toNat-n.toNat*C.g.p.toNat) (Value.int .i64 0)=(List.replicate C.g.p.toNat (0:Int)).map (Value.int .i64):=by rw [List.map_replicate,Nat.add_sub_cancel_left]
 rw [hrep] at S8
 have S9:=(uback _ _ _ _ _ (by rw [List.length_replicate,hb.ul]) S8).sel [1,1,0,0,0,0,0,0,0] rfl
 rw [<-u3] at S9
 have ha:(0:Int)<=n/\n<(y.A.n:Int):=by rw [l3];omega
 have hs:(0:Int)<=n/\n<(y.S.n:Int):=by rw [l4];omega
 have fin:∀ {w':World},Sep F w1 w' [BoxA p 161 (chipV (upT y ta tc) {C with off:=(codeC C).2.2,ops:=C.ops+1}),OwnA 5 1 y.P.a y.P.n y.P.c (bv8 (pre++(List.replicate (bszC C) 255++post))),OwnA 3 1 y.U.a y.U.n y.U.c (iv (usL (eraX C n))),OwnA 3 1 y.A.a y.A.n y.A.c (iv ((laL C).set n.toNat (-1))),
   OwnA 3 1 y.S.a y.S.n y.S.c (iv ((scL C).set n.toNat 0)),OwnA 3 1 y.E.a y.E.n y.E.c (iv ((erL C).set n.toNat ((blkC C n).er+1))),RdT LF y.F,OwnA 164 5 ta (C.ops+1) tc ((L++[oo]).flatMap TOp.vs),RdL (L.map (·.d)++[oo.d])] ->
   (codeC C).1=(eraX C n,(codeC C).1).2/\OpR F w1 w' p y (eraX C n,(codeC C).1).1 L [(2,n,0,[],(codeC C).1)] []:=λS=>by
  have e3:laL (eraX C n)=(laL C).set n.toNat (-1):=by unfold laL;rw [hX,List.map_set];rfl
  have e4:scL (eraX C n)=(scL C).set n.toNat 0:=by unfold scL;rw [hX,List.map_set];rfl
  refine ⟨rfl,ta,tc,L++[oo],by rw [List.map_append,List.map_singleton,hoo],?_⟩
  refine chip_mk (y:=upT y ta tc) (C:=eraX C n) (L:=L++[oo]) (Rs:=[]) ?_ e1 rfl e3 e4 e5
  rw [e6]
  exact S
 refine S9.regX (λk=>(∃ q:Addr,y.A.a=some q/\k=q.block)\/∃ q:Addr,y.S.a=some q/\k=q.block) λD2 hD2 hkeep2 S10 T2=>?_
 have hk0:=hkeep2 _ (Fr.refl _ _)
 refine ⟨?_,?_⟩
 ·refine S10.ld0 (j:=9) rfl rfl ⟨hk0,S10.ld0 (j:=10) rfl rfl ⟨hk0,?_⟩⟩
  refine S10.put (i:=3) rfl ha.1 ha.2 (v:=.int .i64 (-1)) rfl λw26 S11 f26=>⟨hkeep2 _ (f26.mono λk hk=>.inl hk),?_⟩
  dsimp only [List.set_cons_succ,List.set_cons_zero] at S11
  rw [iv_set] at S11
  refine S11.put (i:=4) rfl hs.1 hs.2 (v:=.int .i64 0) rfl λw28 S12 f28=>⟨hkeep2 _ ((f26.mono λk hk=>.inl hk).trans (f28.mono λk hk=>.inr hk)),?_⟩
  dsimp only [List.set_cons_succ,List.set_cons_zero] at S12
  rw [iv_set] at S12
  exact fin S12
 ·refine S10.ld0 (j:=10) rfl rfl ⟨hk0,S10.ld0 (j:=9) rfl rfl ⟨hk0,?_⟩⟩
  refine S10.put (i:=3) rfl ha.1 ha.2 (v:=.int .i64 (-1)) rfl λw26 S11 f26=>⟨hkeep2 _ (f26.mono λk hk=>.inl hk),?_⟩
  dsimp only [List.set_cons_succ,List.set_cons_zero] at S11
  rw [iv_set] at S11
  refine S11.put (i:=4) rfl hs.1 hs.2 (v:=.int .i64 0) rfl λw28 S12 f28=>⟨hkeep2 _ ((f26.mono λk hk=>.inl hk).trans (f28.mono λk hk=>.inr hk)),?_⟩
  dsimp only [List.set_cons_succ,List.set_cons_zero] at S12
  rw [iv_set] at S12
  exact fin S12
theorem eraX_ok {C:CD} (hC:COk C) {n:Int} (hr:mayC C n=0) (ho:C.ops<1000000000000):COk (eraX C n):=by
 obtain ⟨hoff,hn⟩:=may_zero hr
 obtain ⟨⟨n1,n2⟩,⟨n3,n4⟩,-⟩:=hC.num
 have hb:=(hC.blk hn).2
 have hall:=hb.all
 have her:=hb.er
 have hbl:=blankB_ok C.g hC.g (C.ops+1)
 unfold eraX
 by_cases hc:(codeC C).1=0
 ·rw [if_pos hc]
  exact hC.upd (by omega) (by omega) ⟨hbl.pl,hbl.pb,hbl.ul,hbl.ub,hbl.la,by dsimp only;omega,by dsimp only;omega⟩
 ·rw [if_neg hc]
  have hlen:(eraL (blkC C n).pg.flatten (codeC C).2.1).length=C.g.p.toNat*szP C.g:=by unfold eraL;rw [turn_len];exact hall.1
  exact hC.upd (by omega) (by omega) ⟨(cutL_flat (by omega) hlen).2.1,λq hq=>⟨(cutL_flat (by omega) hlen).2.2 q hq,cutL_byt (turn_byt hall.2 _ _) q hq⟩,hb.ul,hb.ub,hb.la,by dsimp only;omega,by dsimp only;omega⟩
theorem CopyR.part {w w':World} {y:SlP TF.T} {l:List FD} (h:CopyR w w' y l):Sep NoB w w' [RdT LF y]:=
 (Sep.start NoB w).push (F:=λk=>w.heap.size<=k/\k<w'.heap.size) (.of h.ext) (LF.rd_mono (λk h1 h2=>⟨h1,h2⟩) h.rd) λk hk=>hk
theorem flat_rep {α β:Type} (n:Nat) (x:α) (f:α->List β):(List.replicate n x).flatMap f=(List.replicate n (f x)).flatten:=by
 induction n with
 | zero=>rfl
 | succ n ih=>rw [List.replicate_succ,List.flatMap_cons,ih,List.replicate_succ,List.flatten_cons]
theorem newC_img (g:Geo) (pl:List FD):imgC (newC g pl)=List.replicate (g.b.toNat*(g.p.toNat*szP g)) 255:=by
 unfold imgC newC blankB
 dsimp only
 rw [flat_rep,List.flatten_replicate_replicate,List.flatten_replicate_replicate]
theorem newC_us (g:Geo) (pl:List FD):usL (newC g pl)=List.replicate (g.b.toNat*g.p.toNat) 0:=by
 unfold usL newC blankB
 dsimp only
 rw [flat_rep,List.flatten_replicate_replicate]
theorem newC_la (g:Geo) (pl:List FD):laL (newC g pl)=List.replicate g.b.toNat (-1):=by unfold laL newC blankB;exact List.map_replicate
theorem newC_sc (g:Geo) (pl:List FD):scL (newC g pl)=List.replicate g.b.toNat 0:=by unfold scL newC blankB;exact List.map_replicate
theorem newC_er (g:Geo) (pl:List FD):erL (newC g pl)=List.replicate g.b.toNat 0:=by unfold erL newC blankB;exact List.map_replicate
abbrev newV (g:Geo) (P U A S E:SlV) (f:SlP TF.T):List Value:=[.int .i64 g.b,.int .i64 g.p,.int .i64 g.s,.int .i64 g.sp,.int .i64 g.wr,.int .i64 g.ro,.int .i64 (g.s+88),.slice P.a P.n P.c,.slice U.a U.n U.c,.slice A.a A.n A.c,.slice S.a S.n S.c,.slice E.a E.n E.c,.slice f.a f.n f.c,.bool false,.slice none 0 0]
abbrev nilS:SlV:=⟨none,0,0⟩
abbrev boxS (b n:Nat):SlV:=⟨some ⟨b,0,none⟩,n,n⟩
theorem rep_iv (n:Nat) (v:Int):(List.replicate n [Value.int .i64 v]).flatten=iv (List.replicate n v):=by rw [rep_flat,iv,List.map_replicate]
theorem rep_bv (n:Nat) (v:Int):(List.replicate n [Value.int .u8 v]).flatten=bv8 (List.replicate n v):=by rw [rep_flat,bv8,List.map_replicate]
theorem New13_c {w:World} {g:Geo} {x:SlP TF.T} {G:Nat->Prop} (hx:LF.rd w G x) (hm:mFit (fds x)) :
  CallV Tryz.prog 78 #[g.val,.slice x.a x.n x.c] w [.one .ptr,.one (.int .i64)] λr w'=>Ext w w'/\(¬ (Right g/\FRight (fds x))->r.1=none/\r.2.1=(2:Int)) /\
   (Right g/\FRight (fds x)->r.2.1=(0:Int)/\∃ (p:Nat) (y:Lay),r.1=some (⟨p,0,none⟩:Addr)/\fds y.F=fds x/\Sep NoB w w' (ChipP p y (newC g (fds x)) [])):=by
 apply nand_New.vc
 unfold nand_New.P
 have no:∀ {w':World},¬ (Right g/\FRight (fds x))->Ext w w'->(Ext w w'/\(¬ (Right g/\FRight (fds x))->(none:Option Addr)=none/\(2:Int)=(2:Int)) /\
   (Right g/\FRight (fds x)->(2:Int)=(0:Int)/\∃ (p:Nat) (y:Lay),(none:Option Addr)=some (⟨p,0,none⟩:Addr)/\fds y.F=fds x/\Sep NoB w w' (ChipP p y (newC g (fds x)) []))):=λh e=>⟨e,λ_=>⟨rfl,rfl⟩,λk=>absurd k h⟩
 have S:=Sep.start NoB w
 refine S.newB λb1 w1 S f1 _=>?_
 (repeat ((first | refine S.newB λ_ _ S f _=>?_ | refine S.la0 rfl ?_ | refine S.la1 rfl ?_ | refine S.la2 rfl ?_ | refine S.la3 rfl ?_ | refine S.la4 rfl ?_ | refine S.la5 rfl ?_ | refine S.ld0 rfl rfl ?_ | refine S.ld1 rfl rfl ?_ | refine S.ld2 rfl rfl ?_ | refine S.ld3 rfl rfl ?_ | refine S.ld4 rfl rfl ?_ | refine S.ld5 rfl rfl ?_ | refine S.st0 (by rfl) λ_ S f=>?_ | refine S.st1 (by rfl) λ_ S f=>?_ | refine S.st2 (by rfl) λ_ S f=>?_ | refine S.st3 (by rfl) λ_ S f=>?_ | refine S.st4 (by rfl) λ_ S f=>?_ | refine S.st5 (by rfl) λ_ S f=>?_ | refine S.su0 (by rfl) λ_ S f=>?_ | refine S.su1 (by rfl) λ_ S f=>?_ | refine S.su2 (by rfl) λ_ S f=>?_ | refine S.su3 (by rfl) λ_ S f=>?_ | refine S.su4 (by rfl) λ_ S f=>?_ | refine S.su5 (by rfl) λ_ S f=>?_ | refine ⟨by decide,?_⟩);try dsimp only [List.set_cons_zero,List.set_cons_succ,cond_true,cond_false,Bool.not_true,Bool.not_false]))
 refine (Check_c (g:=g)).mono ?_
 rintro ⟨(r:Int),⟨⟩⟩ w2 ⟨h2,e2⟩
 dsimp only at h2 ⊢
 subst h2
 have S:=S.stepE e2
 by_cases hR:Right g
 case neg=>exact cond_t (by unfold chkE;rw [if_neg hR];rfl) (no (λh=>hR h.1) S.ext)
 refine cond_f (by unfold chkE;rw [if_pos hR];rfl) ?_
 refine (FCheck_c (Ty.rd_ext S.ext _ hx)).mono ?_
 rintro ⟨(r:Int),⟨⟩⟩ w3 ⟨h3,e3⟩
 dsimp only at h3 ⊢
 subst h3
 have S:=S.stepE e3
 by_cases hF:FRight (fds x)
 case neg=>exact cond_t (by rw [if_neg hF];rfl) (no (λh=>hF h.2) S.ext)
 refine cond_f (by rw [if_pos hF];rfl) ?_
 have hxn:x.n<=1000:=by have:=hF.2;rw [LF_len hx] at this;omega
 refine S.reg λD hD hkeep S T=>?_
 refine ⟨hD _ S.bl0,S.la0 rfl ⟨hD _ S.bl0,S.la0 rfl ?_⟩⟩
 refine (PageSize_c (g:=g)).mono ?_
 rintro ⟨(sz:Int),⟨⟩⟩ w4 ⟨h4,e4⟩
 dsimp only at h4 ⊢
 rw [if_pos hR] at h4
 subst h4
 have T:=T.stepE e4
 refine ⟨hkeep _ T.fr,?_⟩
 refine (Copy_c (Ty.rd_ext (S.ext.trans T.ext) _ hx) hm hxn).mono ?_
 rintro ⟨_,⟨⟩⟩ w5 ⟨yf,hyf,hcp⟩
 dsimp only at hyf
 subst hyf
 have T:=T.frame0 hcp.part
 dsimp only [List.cons_append,List.nil_append] at T
 refine ⟨hkeep _ T.fr,T.newB λb15 w6 T f6 _=>⟨hkeep _ T.fr,?_⟩⟩
 have S:=S.frame0 T
 dsimp only [List.cons_append,List.nil_append] at S
 clear T hkeep hD
 have hK:=hR.1
 unfold Kept at hK
 have hnat:∃ B P Z:Nat,g.b=(B:Int)/\g.p=(P:Int)/\g.s+88=(Z:Int)/\g.b.toNat=B/\g.p.toNat=P/\szP g=Z/\B<=64/\P<=32/\Z<=4184:=⟨g.b.toNat,g.p.toNat,(g.s+88).toNat,by omega,by omega,by omega,rfl,rfl,rfl,by omega,by omega,by omega⟩
 obtain ⟨B,P,Z,hB,hP,hZ,hB',hP',hZ',bB,bP,bZ⟩:=hnat
 have m1:B*P<=64*32:=Nat.mul_le_mul bB bP
 have m2:B*P*Z<=64*32*4184:=Nat.mul_le_mul m1 bZ
 have v1:g.b*g.p=((B*P:Nat):Int):=by rw [hB,hP];push_cast;rfl
 have v2:(g.b*g.p)*(g.s+88)=((B*P*Z:Nat):Int):=by rw [v1,hZ];push_cast;rfl
 have hne:=S.ne 0 2 (by decide) rfl rfl
 refine S.regX (λk=>k=b15) λD hD hkeep S T=>?_
 refine ⟨hD _ S.bl2 (λh=>hne h.symm),S.ld2 (j:=0) rfl rfl ⟨hD _ S.bl2 (λh=>hne h.symm),S.ld2 (j:=1) rfl rfl ⟨by rw [v1];exact Rng.i64 (by omega) (by omega),S.ld0 (j:=6) rfl rfl ⟨hkeep _ (Fr.refl _ _),by rw [v2];exact Rng.i64 (by omega) (by omega),⟨by rw [v2];omega,Int.le_refl _,by rw [v2];omega,by rw [v2];omega⟩,?_⟩⟩⟩⟩
 rw [v2,Int.toNat_natCast]
 refine S.newB λb21 w7 S f7 _=>⟨hkeep _ f7.any,?_⟩
 refine S.su1 (j:=7) (by rfl) λw8 S f8=>⟨hkeep _ (f7.any.trans f8),?_⟩
 clear hkeep hD T
 rw [rep_bv] at S
 have S:=S.asOwn (sz:=1) (n:=B*P*Z) (by rw [List.length_map,List.length_replicate,Nat.mul_one]) (by omega) (oneAll.ints _ _)
 refine S.ld1 (j:=7) rfl rfl ?_
 dsimp only
 refine Loop1 (λ(v:Int×Unit) w'=>∃ (i:Nat) (xs:List Int),v.1=(i:Int)/\i<=B*P*Z/\xs.length=B*P*Z/\(∀ j,j<i->xs[j]? = some 255)/\Sep NoB w w' [OwnA 5 1 (some ⟨b21,0,none⟩) (B*P*Z) (B*P*Z) (bv8 xs),BoxA b15 161 (newV g (boxS b21 (B*P*Z)) nilS nilS nilS nilS yf),RdT LF yf,BoxA b1 23 g.vs])
  (λ(v:Int×Unit) _=>(((B*P*Z:Nat):Int)-v.1).toNat) ⟨0,_,rfl,by omega,by rw [List.length_replicate],λj hj=>by omega,S⟩ ?_
 rintro ⟨(z:Int),⟨⟩⟩ w9 ⟨i,xs,hz,hi,hl,hxs,S⟩
 dsimp only at hz ⊢
 subst hz
 refine cond_d (λhlt=>?_) (λhge=>?_)
 ·refine S.ld1 (j:=7) rfl rfl ?_
  refine S.put (i:=0) rfl (by omega) hlt (v:=.int .u8 255) rfl λw10 S f10=>?_
  refine ⟨Rng.i64 (by omega) (by omega),⟨i+1,xs.set i 255,by push_cast;rfl,by omega,by rw [List.length_set];exact hl,λj hj=>?_,?_⟩,by omega⟩
  ·rw [List.getElem?_set]
   split
   ·rw [if_pos (by omega)]
   ·exact hxs j (by omega)
  ·rw [Int.toNat_natCast] at S
   rw [bv8,List.map_set]
   exact S
 have hxe:xs=List.replicate (B*P*Z) 255:=List.ext_getElem? λj=>by
  by_cases hj:j<B*P*Z
  ·rw [hxs j (by omega),List.getElem?_replicate,if_pos hj]
  ·rw [List.getElem?_eq_none (by omega),List.getElem?_eq_none (by rw [List.length_replicate];omega)]
 subst hxe
 clear hxs hl hi hge
 refine S.ld3 (j:=0) rfl rfl (S.ld3 (j:=1) rfl rfl ⟨by rw [v1];exact Rng.i64 (by omega) (by omega),⟨by rw [v1];omega,Int.le_refl _,by rw [v1];omega,by rw [v1];omega⟩,?_⟩)
 rw [v1,Int.toNat_natCast]
 refine S.newB λb33 w11 S f11 _=>?_
 refine S.su2 (j:=8) (by rfl) λw12 S f12=>?_
 rw [rep_iv] at S
 have S:=S.asOwn (sz:=1) (n:=B*P) (by rw [List.length_map,List.length_replicate,Nat.mul_one]) (by omega) (oneAll.ints _ _)
 refine ⟨λ(_:Unit) w'=>∃ b39 b41,Sep NoB w w' [BoxA b15 161 (newV g (boxS b21 (B*P*Z)) (boxS b33 (B*P)) nilS (boxS b39 B) (boxS b41 B) yf),OwnA 5 1 (some ⟨b21,0,none⟩) (B*P*Z) (B*P*Z) (bv8 (List.replicate (B*P*Z) 255)),OwnA 3 1 (some ⟨b33,0,none⟩) (B*P) (B*P) (iv (List.replicate (B*P) 0)),
  OwnA 3 1 (some ⟨b39,0,none⟩) B B (iv (List.replicate B 0)),OwnA 3 1 (some ⟨b41,0,none⟩) B B (iv (List.replicate B 0)),RdT LF yf,BoxA b1 23 g.vs],?_,?_⟩
 case refine_2=>
  have hne:=S.ne 2 4 (by decide) rfl rfl
  refine S.regX (λk=>k=b15) λD hD hkeep S T=>?_
  have hb1:D b1:=hD _ S.bl4 (λh=>hne h.symm)
  refine ⟨hb1,S.ld4 (j:=0) rfl rfl ⟨hb1,S.ld4 (j:=0) rfl rfl ?_⟩⟩
  rw [hB,Int.toNat_natCast]
  have hbd:(0:Int)<=(B:Int)/\(B:Int)<=(B:Int)/\(B:Int)<=9223372036854775807/\8*(B:Int)<=140737488355328:=⟨by omega,by omega,by omega,by omega⟩
  have fin:∀ {w':World} {ba bb:Nat},Sep NoB w w' [BoxA ba 3 (List.replicate B [Value.int .i64 0]).flatten,BoxA bb 3 (List.replicate B [Value.int .i64 0]).flatten,OwnA 3 1 (some ⟨b33,0,none⟩) (B*P) (B*P) (iv (List.replicate (B*P) 0)),OwnA 5 1 (some ⟨b21,0,none⟩) (B*P*Z) (B*P*Z) (bv8 (List.replicate (B*P*Z) 255)),
    BoxA b15 161 (newV g (boxS b21 (B*P*Z)) (boxS b33 (B*P)) nilS (boxS ba B) (boxS bb B) yf),RdT LF yf,BoxA b1 23 g.vs] ->
    ∃ b39 b41,Sep NoB w w' [BoxA b15 161 (newV g (boxS b21 (B*P*Z)) (boxS b33 (B*P)) nilS (boxS b39 B) (boxS b41 B) yf),OwnA 5 1 (some ⟨b21,0,none⟩) (B*P*Z) (B*P*Z) (bv8 (List.replicate (B*P*Z) 255)),OwnA 3 1 (some ⟨b33,0,none⟩) (B*P) (B*P) (iv (List.replicate (B*P) 0)),
     OwnA 3 1 (some ⟨b39,0,none⟩) B B (iv (List.replicate B 0)),OwnA 3 1 (some ⟨b41,0,none⟩) B B (iv (List.replicate B 0)),RdT LF yf,BoxA b1 23 g.vs]:=λ{w' ba bb} S=>by
   rw [rep_iv] at S
   have S:=S.asOwn (sz:=1) (n:=B) (by rw [List.length_map,List.length_replicate,Nat.mul_one]) (by omega) (oneAll.ints _ _)
   have S:=(S.sel [1,0,0,0,0,0,0] rfl).asOwn (sz:=1) (n:=B) (by rw [List.length_map,List.length_replicate,Nat.mul_one]) (by omega) (oneAll.ints _ _)
   exact ⟨ba,bb,S.sel [4,3,2,1,0,0,0] rfl⟩
  refine ⟨⟨hbd,S.newB λb55 w14 S f14 _=>⟨hkeep _ f14.any,⟨hbd,S.newB λb57 w15 S f15 _=>?_⟩,?_⟩⟩,hbd,S.newB λb65 w14 S f14 _=>⟨hkeep _ f14.any,hbd,S.newB λb67 w15 S f15 _=>?_⟩⟩
  ·have h15:=(f14.trans f15).any (E:=λk=>k=b15)
   refine ⟨hkeep _ h15,S.su4 (j:=10) (by rfl) λw16 S f16=>⟨hkeep _ (h15.trans f16),S.su4 (j:=11) (by rfl) λw17 S f17=>⟨hkeep _ ((h15.trans f16).trans f17),fin (ba:=b55) (bb:=b57) (S.sel [1,0,0,0,0,0,0] rfl)⟩⟩⟩
  ·have h14:=f14.any (E:=λk=>k=b15)
   refine S.su3 (j:=10) (by rfl) λw16 S f16=>⟨hkeep _ (h14.trans f16),hbd,S.newB λb62 w17 S f17 _=>?_⟩
   have h17:=(h14.trans f16).trans f17.any
   exact ⟨hkeep _ h17,S.su4 (j:=11) (by rfl) λw18 S f18=>⟨hkeep _ (h17.trans f18),fin (ba:=b55) (bb:=b62) (S.sel [1,0,0,0,0,0,0] rfl)⟩⟩
  ·have h15:=(f14.trans f15).any (E:=λk=>k=b15)
   refine ⟨hkeep _ h15,S.su4 (j:=10) (by rfl) λw16 S f16=>⟨hkeep _ (h15.trans f16),S.su4 (j:=11) (by rfl) λw17 S f17=>⟨hkeep _ ((h15.trans f16).trans f17),fin (ba:=b67) (bb:=b65) (S.sel [0,0,0,0,0,0,0] rfl)⟩⟩⟩
 rintro ⟨⟩ w13 ⟨b39,b41,S⟩
 refine S.ld6 (j:=0) rfl rfl ?_
 rw [hB]
 have S:=S.nilOwn 3 1
 refine Loop1 (λ(v:Int×Unit) w'=>∃ (i:Nat) (a:Option Addr) (c:Nat),v.1=(i:Int)/\i<=B/\Sep NoB w w' [OwnA 3 1 a i c (iv (List.replicate i (-1))),BoxA b15 161 (newV g (boxS b21 (B*P*Z)) (boxS b33 (B*P)) ⟨a,i,c⟩ (boxS b39 B) (boxS b41 B) yf),OwnA 5 1 (some ⟨b21,0,none⟩) (B*P*Z) (B*P*Z) (bv8 (List.replicate (B*P*Z) 255)),
   OwnA 3 1 (some ⟨b33,0,none⟩) (B*P) (B*P) (iv (List.replicate (B*P) 0)),OwnA 3 1 (some ⟨b39,0,none⟩) B B (iv (List.replicate B 0)),OwnA 3 1 (some ⟨b41,0,none⟩) B B (iv (List.replicate B 0)),RdT LF yf,BoxA b1 23 g.vs])
  (λ(v:Int×Unit) _=>((B:Int)-v.1).toNat) ⟨0,none,0,rfl,by omega,S⟩ ?_
 rintro ⟨(z:Int),⟨⟩⟩ w14 ⟨i,a,c,hz,hi,S⟩
 dsimp only at hz ⊢
 subst hz
 refine cond_d (λhlt=>?_) (λhge=>?_)
 ·refine S.ld1 (j:=9) rfl rfl ?_
  refine S.newB λb44 w15 S f15 _=>?_
  dsimp only
  refine AppS.of (news:=[.int .i64 (-1)]) rfl (.inr ⟨_,rfl,S.cells 0 rfl⟩) ?_
  refine S.ap1 (by rfl) (λu hu=>by rw [List.mem_singleton.1 hu];rfl) (by omega) (by omega) λa46 c48 w16 S f16=>?_
  refine S.su2 (j:=9) (by rfl) λw17 S f17=>?_
  refine ⟨Rng.i64 (by omega) (by omega),⟨i+1,a46,c48,by push_cast;rfl,by omega,?_⟩,by omega⟩
  have e:iv (List.replicate (i+1) (-1))=iv (List.replicate i (-1))++[Value.int .i64 (-1)]:=by rw [List.replicate_succ',iv,List.map_append];rfl
  rw [e]
  exact S.tail
 have hiB:i=B:=by omega
 subst hiB
 refine ⟨S.ext,λh=>absurd ⟨hR,hF⟩ h,λ_=>⟨rfl,b15,⟨boxS b21 (i*P*Z),boxS b33 (i*P),⟨a,i,c⟩,boxS b39 i,boxS b41 i,yf,nilS⟩,rfl,hcp.dat,?_⟩⟩
 have S:=(S.nilOwn 164 5).nilL
 have S:=S.sel [3,3,3,2,2,2,2,1,0] rfl
 refine chip_mk (y:=⟨boxS b21 (i*P*Z),boxS b33 (i*P),⟨a,i,c⟩,boxS b39 i,boxS b41 i,yf,nilS⟩) (C:=newC g (fds x)) (L:=[]) (Rs:=[]) S ?_ ?_ ?_ ?_ ?_
 ·rw [newC_img,hB',hP',hZ',Nat.mul_assoc]
 ·rw [newC_us,hB',hP']
 ·rw [newC_la,hB']
 ·rw [newC_sc,hB']
 ·rw [newC_er,hB']
theorem Right_c {w:World} {g:Geo}:CallV Tryz.prog 75 #[g.val] w [.one .bool] λr w'=>r.1=decide (Right g)/\Ext w w':=by
 refine ref11_Right.vc _ _ _ _ _ _ _ _ ?_
 unfold ref11_Right.P
 refine newG λb1 w1 e1 hb=>?_
 have no:∀ {w':World},¬ Right g->Ext w w'->(false=decide (Right g)/\Ext w w'):=λhr he=>⟨(decide_eq_false hr).symm,he⟩
 refine hb.ld (i:=0) (h:=.int .i64) (x:=g.b) rfl ?_
 refine in11_c.mono ?_
 rintro ⟨(r1:Bool),⟨⟩⟩ w' ⟨h1,rfl⟩
 dsimp only at h1 ⊢
 subst h1
 refine cond_of (λhc=>no (λhr=>by unfold Right Kept at hr;simp at hc;omega) e1) (λc1=>?_)
 simp at c1
 refine hb.ld (i:=1) (h:=.int .i64) (x:=g.p) rfl ?_
 refine in11_c.mono ?_
 rintro ⟨(r1:Bool),⟨⟩⟩ w' ⟨h1,rfl⟩
 dsimp only at h1 ⊢
 subst h1
 refine cond_of (λhc=>no (λhr=>by unfold Right Kept at hr;simp at hc;omega) e1) (λc2=>?_)
 simp at c2
 refine hb.ld (i:=2) (h:=.int .i64) (x:=g.s) rfl ?_
 refine in11_c.mono ?_
 rintro ⟨(r1:Bool),⟨⟩⟩ w' ⟨h1,rfl⟩
 dsimp only at h1 ⊢
 subst h1
 refine cond_of (λhc=>no (λhr=>by unfold Right Kept at hr;simp at hc;omega) e1) (λc3=>?_)
 simp at c3
 refine hb.ld (i:=3) (h:=.int .i64) (x:=g.sp) rfl ?_
 refine in11_c.mono ?_
 rintro ⟨(r1:Bool),⟨⟩⟩ w' ⟨h1,rfl⟩
 dsimp only at h1 ⊢
 subst h1
 refine cond_of (λhc=>no (λhr=>by unfold Right Kept at hr;simp at hc;omega) e1) (λc4=>?_)
 simp at c4
 refine hb.ld (i:=4) (h:=.int .i64) (x:=g.wr) rfl ?_
 refine in11_c.mono ?_
 rintro ⟨(r1:Bool),⟨⟩⟩ w' ⟨h1,rfl⟩
 dsimp only at h1 ⊢
 subst h1
 refine cond_of (λhc=>no (λhr=>by unfold Right Kept at hr;simp at hc;omega) e1) (λc5=>?_)
 simp at c5
 refine hb.ld (i:=5) (h:=.int .i64) (x:=g.ro) rfl ?_
 refine in11_c.mono ?_
 rintro ⟨(r1:Bool),⟨⟩⟩ w' ⟨h1,rfl⟩
 dsimp only at h1 ⊢
 subst h1
 refine cond_of (λhc=>no (λhr=>by unfold Right Kept at hr;simp at hc;omega) e1) (λc6=>?_)
 simp at c6
 refine DrawV.old w' λD hD hkeep=>?_
 have hD1:=hD _ hb.lt
 have hd:=hb.ext (Ext.drew _)
 have e1':=e1.trans (Ext.drew w')
 refine ⟨hD1,hd.ld (i:=2) (h:=.int .i64) (x:=g.s) rfl ?_⟩
 have hm:Int.tmod g.s 16=g.s % 16:=Int.tmod_eq_emod_of_nonneg (by omega)
 rw [hm]
 refine ⟨by omega,cond_eq (λh16=>?_) (λh16=>no (λhr=>by unfold Right Kept at hr;omega) e1')⟩
 refine ⟨hD1,ldG hd ?_⟩
 refine ⟨hD1,hd.ld (i:=1) (h:=.int .i64) (x:=g.p) rfl ?_⟩
 refine (rChunks_c (g:=g) (by omega)).mono ?_
 rintro ⟨(r2:Int),⟨⟩⟩ w2 ⟨h2,e2⟩
 have E2:=(Ext.drew w').trans e2
 refine ⟨hkeep _ E2,?_⟩
 dsimp only at h2 ⊢
 subst h2
 have F2:=e1.trans E2
 refine cond_d (λhle=>?_) (λhle=>no (λhr=>by unfold Right at hr;omega) F2)
 refine ⟨hD1,hd.ld (i:=0) (h:=.int .i64) (x:=g.b) rfl ?_⟩
 refine ⟨Rng.i64 (by omega) (by omega),?_⟩
 refine ⟨hD1,hd.ld (i:=3) (h:=.int .i64) (x:=g.sp) rfl ?_⟩
 refine ⟨Rng.i64 (by omega) (by omega),?_,F2⟩
 apply decide_eq_decide.2
 unfold Right Kept
 omega
abbrev TGeo:Ty:=.cons (.int .i64) (.cons (.int .i64) (.cons (.int .i64) (.cons (.int .i64) (.cons (.int .i64) (.cons (.int .i64) .nil)))))
abbrev TI:Ty:=.sl (.int .i64)
abbrev TBd:Ty:=.cons TBB (.cons TI (.cons (.int .i64) (.cons .bool (.cons (.int .i64) .nil))))
theorem own_rdF {w:World} {F G:Nat->Prop} {t:Ty} {e:TypeId} {a:Option Addr} {n c:Nat} {L:List t.T} (ho:(OwnA e t.n a n c (L.flatMap t.vs)).p w F) (hp:0<t.n) (hF:∀ k,F k->G k) (h:∀ y∈L,t.rd w G y):(Ty.sl t).rd w G ⟨a,n,c,L⟩:=by
 have hm:=maxLen_eq
 obtain ⟨ho,hq⟩:=ho
 refine ⟨?_,ho.cap,by have:=ho.lim;show n<=maxLen;omega,?_,h⟩
 ·have:=ho.len
  rw [flatF_len (f:=t.vs) (m:=t.n) t.vs_length] at this
  exact Nat.eq_of_mul_eq_mul_right hp this
 ·rcases ho.rd with h | ⟨p,h1,h2⟩
  ·exact .inl h
  ·exact .inr ⟨p,h1,h2,λ_=>hF _ (hq p h1)⟩
section
variable {H:Nat->Prop} {w:World} {B:SlP TBd.T} {f:SlP TF.T} {C:CD}
theorem own_rdB {w:World} {F G:Nat->Prop} {e:TypeId} {a:Option Addr} {n c:Nat} {xs:List Int} (ho:(OwnA e 1 a n c (xs.map (Value.int .u8))).p w F) (hF:∀ k,F k->G k) (bx:Byt xs):TB.rd w G ⟨a,n,c,xs⟩:=by
 rw [<-flat_ints] at ho
 exact own_rdF (t:=.int .u8) ho (by decide) hF λy hy=>rngU8 (bx y hy)
end
end Go.Proofs.YtbaojfchlhlaeaaGreat.Vc
namespace Go.Proofs.YtbaojfchlhlaeaaGreat.Vc
open Go Go.Eng
def ledger_New.A:Ann:=.two .no (.two .no (.two .no (.two (.two .no (.one (.loop [14,15,16,17,18,19,20,21,22,23,24,25,26] [(14,.one (.int .i64))] .no))) .no)))
def ledger_New.P (p0:Int) (w:World) (K:(Option Addr)×Int×Unit->World->Prop):Prop:=
 cond (decide (p0<0))
 (K (none,(2:Int),()) w)
 (cond (decide (p0>64))
 (K (none,(2:Int),()) w)
 (NewV #[.slice none 0 0] 200 w λb1 w2=>
 LoopV [.one (.int .i64)] ((0:Int),()) w2 λ(z3:Int×Unit) w4 (K5:Int×Unit->World->Prop)=>
 cond (decide (z3.1<p0))
 (LoadS w4 ⟨b1,0,none⟩ .sl λ(x6:SlV)=>
 NewV #[.int .i64 (-1),.int .i64 0,.int .i64 0,.int .i64 0,.bool false,.bool false,.bool false,.bool false,.bool false] 103 w4 λb7 w8=>
 AppS w8 (some ⟨b7,0,none⟩) 1 9 λns13=>
 AppV w8 103 9 40 x6.a x6.n x6.c ns13 1 λa9 n10 c11 w12=>
 StoreV w12 ⟨b1,0,none⟩ [.slice a9 n10 c11] λw14=>
 Rng .i64 (z3.1+1) /\
 K5 (z3.1+1,()) w14)
 (K ((some ⟨b1,0,none⟩),(0:Int),()) w4)))
theorem ledger_New.vc (p0:Int) (w:World) (K:(Option Addr)×Int×Unit->World->Prop) (h:ledger_New.P p0 w K):CallV Tryz.prog 79 #[.int .i64 p0] w [.one .ptr,.one (.int .i64)] K:=by
 refine vcFun.of (A:=ledger_New.A) (wr:=false) okf_ok follows h Tryz.func79 ?_
 kernel_rfl
def ledger_Ledger_has.A:Ann:=.no
def ledger_Ledger_has.P (p0:Addr) (p1:Int) (w:World) (K:Bool×Unit->World->Prop):Prop:=
 cond (decide (p1≥0))
 (CallV Tryz.prog 52 #[.pointer (some p0)] w [.one (.int .i64)] λ(r1:Int×Unit) w2=>
 K (decide (p1<r1.1),()) w2)
 (K (false,()) w)
theorem ledger_Ledger_has.vc (p0:Addr) (p1:Int) (w:World) (K:Bool×Unit->World->Prop) (h:ledger_Ledger_has.P p0 p1 w K):CallV Tryz.prog 129 #[.pointer (some p0),.int .i64 p1] w [.one .bool] K:=by
 refine vcFun.of (A:=ledger_Ledger_has.A) (wr:=false) okf_ok follows h Tryz.func129 ?_
 kernel_rfl
def ledger_Ledger_Len.A:Ann:=.no
def ledger_Ledger_Len.P (p0:Addr) (w:World) (K:Int×Unit->World->Prop):Prop:=
 LoadS w p0 .sl λ(x1:SlV)=>
 K (((x1.n:Nat):Int),()) w
theorem ledger_Ledger_Len.vc (p0:Addr) (w:World) (K:Int×Unit->World->Prop) (h:ledger_Ledger_Len.P p0 w K):CallV Tryz.prog 52 #[.pointer (some p0)] w [.one (.int .i64)] K:=by
 refine vcFun.of (A:=ledger_Ledger_Len.A) (wr:=false) okf_ok follows h Tryz.func52 ?_
 kernel_rfl
def ledger_Ledger_change.A:Ann:=.no
def ledger_Ledger_change.P (p0:Addr) (p1:Int) (g2:FuncId) (cap2:Array Value) (w:World) (K:Int×Unit->World->Prop):Prop:=
 CallV Tryz.prog 129 #[.pointer (some p0),.int .i64 p1] w [.one .bool] λ(r1:Bool×Unit) w2=>
 cond (!r1.1)
 (K ((2:Int),()) w2)
 (LoadS w2 p0 .sl λ(x3:SlV)=>
 (0<=p1/\p1<((x3.n:Nat):Int))/\∃ q4:Addr,x3.a=some q4 /\
 cond (okf g2)
 (CallV Tryz.prog g2 ([]++((([.pointer (some (q4.add (p1.toNat*9)))]:List Value))++(cap2).toList)).toArray w2 [] λ(r5:Unit) w6=>
 K ((0:Int),()) w6)
 False)
theorem ledger_Ledger_change.vc (p0:Addr) (p1:Int) (g2:FuncId) (cap2:Array Value) (w:World) (K:Int×Unit->World->Prop) (h:ledger_Ledger_change.P p0 p1 g2 cap2 w K):CallV Tryz.prog 154 #[.pointer (some p0),.int .i64 p1,.func (.func g2) #[] cap2] w [.one (.int .i64)] K:=by
 refine vcFun.of (A:=ledger_Ledger_change.A) (wr:=false) okf_ok follows h Tryz.func154 ?_
 kernel_rfl
def ledger_Ledger_At.A:Ann:=.no
def ledger_Ledger_At.P (p0:Addr) (p1:Int) (w:World) (K:(Int×Int×Int×Int×Bool×Bool×Bool×Bool×Bool×Unit)×Unit->World->Prop):Prop:=
 NewV #[.int .i64 0,.int .i64 0,.int .i64 0,.int .i64 0,.bool false,.bool false,.bool false,.bool false,.bool false] 103 w λb1 w2=>
 CallV Tryz.prog 129 #[.pointer (some p0),.int .i64 p1] w2 [.one .bool] λ(r3:Bool×Unit) w4=>
 cond (!r3.1)
 (StoreV w4 ⟨b1,0,none⟩ [.int .i64 0,.int .i64 0,.int .i64 0,.int .i64 0,.bool false,.bool false,.bool false,.bool false,.bool false] λw5=>
 LoadA w5 ⟨b1,0,none⟩ [.int .i64,.int .i64,.int .i64,.int .i64,.bool,.bool,.bool,.bool,.bool] λ(x6:Int×Int×Int×Int×Bool×Bool×Bool×Bool×Bool×Unit)=>
 K ((x6.1,x6.2.1,x6.2.2.1,x6.2.2.2.1,x6.2.2.2.2.1,x6.2.2.2.2.2.1,x6.2.2.2.2.2.2.1,x6.2.2.2.2.2.2.2.1,x6.2.2.2.2.2.2.2.2.1,()),()) w5)
 (LoadS w4 p0 .sl λ(x7:SlV)=>
 (0<=p1/\p1<((x7.n:Nat):Int))/\∃ q8:Addr,x7.a=some q8 /\
 LoadA w4 (q8.add (p1.toNat*9)) [.int .i64,.int .i64,.int .i64,.int .i64,.bool,.bool,.bool,.bool,.bool] λ(x9:Int×Int×Int×Int×Bool×Bool×Bool×Bool×Bool×Unit)=>
 StoreV w4 ⟨b1,0,none⟩ [.int .i64 x9.1,.int .i64 x9.2.1,.int .i64 x9.2.2.1,.int .i64 x9.2.2.2.1,.bool x9.2.2.2.2.1,.bool x9.2.2.2.2.2.1,.bool x9.2.2.2.2.2.2.1,.bool x9.2.2.2.2.2.2.2.1,.bool x9.2.2.2.2.2.2.2.2.1] λw10=>
 LoadA w10 ⟨b1,0,none⟩ [.int .i64,.int .i64,.int .i64,.int .i64,.bool,.bool,.bool,.bool,.bool] λ(x11:Int×Int×Int×Int×Bool×Bool×Bool×Bool×Bool×Unit)=>
 K ((x11.1,x11.2.1,x11.2.2.1,x11.2.2.2.1,x11.2.2.2.2.1,x11.2.2.2.2.2.1,x11.2.2.2.2.2.2.1,x11.2.2.2.2.2.2.2.1,x11.2.2.2.2.2.2.2.2.1,()),()) w10)
theorem ledger_Ledger_At.vc (p0:Addr) (p1:Int) (w:World) (K:(Int×Int×Int×Int×Bool×Bool×Bool×Bool×Bool×Unit)×Unit->World->Prop) (h:ledger_Ledger_At.P p0 p1 w K):CallV Tryz.prog 54 #[.pointer (some p0),.int .i64 p1] w [.agg [.int .i64,.int .i64,.int .i64,.int .i64,.bool,.bool,.bool,.bool,.bool]] K:=by
 refine vcFun.of (A:=ledger_Ledger_At.A) (wr:=false) okf_ok follows h Tryz.func54 ?_
 kernel_rfl
def ledger_Ledger_Hold.A:Ann:=.no
def ledger_Ledger_Hold.P (p0:Addr) (p1 p2:Int) (w:World) (K:Int×Unit->World->Prop):Prop:=
 NewV #[.int .i64 p2] 3 w λb1 w2=>
 LoadS w2 ⟨b1,0,none⟩ (.int .i64) λ(x3:Int)=>
 cond (decide (x3<0))
 (K ((2:Int),()) w2)
 (LoadS w2 ⟨b1,0,none⟩ (.int .i64) λ(x4:Int)=>
 cond (decide (x4≥4))
 (K ((2:Int),()) w2)
 (CallV Tryz.prog 154 #[.pointer (some p0),.int .i64 p1,.func (.func 290) #[] #[.pointer (some ⟨b1,0,none⟩)]] w2 [.one (.int .i64)] λ(r5:Int×Unit) w6=>
 K (r5.1,()) w6))
theorem ledger_Ledger_Hold.vc (p0:Addr) (p1 p2:Int) (w:World) (K:Int×Unit->World->Prop) (h:ledger_Ledger_Hold.P p0 p1 p2 w K):CallV Tryz.prog 282 #[.pointer (some p0),.int .i64 p1,.int .i64 p2] w [.one (.int .i64)] K:=by
 refine vcFun.of (A:=ledger_Ledger_Hold.A) (wr:=false) okf_ok follows h Tryz.func282 ?_
 kernel_rfl
def ledger_Ledger_Hold_1.A:Ann:=.no
def ledger_Ledger_Hold_1.P (p0 cq0:Addr) (w:World) (K:Unit->World->Prop):Prop:=
 LoadS w cq0 (.int .i64) λ(x1:Int)=>
 StoreV w p0 [.int .i64 x1] λw2=>
 StoreV w2 (p0.add 4) [.bool true] λw3=>
 StoreV w3 (p0.add 5) [.bool false] λw4=>
 StoreV w4 (p0.add 1) [.int .i64 0] λw5=>
 StoreV w5 (p0.add 2) [.int .i64 0] λw6=>
 K () w6
set_option maxRecDepth 65536 in
theorem ledger_Ledger_Hold_1.vc (p0 cq0:Addr) (w:World) (K:Unit->World->Prop) (h:ledger_Ledger_Hold_1.P p0 cq0 w K):CallV Tryz.prog 290 #[.pointer (some p0),.pointer (some cq0)] w [] K:=by
 refine vcFun.of (A:=ledger_Ledger_Hold_1.A) (wr:=false) okf_ok follows h Tryz.func290 ?_
 kernel_rfl
def ledger_Ledger_Release.A:Ann:=.no
def ledger_Ledger_Release.P (p0:Addr) (p1:Int) (w:World) (K:Int×Unit->World->Prop):Prop:=
 CallV Tryz.prog 154 #[.pointer (some p0),.int .i64 p1,.func (.func 161) #[] #[]] w [.one (.int .i64)] λ(r1:Int×Unit) w2=>
 K (r1.1,()) w2
theorem ledger_Ledger_Release.vc (p0:Addr) (p1:Int) (w:World) (K:Int×Unit->World->Prop) (h:ledger_Ledger_Release.P p0 p1 w K):CallV Tryz.prog 113 #[.pointer (some p0),.int .i64 p1] w [.one (.int .i64)] K:=by
 refine vcFun.of (A:=ledger_Ledger_Release.A) (wr:=false) okf_ok follows h Tryz.func113 ?_
 kernel_rfl
def ledger_Ledger_Release_1.A:Ann:=.no
def ledger_Ledger_Release_1.P (p0:Addr) (w:World) (K:Unit->World->Prop):Prop:=
 StoreV w (p0.add 4) [.bool false] λw1=>
 StoreV w1 (p0.add 2) [.int .i64 0] λw2=>
 K () w2
set_option maxRecDepth 65536 in
theorem ledger_Ledger_Release_1.vc (p0:Addr) (w:World) (K:Unit->World->Prop) (h:ledger_Ledger_Release_1.P p0 w K):CallV Tryz.prog 161 #[.pointer (some p0)] w [] K:=by
 refine vcFun.of (A:=ledger_Ledger_Release_1.A) (wr:=false) okf_ok follows h Tryz.func161 ?_
 kernel_rfl
def ledger_Ledger_Erased.A:Ann:=.no
def ledger_Ledger_Erased.P (p0:Addr) (p1:Int) (w:World) (K:Int×Unit->World->Prop):Prop:=
 CallV Tryz.prog 154 #[.pointer (some p0),.int .i64 p1,.func (.func 218) #[] #[]] w [.one (.int .i64)] λ(r1:Int×Unit) w2=>
 K (r1.1,()) w2
theorem ledger_Ledger_Erased.vc (p0:Addr) (p1:Int) (w:World) (K:Int×Unit->World->Prop) (h:ledger_Ledger_Erased.P p0 p1 w K):CallV Tryz.prog 181 #[.pointer (some p0),.int .i64 p1] w [.one (.int .i64)] K:=by
 refine vcFun.of (A:=ledger_Ledger_Erased.A) (wr:=false) okf_ok follows h Tryz.func181 ?_
 kernel_rfl
def ledger_Ledger_Erased_1.A:Ann:=.draw (.take 0 (.take 1 (.take 2 (.take 3 (.take 6 (.take 7 (.take 8 (.both 4 (.take 5 (.eff 9 (.take 10 (.take 11 (.eff 12 (.done)))))) 9 (.eff 4 (.take 5 (.take 10 (.take 11 (.eff 12 (.done))))))))))))))
def ledger_Ledger_Erased_1.P (p0:Addr) (w:World) (K:Unit->World->Prop):Prop:=
 DrawV λD1=>
 ((LoadS w.drew (p0.add 3) (.int .i64) λ(x2:Int)=>
 KeepOn D1 w.drew w.drew /\
 Rng .i64 (x2+1) /\
 LoadS w.drew (p0.add 6) .bool λ(x3:Bool)=>
 KeepOn D1 w.drew w.drew /\
 StoreV w.drew p0 [.int .i64 (-2),.int .i64 0,.int .i64 0,.int .i64 (x2+1),.bool false,.bool true,.bool x3,.bool false,.bool false] λw4=>
 KeepOn D1 w.drew w4 /\
 K () w4) /\
 (LoadS w.drew (p0.add 6) .bool λ(x5:Bool)=>
 KeepOn D1 w.drew w.drew /\
 LoadS w.drew (p0.add 3) (.int .i64) λ(x6:Int)=>
 KeepOn D1 w.drew w.drew /\
 Rng .i64 (x6+1) /\
 StoreV w.drew p0 [.int .i64 (-2),.int .i64 0,.int .i64 0,.int .i64 (x6+1),.bool false,.bool true,.bool x5,.bool false,.bool false] λw7=>
 KeepOn D1 w.drew w7 /\
 K () w7))
set_option maxRecDepth 65536 in
theorem ledger_Ledger_Erased_1.vc (p0:Addr) (w:World) (K:Unit->World->Prop) (h:ledger_Ledger_Erased_1.P p0 w K):CallV Tryz.prog 218 #[.pointer (some p0)] w [] K:=by
 refine vcFun.of (A:=ledger_Ledger_Erased_1.A) (wr:=false) okf_ok follows h Tryz.func218 ?_
 kernel_rfl
def ledger_Ledger_Failed.A:Ann:=.no
def ledger_Ledger_Failed.P (p0:Addr) (p1:Int) (w:World) (K:Int×Unit->World->Prop):Prop:=
 CallV Tryz.prog 154 #[.pointer (some p0),.int .i64 p1,.func (.func 219) #[] #[]] w [.one (.int .i64)] λ(r1:Int×Unit) w2=>
 K (r1.1,()) w2
theorem ledger_Ledger_Failed.vc (p0:Addr) (p1:Int) (w:World) (K:Int×Unit->World->Prop) (h:ledger_Ledger_Failed.P p0 p1 w K):CallV Tryz.prog 182 #[.pointer (some p0),.int .i64 p1] w [.one (.int .i64)] K:=by
 refine vcFun.of (A:=ledger_Ledger_Failed.A) (wr:=false) okf_ok follows h Tryz.func182 ?_
 kernel_rfl
def ledger_Ledger_Failed_1.A:Ann:=.no
def ledger_Ledger_Failed_1.P (p0:Addr) (w:World) (K:Unit->World->Prop):Prop:=
 StoreV w (p0.add 6) [.bool true] λw1=>
 K () w1
set_option maxRecDepth 65536 in
theorem ledger_Ledger_Failed_1.vc (p0:Addr) (w:World) (K:Unit->World->Prop) (h:ledger_Ledger_Failed_1.P p0 w K):CallV Tryz.prog 219 #[.pointer (some p0)] w [] K:=by
 refine vcFun.of (A:=ledger_Ledger_Failed_1.A) (wr:=false) okf_ok follows h Tryz.func219 ?_
 kernel_rfl
def ledger_Ledger_Scrubbed.A:Ann:=.no
def ledger_Ledger_Scrubbed.P (p0:Addr) (p1:Int) (p2:Bool) (w:World) (K:Int×Unit->World->Prop):Prop:=
 NewV #[.bool p2] 4 w λb1 w2=>
 CallV Tryz.prog 154 #[.pointer (some p0),.int .i64 p1,.func (.func 223) #[] #[.pointer (some ⟨b1,0,none⟩)]] w2 [.one (.int .i64)] λ(r3:Int×Unit) w4=>
 K (r3.1,()) w4
theorem ledger_Ledger_Scrubbed.vc (p0:Addr) (p1:Int) (p2:Bool) (w:World) (K:Int×Unit->World->Prop) (h:ledger_Ledger_Scrubbed.P p0 p1 p2 w K):CallV Tryz.prog 184 #[.pointer (some p0),.int .i64 p1,.bool p2] w [.one (.int .i64)] K:=by
 refine vcFun.of (A:=ledger_Ledger_Scrubbed.A) (wr:=false) okf_ok follows h Tryz.func184 ?_
 kernel_rfl
def ledger_Ledger_Scrubbed_1.A:Ann:=.draw (.take 0 (.take 1 (.take 2 (.take 3 (.take 4 (.take 5 (.take 6 (.take 7 (.take 8 (.take 9 (.eff 10 (.take 11 (.take 12 (.eff 13 (.take 14 (.take 15 (.eff 16 (.take 17 (.take 18 (.eff 19 (.take 20 (.take 21 (.eff 22 (.done))))))))))))))))))))))))
def ledger_Ledger_Scrubbed_1.P (p0 cq0:Addr) (w:World) (K:Unit->World->Prop):Prop:=
 DrawV λD1=>
 (D1 cq0.block/\LoadS w.drew cq0 .bool λ(x2:Bool)=>
 (D1 cq0.block/\LoadS w.drew cq0 .bool λ(x3:Bool)=>
 StoreV w.drew (p0.add 6) [.bool true] λw4=>
 KeepOn D1 w.drew w4 /\
 StoreV w4 (p0.add 5) [.bool false] λw5=>
 KeepOn D1 w.drew w5 /\
 StoreV w5 (p0.add 4) [.bool false] λw6=>
 KeepOn D1 w.drew w6 /\
 StoreV w6 (p0.add 7) [.bool x2] λw7=>
 KeepOn D1 w.drew w7 /\
 StoreV w7 (p0.add 8) [.bool (!x3)] λw8=>
 KeepOn D1 w.drew w8 /\
 K () w8))
set_option maxRecDepth 65536 in
theorem ledger_Ledger_Scrubbed_1.vc (p0 cq0:Addr) (w:World) (K:Unit->World->Prop) (h:ledger_Ledger_Scrubbed_1.P p0 cq0 w K):CallV Tryz.prog 223 #[.pointer (some p0),.pointer (some cq0)] w [] K:=by
 refine vcFun.of (A:=ledger_Ledger_Scrubbed_1.A) (wr:=false) okf_ok follows h Tryz.func223 ?_
 kernel_rfl
def ledger_Ledger_Use.A:Ann:=.no
def ledger_Ledger_Use.P (p0:Addr) (p1:Int) (w:World) (K:Int×Unit->World->Prop):Prop:=
 CallV Tryz.prog 154 #[.pointer (some p0),.int .i64 p1,.func (.func 202) #[] #[]] w [.one (.int .i64)] λ(r1:Int×Unit) w2=>
 K (r1.1,()) w2
theorem ledger_Ledger_Use.vc (p0:Addr) (p1:Int) (w:World) (K:Int×Unit->World->Prop) (h:ledger_Ledger_Use.P p0 p1 w K):CallV Tryz.prog 164 #[.pointer (some p0),.int .i64 p1] w [.one (.int .i64)] K:=by
 refine vcFun.of (A:=ledger_Ledger_Use.A) (wr:=false) okf_ok follows h Tryz.func164 ?_
 kernel_rfl
def ledger_Ledger_Use_1.A:Ann:=.no
def ledger_Ledger_Use_1.P (p0:Addr) (w:World) (K:Unit->World->Prop):Prop:=
 LoadS w (p0.add 1) (.int .i64) λ(x1:Int)=>
 Rng .i64 (x1+1) /\
 StoreV w (p0.add 1) [.int .i64 (x1+1)] λw2=>
 K () w2
set_option maxRecDepth 65536 in
theorem ledger_Ledger_Use_1.vc (p0:Addr) (w:World) (K:Unit->World->Prop) (h:ledger_Ledger_Use_1.P p0 w K):CallV Tryz.prog 202 #[.pointer (some p0)] w [] K:=by
 refine vcFun.of (A:=ledger_Ledger_Use_1.A) (wr:=false) okf_ok follows h Tryz.func202 ?_
 kernel_rfl
def ledger_Ledger_Count.A:Ann:=.no
def ledger_Ledger_Count.P (p0:Addr) (p1 p2:Int) (w:World) (K:Int×Unit->World->Prop):Prop:=
 NewV #[.int .i64 p2] 3 w λb1 w2=>
 CallV Tryz.prog 154 #[.pointer (some p0),.int .i64 p1,.func (.func 172) #[] #[.pointer (some ⟨b1,0,none⟩)]] w2 [.one (.int .i64)] λ(r3:Int×Unit) w4=>
 K (r3.1,()) w4
theorem ledger_Ledger_Count.vc (p0:Addr) (p1 p2:Int) (w:World) (K:Int×Unit->World->Prop) (h:ledger_Ledger_Count.P p0 p1 p2 w K):CallV Tryz.prog 121 #[.pointer (some p0),.int .i64 p1,.int .i64 p2] w [.one (.int .i64)] K:=by
 refine vcFun.of (A:=ledger_Ledger_Count.A) (wr:=false) okf_ok follows h Tryz.func121 ?_
 kernel_rfl
def ledger_Ledger_Count_1.A:Ann:=.two (.two (.draw (.take 0 (.take 1 (.take 2 (.take 3 (.take 4 (.take 5 (.take 6 (.done))))))))) .no) (.draw (.take 0 (.take 1 (.take 2 (.take 4 (.eff 3 (.take 5 (.take 6 (.take 7 (.eff 8 (.done)))))))))))
def ledger_Ledger_Count_1.P (p0 cq0:Addr) (w:World) (K:Unit->World->Prop):Prop:=
 DrawV λD1=>
 (D1 cq0.block/\LoadS w.drew cq0 (.int .i64) λ(x2:Int)=>
 (D1 (p0.add 2).block/\LoadS w.drew (p0.add 2) (.int .i64) λ(x3:Int)=>
 Rng .i64 (0-x3) /\
 cond (decide (x2<(0-x3)))
 (LoadS w.drew (p0.add 2) (.int .i64) λ(x4:Int)=>
 Rng .i64 (0-x4) /\
 StoreV w.drew cq0 [.int .i64 (0-x4)] λw5=>
 DrawV λD6=>
 (D6 cq0.block/\LoadS w5.drew cq0 (.int .i64) λ(x7:Int)=>
 LoadS w5.drew (p0.add 2) (.int .i64) λ(x8:Int)=>
 KeepOn D6 w5.drew w5.drew /\
 Rng .i64 (x8+x7) /\
 StoreV w5.drew (p0.add 2) [.int .i64 (x8+x7)] λw9=>
 KeepOn D6 w5.drew w9 /\
 K () w9))
 (DrawV λD10=>
 (D10 cq0.block/\LoadS w.drew.drew cq0 (.int .i64) λ(x11:Int)=>
 LoadS w.drew.drew (p0.add 2) (.int .i64) λ(x12:Int)=>
 KeepOn D10 w.drew.drew w.drew.drew /\
 Rng .i64 (x12+x11) /\
 StoreV w.drew.drew (p0.add 2) [.int .i64 (x12+x11)] λw13=>
 KeepOn D10 w.drew.drew w13 /\
 K () w13))))
set_option maxRecDepth 65536 in
theorem ledger_Ledger_Count_1.vc (p0 cq0:Addr) (w:World) (K:Unit->World->Prop) (h:ledger_Ledger_Count_1.P p0 cq0 w K):CallV Tryz.prog 172 #[.pointer (some p0),.pointer (some cq0)] w [] K:=by
 refine vcFun.of (A:=ledger_Ledger_Count_1.A) (wr:=false) okf_ok follows h Tryz.func172 ?_
 kernel_rfl
def ledger_Ledger_best.A:Ann:=.two .no (.two .no (.two (.two .no (.one (.loop [7,8,11,12,13,14,15,16,17,18,19,20,21,22,23,24,25,26,27,28,29,30,31,32,33,34,35,36,37,38,39,40,41,42,43,44,45,46,47] [(7,.one (.int .i64)),(11,.one (.int .i64))] (.two .no (.two .no (.two (.one (.two .no (.two (.draw (.take 0 (.take 1 (.take 2 (.take 3 (.take 4 (.take 5 (.take 6 (.take 7 (.take 8 (.eff 9 (.take 10 (.take 11 (.take 12 (.take 13 (.take 14 (.take 15 (.take 16 (.take 17 (.take 18 (.take 19 (.take 20 (.take 21 (.take 22 (.take 23 (.take 24 (.take 25 (.take 26 (.take 27 (.take 28 (.eff 29 (.take 30 (.take 31 (.done)))))))))))))))))))))))))))))))))) .no))) .no)))))) .no))
def ledger_Ledger_best.P (p0:Addr) (g1:FuncId) (cap1:Array Value) (g2:FuncId) (cap2:Array Value) (w:World) (K:Int×Unit->World->Prop):Prop:=
 CallV Tryz.prog 52 #[.pointer (some p0)] w [.one (.int .i64)] λ(r1:Int×Unit) w2=>
 LoopV [.one (.int .i64),.one (.int .i64)] (((-1):Int),(0:Int),()) w2 λ(z3:Int×Int×Unit) w4 (K5:Int×Int×Unit->World->Prop)=>
 cond (decide (z3.2.1<r1.1))
 (DrawV λD6=>
 (D6 p0.block/\LoadS w4.drew p0 .sl λ(x7:SlV)=>
 (0<=z3.2.1/\z3.2.1<((x7.n:Nat):Int))/\∃ q8:Addr,x7.a=some q8 /\
 (D6 (q8.add (z3.2.1.toNat*9)).block/\LoadA w4.drew (q8.add (z3.2.1.toNat*9)) [.int .i64,.int .i64,.int .i64,.int .i64,.bool,.bool,.bool,.bool,.bool] λ(x9:Int×Int×Int×Int×Bool×Bool×Bool×Bool×Bool×Unit)=>
 cond (okf g1)
 (CallV Tryz.prog g1 ([]++((([.int .i64 z3.2.1,.agg #[.int .i64 x9.1,.int .i64 x9.2.1,.int .i64 x9.2.2.1,.int .i64 x9.2.2.2.1,.bool x9.2.2.2.2.1,.bool x9.2.2.2.2.2.1,.bool x9.2.2.2.2.2.2.1,.bool x9.2.2.2.2.2.2.2.1,.bool x9.2.2.2.2.2.2.2.2.1]]:List Value))++(cap1).toList)).toArray w4.drew [.one .bool] λ(r10:Bool×Unit) w11=>
 KeepOn D6 w4.drew w11 /\
 cond r10.1
 (cond (decide (z3.1<0))
 (Rng .i64 (z3.2.1+1) /\
 K5 (z3.2.1,z3.2.1+1,()) w11)
 ((D6 p0.block/\LoadS w4.drew p0 .sl λ(x12:SlV)=>
 (0<=z3.2.1/\z3.2.1<((x12.n:Nat):Int))/\∃ q13:Addr,x12.a=some q13 /\
 (D6 (q13.add (z3.2.1.toNat*9)).block/\LoadA w4.drew (q13.add (z3.2.1.toNat*9)) [.int .i64,.int .i64,.int .i64,.int .i64,.bool,.bool,.bool,.bool,.bool] λ(x14:Int×Int×Int×Int×Bool×Bool×Bool×Bool×Bool×Unit)=>
 (D6 p0.block/\LoadS w4.drew p0 .sl λ(x15:SlV)=>
 (0<=z3.1/\z3.1<((x15.n:Nat):Int))/\∃ q16:Addr,x15.a=some q16 /\
 (D6 (q16.add (z3.1.toNat*9)).block/\LoadA w4.drew (q16.add (z3.1.toNat*9)) [.int .i64,.int .i64,.int .i64,.int .i64,.bool,.bool,.bool,.bool,.bool] λ(x17:Int×Int×Int×Int×Bool×Bool×Bool×Bool×Bool×Unit)=>
 cond (okf g2)
 (CallV Tryz.prog g2 ([]++((([.agg #[.int .i64 x14.1,.int .i64 x14.2.1,.int .i64 x14.2.2.1,.int .i64 x14.2.2.2.1,.bool x14.2.2.2.2.1,.bool x14.2.2.2.2.2.1,.bool x14.2.2.2.2.2.2.1,.bool x14.2.2.2.2.2.2.2.1,.bool x14.2.2.2.2.2.2.2.2.1],.agg #[.int .i64 x17.1,.int .i64 x17.2.1,.int .i64 x17.2.2.1,.int .i64 x17.2.2.2.1,.bool x17.2.2.2.2.1,.bool x17.2.2.2.2.2.1,.bool x17.2.2.2.2.2.2.1,.bool x17.2.2.2.2.2.2.2.1,.bool x17.2.2.2.2.2.2.2.2.1]]:List Value))++(cap2).toList)).toArray w11 [.one .bool] λ(r18:Bool×Unit) w19=>
 KeepOn D6 w4.drew w19 /\
 cond r18.1
 (Rng .i64 (z3.2.1+1) /\
 K5 (z3.2.1,z3.2.1+1,()) w19)
 (Rng .i64 (z3.2.1+1) /\
 K5 (z3.1,z3.2.1+1,()) w19))
 False))))))
 (Rng .i64 (z3.2.1+1) /\
 K5 (z3.1,z3.2.1+1,()) w11))
 False)))
 (K (z3.1,()) w4)
theorem ledger_Ledger_best.vc (p0:Addr) (g1:FuncId) (cap1:Array Value) (g2:FuncId) (cap2:Array Value) (w:World) (K:Int×Unit->World->Prop) (h:ledger_Ledger_best.P p0 g1 cap1 g2 cap2 w K):CallV Tryz.prog 239 #[.pointer (some p0),.func (.func g1) #[] cap1,.func (.func g2) #[] cap2] w [.one (.int .i64)] K:=by
 refine vcFun.of (A:=ledger_Ledger_best.A) (wr:=false) okf_ok follows h Tryz.func239 ?_
 kernel_rfl
def ledger_Ledger_Pick.A:Ann:=.no
def ledger_Ledger_Pick.P (p0:Addr) (w:World) (K:Int×Unit->World->Prop):Prop:=
 CallV Tryz.prog 239 #[.pointer (some p0),.func (.func 280) #[] #[],.func (.func 240) #[] #[]] w [.one (.int .i64)] λ(r1:Int×Unit) w2=>
 K (r1.1,()) w2
theorem ledger_Ledger_Pick.vc (p0:Addr) (w:World) (K:Int×Unit->World->Prop) (h:ledger_Ledger_Pick.P p0 w K):CallV Tryz.prog 255 #[.pointer (some p0)] w [.one (.int .i64)] K:=by
 refine vcFun.of (A:=ledger_Ledger_Pick.A) (wr:=false) okf_ok follows h Tryz.func255 ?_
 kernel_rfl
def ledger_Ledger_Pick_1.A:Ann:=.no
def ledger_Ledger_Pick_1.P (p0 p1_0 p1_1 p1_2 p1_3:Int) (p1_4 p1_5 p1_6 p1_7 p1_8:Bool) (w:World) (K:Bool×Unit->World->Prop):Prop:=
 NewV #[.int .i64 p1_0,.int .i64 p1_1,.int .i64 p1_2,.int .i64 p1_3,.bool p1_4,.bool p1_5,.bool p1_6,.bool p1_7,.bool p1_8] 103 w λb1 w2=>
 LoadA w2 ⟨b1,0,none⟩ [.int .i64,.int .i64,.int .i64,.int .i64,.bool,.bool,.bool,.bool,.bool] λ(x3:Int×Int×Int×Int×Bool×Bool×Bool×Bool×Bool×Unit)=>
 CallV Tryz.prog 281 #[.agg #[.int .i64 x3.1,.int .i64 x3.2.1,.int .i64 x3.2.2.1,.int .i64 x3.2.2.2.1,.bool x3.2.2.2.2.1,.bool x3.2.2.2.2.2.1,.bool x3.2.2.2.2.2.2.1,.bool x3.2.2.2.2.2.2.2.1,.bool x3.2.2.2.2.2.2.2.2.1]] w2 [.one .bool] λ(r4:Bool×Unit) w5=>
 K (r4.1,()) w5
theorem ledger_Ledger_Pick_1.vc (p0 p1_0 p1_1 p1_2 p1_3:Int) (p1_4 p1_5 p1_6 p1_7 p1_8:Bool) (w:World) (K:Bool×Unit->World->Prop) (h:ledger_Ledger_Pick_1.P p0 p1_0 p1_1 p1_2 p1_3 p1_4 p1_5 p1_6 p1_7 p1_8 w K):CallV Tryz.prog 280 #[.int .i64 p0,.agg #[.int .i64 p1_0,.int .i64 p1_1,.int .i64 p1_2,.int .i64 p1_3,.bool p1_4,.bool p1_5,.bool p1_6,.bool p1_7,.bool p1_8]] w [.one .bool] K:=by
 refine vcFun.of (A:=ledger_Ledger_Pick_1.A) (wr:=false) okf_ok follows h Tryz.func280 ?_
 kernel_rfl
def ledger_Ledger_Victim.A:Ann:=.no
def ledger_Ledger_Victim.P (p0:Addr) (p1 p2:Int) (w:World) (K:Int×Unit->World->Prop):Prop:=
 NewV #[.int .i64 p1] 3 w λb1 w2=>
 NewV #[.int .i64 p2] 3 w2 λb3 w4=>
 CallV Tryz.prog 239 #[.pointer (some p0),.func (.func 246) #[] #[.pointer (some ⟨b3,0,none⟩),.pointer (some ⟨b1,0,none⟩)],.func (.func 247) #[] #[]] w4 [.one (.int .i64)] λ(r5:Int×Unit) w6=>
 K (r5.1,()) w6
theorem ledger_Ledger_Victim.vc (p0:Addr) (p1 p2:Int) (w:World) (K:Int×Unit->World->Prop) (h:ledger_Ledger_Victim.P p0 p1 p2 w K):CallV Tryz.prog 200 #[.pointer (some p0),.int .i64 p1,.int .i64 p2] w [.one (.int .i64)] K:=by
 refine vcFun.of (A:=ledger_Ledger_Victim.A) (wr:=false) okf_ok follows h Tryz.func200 ?_
 kernel_rfl
def ledger_Ledger_Victim_1.A:Ann:=.no
def ledger_Ledger_Victim_1.P (p0 p1_0 p1_1 p1_2 p1_3:Int) (p1_4 p1_5 p1_6 p1_7 p1_8:Bool) (cq0 cq1:Addr) (w:World) (K:Bool×Unit->World->Prop):Prop:=
 NewV #[.int .i64 p1_0,.int .i64 p1_1,.int .i64 p1_2,.int .i64 p1_3,.bool p1_4,.bool p1_5,.bool p1_6,.bool p1_7,.bool p1_8] 103 w λb1 w2=>
 LoadS w2 cq0 (.int .i64) λ(x3:Int)=>
 cond (p0 != x3)
 (LoadA w2 ⟨b1,0,none⟩ [.int .i64,.int .i64,.int .i64,.int .i64,.bool,.bool,.bool,.bool,.bool] λ(x4:Int×Int×Int×Int×Bool×Bool×Bool×Bool×Bool×Unit)=>
 LoadS w2 cq1 (.int .i64) λ(x5:Int)=>
 CallV Tryz.prog 95 #[.agg #[.int .i64 x4.1,.int .i64 x4.2.1,.int .i64 x4.2.2.1,.int .i64 x4.2.2.2.1,.bool x4.2.2.2.2.1,.bool x4.2.2.2.2.2.1,.bool x4.2.2.2.2.2.2.1,.bool x4.2.2.2.2.2.2.2.1,.bool x4.2.2.2.2.2.2.2.2.1],.int .i64 x5] w2 [.one .bool] λ(r6:Bool×Unit) w7=>
 K (r6.1,()) w7)
 (K (false,()) w2)
theorem ledger_Ledger_Victim_1.vc (p0 p1_0 p1_1 p1_2 p1_3:Int) (p1_4 p1_5 p1_6 p1_7 p1_8:Bool) (cq0 cq1:Addr) (w:World) (K:Bool×Unit->World->Prop) (h:ledger_Ledger_Victim_1.P p0 p1_0 p1_1 p1_2 p1_3 p1_4 p1_5 p1_6 p1_7 p1_8 cq0 cq1 w K):CallV Tryz.prog 246 #[.int .i64 p0,.agg #[.int .i64 p1_0,.int .i64 p1_1,.int .i64 p1_2,.int .i64 p1_3,.bool p1_4,.bool p1_5,.bool p1_6,.bool p1_7,.bool p1_8],.pointer (some cq0),.pointer (some cq1)] w [.one .bool] K:=by
 refine vcFun.of (A:=ledger_Ledger_Victim_1.A) (wr:=false) okf_ok follows h Tryz.func246 ?_
 kernel_rfl
def ledger_Ledger_Victim_2.A:Ann:=.no
def ledger_Ledger_Victim_2.P (p0_0 p0_1 p0_2 p0_3:Int) (p0_4 p0_5 p0_6 p0_7 p0_8:Bool) (p1_0 p1_1 p1_2 p1_3:Int) (p1_4 p1_5 p1_6 p1_7 p1_8:Bool) (w:World) (K:Bool×Unit->World->Prop):Prop:=
 NewV #[.int .i64 p0_0,.int .i64 p0_1,.int .i64 p0_2,.int .i64 p0_3,.bool p0_4,.bool p0_5,.bool p0_6,.bool p0_7,.bool p0_8] 103 w λb1 w2=>
 NewV #[.int .i64 p1_0,.int .i64 p1_1,.int .i64 p1_2,.int .i64 p1_3,.bool p1_4,.bool p1_5,.bool p1_6,.bool p1_7,.bool p1_8] 103 w2 λb3 w4=>
 LoadS w4 ⟨b1,2,none⟩ (.int .i64) λ(x5:Int)=>
 LoadS w4 ⟨b3,2,none⟩ (.int .i64) λ(x6:Int)=>
 K (decide (x5<x6),()) w4
theorem ledger_Ledger_Victim_2.vc (p0_0 p0_1 p0_2 p0_3:Int) (p0_4 p0_5 p0_6 p0_7 p0_8:Bool) (p1_0 p1_1 p1_2 p1_3:Int) (p1_4 p1_5 p1_6 p1_7 p1_8:Bool) (w:World) (K:Bool×Unit->World->Prop) (h:ledger_Ledger_Victim_2.P p0_0 p0_1 p0_2 p0_3 p0_4 p0_5 p0_6 p0_7 p0_8 p1_0 p1_1 p1_2 p1_3 p1_4 p1_5 p1_6 p1_7 p1_8 w K):CallV Tryz.prog 247 #[.agg #[.int .i64 p0_0,.int .i64 p0_1,.int .i64 p0_2,.int .i64 p0_3,.bool p0_4,.bool p0_5,.bool p0_6,.bool p0_7,.bool p0_8],.agg #[.int .i64 p1_0,.int .i64 p1_1,.int .i64 p1_2,.int .i64 p1_3,.bool p1_4,.bool p1_5,.bool p1_6,.bool p1_7,.bool p1_8]] w [.one .bool] K:=by
 refine vcFun.of (A:=ledger_Ledger_Victim_2.A) (wr:=false) okf_ok follows h Tryz.func247 ?_
 kernel_rfl
def ledger_Ledger_many.A:Ann:=.two .no (.two .no (.two (.two .no (.one (.loop [5,6,9,10,11,12,13,14,15,16,17,18,19,20,21,22,23] [(5,.one (.int .i64)),(9,.one (.int .i64))] .no))) .no))
def ledger_Ledger_many.P (p0:Addr) (g1:FuncId) (cap1:Array Value) (w:World) (K:Int×Unit->World->Prop):Prop:=
 CallV Tryz.prog 52 #[.pointer (some p0)] w [.one (.int .i64)] λ(r1:Int×Unit) w2=>
 LoopV [.one (.int .i64),.one (.int .i64)] ((0:Int),(0:Int),()) w2 λ(z3:Int×Int×Unit) w4 (K5:Int×Int×Unit->World->Prop)=>
 cond (decide (z3.2.1<r1.1))
 (LoadS w4 p0 .sl λ(x6:SlV)=>
 (0<=z3.2.1/\z3.2.1<((x6.n:Nat):Int))/\∃ q7:Addr,x6.a=some q7 /\
 LoadA w4 (q7.add (z3.2.1.toNat*9)) [.int .i64,.int .i64,.int .i64,.int .i64,.bool,.bool,.bool,.bool,.bool] λ(x8:Int×Int×Int×Int×Bool×Bool×Bool×Bool×Bool×Unit)=>
 cond (okf g1)
 (CallV Tryz.prog g1 ([]++((([.agg #[.int .i64 x8.1,.int .i64 x8.2.1,.int .i64 x8.2.2.1,.int .i64 x8.2.2.2.1,.bool x8.2.2.2.2.1,.bool x8.2.2.2.2.2.1,.bool x8.2.2.2.2.2.2.1,.bool x8.2.2.2.2.2.2.2.1,.bool x8.2.2.2.2.2.2.2.2.1]]:List Value))++(cap1).toList)).toArray w4 [.one .bool] λ(r9:Bool×Unit) w10=>
 cond r9.1
 (Rng .i64 (z3.1+1) /\
 Rng .i64 (z3.2.1+1) /\
 K5 (z3.1+1,z3.2.1+1,()) w10)
 (Rng .i64 (z3.2.1+1) /\
 K5 (z3.1,z3.2.1+1,()) w10))
 False)
 (K (z3.1,()) w4)
theorem ledger_Ledger_many.vc (p0:Addr) (g1:FuncId) (cap1:Array Value) (w:World) (K:Int×Unit->World->Prop) (h:ledger_Ledger_many.P p0 g1 cap1 w K):CallV Tryz.prog 93 #[.pointer (some p0),.func (.func g1) #[] cap1] w [.one (.int .i64)] K:=by
 refine vcFun.of (A:=ledger_Ledger_many.A) (wr:=false) okf_ok follows h Tryz.func93 ?_
 kernel_rfl
def ledger_Ledger_Held.A:Ann:=.no
def ledger_Ledger_Held.P (p0:Addr) (p1:Int) (w:World) (K:Int×Unit->World->Prop):Prop:=
 NewV #[.int .i64 p1] 3 w λb1 w2=>
 CallV Tryz.prog 93 #[.pointer (some p0),.func (.func 94) #[] #[.pointer (some ⟨b1,0,none⟩)]] w2 [.one (.int .i64)] λ(r3:Int×Unit) w4=>
 K (r3.1,()) w4
theorem ledger_Ledger_Held.vc (p0:Addr) (p1:Int) (w:World) (K:Int×Unit->World->Prop) (h:ledger_Ledger_Held.P p0 p1 w K):CallV Tryz.prog 28 #[.pointer (some p0),.int .i64 p1] w [.one (.int .i64)] K:=by
 refine vcFun.of (A:=ledger_Ledger_Held.A) (wr:=false) okf_ok follows h Tryz.func28 ?_
 kernel_rfl
def ledger_Ledger_Held_1.A:Ann:=.no
def ledger_Ledger_Held_1.P (p0_0 p0_1 p0_2 p0_3:Int) (p0_4 p0_5 p0_6 p0_7 p0_8:Bool) (cq0:Addr) (w:World) (K:Bool×Unit->World->Prop):Prop:=
 NewV #[.int .i64 p0_0,.int .i64 p0_1,.int .i64 p0_2,.int .i64 p0_3,.bool p0_4,.bool p0_5,.bool p0_6,.bool p0_7,.bool p0_8] 103 w λb1 w2=>
 LoadA w2 ⟨b1,0,none⟩ [.int .i64,.int .i64,.int .i64,.int .i64,.bool,.bool,.bool,.bool,.bool] λ(x3:Int×Int×Int×Int×Bool×Bool×Bool×Bool×Bool×Unit)=>
 LoadS w2 cq0 (.int .i64) λ(x4:Int)=>
 CallV Tryz.prog 95 #[.agg #[.int .i64 x3.1,.int .i64 x3.2.1,.int .i64 x3.2.2.1,.int .i64 x3.2.2.2.1,.bool x3.2.2.2.2.1,.bool x3.2.2.2.2.2.1,.bool x3.2.2.2.2.2.2.1,.bool x3.2.2.2.2.2.2.2.1,.bool x3.2.2.2.2.2.2.2.2.1],.int .i64 x4] w2 [.one .bool] λ(r5:Bool×Unit) w6=>
 K (r5.1,()) w6
theorem ledger_Ledger_Held_1.vc (p0_0 p0_1 p0_2 p0_3:Int) (p0_4 p0_5 p0_6 p0_7 p0_8:Bool) (cq0:Addr) (w:World) (K:Bool×Unit->World->Prop) (h:ledger_Ledger_Held_1.P p0_0 p0_1 p0_2 p0_3 p0_4 p0_5 p0_6 p0_7 p0_8 cq0 w K):CallV Tryz.prog 94 #[.agg #[.int .i64 p0_0,.int .i64 p0_1,.int .i64 p0_2,.int .i64 p0_3,.bool p0_4,.bool p0_5,.bool p0_6,.bool p0_7,.bool p0_8],.pointer (some cq0)] w [.one .bool] K:=by
 refine vcFun.of (A:=ledger_Ledger_Held_1.A) (wr:=false) okf_ok follows h Tryz.func94 ?_
 kernel_rfl
def ledger_Ledger_Bads.A:Ann:=.no
def ledger_Ledger_Bads.P (p0:Addr) (w:World) (K:Int×Unit->World->Prop):Prop:=
 CallV Tryz.prog 93 #[.pointer (some p0),.func (.func 196) #[] #[]] w [.one (.int .i64)] λ(r1:Int×Unit) w2=>
 K (r1.1,()) w2
theorem ledger_Ledger_Bads.vc (p0:Addr) (w:World) (K:Int×Unit->World->Prop) (h:ledger_Ledger_Bads.P p0 w K):CallV Tryz.prog 158 #[.pointer (some p0)] w [.one (.int .i64)] K:=by
 refine vcFun.of (A:=ledger_Ledger_Bads.A) (wr:=false) okf_ok follows h Tryz.func158 ?_
 kernel_rfl
def ledger_Ledger_Bads_1.A:Ann:=.no
def ledger_Ledger_Bads_1.P (p0_0 p0_1 p0_2 p0_3:Int) (p0_4 p0_5 p0_6 p0_7 p0_8:Bool) (w:World) (K:Bool×Unit->World->Prop):Prop:=
 NewV #[.int .i64 p0_0,.int .i64 p0_1,.int .i64 p0_2,.int .i64 p0_3,.bool p0_4,.bool p0_5,.bool p0_6,.bool p0_7,.bool p0_8] 103 w λb1 w2=>
 LoadS w2 ⟨b1,6,none⟩ .bool λ(x3:Bool)=>
 K (x3,()) w2
theorem ledger_Ledger_Bads_1.vc (p0_0 p0_1 p0_2 p0_3:Int) (p0_4 p0_5 p0_6 p0_7 p0_8:Bool) (w:World) (K:Bool×Unit->World->Prop) (h:ledger_Ledger_Bads_1.P p0_0 p0_1 p0_2 p0_3 p0_4 p0_5 p0_6 p0_7 p0_8 w K):CallV Tryz.prog 196 #[.agg #[.int .i64 p0_0,.int .i64 p0_1,.int .i64 p0_2,.int .i64 p0_3,.bool p0_4,.bool p0_5,.bool p0_6,.bool p0_7,.bool p0_8]] w [.one .bool] K:=by
 refine vcFun.of (A:=ledger_Ledger_Bads_1.A) (wr:=false) okf_ok follows h Tryz.func196 ?_
 kernel_rfl
def ledger_less.A:Ann:=.no
def ledger_less.P (p0_0 p0_1 p0_2 p0_3:Int) (p0_4 p0_5 p0_6 p0_7 p0_8:Bool) (p1_0 p1_1 p1_2 p1_3:Int) (p1_4 p1_5 p1_6 p1_7 p1_8:Bool) (w:World) (K:Bool×Unit->World->Prop):Prop:=
 NewV #[.int .i64 p0_0,.int .i64 p0_1,.int .i64 p0_2,.int .i64 p0_3,.bool p0_4,.bool p0_5,.bool p0_6,.bool p0_7,.bool p0_8] 103 w λb1 w2=>
 NewV #[.int .i64 p1_0,.int .i64 p1_1,.int .i64 p1_2,.int .i64 p1_3,.bool p1_4,.bool p1_5,.bool p1_6,.bool p1_7,.bool p1_8] 103 w2 λb3 w4=>
 LoadS w4 ⟨b1,3,none⟩ (.int .i64) λ(x5:Int)=>
 LoadS w4 ⟨b3,3,none⟩ (.int .i64) λ(x6:Int)=>
 K (decide (x5<x6),()) w4
theorem ledger_less.vc (p0_0 p0_1 p0_2 p0_3:Int) (p0_4 p0_5 p0_6 p0_7 p0_8:Bool) (p1_0 p1_1 p1_2 p1_3:Int) (p1_4 p1_5 p1_6 p1_7 p1_8:Bool) (w:World) (K:Bool×Unit->World->Prop) (h:ledger_less.P p0_0 p0_1 p0_2 p0_3 p0_4 p0_5 p0_6 p0_7 p0_8 p1_0 p1_1 p1_2 p1_3 p1_4 p1_5 p1_6 p1_7 p1_8 w K):CallV Tryz.prog 240 #[.agg #[.int .i64 p0_0,.int .i64 p0_1,.int .i64 p0_2,.int .i64 p0_3,.bool p0_4,.bool p0_5,.bool p0_6,.bool p0_7,.bool p0_8],.agg #[.int .i64 p1_0,.int .i64 p1_1,.int .i64 p1_2,.int .i64 p1_3,.bool p1_4,.bool p1_5,.bool p1_6,.bool p1_7,.bool p1_8]] w [.one .bool] K:=by
 refine vcFun.of (A:=ledger_less.A) (wr:=false) okf_ok follows h Tryz.func240 ?_
 kernel_rfl
def ledger_own.A:Ann:=.no
def ledger_own.P (p0_0 p0_1 p0_2 p0_3:Int) (p0_4 p0_5 p0_6 p0_7 p0_8:Bool) (p1:Int) (w:World) (K:Bool×Unit->World->Prop):Prop:=
 NewV #[.int .i64 p0_0,.int .i64 p0_1,.int .i64 p0_2,.int .i64 p0_3,.bool p0_4,.bool p0_5,.bool p0_6,.bool p0_7,.bool p0_8] 103 w λb1 w2=>
 LoadS w2 ⟨b1,4,none⟩ .bool λ(x3:Bool)=>
 cond x3
 (LoadS w2 ⟨b1,6,none⟩ .bool λ(x4:Bool)=>
 cond (!x4)
 (LoadS w2 ⟨b1,0,none⟩ (.int .i64) λ(x5:Int)=>
 K ((x5 == p1),()) w2)
 (K (false,()) w2))
 (K (false,()) w2)
theorem ledger_own.vc (p0_0 p0_1 p0_2 p0_3:Int) (p0_4 p0_5 p0_6 p0_7 p0_8:Bool) (p1:Int) (w:World) (K:Bool×Unit->World->Prop) (h:ledger_own.P p0_0 p0_1 p0_2 p0_3 p0_4 p0_5 p0_6 p0_7 p0_8 p1 w K):CallV Tryz.prog 95 #[.agg #[.int .i64 p0_0,.int .i64 p0_1,.int .i64 p0_2,.int .i64 p0_3,.bool p0_4,.bool p0_5,.bool p0_6,.bool p0_7,.bool p0_8],.int .i64 p1] w [.one .bool] K:=by
 refine vcFun.of (A:=ledger_own.A) (wr:=false) okf_ok follows h Tryz.func95 ?_
 kernel_rfl
def ledger_Free.A:Ann:=.no
def ledger_Free.P (p0_0 p0_1 p0_2 p0_3:Int) (p0_4 p0_5 p0_6 p0_7 p0_8:Bool) (w:World) (K:Bool×Unit->World->Prop):Prop:=
 NewV #[.int .i64 p0_0,.int .i64 p0_1,.int .i64 p0_2,.int .i64 p0_3,.bool p0_4,.bool p0_5,.bool p0_6,.bool p0_7,.bool p0_8] 103 w λb1 w2=>
 LoadS w2 ⟨b1,4,none⟩ .bool λ(x3:Bool)=>
 cond (!x3)
 (LoadS w2 ⟨b1,6,none⟩ .bool λ(x4:Bool)=>
 K (!x4,()) w2)
 (K (false,()) w2)
theorem ledger_Free.vc (p0_0 p0_1 p0_2 p0_3:Int) (p0_4 p0_5 p0_6 p0_7 p0_8:Bool) (w:World) (K:Bool×Unit->World->Prop) (h:ledger_Free.P p0_0 p0_1 p0_2 p0_3 p0_4 p0_5 p0_6 p0_7 p0_8 w K):CallV Tryz.prog 281 #[.agg #[.int .i64 p0_0,.int .i64 p0_1,.int .i64 p0_2,.int .i64 p0_3,.bool p0_4,.bool p0_5,.bool p0_6,.bool p0_7,.bool p0_8]] w [.one .bool] K:=by
 refine vcFun.of (A:=ledger_Free.A) (wr:=false) okf_ok follows h Tryz.func281 ?_
 kernel_rfl
end Go.Proofs.YtbaojfchlhlaeaaGreat.Vc
namespace Go.Proofs.YtbaojfchlhlaeaaGreat.Vc
open Go Go.Eng Go.RowKit
structure Blk where
 ow:Int
 us:Int
 li:Int
 er:Int
 he:Bool
 cl:Bool
 ba:Bool
 go:Bool
 le:Bool
def Blk.z:Blk:=⟨0,0,0,0,false,false,false,false,false⟩
def Blk.new:Blk:=⟨-1,0,0,0,false,false,false,false,false⟩
instance:Inhabited Blk:=⟨.z⟩
abbrev Blk.vs (x:Blk):List Value:=[.int .i64 x.ow,.int .i64 x.us,.int .i64 x.li,.int .i64 x.er,.bool x.he,.bool x.cl,.bool x.ba,.bool x.go,.bool x.le]
abbrev Blk.tup (x:Blk):Int×Int×Int×Int×Bool×Bool×Bool×Bool×Bool×Unit:=(x.ow,x.us,x.li,x.er,x.he,x.cl,x.ba,x.go,x.le,())
abbrev Blk.val (x:Blk):Value:=.agg #[.int .i64 x.ow,.int .i64 x.us,.int .i64 x.li,.int .i64 x.er,.bool x.he,.bool x.cl,.bool x.ba,.bool x.go,.bool x.le]
abbrev bvs (L:List Blk):List Value:=L.flatMap Blk.vs
theorem bvs_len (L:List Blk):(bvs L).length=L.length*9:=flat_len (f:=Blk.vs) (m:=9) (λ_=>rfl) L
theorem bvs_one (L:List Blk):oneAll (bvs L):=by
 intro u hu
 obtain ⟨x,-,hx⟩:=List.mem_flatMap.1 hu
 simp only [List.mem_cons,List.not_mem_nil,or_false] at hx
 rcases hx with rfl | rfl | rfl | rfl | rfl | rfl | rfl | rfl | rfl <;> rfl
def hB (n:Int) (x:Blk):Blk:=⟨n,0,0,x.er,true,false,x.ba,x.go,x.le⟩
def rB (x:Blk):Blk:=⟨x.ow,x.us,0,x.er,false,x.cl,x.ba,x.go,x.le⟩
def eB (x:Blk):Blk:=⟨-2,0,0,x.er+1,false,true,x.ba,false,false⟩
def fB (x:Blk):Blk:=⟨x.ow,x.us,x.li,x.er,x.he,x.cl,true,x.go,x.le⟩
def sB (n:Bool) (x:Blk):Blk:=⟨x.ow,x.us,x.li,x.er,false,false,true,n,!n⟩
def uB (x:Blk):Blk:=⟨x.ow,x.us+1,x.li,x.er,x.he,x.cl,x.ba,x.go,x.le⟩
def cB (n:Int) (x:Blk):Blk:=⟨x.ow,x.us,if n<0-x.li then 0 else x.li+n,x.er,x.he,x.cl,x.ba,x.go,x.le⟩
section
variable {F:Nat->Prop} {w:World} {blk o qb:Nat} {e eq:TypeId} {pre post:List Value} {x:Blk} {C:Asr}
theorem Hold1_c {n:Int} (ho:o=pre.length) (S:Sep F w w [BoxA blk e (pre++(x.vs++post)),BoxA qb eq [.int .i64 n]]) :
  CallV Tryz.prog 290 #[.pointer (some ⟨blk,o,none⟩),.pointer (some ⟨qb,0,none⟩)] w [] λ_ w'=>Sep F w w' [BoxA blk e (pre++((hB n x).vs++post)),BoxA qb eq [.int .i64 n]]:=by
 apply ledger_Ledger_Hold_1.vc
 unfold ledger_Ledger_Hold_1.P
 refine S.ld1 rfl rfl ?_
 refine S.stM0 0 rfl ho (by simp) λw1 S f=>?_
 refine S.stM 0 4 rfl ho (by simp) λw1 S f=>?_
 refine S.stM 0 5 rfl ho (by simp) λw1 S f=>?_
 refine S.stM 0 1 rfl ho (by simp) λw1 S f=>?_
 refine S.stM 0 2 rfl ho (by simp) λw1 S f=>?_
 exact S
theorem Release1_c (ho:o=pre.length) (S:Sep F w w [BoxA blk e (pre++(x.vs++post)),C]) :
  CallV Tryz.prog 161 #[.pointer (some ⟨blk,o,none⟩)] w [] λ_ w'=>Sep F w w' [BoxA blk e (pre++((rB x).vs++post)),C]:=by
 apply ledger_Ledger_Release_1.vc
 unfold ledger_Ledger_Release_1.P
 refine S.stM 0 4 rfl ho (by simp) λw1 S f=>?_
 refine S.stM 0 2 rfl ho (by simp) λw1 S f=>?_
 exact S
theorem Failed1_c (ho:o=pre.length) (S:Sep F w w [BoxA blk e (pre++(x.vs++post)),C]) :
  CallV Tryz.prog 219 #[.pointer (some ⟨blk,o,none⟩)] w [] λ_ w'=>Sep F w w' [BoxA blk e (pre++((fB x).vs++post)),C]:=by
 apply ledger_Ledger_Failed_1.vc
 unfold ledger_Ledger_Failed_1.P
 refine S.stM 0 6 rfl ho (by simp) λw1 S f=>?_
 exact S
theorem Use1_c (ho:o=pre.length) (hr:Rng .i64 (x.us+1)) (S:Sep F w w [BoxA blk e (pre++(x.vs++post)),C]) :
  CallV Tryz.prog 202 #[.pointer (some ⟨blk,o,none⟩)] w [] λ_ w'=>Sep F w w' [BoxA blk e (pre++((uB x).vs++post)),C]:=by
 apply ledger_Ledger_Use_1.vc
 unfold ledger_Ledger_Use_1.P
 refine S.ldM 0 1 rfl ho rfl rfl ⟨hr,?_⟩
 refine S.stM 0 1 rfl ho (by simp) λw1 S f=>?_
 exact S
theorem Erased1_c (ho:o=pre.length) (hr:Rng .i64 (x.er+1)) (S:Sep F w w [BoxA blk e (pre++(x.vs++post)),C]) :
  CallV Tryz.prog 218 #[.pointer (some ⟨blk,o,none⟩)] w [] λ_ w'=>Sep F w w' [BoxA blk e (pre++((eB x).vs++post)),C]:=by
 apply ledger_Ledger_Erased_1.vc
 unfold ledger_Ledger_Erased_1.P
 refine S.regX (λk=>k=blk) λD hD hkeep S T=>?_
 have k0:=hkeep _ (Fr.refl _ _)
 refine ⟨?_,?_⟩
 ·refine S.ldM 0 3 rfl ho rfl rfl ⟨k0,hr,S.ldM 0 6 rfl ho rfl rfl ⟨k0,?_⟩⟩
  refine S.stM0 0 rfl ho (by simp) λw1 S f=>⟨hkeep _ f,?_⟩
  exact S
 ·refine S.ldM 0 6 rfl ho rfl rfl ⟨k0,S.ldM 0 3 rfl ho rfl rfl ⟨k0,hr,?_⟩⟩
  refine S.stM0 0 rfl ho (by simp) λw1 S f=>⟨hkeep _ f,?_⟩
  exact S
theorem Scrubbed1_c {n:Bool} (ho:o=pre.length) (S:Sep F w w [BoxA blk e (pre++(x.vs++post)),BoxA qb eq [.bool n]]) :
  CallV Tryz.prog 223 #[.pointer (some ⟨blk,o,none⟩),.pointer (some ⟨qb,0,none⟩)] w [] λ_ w'=>Sep F w w' [BoxA blk e (pre++((sB n x).vs++post)),BoxA qb eq [.bool n]]:=by
 apply ledger_Ledger_Scrubbed_1.vc
 unfold ledger_Ledger_Scrubbed_1.P
 have hne:=S.ne 0 1 (by decide) rfl rfl
 refine S.regX (λk=>k=blk) λD hD hkeep S T=>?_
 refine ⟨hD _ S.bl1 (λh=>hne h.symm),S.ld1 rfl rfl ⟨hD _ S.bl1 (λh=>hne h.symm),S.ld1 rfl rfl ?_⟩⟩
 refine S.stM 0 6 rfl ho (by simp) λw1 S f1=>⟨hkeep _ f1,?_⟩
 refine S.stM 0 5 rfl ho (by simp) λw2 S f2=>⟨hkeep _ (f1.trans f2),?_⟩
 refine S.stM 0 4 rfl ho (by simp) λw3 S f3=>⟨hkeep _ ((f1.trans f2).trans f3),?_⟩
 refine S.stM 0 7 rfl ho (by simp) λw4 S f4=>⟨hkeep _ (((f1.trans f2).trans f3).trans f4),?_⟩
 refine S.stM 0 8 rfl ho (by simp) λw5 S f5=>⟨hkeep _ ((((f1.trans f2).trans f3).trans f4).trans f5),?_⟩
 exact S
theorem Count1_c {n:Int} (ho:o=pre.length) (h0:0<=x.li/\x.li<=1000000000) (hn:-9223372036854775808<=n/\n<=1000000) (S:Sep F w w [BoxA blk e (pre++(x.vs++post)),BoxA qb eq [.int .i64 n]]) :
  CallV Tryz.prog 172 #[.pointer (some ⟨blk,o,none⟩),.pointer (some ⟨qb,0,none⟩)] w [] λ_ w'=>∃ m:Int,Sep F w w' [BoxA blk e (pre++((cB n x).vs++post)),BoxA qb eq [.int .i64 m]]:=by
 apply ledger_Ledger_Count_1.vc
 unfold ledger_Ledger_Count_1.P
 have hne:=S.ne 0 1 (by decide) rfl rfl
 refine S.reg λD hD hkeep S T=>?_
 refine ⟨hD _ S.bl1,S.ld1 rfl rfl ⟨by rw [add_block];exact hD _ S.bl0,S.ldM 0 2 rfl ho rfl rfl ⟨Rng.i64 (by omega) (by omega),?_⟩⟩⟩
 refine cond_d (λhl=>?_) (λhl=>?_)
 ·refine S.ldM 0 2 rfl ho rfl rfl ⟨Rng.i64 (by omega) (by omega),?_⟩
  refine S.st1 (by rfl) λw1 S f1=>?_
  refine S.regX (λk=>k=blk) λD hD hkeep S T=>?_
  refine ⟨hD _ S.bl1 (λh=>hne h.symm),S.ld1 rfl rfl (S.ldM 0 2 rfl ho rfl rfl ⟨hkeep _ (Fr.refl _ _),Rng.i64 (by omega) (by omega),?_⟩)⟩
  refine S.stM 0 2 rfl ho (by simp) λw2 S f2=>⟨hkeep _ f2,0-x.li,?_⟩
  have e1:(cB n x).li=x.li+(0-x.li):=by show (if n<0-x.li then (0:Int) else x.li+n)=_;rw [if_pos hl];omega
  have e2:(cB n x).vs=[.int .i64 x.ow,.int .i64 x.us,.int .i64 (x.li+(0-x.li)),.int .i64 x.er,.bool x.he,.bool x.cl,.bool x.ba,.bool x.go,.bool x.le]:=by rw [<-e1];rfl
  rw [e2]
  exact S
 ·refine S.regX (λk=>k=blk) λD hD hkeep S T=>?_
  refine ⟨hD _ S.bl1 (λh=>hne h.symm),S.ld1 rfl rfl (S.ldM 0 2 rfl ho rfl rfl ⟨hkeep _ (Fr.refl _ _),Rng.i64 (by omega) (by omega),?_⟩)⟩
  refine S.stM 0 2 rfl ho (by simp) λw2 S f2=>⟨hkeep _ f2,n,?_⟩
  have e1:(cB n x).li=x.li+n:=by show (if n<0-x.li then (0:Int) else x.li+n)=_;rw [if_neg hl]
  have e2:(cB n x).vs=[.int .i64 x.ow,.int .i64 x.us,.int .i64 (x.li+n),.int .i64 x.er,.bool x.he,.bool x.cl,.bool x.ba,.bool x.go,.bool x.le]:=by rw [<-e1];rfl
  rw [e2]
  exact S
end
abbrev LedP (p:Nat) (a:Option Addr) (n c:Nat) (L:List Blk):List Asr:=[BoxA p 200 [.slice a n c],OwnA 103 9 a n c (bvs L)]
theorem Len_c {E:Nat->Prop} {w0 w:World} {Rs:List Asr} {p:Nat} {e:TypeId} {a:Option Addr} {n c:Nat} (S:Sep E w0 w (BoxA p e [.slice a n c]::Rs)) :
  CallV Tryz.prog 52 #[.pointer (some ⟨p,0,none⟩)] w [.one (.int .i64)] λr w'=>r.1=(n:Int)/\w'=w:=by
 apply ledger_Ledger_Len.vc
 unfold ledger_Ledger_Len.P
 exact S.ld0 rfl rfl ⟨rfl,rfl⟩
theorem has_c {E:Nat->Prop} {w0 w:World} {Rs:List Asr} {p:Nat} {e:TypeId} {a:Option Addr} {n c:Nat} {b:Int} (S:Sep E w0 w (BoxA p e [.slice a n c]::Rs)) :
  CallV Tryz.prog 129 #[.pointer (some ⟨p,0,none⟩),.int .i64 b] w [.one .bool] λr w'=>r.1=decide (0<=b/\b<(n:Int))/\w'=w:=by
 apply ledger_Ledger_has.vc
 unfold ledger_Ledger_has.P
 refine cond_d (λh=>?_) (λh=>⟨(decide_eq_false (by omega)).symm,rfl⟩)
 refine (Len_c S).mono ?_
 rintro ⟨(r:Int),⟨⟩⟩ w1 ⟨h1,rfl⟩
 dsimp only at h1 ⊢
 subst h1
 exact ⟨decide_eq_decide.2 (by omega),rfl⟩
theorem change_c {F:Nat->Prop} {w:World} {p:Nat} {a:Option Addr} {n c:Nat} {L:List Blk} {b:Int} {f:FuncId} {cap:Array Value} {C:Asr} {C':Asr} {φ:Blk->Blk} (hf:okf f=true)
  (h:∀ (F:Nat->Prop) (w1:World) (blk o:Nat) (e:TypeId) (pre post:List Value) (x:Blk),x∈L->o=pre.length->Sep F w1 w1 [BoxA blk e (pre++(x.vs++post)),C] ->
   CallV Tryz.prog f ([]++((([.pointer (some ⟨blk,o,none⟩)]:List Value))++cap.toList)).toArray w1 [] λ_ w2=>Sep F w1 w2 [BoxA blk e (pre++((φ x).vs++post)),C'])
  (S:Sep F w w (LedP p a n c L++[C])) :
  CallV Tryz.prog 154 #[.pointer (some ⟨p,0,none⟩),.int .i64 b,.func (.func f) #[] cap] w [.one (.int .i64)] λr w'=>
   (¬ (0<=b/\b<(n:Int))->r.1=(2:Int)/\w'=w)/\(0<=b/\b<(n:Int)->r.1=(0:Int)/\Sep F w w' (LedP p a n c (L.set b.toNat (φ (L.getD b.toNat default)))++[C'])):=by
 apply ledger_Ledger_change.vc
 unfold ledger_Ledger_change.P
 refine (has_c (b:=b) S).mono ?_
 rintro ⟨(r:Bool),⟨⟩⟩ w1 ⟨h1,rfl⟩
 dsimp only at h1 ⊢
 subst h1
 refine cond_of (λhh=>?_) (λhh=>?_)
 ·have hh:¬ (0<=b/\b<(n:Int)):=λk=>by rw [decide_eq_true k] at hh;cases hh
  exact ⟨λ_=>⟨rfl,rfl⟩,λk=>absurd k hh⟩
 have hh:0<=b/\b<(n:Int):=by
  by_cases k:0<=b/\b<(n:Int)
  ·exact k
  ·rw [decide_eq_false k] at hh;cases hh
 refine S.ld0 rfl rfl ⟨hh,?_⟩
 have lL:L.length=n:=by have:=(S.own 1 rfl).len;rw [bvs_len] at this;omega
 have hi:b.toNat<L.length:=by omega
 have hy:L[b.toNat]? = some (L.getD b.toNat default):=by rw [List.getD_eq_getElem?_getD,List.getElem?_eq_getElem hi];rfl
 generalize L.getD b.toNat default=x at hy ⊢
 obtain ⟨(m1:bvs L=_),(m2:bvs (L.set b.toNat (φ x))=_)⟩:=flat_mid (f:=Blk.vs) (z:=φ x) hy
 have S1:=S.sel [1,0,0] rfl
 obtain ⟨blk,tl,ha,q1,q2,q3,q4,q5,S1⟩:=S1.focus (by intro e;have:=bvs_len L;rw [e] at this;simp at this;omega)
 subst ha
 refine ⟨_,rfl,cond_t hf ?_⟩
 have hadd:(⟨blk,0,none⟩:Addr).add (b.toNat*9)=⟨blk,b.toNat*9,none⟩:=by simp [Addr.add_lit]
 rw [hadd]
 rw [m1,List.append_assoc,List.append_assoc] at S1
 have hpre:b.toNat*9=((L.take b.toNat).flatMap Blk.vs).length:=by rw [flat_len (f:=Blk.vs) (m:=9) (λ_=>rfl),List.length_take,Nat.min_eq_left (by omega)]
 dsimp only at S1
 have S2:=S1.sel [0,1,0] rfl
 refine Sep.call [BoxA blk 103 _,C] S2 (λF S=>h F _ blk _ _ _ _ x (List.mem_of_getElem? hy) hpre S) ?_
 intro F2 back r w2 S3
 refine ⟨λk=>absurd hh k,λ_=>⟨rfl,?_⟩⟩
 have S4:=back _ _ S3
 rw [<-List.append_assoc,<- List.append_assoc,List.append_assoc (List.flatMap _ _),<- m2] at S4
 have hl2:(bvs (L.set b.toNat (φ x))).length=n*9:=by rw [bvs_len,List.length_set,lL]
 have S5:=Sep.unfocus (n:=n) (c:=c) (sz:=9) S4 hl2 (by rw [List.length_append,hl2,<- q2,List.length_append,q1]) q3 q4 (bvs_one _)
 exact S5.sel [2,0,0] rfl
def inB (b:Int) (n:Nat):Prop:=0<=b/\b<(n:Int)
instance (b:Int) (n:Nat):Decidable (inB b n):=by unfold inB;infer_instance
def chL (b:Int) (n:Nat) (φ:Blk->Blk) (L:List Blk):List Blk:=if inB b n then L.set b.toNat (φ (L.getD b.toNat default)) else L
def chE (b:Int) (n:Nat):Int:=if inB b n then 0 else 2
theorem change_d {F:Nat->Prop} {w:World} {p:Nat} {a:Option Addr} {n c:Nat} {L:List Blk} {b:Int} {f:FuncId} {cap:Array Value} {C:Asr} {C':Asr} {φ:Blk->Blk} (hf:okf f=true)
  (h:∀ (F:Nat->Prop) (w1:World) (blk o:Nat) (e:TypeId) (pre post:List Value) (x:Blk),x∈L->o=pre.length->Sep F w1 w1 [BoxA blk e (pre++(x.vs++post)),C] ->
   CallV Tryz.prog f ([]++((([.pointer (some ⟨blk,o,none⟩)]:List Value))++cap.toList)).toArray w1 [] λ_ w2=>Sep F w1 w2 [BoxA blk e (pre++((φ x).vs++post)),C'])
  (S:Sep F w w (LedP p a n c L++[C])) :
  CallV Tryz.prog 154 #[.pointer (some ⟨p,0,none⟩),.int .i64 b,.func (.func f) #[] cap] w [.one (.int .i64)] λr w'=>
   r.1=chE b n/\Sep F w w' (LedP p a n c (chL b n φ L)):=by
 refine (change_c (b:=b) hf h S).mono ?_
 rintro ⟨(r:Int),⟨⟩⟩ w1 ⟨h1,h2⟩
 dsimp only at h1 h2 ⊢
 unfold chE chL
 by_cases hb:inB b n
 ·rw [if_pos hb,if_pos hb]
  exact ⟨(h2 hb).1,(h2 hb).2.sel [0,0] rfl⟩
 ·rw [if_neg hb,if_neg hb]
  obtain ⟨k1,rfl⟩:=h1 hb
  exact ⟨k1,S.sel [0,0] rfl⟩
section
variable {F:Nat->Prop} {w:World} {p:Nat} {a:Option Addr} {n c:Nat} {L:List Blk} {b:Int}
theorem Hold21_c {ns:Int} (S:Sep F w w (LedP p a n c L)):CallV Tryz.prog 282 #[.pointer (some ⟨p,0,none⟩),.int .i64 b,.int .i64 ns] w [.one (.int .i64)] λr w'=>
  r.1=(if 0<=ns/\ns<4 then chE b n else 2)/\Sep F w w' (LedP p a n c (if 0<=ns/\ns<4 then chL b n (hB ns) L else L)):=by
 apply ledger_Ledger_Hold.vc
 unfold ledger_Ledger_Hold.P
 refine S.newB λqb w1 S1 f1 _=>?_
 refine S1.ld0 rfl rfl (cond_d (λh=>?_) λh=>S1.ld0 rfl rfl (cond_d (λh'=>?_) λh'=>?_))
 ·rw [if_neg (by omega),if_neg (by omega)];exact ⟨rfl,S1.tail⟩
 ·rw [if_neg (by omega),if_neg (by omega)];exact ⟨rfl,S1.tail⟩
 rw [if_pos (by omega),if_pos (by omega)]
 refine Sep.call (LedP p a n c L++[BoxA qb _ [.int .i64 ns]]) (Ts:=[]) (S1.sel [1,1,0] rfl) (λF S=>change_d (b:=b) (φ:=hB ns) (C':=BoxA qb _ [.int .i64 ns]) (by kernel_rfl) (λF w1 blk o e pre post x _ ho S=>Hold1_c ho S) S) ?_
 rintro F2 back ⟨(r:Int),⟨⟩⟩ w2 ⟨h,S3⟩
 exact ⟨h,(back _ _ S3).sel [0,0] rfl⟩
theorem Scrubbed_c {m:Bool} (S:Sep F w w (LedP p a n c L)):CallV Tryz.prog 184 #[.pointer (some ⟨p,0,none⟩),.int .i64 b,.bool m] w [.one (.int .i64)] λr w'=>
  r.1=chE b n/\Sep F w w' (LedP p a n c (chL b n (sB m) L)):=by
 apply ledger_Ledger_Scrubbed.vc
 unfold ledger_Ledger_Scrubbed.P
 refine S.newB λqb w1 S1 f1 _=>?_
 refine Sep.call (LedP p a n c L++[BoxA qb _ [.bool m]]) (Ts:=[]) (S1.sel [1,1,0] rfl) (λF S=>change_d (b:=b) (φ:=sB m) (C':=BoxA qb _ [.bool m]) (by kernel_rfl) (λF w1 blk o e pre post x _ ho S=>Scrubbed1_c ho S) S) ?_
 rintro F2 back ⟨(r:Int),⟨⟩⟩ w2 ⟨h,S3⟩
 exact ⟨h,(back _ _ S3).sel [0,0] rfl⟩
theorem Count_c {m:Int} (hL:∀ x∈L,0<=x.li/\x.li<=1000000000) (hm:-9223372036854775808<=m/\m<=1000000) (S:Sep F w w (LedP p a n c L)):CallV Tryz.prog 121 #[.pointer (some ⟨p,0,none⟩),.int .i64 b,.int .i64 m] w [.one (.int .i64)] λr w'=>
  r.1=chE b n/\Sep F w w' (LedP p a n c (chL b n (cB m) L)):=by
 apply ledger_Ledger_Count.vc
 unfold ledger_Ledger_Count.P
 refine S.newB λqb w1 S1 f1 _=>?_
 refine Sep.call (LedP p a n c L++[BoxA qb _ [.int .i64 m]]) (Ts:=[]) (S1.sel [1,1,0] rfl) (λF S=>change_d (b:=b) (φ:=cB m) (C':=emp) (by kernel_rfl) (λF w1 blk o e pre post x hx ho S=>(Count1_c ho (hL x hx) hm S).mono λr w' ⟨m',S⟩=>(S.take1.emp).sel [1,0] rfl) S) ?_
 rintro F2 back ⟨(r:Int),⟨⟩⟩ w2 ⟨h,S3⟩
 exact ⟨h,(back _ _ S3).sel [0,0] rfl⟩
theorem Release_c (S:Sep F w w (LedP p a n c L)):CallV Tryz.prog 113 #[.pointer (some ⟨p,0,none⟩),.int .i64 b] w [.one (.int .i64)] λr w'=>
  r.1=chE b n/\Sep F w w' (LedP p a n c (chL b n rB L)):=by
 apply ledger_Ledger_Release.vc
 unfold ledger_Ledger_Release.P
 exact change_d (b:=b) (φ:=rB) (C':=emp) (by kernel_rfl) (λF w1 blk o e pre post x hx ho S=>Release1_c ho S) (S.emp.sel [1,1,0] rfl)
theorem Erased_c (hL:∀ x∈L,0<=x.er/\x.er<=2000000000000) (S:Sep F w w (LedP p a n c L)):CallV Tryz.prog 181 #[.pointer (some ⟨p,0,none⟩),.int .i64 b] w [.one (.int .i64)] λr w'=>
  r.1=chE b n/\Sep F w w' (LedP p a n c (chL b n eB L)):=by
 apply ledger_Ledger_Erased.vc
 unfold ledger_Ledger_Erased.P
 exact change_d (b:=b) (φ:=eB) (C':=emp) (by kernel_rfl) (λF w1 blk o e pre post x hx ho S=>Erased1_c ho (by have:=hL x hx;exact Rng.i64 (by omega) (by omega)) S) (S.emp.sel [1,1,0] rfl)
theorem Failed_c (S:Sep F w w (LedP p a n c L)):CallV Tryz.prog 182 #[.pointer (some ⟨p,0,none⟩),.int .i64 b] w [.one (.int .i64)] λr w'=>
  r.1=chE b n/\Sep F w w' (LedP p a n c (chL b n fB L)):=by
 apply ledger_Ledger_Failed.vc
 unfold ledger_Ledger_Failed.P
 exact change_d (b:=b) (φ:=fB) (C':=emp) (by kernel_rfl) (λF w1 blk o e pre post x hx ho S=>Failed1_c ho S) (S.emp.sel [1,1,0] rfl)
theorem Use_c (hL:∀ x∈L,0<=x.us/\x.us<=1000000000) (S:Sep F w w (LedP p a n c L)):CallV Tryz.prog 164 #[.pointer (some ⟨p,0,none⟩),.int .i64 b] w [.one (.int .i64)] λr w'=>
  r.1=chE b n/\Sep F w w' (LedP p a n c (chL b n uB L)):=by
 apply ledger_Ledger_Use.vc
 unfold ledger_Ledger_Use.P
 exact change_d (b:=b) (φ:=uB) (C':=emp) (by kernel_rfl) (λF w1 blk o e pre post x hx ho S=>Use1_c ho (by have:=hL x hx;exact Rng.i64 (by omega) (by omega)) S) (S.emp.sel [1,1,0] rfl)
end
theorem vs_one:∀ x:Blk,oneAll x.vs:=λx u hu=>by
 simp only [List.mem_cons,List.not_mem_nil,or_false] at hu
 rcases hu with rfl | rfl | rfl | rfl | rfl | rfl | rfl | rfl | rfl <;> rfl
theorem getD_of {L:List Blk} {i:Nat} {x:Blk} (h:L[i]? = some x):L.getD i default=x:=by rw [List.getD_eq_getElem?_getD,h];rfl
abbrev gx (L:List Blk) (i:Nat):Blk:=L.getD i default
def bestT (L:List Blk) (m:Nat->Blk->Bool) (ah:Blk->Blk->Bool):Nat->Int
 | 0=>-1
 | i+1=>if m i (gx L i)=true/\(bestT L m ah i<0\/ah (gx L i) (gx L (bestT L m ah i).toNat)=true) then (i:Int) else bestT L m ah i
def Least (L:List Blk) (m:Nat->Blk->Bool) (key:Blk->Int) (N:Nat->Prop) (t:Int):Prop:=
 (t=-1/\∀ j,N j->m j (gx L j)=false)\/∃ a:Nat,t=(a:Int)/\N a/\m a (gx L a)=true/\∀ j,N j->m j (gx L j)=true->key (gx L a)<=key (gx L j)/\(key (gx L j)=key (gx L a)->a<=j)
theorem bestT_least {L:List Blk} {m:Nat->Blk->Bool} {ah:Blk->Blk->Bool} {key:Blk->Int} (ha:∀ x y,ah x y=decide (key x<key y)):∀ i,Least L m key (λj=>j<i) (bestT L m ah i)
 | 0=>.inl ⟨rfl,λj hj=>absurd hj (Nat.not_lt_zero j)⟩
 | i+1=>by
  have ih:=bestT_least (L:=L) (m:=m) ha i
  unfold bestT
  rcases ih with ⟨h1,h2⟩ | ⟨a,h1,h2,h3,h4⟩
  ·by_cases hm:m i (gx L i)=true
   ·rw [if_pos ⟨hm,.inl (by omega)⟩]
    refine .inr ⟨i,rfl,by omega,hm,λj hj hmj=>?_⟩
    by_cases e:j=i
    ·subst e;exact ⟨Int.le_refl _,λ_=>Nat.le_refl _⟩
    ·rw [h2 j (by omega)] at hmj;cases hmj
   ·rw [if_neg (λh=>hm h.1)]
    refine .inl ⟨h1,λj hj=>?_⟩
    by_cases e:j=i
    ·subst e;simpa using hm
    ·exact h2 j (by omega)
  ·rw [h1,Int.toNat_natCast,ha]
   by_cases hm:m i (gx L i)=true/\key (gx L i)<key (gx L a)
   ·rw [if_pos ⟨hm.1,.inr (decide_eq_true hm.2)⟩]
    refine .inr ⟨i,rfl,by omega,hm.1,λj hj hmj=>?_⟩
    by_cases e:j=i
    ·subst e;exact ⟨Int.le_refl _,λ_=>Nat.le_refl _⟩
    ·have:=h4 j (by omega) hmj;omega
   ·rw [if_neg (λh=>hm ⟨h.1,by rcases h.2 with k | k;omega;exact of_decide_eq_true k⟩)]
    refine .inr ⟨a,rfl,by omega,h3,λj hj hmj=>?_⟩
    by_cases e:j=i
    ·subst e
     have:¬ key (gx L j)<key (gx L a):=λk=>hm ⟨hmj,k⟩
     exact ⟨by omega,λ_=>by omega⟩
    ·exact h4 j (by omega) hmj
theorem bestT_bd {L:List Blk} {m:Nat->Blk->Bool} {ah:Blk->Blk->Bool}:∀ i,-1<=bestT L m ah i/\bestT L m ah i<(i:Int)
 | 0=>by show -1<=(-1:Int)/\(-1:Int)<0;omega
 | i+1=>by
  have:=bestT_bd (L:=L) (m:=m) (ah:=ah) i
  unfold bestT
  split <;> push_cast <;> omega
theorem bestT_is {L:List Blk} {m:Nat->Blk->Bool} {ah:Blk->Blk->Bool}:∀ i,0<=bestT L m ah i->m (bestT L m ah i).toNat (gx L (bestT L m ah i).toNat)=true
 | 0,h=>by have h:(0:Int)<=-1:=h;omega
 | i+1,h=>by
  unfold bestT at h ⊢
  by_cases hc:m i (gx L i)=true/\(bestT L m ah i<0\/ah (gx L i) (gx L (bestT L m ah i).toNat)=true)
  ·rw [if_pos hc,Int.toNat_natCast];exact hc.1
  ·rw [if_neg hc] at h⊢;exact bestT_is i h
def manyT (L:List Blk) (m:Blk->Bool):Nat->Int
 | 0=>0
 | i+1=>if m (gx L i)=true then manyT L m i+1 else manyT L m i
theorem manyT_bd {L:List Blk} {m:Blk->Bool}:∀ i,0<=manyT L m i/\manyT L m i<=(i:Int)
 | 0=>by show (0:Int)<=0/\(0:Int)<=0;omega
 | i+1=>by
  have:=manyT_bd (L:=L) (m:=m) i
  unfold manyT
  split <;> push_cast <;> omega
theorem manyT_none {L:List Blk} {m:Blk->Bool}:∀ i,(∀ j,j<i->m (gx L j)=false)->manyT L m i=0
 | 0,_=>rfl
 | i+1,h=>by
  unfold manyT
  rw [if_neg (by rw [h i (by omega)];simp),manyT_none i λj hj=>h j (by omega)]
end Go.Proofs.YtbaojfchlhlaeaaGreat.Vc
