/- Texts in one: The plans of functions as plain statements, printed by wip/tools/vcgen.py; the kernel holds each to the code. The contracts of layer 25 (stream): its parts, and what does little. Plain laws of layer 25 (stream): a block that is spoilt, a block emptied, room made, a front that failed, a page written: what is kept. Plain laws of layer 25 (stream): a spot put where a page was written; a namespace forgotten: what is kept. The contracts of layer 25 (stream): destroyed, copied, moved, spoilt, emptied. The contracts of layer 25 (stream): moved, spoilt, emptied, room made, a front that failed. The contracts of layer 25 (stream): room made, a front that failed, a page written. The contracts of layer 25 (stream): a page written to a namespace's front; places that are live no more; a page put. The contracts of layer 25 (stream): places that are live no more; a page put; a block emptied from outside. Plain laws of layer 25 (stream): a new stream; a namespace forgotten: what is kept. The contracts of layer 22 (pagemap): does the program answer. The contracts of layer 25 (stream): a new stream, a namespace more, a namespace forgotten. What any parameter of a law is known to be, with the sizes of what it holds: structs, arrays and slices of whole numbers, texts, and of each other. What the laws of layer 13 share. The contracts of the laws of layer 25: payloads, a new stream on an array, a step put. The contracts of layer 11 (geometry): do namespaces fit, and how much room is left. The contracts of layer 21: what the document's ledger tells. The contracts of layer 21: the document's spread; does the program answer at all? Plain laws of layer 25 (stream): an array and a ledger go by programs, by blocks that are destroyed, and by changes that keep how often a block was erased. -/
import Derived.Test.YtbaojfchlhlaeaaGreatZReclaimLevelse
set_option linter.unusedVariables false
set_option linter.unusedSimpArgs false
namespace Go.Proofs.YtbaojfchlhlaeaaGreat.Vc
open Go Go.Eng
def stream_New.A:Ann:=.two .no (.two .no (.two .no (.two (.two .no (.one (.loop [11,29,30,31,32,33,34,35,36,37] [(29,.one (.int .i64))] .no))) .no)))
def stream_New.P (p0 p1:Addr) (p2_0 p2_1 p2_2 p2_3 p2_4 p2_5 p3:Int) (w:World) (K:(Option Addr)×Int×Unit→World→Prop):Prop:=
 NewV #[.int .i64 p2_0,.int .i64 p2_1,.int .i64 p2_2,.int .i64 p2_3,.int .i64 p2_4,.int .i64 p2_5] 23 w fun b1 w2=>
 LoadA w2 ⟨b1,0,none⟩ [.int .i64,.int .i64,.int .i64,.int .i64,.int .i64,.int .i64] fun (x3:Int×Int×Int×Int×Int×Int×Unit)=>
 CallV Tryz.prog 110 #[.agg #[.int .i64 x3.1,.int .i64 x3.2.1,.int .i64 x3.2.2.1,.int .i64 x3.2.2.2.1,.int .i64 x3.2.2.2.2.1,.int .i64 x3.2.2.2.2.2.1]] w2 [.one (.int .i64)] fun (r4:Int×Unit) w5=>
 cond (r4.1 != 0)
 (K (none,(2:Int),()) w5)
 (LoadA w5 ⟨b1,0,none⟩ [.int .i64,.int .i64,.int .i64,.int .i64,.int .i64,.int .i64] fun (x6:Int×Int×Int×Int×Int×Int×Unit)=>
 NewV #[.pointer (some p0),.pointer (some p1),.int .i64 x6.1,.int .i64 x6.2.1,.int .i64 x6.2.2.1,.int .i64 x6.2.2.2.1,.int .i64 x6.2.2.2.2.1,.int .i64 x6.2.2.2.2.2.1,.int .i64 0,.int .i64 0,.int .i64 0,.int .i64 0,.int .u64 p3,.int .u64 0,.int .u64 0,.bool false] 151 w5 fun b7 w8=>
 LoopV [.one (.int .i64)] ((0:Int),()) w8 fun (z9:Int×Unit) w10 (K11:Int×Unit→World→Prop)=>
 cond (decide (z9.1<4))
 ((0≤z9.1∧z9.1<(4:Int)) ∧
 StoreV w10 ((⟨b7,8,none⟩:Addr).add (z9.1.toNat*1)) [.int .i64 (-1)] fun w12=>
 Rng .i64 (z9.1+1) ∧
 K11 (z9.1+1,()) w12)
 (CallV Tryz.prog 111 #[.pointer (some ⟨b7,0,none⟩)] w10 [.one (.int .i64)] fun (r13:Int×Unit) w14=>
 K ((some ⟨b7,0,none⟩),(0:Int),()) w14))
theorem stream_New.vc (p0 p1:Addr) (p2_0 p2_1 p2_2 p2_3 p2_4 p2_5 p3:Int) (w:World) (K:(Option Addr)×Int×Unit→World→Prop) (h:stream_New.P p0 p1 p2_0 p2_1 p2_2 p2_3 p2_4 p2_5 p3 w K):CallV Tryz.prog 42 #[.pointer (some p0),.pointer (some p1),.agg #[.int .i64 p2_0,.int .i64 p2_1,.int .i64 p2_2,.int .i64 p2_3,.int .i64 p2_4,.int .i64 p2_5],.int .u64 p3] w [.one .ptr,.one (.int .i64)] K:=by
 refine vcFun.of (A:=stream_New.A) (wr:=false) okf_ok follows h Tryz.func42 ?_
 kernel_rfl
def stream_Stream_over.A:Ann:=.two .no (.two (.two (.draw (.take 0 (.take 1 (.take 2 (.take 3 (.take 6 (.take 7 (.take 8 (.take 9 (.take 10 (.eff 4 (.eff 5 (.take 11 (.done)))))))))))))) .no) .no)
def stream_Stream_over.P (p0:Addr) (w:World) (K:Int×Unit→World→Prop):Prop:=
 DrawV fun D1=>
 (D1 p0.block∧LoadS w.drew p0 .ptr fun (x2:Option Addr)=>
 (D1 ((p0.add 2).add 3).block∧LoadS w.drew ((p0.add 2).add 3) (.int .i64) fun (x3:Int)=>
 CallV Tryz.prog 27 #[.pointer x2] w.drew [.one .ptr] fun (r4:(Option Addr)×Unit) w5=>
 KeepOn D1 w.drew w5 ∧
 CallV Tryz.prog 158 #[.pointer r4.1] w5 [.one (.int .i64)] fun (r6:Int×Unit) w7=>
 KeepOn D1 w.drew w7 ∧
 cond (decide (r6.1>x3))
 (StoreV w7 (p0.add 15) [.bool true] fun w8=>
 LoadS w8 (p0.add 15) .bool fun (x9:Bool)=>
 cond x9
 (K ((15:Int),()) w8)
 (K ((0:Int),()) w8))
 (LoadS w7 (p0.add 15) .bool fun (x10:Bool)=>
 cond x10
 (K ((15:Int),()) w7)
 (K ((0:Int),()) w7))))
theorem stream_Stream_over.vc (p0:Addr) (w:World) (K:Int×Unit→World→Prop) (h:stream_Stream_over.P p0 w K):CallV Tryz.prog 111 #[.pointer (some p0)] w [.one (.int .i64)] K:=by
 refine vcFun.of (A:=stream_Stream_over.A) (wr:=false) okf_ok follows h Tryz.func111 ?_
 kernel_rfl
def stream_Stream_Next.A:Ann:=.two .no (.two .no (.two .no (.two (.draw (.take 0 (.take 1 (.take 2 (.take 3 (.take 4 (.take 5 (.take 6 (.take 7 (.take 8 (.eff 9 (.take 10 (.eff 11 (.done)))))))))))))) .no)))
def stream_Stream_Next.P (p0:Addr) (p1_0 p1_1 p1_2 p1_3 p1_4 p1_5:Int) (w:World) (K:(Int×Int×Int×Int×Int×Int×Unit)×Unit→World→Prop):Prop:=
 NewV #[.int .i64 p1_0,.int .i64 p1_1,.int .i64 p1_2,.int .u32 p1_3,.int .u64 p1_4,.int .u64 p1_5] 62 w fun b1 w2=>
 NewV #[.int .i64 0,.int .i64 0,.int .i64 0,.int .u32 0,.int .u64 0,.int .u64 0] 62 w2 fun b3 w4=>
 LoadS w4 (p0.add 14) (.int .u64) fun (x5:Int)=>
 StoreV w4 (p0.add 14) [.int .u64 (IntKind.u64.wrap (x5+1))] fun w6=>
 DrawV fun D7=>
 (D7 (p0.add 12).block∧LoadS w6.drew (p0.add 12) (.int .u64) fun (x8:Int)=>
 (D7 (p0.add 14).block∧LoadS w6.drew (p0.add 14) (.int .u64) fun (x9:Int)=>
 StoreV w6.drew ⟨b1,4,none⟩ [.int .u64 x8] fun w10=>
 KeepOn D7 w6.drew w10 ∧
 StoreV w10 ⟨b1,5,none⟩ [.int .u64 x9] fun w11=>
 KeepOn D7 w6.drew w11 ∧
 LoadA w11 ⟨b1,0,none⟩ [.int .i64,.int .i64,.int .i64,.int .u32,.int .u64,.int .u64] fun (x12:Int×Int×Int×Int×Int×Int×Unit)=>
 StoreV w11 ⟨b3,0,none⟩ [.int .i64 x12.1,.int .i64 x12.2.1,.int .i64 x12.2.2.1,.int .u32 x12.2.2.2.1,.int .u64 x12.2.2.2.2.1,.int .u64 x12.2.2.2.2.2.1] fun w13=>
 LoadA w13 ⟨b3,0,none⟩ [.int .i64,.int .i64,.int .i64,.int .u32,.int .u64,.int .u64] fun (x14:Int×Int×Int×Int×Int×Int×Unit)=>
 K ((x14.1,x14.2.1,x14.2.2.1,x14.2.2.2.1,x14.2.2.2.2.1,x14.2.2.2.2.2.1,()),()) w13))
theorem stream_Stream_Next.vc (p0:Addr) (p1_0 p1_1 p1_2 p1_3 p1_4 p1_5:Int) (w:World) (K:(Int×Int×Int×Int×Int×Int×Unit)×Unit→World→Prop) (h:stream_Stream_Next.P p0 p1_0 p1_1 p1_2 p1_3 p1_4 p1_5 w K):CallV Tryz.prog 51 #[.pointer (some p0),.agg #[.int .i64 p1_0,.int .i64 p1_1,.int .i64 p1_2,.int .u32 p1_3,.int .u64 p1_4,.int .u64 p1_5]] w [.agg [.int .i64,.int .i64,.int .i64,.int .u32,.int .u64,.int .u64]] K:=by
 refine vcFun.of (A:=stream_Stream_Next.A) (wr:=false) okf_ok follows h Tryz.func51 ?_
 kernel_rfl
def stream_Stream_order.A:Ann:=.two .no (.two .no (.two (.draw (.take 0 (.take 1 (.take 2 (.take 3 (.take 4 (.take 5 (.take 6 (.take 7 (.take 8 (.eff 9 (.done)))))))))))) .no))
def stream_Stream_order.P (p0:Addr) (w:World) (K:(Int×Int×Int×Int×Int×Int×Unit)×Unit→World→Prop):Prop:=
 NewV #[.int .i64 0,.int .i64 0,.int .i64 0,.int .u32 0,.int .u64 0,.int .u64 0] 62 w fun b1 w2=>
 LoadS w2 (p0.add 13) (.int .u64) fun (x3:Int)=>
 StoreV w2 (p0.add 13) [.int .u64 (IntKind.u64.wrap (x3+1))] fun w4=>
 DrawV fun D5=>
 (D5 (p0.add 12).block∧LoadS w4.drew (p0.add 12) (.int .u64) fun (x6:Int)=>
 (D5 (p0.add 13).block∧LoadS w4.drew (p0.add 13) (.int .u64) fun (x7:Int)=>
 StoreV w4.drew ⟨b1,0,none⟩ [.int .i64 0,.int .i64 0,.int .i64 0,.int .u32 0,.int .u64 x6,.int .u64 x7] fun w8=>
 KeepOn D5 w4.drew w8 ∧
 LoadA w8 ⟨b1,0,none⟩ [.int .i64,.int .i64,.int .i64,.int .u32,.int .u64,.int .u64] fun (x9:Int×Int×Int×Int×Int×Int×Unit)=>
 K ((x9.1,x9.2.1,x9.2.2.1,x9.2.2.2.1,x9.2.2.2.2.1,x9.2.2.2.2.2.1,()),()) w8))
theorem stream_Stream_order.vc (p0:Addr) (w:World) (K:(Int×Int×Int×Int×Int×Int×Unit)×Unit→World→Prop) (h:stream_Stream_order.P p0 w K):CallV Tryz.prog 175 #[.pointer (some p0)] w [.agg [.int .i64,.int .i64,.int .i64,.int .u32,.int .u64,.int .u64]] K:=by
 refine vcFun.of (A:=stream_Stream_order.A) (wr:=false) okf_ok follows h Tryz.func175 ?_
 kernel_rfl
def stream_Stream_left.A:Ann:=.no
def stream_Stream_left.P (p0:Addr) (p1:Int) (w:World) (K:Int×Unit→World→Prop):Prop:=
 cond (p1 == 4)
 (K (p1,()) w)
 (cond (p1 == 19)
 (StoreV w (p0.add 15) [.bool true] fun w1=>
 CallV Tryz.prog 111 #[.pointer (some p0)] w1 [.one (.int .i64)] fun (r2:Int×Unit) w3=>
 cond (r2.1 != 0)
 (K (r2.1,()) w3)
 (K (p1,()) w3))
 (CallV Tryz.prog 111 #[.pointer (some p0)] w [.one (.int .i64)] fun (r4:Int×Unit) w5=>
 cond (r4.1 != 0)
 (K (r4.1,()) w5)
 (K (p1,()) w5)))
theorem stream_Stream_left.vc (p0:Addr) (p1:Int) (w:World) (K:Int×Unit→World→Prop) (h:stream_Stream_left.P p0 p1 w K):CallV Tryz.prog 176 #[.pointer (some p0),.int .i64 p1] w [.one (.int .i64)] K:=by
 refine vcFun.of (A:=stream_Stream_left.A) (wr:=false) okf_ok follows h Tryz.func176 ?_
 kernel_rfl
def stream_Stream_close.A:Ann:=.no
def stream_Stream_close.P (p0:Addr) (p1:Int) (w:World) (K:Unit→World→Prop):Prop:=
 (0≤p1∧p1<(4:Int)) ∧
 LoadS w ((p0.add 8:Addr).add (p1.toNat*1)) (.int .i64) fun (x1:Int)=>
 (0≤p1∧p1<(4:Int)) ∧
 StoreV w ((p0.add 8:Addr).add (p1.toNat*1)) [.int .i64 (-1)] fun w2=>
 cond (decide (x1≥0))
 (LoadS w2 p0 .ptr fun (x3:Option Addr)=>
 CallV Tryz.prog 27 #[.pointer x3] w2 [.one .ptr] fun (r4:(Option Addr)×Unit) w5=>
 CallV Tryz.prog 54 #[.pointer r4.1,.int .i64 x1] w5 [.agg [.int .i64,.int .i64,.int .i64,.int .i64,.bool,.bool,.bool,.bool,.bool]] fun (r6:(Int×Int×Int×Int×Bool×Bool×Bool×Bool×Bool×Unit)×Unit) w7=>
 cond (r6.1.2.2.1 == 0)
 (LoadS w7 p0 .ptr fun (x8:Option Addr)=>
 CallV Tryz.prog 27 #[.pointer x8] w7 [.one .ptr] fun (r9:(Option Addr)×Unit) w10=>
 CallV Tryz.prog 113 #[.pointer r9.1,.int .i64 x1] w10 [.one (.int .i64)] fun (r11:Int×Unit) w12=>
 K () w12)
 (K () w7))
 (K () w2)
set_option maxRecDepth 65536 in
theorem stream_Stream_close.vc (p0:Addr) (p1:Int) (w:World) (K:Unit→World→Prop) (h:stream_Stream_close.P p0 p1 w K):CallV Tryz.prog 198 #[.pointer (some p0),.int .i64 p1] w [] K:=by
 refine vcFun.of (A:=stream_Stream_close.A) (wr:=false) okf_ok follows h Tryz.func198 ?_
 kernel_rfl
def stream_Stream_room.A:Ann:=.two .no (.two .no (.two (.draw (.take 0 (.take 1 (.take 2 (.take 3 (.take 4 (.take 5 (.take 6 (.take 7 (.take 8 (.eff 9 (.eff 10 (.take 11 (.take 12 (.take 13 (.take 14 (.take 15 (.done)))))))))))))))))) (.two .no (.two .no (.join [6,7,47,48,49,50,51,52,53,54,55,56,57] [(6,.one (.int .i64)),(7,.one (.int .i64))] (.draw (.take 0 (.take 1 (.take 2 (.take 4 (.take 5 (.both 3 (.eff 6 (.eff 7 (.take 8 (.take 9 (.take 10 (.take 11 (.take 12 (.done)))))))) 6 (.eff 3 (.eff 7 (.take 8 (.take 9 (.take 10 (.take 11 (.take 12 (.done))))))))))))))) .no)))))
def stream_Stream_room.P (p0:Addr) (p1:Int) (w:World) (K:Int×Unit→World→Prop):Prop:=
 CallV Tryz.prog 198 #[.pointer (some p0),.int .i64 p1] w [] fun (r1:Unit) w2=>
 DrawV fun D3=>
 (D3 (p0.add 2).block∧LoadA w2.drew (p0.add 2) [.int .i64,.int .i64,.int .i64,.int .i64,.int .i64,.int .i64] fun (x4:Int×Int×Int×Int×Int×Int×Unit)=>
 (D3 (p0.add 1).block∧LoadS w2.drew (p0.add 1) .ptr fun (x5:Option Addr)=>
 CallV Tryz.prog 25 #[.pointer x5,.int .i64 p1] w2.drew [.one (.int .i64)] fun (r6:Int×Unit) w7=>
 KeepOn D3 w2.drew w7 ∧
 CallV Tryz.prog 199 #[.agg #[.int .i64 x4.1,.int .i64 x4.2.1,.int .i64 x4.2.2.1,.int .i64 x4.2.2.2.1,.int .i64 x4.2.2.2.2.1,.int .i64 x4.2.2.2.2.2.1],.int .i64 r6.1] w7 [.one (.int .i64),.one (.int .i64)] fun (r8:Int×Int×Unit) w9=>
 KeepOn D3 w2.drew w9 ∧
 cond (r8.2.1 != 0)
 (K ((2:Int),()) w9)
 (LoadS w9 p0 .ptr fun (x10:Option Addr)=>
 CallV Tryz.prog 27 #[.pointer x10] w9 [.one .ptr] fun (r11:(Option Addr)×Unit) w12=>
 CallV Tryz.prog 28 #[.pointer r11.1,.int .i64 p1] w12 [.one (.int .i64)] fun (r13:Int×Unit) w14=>
 Rng .i64 (r8.1-1) ∧
 cond (decide (r13.1≥(r8.1-1)))
 (LoadS w14 p0 .ptr fun (x15:Option Addr)=>
 CallV Tryz.prog 27 #[.pointer x15] w14 [.one .ptr] fun (r16:(Option Addr)×Unit) w17=>
 CallV Tryz.prog 200 #[.pointer r16.1,.int .i64 p1,.int .i64 (-1)] w17 [.one (.int .i64)] fun (r18:Int×Unit) w19=>
 CallV Tryz.prog 124 #[.pointer (some p0),.int .i64 r18.1,.int .i64 p1] w19 [.one (.int .i64)] fun (r20:Int×Unit) w21=>
 K (r20.1,()) w21)
 (JoinV [.one (.int .i64),.one (.int .i64)] (fun (v23:Int×Int×Unit) w24=>
 cond (v23.1 == 0)
 ((0≤p1∧p1<(4:Int)) ∧
 StoreV w24 ((p0.add 8:Addr).add (p1.toNat*1)) [.int .i64 v23.2.1] fun w25=>
 CallV Tryz.prog 176 #[.pointer (some p0),.int .i64 v23.1] w25 [.one (.int .i64)] fun (r26:Int×Unit) w27=>
 K (r26.1,()) w27)
 (CallV Tryz.prog 176 #[.pointer (some p0),.int .i64 v23.1] w24 [.one (.int .i64)] fun (r28:Int×Unit) w29=>
 K (r28.1,()) w29)) fun (J22:Int×Int×Unit→World→Prop)=>
 DrawV fun D30=>
 ((LoadS w14.drew p0 .ptr fun (x31:Option Addr)=>
 KeepOn D30 w14.drew w14.drew ∧
 CallV Tryz.prog 175 #[.pointer (some p0)] w14.drew [.agg [.int .i64,.int .i64,.int .i64,.int .u32,.int .u64,.int .u64]] fun (r32:(Int×Int×Int×Int×Int×Int×Unit)×Unit) w33=>
 KeepOn D30 w14.drew w33 ∧
 CallV Tryz.prog 201 #[.pointer x31,.int .i64 p1,.agg #[.int .i64 r32.1.1,.int .i64 r32.1.2.1,.int .i64 r32.1.2.2.1,.int .u32 r32.1.2.2.2.1,.int .u64 r32.1.2.2.2.2.1,.int .u64 r32.1.2.2.2.2.2.1]] w33 [.one (.int .i64),.one (.int .i64)] fun (r34:Int×Int×Unit) w35=>
 KeepOn D30 w14.drew w35 ∧
 J22 (r34.2.1,r34.1,()) w35) ∧
 (CallV Tryz.prog 175 #[.pointer (some p0)] w14.drew [.agg [.int .i64,.int .i64,.int .i64,.int .u32,.int .u64,.int .u64]] fun (r36:(Int×Int×Int×Int×Int×Int×Unit)×Unit) w37=>
 KeepOn D30 w14.drew w37 ∧
 LoadS w37 p0 .ptr fun (x38:Option Addr)=>
 KeepOn D30 w14.drew w37 ∧
 CallV Tryz.prog 201 #[.pointer x38,.int .i64 p1,.agg #[.int .i64 r36.1.1,.int .i64 r36.1.2.1,.int .i64 r36.1.2.2.1,.int .u32 r36.1.2.2.2.1,.int .u64 r36.1.2.2.2.2.1,.int .u64 r36.1.2.2.2.2.2.1]] w37 [.one (.int .i64),.one (.int .i64)] fun (r39:Int×Int×Unit) w40=>
 KeepOn D30 w14.drew w40 ∧
 J22 (r39.2.1,r39.1,()) w40))))))
theorem stream_Stream_room.vc (p0:Addr) (p1:Int) (w:World) (K:Int×Unit→World→Prop) (h:stream_Stream_room.P p0 p1 w K):CallV Tryz.prog 163 #[.pointer (some p0),.int .i64 p1] w [.one (.int .i64)] K:=by
 refine vcFun.of (A:=stream_Stream_room.A) (wr:=false) okf_ok follows h Tryz.func163 ?_
 kernel_rfl
def stream_Stream_full.A:Ann:=.two .no (.two .no (.two (.draw (.take 0 (.take 1 (.take 2 (.take 3 (.take 4 (.take 5 (.take 6 (.take 8 (.take 11 (.take 12 (.take 13 (.take 14 (.take 15 (.take 16 (.eff 7 (.eff 9 (.take 10 (.take 17 (.take 18 (.take 19 (.done)))))))))))))))))))))) .no))
def stream_Stream_full.P (p0:Addr) (p1:Int) (w:World) (K:Bool×Unit→World→Prop):Prop:=
 (0≤p1∧p1<(4:Int)) ∧
 LoadS w ((p0.add 8:Addr).add (p1.toNat*1)) (.int .i64) fun (x1:Int)=>
 DrawV fun D2=>
 cond (decide (x1<0))
 (K (true,()) w.drew)
 ((D2 p0.block∧LoadS w.drew p0 .ptr fun (x3:Option Addr)=>
 (D2 ((p0.add 2).add 1).block∧LoadS w.drew ((p0.add 2).add 1) (.int .i64) fun (x4:Int)=>
 Rng .i64 (x4-1) ∧
 CallV Tryz.prog 27 #[.pointer x3] w.drew [.one .ptr] fun (r5:(Option Addr)×Unit) w6=>
 KeepOn D2 w.drew w6 ∧
 CallV Tryz.prog 54 #[.pointer r5.1,.int .i64 x1] w6 [.agg [.int .i64,.int .i64,.int .i64,.int .i64,.bool,.bool,.bool,.bool,.bool]] fun (r7:(Int×Int×Int×Int×Bool×Bool×Bool×Bool×Bool×Unit)×Unit) w8=>
 KeepOn D2 w.drew w8 ∧
 K (decide (r7.1.2.1≥(x4-1)),()) w8)))
theorem stream_Stream_full.vc (p0:Addr) (p1:Int) (w:World) (K:Bool×Unit→World→Prop) (h:stream_Stream_full.P p0 p1 w K):CallV Tryz.prog 162 #[.pointer (some p0),.int .i64 p1] w [.one .bool] K:=by
 refine vcFun.of (A:=stream_Stream_full.A) (wr:=false) okf_ok follows h Tryz.func162 ?_
 kernel_rfl
def stream_Stream_failed.A:Ann:=.no
def stream_Stream_failed.P (p0:Addr) (p1:Int) (w:World) (K:Int×Unit→World→Prop):Prop:=
 (0≤p1∧p1<(4:Int)) ∧
 LoadS w ((p0.add 8:Addr).add (p1.toNat*1)) (.int .i64) fun (x1:Int)=>
 (0≤p1∧p1<(4:Int)) ∧
 StoreV w ((p0.add 8:Addr).add (p1.toNat*1)) [.int .i64 (-1)] fun w2=>
 LoadS w2 p0 .ptr fun (x3:Option Addr)=>
 CallV Tryz.prog 27 #[.pointer x3] w2 [.one .ptr] fun (r4:(Option Addr)×Unit) w5=>
 CallV Tryz.prog 182 #[.pointer r4.1,.int .i64 x1] w5 [.one (.int .i64)] fun (r6:Int×Unit) w7=>
 CallV Tryz.prog 111 #[.pointer (some p0)] w7 [.one (.int .i64)] fun (r8:Int×Unit) w9=>
 cond (r8.1 != 0)
 (K (r8.1,()) w9)
 (CallV Tryz.prog 124 #[.pointer (some p0),.int .i64 x1,.int .i64 p1] w9 [.one (.int .i64)] fun (r10:Int×Unit) w11=>
 cond (r10.1 != 0)
 (K (r10.1,()) w11)
 (CallV Tryz.prog 47 #[.pointer (some p0),.int .i64 x1] w11 [.one (.int .i64)] fun (r12:Int×Unit) w13=>
 cond (r12.1 == 4)
 (K (r12.1,()) w13)
 (CallV Tryz.prog 111 #[.pointer (some p0)] w13 [.one (.int .i64)] fun (r14:Int×Unit) w15=>
 K (r14.1,()) w15)))
theorem stream_Stream_failed.vc (p0:Addr) (p1:Int) (w:World) (K:Int×Unit→World→Prop) (h:stream_Stream_failed.P p0 p1 w K):CallV Tryz.prog 166 #[.pointer (some p0),.int .i64 p1] w [.one (.int .i64)] K:=by
 refine vcFun.of (A:=stream_Stream_failed.A) (wr:=false) okf_ok follows h Tryz.func166 ?_
 kernel_rfl
def stream_Stream_write.A:Ann:=.two .no (.one (.two .no (.two (.two .no (.one (.loop [7,8,9,10,11,12,13,14,15,16,17,18,19,20,21,22,23,24,25,26,27,28,29,30,31,32,33,34,35,36,37,38,39,40,41,42,43,44,45,46,47,48,49,50,51,52,53,54,55,56,57,58,59,60,61,62,63,64,65,66,67,68,69,70,71] [(13,.one (.int .i64))] .no))) .no)))
def stream_Stream_write.P (p0:Addr) (p1:Int) (g2:FuncId) (cap2:Array Value) (w:World) (K:(Int×Int×Unit)×Int×Unit→World→Prop):Prop:=
 NewV #[.int .i64 0,.int .i64 0] 81 w fun b1 w2=>
 LoopV [.one (.int .i64)] ((0:Int),()) w2 fun (z3:Int×Unit) w4 (K5:Int×Unit→World→Prop)=>
 cond (decide (z3.1<256))
 (CallV Tryz.prog 162 #[.pointer (some p0),.int .i64 p1] w4 [.one .bool] fun (r6:Bool×Unit) w7=>
 cond r6.1
 (CallV Tryz.prog 163 #[.pointer (some p0),.int .i64 p1] w7 [.one (.int .i64)] fun (r8:Int×Unit) w9=>
 cond (r8.1 != 0)
 (StoreV w9 ⟨b1,0,none⟩ [.int .i64 0,.int .i64 0] fun w10=>
 LoadA w10 ⟨b1,0,none⟩ [.int .i64,.int .i64] fun (x11:Int×Int×Unit)=>
 K ((x11.1,x11.2.1,()),r8.1,()) w10)
 (Rng .i64 (z3.1+1) ∧
 K5 (z3.1+1,()) w9))
 ((0≤p1∧p1<(4:Int)) ∧
 LoadS w7 ((p0.add 8:Addr).add (p1.toNat*1)) (.int .i64) fun (x12:Int)=>
 LoadS w7 p0 .ptr fun (x13:Option Addr)=>
 CallV Tryz.prog 27 #[.pointer x13] w7 [.one .ptr] fun (r14:(Option Addr)×Unit) w15=>
 CallV Tryz.prog 164 #[.pointer r14.1,.int .i64 x12] w15 [.one (.int .i64)] fun (r16:Int×Unit) w17=>
 LoadS w17 p0 .ptr fun (x18:Option Addr)=>
 CallV Tryz.prog 27 #[.pointer x18] w17 [.one .ptr] fun (r19:(Option Addr)×Unit) w20=>
 CallV Tryz.prog 54 #[.pointer r19.1,.int .i64 x12] w20 [.agg [.int .i64,.int .i64,.int .i64,.int .i64,.bool,.bool,.bool,.bool,.bool]] fun (r21:(Int×Int×Int×Int×Bool×Bool×Bool×Bool×Bool×Unit)×Unit) w22=>
 cond (okf g2)
 (CallV Tryz.prog g2 ([]++((([.int .i64 x12,.int .i64 r21.1.2.1]:List Value))++(cap2).toList)).toArray w22 [.one (.int .i64)] fun (r23:Int×Unit) w24=>
 cond (r23.1 == 0)
 (LoadS w24 p0 .ptr fun (x25:Option Addr)=>
 CallV Tryz.prog 165 #[.pointer x25,.int .i64 x12,.int .i64 r21.1.2.1] w24 [.agg [.int .i64,.int .i64]] fun (r26:(Int×Int×Unit)×Unit) w27=>
 StoreV w27 ⟨b1,0,none⟩ [.int .i64 r26.1.1,.int .i64 r26.1.2.1] fun w28=>
 LoadA w28 ⟨b1,0,none⟩ [.int .i64,.int .i64] fun (x29:Int×Int×Unit)=>
 K ((x29.1,x29.2.1,()),(0:Int),()) w28)
 (cond (r23.1 == 5)
 (CallV Tryz.prog 166 #[.pointer (some p0),.int .i64 p1] w24 [.one (.int .i64)] fun (r30:Int×Unit) w31=>
 cond (r30.1 != 0)
 (StoreV w31 ⟨b1,0,none⟩ [.int .i64 0,.int .i64 0] fun w32=>
 LoadA w32 ⟨b1,0,none⟩ [.int .i64,.int .i64] fun (x33:Int×Int×Unit)=>
 K ((x33.1,x33.2.1,()),r30.1,()) w32)
 (Rng .i64 (z3.1+1) ∧
 K5 (z3.1+1,()) w31))
 (StoreV w24 ⟨b1,0,none⟩ [.int .i64 0,.int .i64 0] fun w34=>
 LoadA w34 ⟨b1,0,none⟩ [.int .i64,.int .i64] fun (x35:Int×Int×Unit)=>
 K ((x35.1,x35.2.1,()),r23.1,()) w34)))
 False))
 (StoreV w4 ⟨b1,0,none⟩ [.int .i64 0,.int .i64 0] fun w36=>
 LoadA w36 ⟨b1,0,none⟩ [.int .i64,.int .i64] fun (x37:Int×Int×Unit)=>
 K ((x37.1,x37.2.1,()),(19:Int),()) w36)
theorem stream_Stream_write.vc (p0:Addr) (p1:Int) (g2:FuncId) (cap2:Array Value) (w:World) (K:(Int×Int×Unit)×Int×Unit→World→Prop) (h:stream_Stream_write.P p0 p1 g2 cap2 w K):CallV Tryz.prog 115 #[.pointer (some p0),.int .i64 p1,.func (.func g2) #[] cap2] w [.agg [.int .i64,.int .i64],.one (.int .i64)] K:=by
 refine vcFun.of (A:=stream_Stream_write.A) (wr:=false) okf_ok follows h Tryz.func115 ?_
 kernel_rfl
def stream_Stream_copied.A:Ann:=.two .no (.two (.two .no (.one (.loop [6,7,8,9,12,13,14,15,16,17,18,19,20,21,22,23,24,25,26,27,28,29,30,31,32,33,34,35,36,37] [(12,.one (.int .i64))] (.two .no (.two .no (.two (.one (.two .no (.two .no (.two (.draw (.take 0 (.take 1 (.take 2 (.take 3 (.take 4 (.take 5 (.take 6 (.take 7 (.take 8 (.eff 9 (.take 10 (.done))))))))))))) .no)))) .no)))))) .no)
def stream_Stream_copied.P (p0:Addr) (p1:Int) (a2:Option Addr) (n2 c2:Nat) (w:World) (K:Int×Unit→World→Prop):Prop:=
 LoopV [.one (.int .i64)] ((0:Int),()) w fun (z1:Int×Unit) w2 (K3:Int×Unit→World→Prop)=>
 cond (decide (z1.1<((n2:Nat):Int)))
 ((0≤z1.1∧z1.1<((n2:Nat):Int))∧∃ q4:Addr,a2=some q4 ∧
 LoadA w2 (q4.add (z1.1.toNat*14)) [.int .i64,.int .i64,.int .i64,.int .i64,.int .i64,.int .u32,.int .u64,.int .u64,.int .i64,.int .i64,.int .i64,.int .u32,.int .u64,.int .u64] fun (x5:Int×Int×Int×Int×Int×Int×Int×Int×Int×Int×Int×Int×Int×Int×Unit)=>
 NewV #[.int .i64 0,.int .i64 0,.int .i64 0,.int .i64 0,.int .i64 0,.int .u32 0,.int .u64 0,.int .u64 0,.int .i64 0,.int .i64 0,.int .i64 0,.int .u32 0,.int .u64 0,.int .u64 0] 83 w2 fun b6 w7=>
 StoreV w7 ⟨b6,0,none⟩ [.int .i64 x5.1,.int .i64 x5.2.1,.int .i64 x5.2.2.1,.int .i64 x5.2.2.2.1,.int .i64 x5.2.2.2.2.1,.int .u32 x5.2.2.2.2.2.1,.int .u64 x5.2.2.2.2.2.2.1,.int .u64 x5.2.2.2.2.2.2.2.1,.int .i64 x5.2.2.2.2.2.2.2.2.1,.int .i64 x5.2.2.2.2.2.2.2.2.2.1,.int .i64 x5.2.2.2.2.2.2.2.2.2.2.1,.int .u32 x5.2.2.2.2.2.2.2.2.2.2.2.1,.int .u64 x5.2.2.2.2.2.2.2.2.2.2.2.2.1,.int .u64 x5.2.2.2.2.2.2.2.2.2.2.2.2.2.1] fun w8=>
 LoadS w8 p0 .ptr fun (x9:Option Addr)=>
 CallV Tryz.prog 27 #[.pointer x9] w8 [.one .ptr] fun (r10:(Option Addr)×Unit) w11=>
 CallV Tryz.prog 164 #[.pointer r10.1,.int .i64 p1] w11 [.one (.int .i64)] fun (r12:Int×Unit) w13=>
 DrawV fun D14=>
 (D14 p0.block∧LoadS w13.drew p0 .ptr fun (x15:Option Addr)=>
 Rng .i64 (z1.1+1) ∧
 (D14 b6∧LoadA w13.drew ⟨b6,0,none⟩ [.int .i64,.int .i64] fun (x16:Int×Int×Unit)=>
 CallV Tryz.prog 209 #[.pointer x15,.int .i64 p1,.int .i64 (z1.1+1),.agg #[.int .i64 x16.1,.int .i64 x16.2.1]] w13.drew [.one (.int .i64)] fun (r17:Int×Unit) w18=>
 KeepOn D14 w13.drew w18 ∧
 cond (r17.1 != 0)
 (K (r17.1,()) w18)
 (Rng .i64 (z1.1+1) ∧
 K3 (z1.1+1,()) w18))))
 (LoadS w2 p0 .ptr fun (x19:Option Addr)=>
 CallV Tryz.prog 210 #[.pointer x19,.int .i64 p1] w2 [.one (.int .i64)] fun (r20:Int×Unit) w21=>
 K (r20.1,()) w21)
theorem stream_Stream_copied.vc (p0:Addr) (p1:Int) (a2:Option Addr) (n2 c2:Nat) (w:World) (K:Int×Unit→World→Prop) (h:stream_Stream_copied.P p0 p1 a2 n2 c2 w K):CallV Tryz.prog 177 #[.pointer (some p0),.int .i64 p1,.slice a2 n2 c2] w [.one (.int .i64)] K:=by
 refine vcFun.of (A:=stream_Stream_copied.A) (wr:=false) okf_ok follows h Tryz.func177 ?_
 kernel_rfl
def stream_Stream_moved.A:Ann:=.two (.two .no (.one (.loop [10,11,14,15,16,17,18,19,20,21,22,23,24,25,26,27,28,29,30,31,32,33,34,35,36,37,38,39,40] [(14,.one (.int .i64))] (.two .no (.two .no (.two (.one (.two .no (.draw (.take 0 (.take 1 (.take 2 (.take 3 (.take 4 (.take 5 (.take 6 (.take 7 (.take 8 (.take 9 (.take 10 (.take 11 (.take 12 (.take 14 (.take 15 (.take 16 (.take 17 (.take 18 (.eff 13 (.eff 19 (.eff 20 (.done))))))))))))))))))))))))) .no)))))) .no
def stream_Stream_moved.P (p0:Addr) (p1 p2 p3:Int) (a4:Option Addr) (n4 c4:Nat) (w:World) (K:Unit→World→Prop):Prop:=
 LoopV [.one (.int .i64)] ((0:Int),()) w fun (z1:Int×Unit) w2 (K3:Int×Unit→World→Prop)=>
 cond (decide (z1.1<((n4:Nat):Int)))
 ((0≤z1.1∧z1.1<((n4:Nat):Int))∧∃ q4:Addr,a4=some q4 ∧
 LoadA w2 (q4.add (z1.1.toNat*14)) [.int .i64,.int .i64,.int .i64,.int .i64,.int .i64,.int .u32,.int .u64,.int .u64,.int .i64,.int .i64,.int .i64,.int .u32,.int .u64,.int .u64] fun (x5:Int×Int×Int×Int×Int×Int×Int×Int×Int×Int×Int×Int×Int×Int×Unit)=>
 NewV #[.int .i64 0,.int .i64 0,.int .i64 0,.int .i64 0,.int .i64 0,.int .u32 0,.int .u64 0,.int .u64 0,.int .i64 0,.int .i64 0,.int .i64 0,.int .u32 0,.int .u64 0,.int .u64 0] 83 w2 fun b6 w7=>
 StoreV w7 ⟨b6,0,none⟩ [.int .i64 x5.1,.int .i64 x5.2.1,.int .i64 x5.2.2.1,.int .i64 x5.2.2.2.1,.int .i64 x5.2.2.2.2.1,.int .u32 x5.2.2.2.2.2.1,.int .u64 x5.2.2.2.2.2.2.1,.int .u64 x5.2.2.2.2.2.2.2.1,.int .i64 x5.2.2.2.2.2.2.2.2.1,.int .i64 x5.2.2.2.2.2.2.2.2.2.1,.int .i64 x5.2.2.2.2.2.2.2.2.2.2.1,.int .u32 x5.2.2.2.2.2.2.2.2.2.2.2.1,.int .u64 x5.2.2.2.2.2.2.2.2.2.2.2.2.1,.int .u64 x5.2.2.2.2.2.2.2.2.2.2.2.2.2.1] fun w8=>
 DrawV fun D9=>
 (D9 (p0.add 1).block∧LoadS w8.drew (p0.add 1) .ptr fun (x10:Option Addr)=>
 (D9 b6∧LoadA w8.drew ⟨b6,0,none⟩ [.int .i64,.int .i64] fun (x11:Int×Int×Unit)=>
 (D9 p0.block∧LoadS w8.drew p0 .ptr fun (x12:Option Addr)=>
 Rng .i64 (z1.1+1) ∧
 (D9 p0.block∧LoadS w8.drew p0 .ptr fun (x13:Option Addr)=>
 CallV Tryz.prog 165 #[.pointer x12,.int .i64 p2,.int .i64 (z1.1+1)] w8.drew [.agg [.int .i64,.int .i64]] fun (r14:(Int×Int×Unit)×Unit) w15=>
 KeepOn D9 w8.drew w15 ∧
 CallV Tryz.prog 119 #[.pointer x13,.int .i64 p2] w15 [.agg [.int .i64,.int .i64,.int .i64,.int .u32,.int .u64,.int .u64]] fun (r16:(Int×Int×Int×Int×Int×Int×Unit)×Unit) w17=>
 KeepOn D9 w8.drew w17 ∧
 CallV Tryz.prog 211 #[.pointer x10,.agg #[.int .i64 x11.1,.int .i64 x11.2.1],.agg #[.int .i64 r14.1.1,.int .i64 r14.1.2.1],.agg #[.int .i64 r16.1.1,.int .i64 r16.1.2.1,.int .i64 r16.1.2.2.1,.int .u32 r16.1.2.2.2.1,.int .u64 r16.1.2.2.2.2.1,.int .u64 r16.1.2.2.2.2.2.1]] w17 [.one (.int .i64)] fun (r18:Int×Unit) w19=>
 KeepOn D9 w8.drew w19 ∧
 Rng .i64 (z1.1+1) ∧
 K3 (z1.1+1,()) w19)))))
 (LoadS w2 p0 .ptr fun (x20:Option Addr)=>
 CallV Tryz.prog 27 #[.pointer x20] w2 [.one .ptr] fun (r21:(Option Addr)×Unit) w22=>
 CallV Tryz.prog 121 #[.pointer r21.1,.int .i64 p2,.int .i64 ((n4:Nat):Int)] w22 [.one (.int .i64)] fun (r23:Int×Unit) w24=>
 LoadS w24 p0 .ptr fun (x25:Option Addr)=>
 CallV Tryz.prog 27 #[.pointer x25] w24 [.one .ptr] fun (r26:(Option Addr)×Unit) w27=>
 CallV Tryz.prog 113 #[.pointer r26.1,.int .i64 p1] w27 [.one (.int .i64)] fun (r28:Int×Unit) w29=>
 (0≤p3∧p3<(4:Int)) ∧
 LoadS w29 ((p0.add 8:Addr).add (p3.toNat*1)) (.int .i64) fun (x30:Int)=>
 cond (decide (x30<0))
 ((0≤p3∧p3<(4:Int)) ∧
 StoreV w29 ((p0.add 8:Addr).add (p3.toNat*1)) [.int .i64 p2] fun w31=>
 K () w31)
 (K () w29))
set_option maxRecDepth 65536 in
theorem stream_Stream_moved.vc (p0:Addr) (p1 p2 p3:Int) (a4:Option Addr) (n4 c4:Nat) (w:World) (K:Unit→World→Prop) (h:stream_Stream_moved.P p0 p1 p2 p3 a4 n4 c4 w K):CallV Tryz.prog 178 #[.pointer (some p0),.int .i64 p1,.int .i64 p2,.int .i64 p3,.slice a4 n4 c4] w [] K:=by
 refine vcFun.of (A:=stream_Stream_moved.A) (wr:=false) okf_ok follows h Tryz.func178 ?_
 kernel_rfl
def stream_Stream_spoilt.A:Ann:=.no
def stream_Stream_spoilt.P (p0:Addr) (p1:Int) (w:World) (K:Int×Unit→World→Prop):Prop:=
 LoadS w p0 .ptr fun (x1:Option Addr)=>
 CallV Tryz.prog 27 #[.pointer x1] w [.one .ptr] fun (r2:(Option Addr)×Unit) w3=>
 CallV Tryz.prog 182 #[.pointer r2.1,.int .i64 p1] w3 [.one (.int .i64)] fun (r4:Int×Unit) w5=>
 LoadS w5 p0 .ptr fun (x6:Option Addr)=>
 CallV Tryz.prog 27 #[.pointer x6] w5 [.one .ptr] fun (r7:(Option Addr)×Unit) w8=>
 CallV Tryz.prog 113 #[.pointer r7.1,.int .i64 p1] w8 [.one (.int .i64)] fun (r9:Int×Unit) w10=>
 CallV Tryz.prog 47 #[.pointer (some p0),.int .i64 p1] w10 [.one (.int .i64)] fun (r11:Int×Unit) w12=>
 cond (r11.1 == 4)
 (K (r11.1,()) w12)
 (CallV Tryz.prog 111 #[.pointer (some p0)] w12 [.one (.int .i64)] fun (r13:Int×Unit) w14=>
 K (r13.1,()) w14)
theorem stream_Stream_spoilt.vc (p0:Addr) (p1:Int) (w:World) (K:Int×Unit→World→Prop) (h:stream_Stream_spoilt.P p0 p1 w K):CallV Tryz.prog 179 #[.pointer (some p0),.int .i64 p1] w [.one (.int .i64)] K:=by
 refine vcFun.of (A:=stream_Stream_spoilt.A) (wr:=false) okf_ok follows h Tryz.func179 ?_
 kernel_rfl
def stream_Stream_empty.A:Ann:=.two .no (.join [13,14,15,16,17,18,19,20,21,22,23,24,25] [] .no (.two .no (.two .no (.two (.two .no (.one (.loop [6,8,9,10,11,12,43,44,45,46,47,48,49,50,51,52,53,54,55,56,57,58,59,60,61,62,63,64,65,66,67,68,69,70,71,72,73,74,75,76,77,78,79,80,81,82,83,84,85,86,87,88,89,90,91,92,93] [(43,.one (.int .i64))] (.two .no (.two .no (.two (.one (.join [8,9,45,46,47,48,49,50,51,52,53,54,55] [(8,.one (.int .i64)),(9,.one (.int .i64))] (.draw (.take 0 (.take 1 (.take 2 (.take 4 (.take 5 (.both 3 (.eff 6 (.eff 7 (.take 8 (.take 9 (.take 10 (.take 11 (.take 12 (.done)))))))) 6 (.eff 3 (.eff 7 (.take 8 (.take 9 (.take 10 (.take 11 (.take 12 (.done))))))))))))))) .no)) .no)))))) .no))))
def stream_Stream_empty.P (p0:Addr) (p1 p2:Int) (w:World) (K:Int×Unit→World→Prop):Prop:=
 JoinV [] (fun (v2:Unit) w3=>
 LoadS w3 (p0.add 1) .ptr fun (x4:Option Addr)=>
 Rng .i64 ((4:Int)+p1) ∧
 CallV Tryz.prog 53 #[.pointer x4,.int .i64 ((4:Int)+p1)] w3 [.one .sl] fun (r5:SlV×Unit) w6=>
 cond (((r5.1.n:Nat):Int) == 0)
 (LoadS w6 p0 .ptr fun (x7:Option Addr)=>
 CallV Tryz.prog 27 #[.pointer x7] w6 [.one .ptr] fun (r8:(Option Addr)×Unit) w9=>
 CallV Tryz.prog 113 #[.pointer r8.1,.int .i64 p1] w9 [.one (.int .i64)] fun (r10:Int×Unit) w11=>
 K ((0:Int),()) w11)
 (LoopV [.one (.int .i64)] ((0:Int),()) w6 fun (z12:Int×Unit) w13 (K14:Int×Unit→World→Prop)=>
 cond (decide (z12.1<256))
 (JoinV [.one (.int .i64),.one (.int .i64)] (fun (v16:Int×Int×Unit) w17=>
 CallV Tryz.prog 176 #[.pointer (some p0),.int .i64 v16.2.1] w17 [.one (.int .i64)] fun (r18:Int×Unit) w19=>
 cond (r18.1 != 0)
 (cond (v16.2.1 == 0)
 (LoadS w19 p0 .ptr fun (x20:Option Addr)=>
 CallV Tryz.prog 27 #[.pointer x20] w19 [.one .ptr] fun (r21:(Option Addr)×Unit) w22=>
 CallV Tryz.prog 113 #[.pointer r21.1,.int .i64 v16.1] w22 [.one (.int .i64)] fun (r23:Int×Unit) w24=>
 K (r18.1,()) w24)
 (K (r18.1,()) w19))
 (CallV Tryz.prog 177 #[.pointer (some p0),.int .i64 v16.1,.slice r5.1.a r5.1.n r5.1.c] w19 [.one (.int .i64)] fun (r25:Int×Unit) w26=>
 cond (r25.1 == 0)
 (CallV Tryz.prog 178 #[.pointer (some p0),.int .i64 p1,.int .i64 v16.1,.int .i64 p2,.slice r5.1.a r5.1.n r5.1.c] w26 [] fun (r27:Unit) w28=>
 K ((0:Int),()) w28)
 (cond (r25.1 == 5)
 (CallV Tryz.prog 179 #[.pointer (some p0),.int .i64 v16.1] w26 [.one (.int .i64)] fun (r29:Int×Unit) w30=>
 cond (r29.1 != 0)
 (K (r29.1,()) w30)
 (Rng .i64 (z12.1+1) ∧
 K14 (z12.1+1,()) w30))
 (K (r25.1,()) w26)))) fun (J15:Int×Int×Unit→World→Prop)=>
 DrawV fun D31=>
 ((LoadS w13.drew p0 .ptr fun (x32:Option Addr)=>
 KeepOn D31 w13.drew w13.drew ∧
 CallV Tryz.prog 175 #[.pointer (some p0)] w13.drew [.agg [.int .i64,.int .i64,.int .i64,.int .u32,.int .u64,.int .u64]] fun (r33:(Int×Int×Int×Int×Int×Int×Unit)×Unit) w34=>
 KeepOn D31 w13.drew w34 ∧
 CallV Tryz.prog 174 #[.pointer x32,.int .i64 p2,.agg #[.int .i64 r33.1.1,.int .i64 r33.1.2.1,.int .i64 r33.1.2.2.1,.int .u32 r33.1.2.2.2.1,.int .u64 r33.1.2.2.2.2.1,.int .u64 r33.1.2.2.2.2.2.1]] w34 [.one (.int .i64),.one (.int .i64)] fun (r35:Int×Int×Unit) w36=>
 KeepOn D31 w13.drew w36 ∧
 J15 (r35.1,r35.2.1,()) w36) ∧
 (CallV Tryz.prog 175 #[.pointer (some p0)] w13.drew [.agg [.int .i64,.int .i64,.int .i64,.int .u32,.int .u64,.int .u64]] fun (r37:(Int×Int×Int×Int×Int×Int×Unit)×Unit) w38=>
 KeepOn D31 w13.drew w38 ∧
 LoadS w38 p0 .ptr fun (x39:Option Addr)=>
 KeepOn D31 w13.drew w38 ∧
 CallV Tryz.prog 174 #[.pointer x39,.int .i64 p2,.agg #[.int .i64 r37.1.1,.int .i64 r37.1.2.1,.int .i64 r37.1.2.2.1,.int .u32 r37.1.2.2.2.1,.int .u64 r37.1.2.2.2.2.1,.int .u64 r37.1.2.2.2.2.2.1]] w38 [.one (.int .i64),.one (.int .i64)] fun (r40:Int×Int×Unit) w41=>
 KeepOn D31 w13.drew w41 ∧
 J15 (r40.1,r40.2.1,()) w41)))
 (K ((19:Int),()) w13))) fun (J1:Unit→World→Prop)=>
 (0≤p2∧p2<(4:Int)) ∧
 LoadS w ((p0.add 8:Addr).add (p2.toNat*1)) (.int .i64) fun (x42:Int)=>
 cond (x42 == p1)
 ((0≤p2∧p2<(4:Int)) ∧
 StoreV w ((p0.add 8:Addr).add (p2.toNat*1)) [.int .i64 (-1)] fun w43=>
 J1 (()) w43)
 (J1 (()) w)
theorem stream_Stream_empty.vc (p0:Addr) (p1 p2:Int) (w:World) (K:Int×Unit→World→Prop) (h:stream_Stream_empty.P p0 p1 p2 w K):CallV Tryz.prog 124 #[.pointer (some p0),.int .i64 p1,.int .i64 p2] w [.one (.int .i64)] K:=by
 refine vcFun.of (A:=stream_Stream_empty.A) (wr:=false) okf_ok follows h Tryz.func124 ?_
 kernel_rfl
def stream_Stream_dead.A:Ann:=.two .no (.one (.loop [5,6,7,10,11,12,13,14,15,16,17,18,19,20,21,22,23,24,25,26,27,28,29,30,31,32,33,34,35,36,37,38,39,40,41,42,43,44,45,46,47,48,49,50,51,52,53,54] [(10,.one (.int .i64))] .no))
def stream_Stream_dead.P (p0:Addr) (a1:Option Addr) (n1 c1:Nat) (w:World) (K:Unit→World→Prop):Prop:=
 LoopV [.one (.int .i64)] ((0:Int),()) w fun (z1:Int×Unit) w2 (K3:Int×Unit→World→Prop)=>
 cond (decide (z1.1<((n1:Nat):Int)))
 ((0≤z1.1∧z1.1<((n1:Nat):Int))∧∃ q4:Addr,a1=some q4 ∧
 LoadA w2 (q4.add (z1.1.toNat*2)) [.int .i64,.int .i64] fun (x5:Int×Int×Unit)=>
 NewV #[.int .i64 0,.int .i64 0] 81 w2 fun b6 w7=>
 StoreV w7 ⟨b6,0,none⟩ [.int .i64 x5.1,.int .i64 x5.2.1] fun w8=>
 LoadS w8 ⟨b6,0,none⟩ (.int .i64) fun (x9:Int)=>
 Rng .i64 (x9-4) ∧
 LoadS w8 p0 .ptr fun (x10:Option Addr)=>
 CallV Tryz.prog 27 #[.pointer x10] w8 [.one .ptr] fun (r11:(Option Addr)×Unit) w12=>
 CallV Tryz.prog 121 #[.pointer r11.1,.int .i64 (x9-4),.int .i64 (-1)] w12 [.one (.int .i64)] fun (r13:Int×Unit) w14=>
 LoadS w14 p0 .ptr fun (x15:Option Addr)=>
 CallV Tryz.prog 27 #[.pointer x15] w14 [.one .ptr] fun (r16:(Option Addr)×Unit) w17=>
 CallV Tryz.prog 54 #[.pointer r16.1,.int .i64 (x9-4)] w17 [.agg [.int .i64,.int .i64,.int .i64,.int .i64,.bool,.bool,.bool,.bool,.bool]] fun (r18:(Int×Int×Int×Int×Bool×Bool×Bool×Bool×Bool×Unit)×Unit) w19=>
 NewV #[.int .i64 0,.int .i64 0,.int .i64 0,.int .i64 0,.bool false,.bool false,.bool false,.bool false,.bool false] 103 w19 fun b20 w21=>
 StoreV w21 ⟨b20,0,none⟩ [.int .i64 r18.1.1,.int .i64 r18.1.2.1,.int .i64 r18.1.2.2.1,.int .i64 r18.1.2.2.2.1,.bool r18.1.2.2.2.2.1,.bool r18.1.2.2.2.2.2.1,.bool r18.1.2.2.2.2.2.2.1,.bool r18.1.2.2.2.2.2.2.2.1,.bool r18.1.2.2.2.2.2.2.2.2.1] fun w22=>
 LoadS w22 ⟨b20,2,none⟩ (.int .i64) fun (x23:Int)=>
 cond (x23 == 0)
 (LoadS w22 ⟨b20,4,none⟩ .bool fun (x24:Bool)=>
 cond x24
 (SubK (some (p0.add 8)) 0 4 1 fun a25=>
 CallV Tryz.prog 173 #[.slice a25 (4-0) (4-0),.int .i64 (x9-4)] w22 [.one .bool] fun (r26:Bool×Unit) w27=>
 cond (!r26.1)
 (LoadS w27 p0 .ptr fun (x28:Option Addr)=>
 CallV Tryz.prog 27 #[.pointer x28] w27 [.one .ptr] fun (r29:(Option Addr)×Unit) w30=>
 CallV Tryz.prog 113 #[.pointer r29.1,.int .i64 (x9-4)] w30 [.one (.int .i64)] fun (r31:Int×Unit) w32=>
 Rng .i64 (z1.1+1) ∧
 K3 (z1.1+1,()) w32)
 (Rng .i64 (z1.1+1) ∧
 K3 (z1.1+1,()) w27))
 (Rng .i64 (z1.1+1) ∧
 K3 (z1.1+1,()) w22))
 (Rng .i64 (z1.1+1) ∧
 K3 (z1.1+1,()) w22))
 (K () w2)
set_option maxRecDepth 65536 in
theorem stream_Stream_dead.vc (p0:Addr) (a1:Option Addr) (n1 c1:Nat) (w:World) (K:Unit→World→Prop) (h:stream_Stream_dead.P p0 a1 n1 c1 w K):CallV Tryz.prog 122 #[.pointer (some p0),.slice a1 n1 c1] w [] K:=by
 refine vcFun.of (A:=stream_Stream_dead.A) (wr:=false) okf_ok follows h Tryz.func122 ?_
 kernel_rfl
def stream_Stream_may.A:Ann:=.two .no (.two (.draw (.take 0 (.take 1 (.take 2 (.take 3 (.take 4 (.take 5 (.eff 6 (.take 7 (.done)))))))))) .no)
def stream_Stream_may.P (p0:Addr) (p1_0 p1_1 p1_2 p1_3 p1_4 p1_5:Int) (w:World) (K:Bool×Unit→World→Prop):Prop:=
 NewV #[.int .i64 p1_0,.int .i64 p1_1,.int .i64 p1_2,.int .u32 p1_3,.int .u64 p1_4,.int .u64 p1_5] 62 w fun b1 w2=>
 DrawV fun D3=>
 (D3 (p0.add 1).block∧LoadS w2.drew (p0.add 1) .ptr fun (x4:Option Addr)=>
 (D3 b1∧LoadS w2.drew ⟨b1,1,none⟩ (.int .i64) fun (x5:Int)=>
 CallV Tryz.prog 25 #[.pointer x4,.int .i64 x5] w2.drew [.one (.int .i64)] fun (r6:Int×Unit) w7=>
 KeepOn D3 w2.drew w7 ∧
 cond (decide (r6.1>0))
 (LoadS w7 ⟨b1,0,none⟩ (.int .i64) fun (x8:Int)=>
 cond (x8 == 1)
 (LoadS w7 ⟨b1,2,none⟩ (.int .i64) fun (x9:Int)=>
 cond (decide (x9≥1))
 (LoadS w7 ⟨b1,2,none⟩ (.int .i64) fun (x10:Int)=>
 cond (decide (x10≤r6.1))
 (LoadS w7 ⟨b1,3,none⟩ (.int .u32) fun (x11:Int)=>
 LoadS w7 ⟨b1,2,none⟩ (.int .i64) fun (x12:Int)=>
 Rng .i64 (r6.1-x12) ∧
 K (decide ((IntKind.i64.wrap x11)≤(r6.1-x12)),()) w7)
 (K (false,()) w7))
 (K (false,()) w7))
 (LoadS w7 ⟨b1,0,none⟩ (.int .i64) fun (x13:Int)=>
 cond (x13 == 2)
 (LoadS w7 ⟨b1,2,none⟩ (.int .i64) fun (x14:Int)=>
 cond (decide (x14≥1))
 (LoadS w7 ⟨b1,2,none⟩ (.int .i64) fun (x15:Int)=>
 cond (decide (x15≤r6.1))
 (LoadS w7 ⟨b1,3,none⟩ (.int .u32) fun (x16:Int)=>
 LoadS w7 ⟨b1,2,none⟩ (.int .i64) fun (x17:Int)=>
 Rng .i64 (r6.1-x17) ∧
 K (decide ((IntKind.i64.wrap x16)≤(r6.1-x17)),()) w7)
 (K (false,()) w7))
 (K (false,()) w7))
 (K (false,()) w7)))
 (K (false,()) w7)))
theorem stream_Stream_may.vc (p0:Addr) (p1_0 p1_1 p1_2 p1_3 p1_4 p1_5:Int) (w:World) (K:Bool×Unit→World→Prop) (h:stream_Stream_may.P p0 p1_0 p1_1 p1_2 p1_3 p1_4 p1_5 w K):CallV Tryz.prog 114 #[.pointer (some p0),.agg #[.int .i64 p1_0,.int .i64 p1_1,.int .i64 p1_2,.int .u32 p1_3,.int .u64 p1_4,.int .u64 p1_5]] w [.one .bool] K:=by
 refine vcFun.of (A:=stream_Stream_may.A) (wr:=false) okf_ok follows h Tryz.func114 ?_
 kernel_rfl
def stream_Stream_Put.A:Ann:=.two .no (.two .no (.two .no (.two .no (.two .no (.two .no (.two (.draw (.take 0 (.take 1 (.take 2 (.take 3 (.take 4 (.take 5 (.take 6 (.take 7 (.take 8 (.take 9 (.take 10 (.eff 11 (.take 12 (.eff 13 (.take 14 (.take 15 (.take 16 (.take 17 (.take 18 (.done))))))))))))))))))))) (.two .no (.two (.two (.draw (.take 0 (.take 1 (.take 2 (.take 3 (.take 4 (.eff 5 (.take 6 (.done))))))))) .no) .no))))))))
def stream_Stream_Put.P (p0:Addr) (p1_0 p1_1 p1_2 p1_3 p1_4 p1_5:Int) (a2:Option Addr) (n2 c2:Nat) (a3:Option Addr) (n3 c3:Nat) (w:World) (K:Int×Unit→World→Prop):Prop:=
 NewV #[.pointer (some p0)] 32 w fun b1 w2=>
 NewV #[.int .i64 p1_0,.int .i64 p1_1,.int .i64 p1_2,.int .u32 p1_3,.int .u64 p1_4,.int .u64 p1_5] 62 w2 fun b3 w4=>
 NewV #[.slice a2 n2 c2] 63 w4 fun b5 w6=>
 NewV #[.slice a3 n3 c3] 63 w6 fun b7 w8=>
 LoadS w8 ⟨b1,0,none⟩ .ptr fun (x9:Option Addr)=>
 cond x9.isNone
 (K ((2:Int),()) w8)
 (LoadS w8 ⟨b1,0,none⟩ .ptr fun (x10:Option Addr)=>
 LoadA w8 ⟨b3,0,none⟩ [.int .i64,.int .i64,.int .i64,.int .u32,.int .u64,.int .u64] fun (x11:Int×Int×Int×Int×Int×Int×Unit)=>
 CallV Tryz.prog 114 #[.pointer x10,.agg #[.int .i64 x11.1,.int .i64 x11.2.1,.int .i64 x11.2.2.1,.int .u32 x11.2.2.2.1,.int .u64 x11.2.2.2.2.1,.int .u64 x11.2.2.2.2.2.1]] w8 [.one .bool] fun (r12:Bool×Unit) w13=>
 cond (!r12.1)
 (K ((2:Int),()) w13)
 (LoadS w13 ⟨b1,0,none⟩ .ptr fun (x14:Option Addr)=>
 PtrK x14 fun q15=>
 LoadS w13 (q15.add 15) .bool fun (x16:Bool)=>
 cond x16
 (K ((15:Int),()) w13)
 (LoadS w13 ⟨b1,0,none⟩ .ptr fun (x17:Option Addr)=>
 LoadS w13 ⟨b3,1,none⟩ (.int .i64) fun (x18:Int)=>
 CallV Tryz.prog 115 #[.pointer x17,.int .i64 x18,.func (.func 116) #[] #[.pointer (some ⟨b1,0,none⟩),.pointer (some ⟨b3,0,none⟩),.pointer (some ⟨b5,0,none⟩),.pointer (some ⟨b7,0,none⟩)]] w13 [.agg [.int .i64,.int .i64],.one (.int .i64)] fun (r19:(Int×Int×Unit)×Int×Unit) w20=>
 NewV #[.int .i64 0,.int .i64 0] 81 w20 fun b21 w22=>
 StoreV w22 ⟨b21,0,none⟩ [.int .i64 r19.1.1,.int .i64 r19.1.2.1] fun w23=>
 cond (r19.2.1 != 0)
 (K (r19.2.1,()) w23)
 (LoadS w23 ⟨b21,0,none⟩ (.int .i64) fun (x24:Int)=>
 Rng .i64 (x24-4) ∧
 DrawV fun D25=>
 (D25 b1∧LoadS w23.drew ⟨b1,0,none⟩ .ptr fun (x26:Option Addr)=>
 PtrK x26 fun q27=>
 (D25 (q27.add 1).block∧LoadS w23.drew (q27.add 1) .ptr fun (x28:Option Addr)=>
 (D25 b21∧LoadA w23.drew ⟨b21,0,none⟩ [.int .i64,.int .i64] fun (x29:Int×Int×Unit)=>
 (D25 b3∧LoadA w23.drew ⟨b3,0,none⟩ [.int .i64,.int .i64,.int .i64,.int .u32,.int .u64,.int .u64] fun (x30:Int×Int×Int×Int×Int×Int×Unit)=>
 (D25 b1∧LoadS w23.drew ⟨b1,0,none⟩ .ptr fun (x31:Option Addr)=>
 PtrK x31 fun q32=>
 (D25 q32.block∧LoadS w23.drew q32 .ptr fun (x33:Option Addr)=>
 CallV Tryz.prog 119 #[.pointer x33,.int .i64 (x24-4)] w23.drew [.agg [.int .i64,.int .i64,.int .i64,.int .u32,.int .u64,.int .u64]] fun (r34:(Int×Int×Int×Int×Int×Int×Unit)×Unit) w35=>
 KeepOn D25 w23.drew w35 ∧
 CallV Tryz.prog 118 #[.pointer x28,.agg #[.int .i64 x29.1,.int .i64 x29.2.1,.int .i64 x30.1,.int .i64 x30.2.1,.int .i64 x30.2.2.1,.int .u32 x30.2.2.2.1,.int .u64 x30.2.2.2.2.1,.int .u64 x30.2.2.2.2.2.1,.int .i64 r34.1.1,.int .i64 r34.1.2.1,.int .i64 r34.1.2.2.1,.int .u32 r34.1.2.2.2.1,.int .u64 r34.1.2.2.2.2.1,.int .u64 r34.1.2.2.2.2.2.1]] w35 [.one .sl,.one (.int .i64)] fun (r36:SlV×Int×Unit) w37=>
 KeepOn D25 w23.drew w37 ∧
 cond (r36.2.1 != 0)
 (K (r36.2.1,()) w37)
 (DrawV fun D38=>
 (D38 b1∧LoadS w37.drew ⟨b1,0,none⟩ .ptr fun (x39:Option Addr)=>
 PtrK x39 fun q40=>
 (D38 (q40.add 1).block∧LoadS w37.drew (q40.add 1) .ptr fun (x41:Option Addr)=>
 (D38 b21∧LoadA w37.drew ⟨b21,0,none⟩ [.int .i64,.int .i64] fun (x42:Int×Int×Unit)=>
 CallV Tryz.prog 120 #[.pointer x41,.agg #[.int .i64 x42.1,.int .i64 x42.2.1]] w37.drew [.one (.int .i64)] fun (r43:Int×Unit) w44=>
 KeepOn D38 w37.drew w44 ∧
 cond (decide (r43.1>0))
 (LoadS w44 ⟨b1,0,none⟩ .ptr fun (x45:Option Addr)=>
 PtrK x45 fun q46=>
 LoadS w44 q46 .ptr fun (x47:Option Addr)=>
 CallV Tryz.prog 27 #[.pointer x47] w44 [.one .ptr] fun (r48:(Option Addr)×Unit) w49=>
 CallV Tryz.prog 121 #[.pointer r48.1,.int .i64 (x24-4),.int .i64 1] w49 [.one (.int .i64)] fun (r50:Int×Unit) w51=>
 LoadS w51 ⟨b1,0,none⟩ .ptr fun (x52:Option Addr)=>
 CallV Tryz.prog 122 #[.pointer x52,.slice r36.1.a r36.1.n r36.1.c] w51 [] fun (r53:Unit) w54=>
 K ((0:Int),()) w54)
 (LoadS w44 ⟨b1,0,none⟩ .ptr fun (x55:Option Addr)=>
 CallV Tryz.prog 122 #[.pointer x55,.slice r36.1.a r36.1.n r36.1.c] w44 [] fun (r56:Unit) w57=>
 K ((0:Int),()) w57)))))))))))))))
theorem stream_Stream_Put.vc (p0:Addr) (p1_0 p1_1 p1_2 p1_3 p1_4 p1_5:Int) (a2:Option Addr) (n2 c2:Nat) (a3:Option Addr) (n3 c3:Nat) (w:World) (K:Int×Unit→World→Prop) (h:stream_Stream_Put.P p0 p1_0 p1_1 p1_2 p1_3 p1_4 p1_5 a2 n2 c2 a3 n3 c3 w K):CallV Tryz.prog 45 #[.pointer (some p0),.agg #[.int .i64 p1_0,.int .i64 p1_1,.int .i64 p1_2,.int .u32 p1_3,.int .u64 p1_4,.int .u64 p1_5],.slice a2 n2 c2,.slice a3 n3 c3] w [.one (.int .i64)] K:=by
 refine vcFun.of (A:=stream_Stream_Put.A) (wr:=false) okf_ok follows h Tryz.func45 ?_
 kernel_rfl
def stream_Stream_Put_1.A:Ann:=.two .no (.two (.draw (.take 0 (.take 1 (.take 2 (.take 3 (.take 4 (.take 5 (.take 6 (.take 7 (.take 8 (.eff 9 (.take 10 (.done))))))))))))) .no)
def stream_Stream_Put_1.P (p0 p1:Int) (cq0 cq1 cq2 cq3:Addr) (w:World) (K:Int×Unit→World→Prop):Prop:=
 DrawV fun D1=>
 (D1 cq0.block∧LoadS w.drew cq0 .ptr fun (x2:Option Addr)=>
 PtrK x2 fun q3=>
 (D1 q3.block∧LoadS w.drew q3 .ptr fun (x4:Option Addr)=>
 (D1 cq1.block∧LoadA w.drew cq1 [.int .i64,.int .i64,.int .i64,.int .u32,.int .u64,.int .u64] fun (x5:Int×Int×Int×Int×Int×Int×Unit)=>
 (D1 cq2.block∧LoadS w.drew cq2 .sl fun (x6:SlV)=>
 (D1 cq3.block∧LoadS w.drew cq3 .sl fun (x7:SlV)=>
 CallV Tryz.prog 117 #[.pointer x4,.int .i64 p0,.int .i64 p1,.agg #[.int .i64 x5.1,.int .i64 x5.2.1,.int .i64 x5.2.2.1,.int .u32 x5.2.2.2.1,.int .u64 x5.2.2.2.2.1,.int .u64 x5.2.2.2.2.2.1],.slice x6.a x6.n x6.c,.slice x7.a x7.n x7.c] w.drew [.one (.int .i64)] fun (r8:Int×Unit) w9=>
 KeepOn D1 w.drew w9 ∧
 K (r8.1,()) w9)))))
theorem stream_Stream_Put_1.vc (p0 p1:Int) (cq0 cq1 cq2 cq3:Addr) (w:World) (K:Int×Unit→World→Prop) (h:stream_Stream_Put_1.P p0 p1 cq0 cq1 cq2 cq3 w K):CallV Tryz.prog 116 #[.int .i64 p0,.int .i64 p1,.pointer (some cq0),.pointer (some cq1),.pointer (some cq2),.pointer (some cq3)] w [.one (.int .i64)] K:=by
 refine vcFun.of (A:=stream_Stream_Put_1.A) (wr:=false) okf_ok follows h Tryz.func116 ?_
 kernel_rfl
def stream_Stream_has.A:Ann:=.no
def stream_Stream_has.P (p0:Addr) (p1:Int) (w:World) (K:Bool×Unit→World→Prop):Prop:=
 cond (decide (p1≥0))
 (LoadS w p0 .ptr fun (x1:Option Addr)=>
 CallV Tryz.prog 27 #[.pointer x1] w [.one .ptr] fun (r2:(Option Addr)×Unit) w3=>
 CallV Tryz.prog 52 #[.pointer r2.1] w3 [.one (.int .i64)] fun (r4:Int×Unit) w5=>
 K (decide (p1<r4.1),()) w5)
 (K (false,()) w)
theorem stream_Stream_has.vc (p0:Addr) (p1:Int) (w:World) (K:Bool×Unit→World→Prop) (h:stream_Stream_has.P p0 p1 w K):CallV Tryz.prog 123 #[.pointer (some p0),.int .i64 p1] w [.one .bool] K:=by
 refine vcFun.of (A:=stream_Stream_has.A) (wr:=false) okf_ok follows h Tryz.func123 ?_
 kernel_rfl
def stream_Stream_Empty.A:Ann:=.no
def stream_Stream_Empty.P (p0:Addr) (p1:Int) (w:World) (K:Int×Unit→World→Prop):Prop:=
 CallV Tryz.prog 123 #[.pointer (some p0),.int .i64 p1] w [.one .bool] fun (r1:Bool×Unit) w2=>
 cond (!r1.1)
 (K ((2:Int),()) w2)
 (LoadS w2 p0 .ptr fun (x3:Option Addr)=>
 CallV Tryz.prog 27 #[.pointer x3] w2 [.one .ptr] fun (r4:(Option Addr)×Unit) w5=>
 CallV Tryz.prog 54 #[.pointer r4.1,.int .i64 p1] w5 [.agg [.int .i64,.int .i64,.int .i64,.int .i64,.bool,.bool,.bool,.bool,.bool]] fun (r6:(Int×Int×Int×Int×Bool×Bool×Bool×Bool×Bool×Unit)×Unit) w7=>
 NewV #[.int .i64 0,.int .i64 0,.int .i64 0,.int .i64 0,.bool false,.bool false,.bool false,.bool false,.bool false] 103 w7 fun b8 w9=>
 StoreV w9 ⟨b8,0,none⟩ [.int .i64 r6.1.1,.int .i64 r6.1.2.1,.int .i64 r6.1.2.2.1,.int .i64 r6.1.2.2.2.1,.bool r6.1.2.2.2.2.1,.bool r6.1.2.2.2.2.2.1,.bool r6.1.2.2.2.2.2.2.1,.bool r6.1.2.2.2.2.2.2.2.1,.bool r6.1.2.2.2.2.2.2.2.2.1] fun w10=>
 LoadS w10 ⟨b8,4,none⟩ .bool fun (x11:Bool)=>
 cond (!x11)
 (K ((0:Int),()) w10)
 (LoadS w10 ⟨b8,0,none⟩ (.int .i64) fun (x12:Int)=>
 cond (decide (x12<0))
 (K ((0:Int),()) w10)
 (LoadS w10 ⟨b8,0,none⟩ (.int .i64) fun (x13:Int)=>
 cond (decide (x13≥4))
 (K ((0:Int),()) w10)
 (LoadS w10 ⟨b8,2,none⟩ (.int .i64) fun (x14:Int)=>
 cond (decide (x14>0))
 (LoadS w10 (p0.add 15) .bool fun (x15:Bool)=>
 cond x15
 (K ((15:Int),()) w10)
 (LoadS w10 ⟨b8,0,none⟩ (.int .i64) fun (x16:Int)=>
 CallV Tryz.prog 124 #[.pointer (some p0),.int .i64 p1,.int .i64 x16] w10 [.one (.int .i64)] fun (r17:Int×Unit) w18=>
 K (r17.1,()) w18))
 (LoadS w10 ⟨b8,0,none⟩ (.int .i64) fun (x19:Int)=>
 CallV Tryz.prog 124 #[.pointer (some p0),.int .i64 p1,.int .i64 x19] w10 [.one (.int .i64)] fun (r20:Int×Unit) w21=>
 K (r20.1,()) w21)))))
theorem stream_Stream_Empty.vc (p0:Addr) (p1:Int) (w:World) (K:Int×Unit→World→Prop) (h:stream_Stream_Empty.P p0 p1 w K):CallV Tryz.prog 46 #[.pointer (some p0),.int .i64 p1] w [.one (.int .i64)] K:=by
 refine vcFun.of (A:=stream_Stream_Empty.A) (wr:=false) okf_ok follows h Tryz.func46 ?_
 kernel_rfl
def stream_Stream_Destroy.A:Ann:=.no
def stream_Stream_Destroy.P (p0:Addr) (p1:Int) (w:World) (K:Int×Unit→World→Prop):Prop:=
 CallV Tryz.prog 123 #[.pointer (some p0),.int .i64 p1] w [.one .bool] fun (r1:Bool×Unit) w2=>
 cond (!r1.1)
 (K ((2:Int),()) w2)
 (LoadS w2 p0 .ptr fun (x3:Option Addr)=>
 CallV Tryz.prog 125 #[.pointer x3,.int .i64 p1] w2 [.one (.int .i64)] fun (r4:Int×Unit) w5=>
 CallV Tryz.prog 111 #[.pointer (some p0)] w5 [.one (.int .i64)] fun (r6:Int×Unit) w7=>
 K (r4.1,()) w7)
theorem stream_Stream_Destroy.vc (p0:Addr) (p1:Int) (w:World) (K:Int×Unit→World→Prop) (h:stream_Stream_Destroy.P p0 p1 w K):CallV Tryz.prog 47 #[.pointer (some p0),.int .i64 p1] w [.one (.int .i64)] K:=by
 refine vcFun.of (A:=stream_Stream_Destroy.A) (wr:=false) okf_ok follows h Tryz.func47 ?_
 kernel_rfl
def stream_Stream_ReadOnly.A:Ann:=.no
def stream_Stream_ReadOnly.P (p0:Addr) (w:World) (K:Bool×Unit→World→Prop):Prop:=
 LoadS w (p0.add 15) .bool fun (x1:Bool)=>
 K (x1,()) w
theorem stream_Stream_ReadOnly.vc (p0:Addr) (w:World) (K:Bool×Unit→World→Prop) (h:stream_Stream_ReadOnly.P p0 w K):CallV Tryz.prog 48 #[.pointer (some p0)] w [.one .bool] K:=by
 refine vcFun.of (A:=stream_Stream_ReadOnly.A) (wr:=false) okf_ok follows h Tryz.func48 ?_
 kernel_rfl
def stream_Stream_Pool.A:Ann:=.no
def stream_Stream_Pool.P (p0:Addr) (w:World) (K:(Option Addr)×Unit→World→Prop):Prop:=
 LoadS w p0 .ptr fun (x1:Option Addr)=>
 K (x1,()) w
theorem stream_Stream_Pool.vc (p0:Addr) (w:World) (K:(Option Addr)×Unit→World→Prop) (h:stream_Stream_Pool.P p0 w K):CallV Tryz.prog 26 #[.pointer (some p0)] w [.one .ptr] K:=by
 refine vcFun.of (A:=stream_Stream_Pool.A) (wr:=false) okf_ok follows h Tryz.func26 ?_
 kernel_rfl
def stream_Stream_Map.A:Ann:=.no
def stream_Stream_Map.P (p0:Addr) (w:World) (K:(Option Addr)×Unit→World→Prop):Prop:=
 LoadS w (p0.add 1) .ptr fun (x1:Option Addr)=>
 K (x1,()) w
theorem stream_Stream_Map.vc (p0:Addr) (w:World) (K:(Option Addr)×Unit→World→Prop) (h:stream_Stream_Map.P p0 w K):CallV Tryz.prog 24 #[.pointer (some p0)] w [.one .ptr] K:=by
 refine vcFun.of (A:=stream_Stream_Map.A) (wr:=false) okf_ok follows h Tryz.func24 ?_
 kernel_rfl
def slices_Contains_int_int.A:Ann:=.no
def slices_Contains_int_int.P (a0:Option Addr) (n0 c0:Nat) (p1:Int) (w:World) (K:Bool×Unit→World→Prop):Prop:=
 CallV Tryz.prog 207 #[.slice a0 n0 c0,.int .i64 p1] w [.one (.int .i64)] fun (r1:Int×Unit) w2=>
 K (decide (r1.1≥0),()) w2
theorem slices_Contains_int_int.vc (a0:Option Addr) (n0 c0:Nat) (p1:Int) (w:World) (K:Bool×Unit→World→Prop) (h:slices_Contains_int_int.P a0 n0 c0 p1 w K):CallV Tryz.prog 173 #[.slice a0 n0 c0,.int .i64 p1] w [.one .bool] K:=by
 refine vcFun.of (A:=slices_Contains_int_int.A) (wr:=false) okf_ok follows h Tryz.func173 ?_
 kernel_rfl
def slices_Index_int_int.A:Ann:=.two .no (.two (.two .no (.one (.loop [4,5,8,9,10,11,12,13,14,15,16,17,18] [(8,.one (.int .i64))] .no))) .no)
def slices_Index_int_int.P (a0:Option Addr) (n0 c0:Nat) (p1:Int) (w:World) (K:Int×Unit→World→Prop):Prop:=
 LoopV [.one (.int .i64)] ((0:Int),()) w fun (z1:Int×Unit) w2 (K3:Int×Unit→World→Prop)=>
 cond (decide (z1.1<((n0:Nat):Int)))
 ((0≤z1.1∧z1.1<((n0:Nat):Int))∧∃ q4:Addr,a0=some q4 ∧
 LoadS w2 (q4.add (z1.1.toNat*1)) (.int .i64) fun (x5:Int)=>
 cond (p1 == x5)
 (K (z1.1,()) w2)
 (Rng .i64 (z1.1+1) ∧
 K3 (z1.1+1,()) w2))
 (K (((-1):Int),()) w2)
theorem slices_Index_int_int.vc (a0:Option Addr) (n0 c0:Nat) (p1:Int) (w:World) (K:Int×Unit→World→Prop) (h:slices_Index_int_int.P a0 n0 c0 p1 w K):CallV Tryz.prog 207 #[.slice a0 n0 c0,.int .i64 p1] w [.one (.int .i64)] K:=by
 refine vcFun.of (A:=slices_Index_int_int.A) (wr:=false) okf_ok follows h Tryz.func207 ?_
 kernel_rfl
end Go.Proofs.YtbaojfchlhlaeaaGreat.Vc
namespace Go.Proofs.YtbaojfchlhlaeaaGreat.Vc
open Go Go.Eng Go.RowKit
def mapE (pm:Nat) (X:List (SlP Ce)):Asr:=⟨fun w F=>∃ r:Nat,StarP w [boxP pm r X,MapF r (cntX X),ownsA X] F,fun h k=>by obtain ⟨r,h1⟩:=h;exact ⟨r,h1.st k⟩⟩
def polE (pp p q:Nat) (g:Geo) (O:List Hd):Asr:=⟨fun w F=>∃ y:SlV,StarP w [boxPl pp p q g y,ordP y O] F,fun h k=>by obtain ⟨r,h1⟩:=h;exact ⟨r,h1.st k⟩⟩
abbrev stV (pp pm:Nat) (g:Geo) (s:SD):List Value:=.pointer (some ⟨pp,0,none⟩)::.pointer (some ⟨pm,0,none⟩)::.int .i64 g.b::.int .i64 g.p::.int .i64 g.s::.int .i64 g.sp::.int .i64 g.wr::.int .i64 g.ro::(s.fr.map (Value.int .i64)++[.int .u64 s.ep,.int .u64 s.op,.int .u64 s.ct,.bool s.ro])
abbrev boxSt (sp pp pm:Nat) (g:Geo) (s:SD):Asr:=BoxA sp 151 (stV pp pm g s)
abbrev stS (sp pp pm p q:Nat) (g:Geo) (s:SD) (Rs:List Asr):List Asr:=boxSt sp pp pm g s::mapE pm s.X::polE pp p q g s.O::ledE q s.L::chipE p s.C::Rs
theorem stV_at (pp pm:Nat) (g:Geo) {s:SD} (h:s.fr.length=4):(∀ i,i<4→(stV pp pm g s)[8+i]? = some (.int .i64 (fat s i)))∧(stV pp pm g s)[12]? = some (.int .u64 s.ep)∧(stV pp pm g s)[13]? = some (.int .u64 s.op)∧(stV pp pm g s)[14]? = some (.int .u64 s.ct)∧(stV pp pm g s)[15]? = some (.bool s.ro)∧(stV pp pm g s).length=16:=by
 obtain ⟨C,L,O,X,fr,ep,op,ct,ro⟩:=s
 match fr,h with
 | [a,b,c,d],_=>
  refine ⟨fun i hi=>?_,rfl,rfl,rfl,rfl,rfl⟩
  match i,hi with
  | 0,_=>rfl
  | 1,_=>rfl
  | 2,_=>rfl
  | 3,_=>rfl
theorem stV_set (pp pm:Nat) (g:Geo) {s:SD} (h:s.fr.length=4):(∀ i v,i<4→(stV pp pm g s).set (8+i) (.int .i64 v)=stV pp pm g {s with fr:=s.fr.set i v})∧(∀ v,(stV pp pm g s).set 13 (.int .u64 v)=stV pp pm g {s with op:=v})∧(∀ v,(stV pp pm g s).set 14 (.int .u64 v)=stV pp pm g {s with ct:=v})∧(∀ v,(stV pp pm g s).set 15 (.bool v)=stV pp pm g {s with ro:=v}):=by
 obtain ⟨C,L,O,X,fr,ep,op,ct,ro⟩:=s
 match fr,h with
 | [a,b,c,d],_=>
  refine ⟨fun i v hi=>?_,fun v=>rfl,fun v=>rfl,fun v=>rfl⟩
  match i,hi with
  | 0,_=>rfl
  | 1,_=>rfl
  | 2,_=>rfl
  | 3,_=>rfl
section
variable {E:Nat→Prop} {w0 w:World} {Rs:List Asr} {sp pp pm p q n:Nat} {g:Geo} {s:SD} {X:List (SlP Ce)} {O:List Hd} {L:List Blk} {C:CD}
theorem mapE_in {r:Nat} (S:Sep E w0 w (boxP pm r X::MapF r (cntX X)::ownsA X::Rs)):Sep E w0 w (mapE pm X::Rs):=
 (Sep.fold (Rs:=[boxP pm r X,MapF r (cntX X),ownsA X]) S).conv fun F h _=>⟨r,h⟩
theorem mapE_out (S:Sep E w0 w (mapE pm X::Rs)):∃ r:Nat,Sep E w0 w (boxP pm r X::MapF r (cntX X)::ownsA X::Rs):=by
 obtain ⟨F,⟨F1,F2,⟨r,h2⟩,h3⟩,hb⟩:=S.ex
 have S2:Sep E w0 w (StarA [boxP pm r X,MapF r (cntX X),ownsA X]::Rs):=⟨S.fr,F,⟨F1,F2,h2,h3⟩,hb⟩
 exact ⟨r,S2.unfold⟩
theorem polE_in {y:SlV} (S:Sep E w0 w (boxPl pp p q g y::ordP y O::Rs)):Sep E w0 w (polE pp p q g O::Rs):=
 (Sep.fold (Rs:=[boxPl pp p q g y,ordP y O]) S).conv fun F h _=>⟨y,h⟩
theorem polE_out (S:Sep E w0 w (polE pp p q g O::Rs)):∃ y:SlV,Sep E w0 w (boxPl pp p q g y::ordP y O::Rs):=by
 obtain ⟨F,⟨F1,F2,⟨r,h2⟩,h3⟩,hb⟩:=S.ex
 have S2:Sep E w0 w (StarA [boxPl pp p q g r,ordP r O]::Rs):=⟨S.fr,F,⟨F1,F2,h2,h3⟩,hb⟩
 exact ⟨r,S2.unfold⟩
theorem Size_m {ns:Int} (hX:X.length=4) (S:Sep E w0 w (mapE pm X::Rs)):CallV Tryz.prog 25 #[.pointer (some ⟨pm,0,none⟩),.int .i64 ns] w [.one (.int .i64)] fun r w'=>r.1=(((getX X ns).n:Nat):Int)∧w'=w:=by
 obtain ⟨r,S⟩:=mapE_out S.take1
 exact Size22_c hX (toQ S)
theorem Get_m {ns i:Int} (hX:X.length=4) (S:Sep E w0 w (mapE pm X::Rs)):CallV Tryz.prog 39 #[.pointer (some ⟨pm,0,none⟩),.int .i64 ns,.int .i64 i] w [.agg SH14,.one .bool] fun r w'=>r.1=(if (getC X ns i).has then (getC X ns i).s else Sp0).tup∧r.2.1=(getC X ns i).has∧Ext w w':=by
 obtain ⟨r,S⟩:=mapE_out S.take1
 exact Get22_c hX (toQ S)
theorem Refs_m {b k:Int} (hX:X.length=4) (S:Sep E w0 w (mapE pm X::Rs)):CallV Tryz.prog 120 #[.pointer (some ⟨pm,0,none⟩),.agg #[.int .i64 b,.int .i64 k]] w [.one (.int .i64)] fun r w'=>r.1=cntX X (b,k)∧Ext w w':=by
 obtain ⟨r,S⟩:=mapE_out S.take1
 exact Refs22_c hX (toQ S)
theorem Move_m {f t:Int×Int} {o:Hh} (hX:XOk X) (S:Sep E w0 w (mapE pm X::Rs)):CallV Tryz.prog 211 #[.pointer (some ⟨pm,0,none⟩),.agg #[.int .i64 f.1,.int .i64 f.2],.agg #[.int .i64 t.1,.int .i64 t.2],o.val] w [.one (.int .i64)] fun rr w'=>Sep E w0 w' (mapE pm (mov1 f t o X)::Rs):=by
 obtain ⟨r,S⟩:=mapE_out S
 refine Sep.call [boxP pm r X,MapF r (cntX X),ownsA X] S (fun G SG=>Move22_c hX SG) fun G fr rr w' hr=>?_
 unfold mov1
 by_cases h:f≠t∧0<cntX X t
 ·rw [if_pos h];exact mapE_in (fr _ _ (hr.1 h).2)
 ·rw [if_neg h];exact mapE_in (fr _ _ (hr.2 h).2)
theorem Use_e {b:Int} (hL:∀ x∈L,0≤x.us∧x.us≤1000000000) (S:Sep E w0 w (ledE q L::Rs)):CallV Tryz.prog 164 #[.pointer (some ⟨q,0,none⟩),.int .i64 b] w [.one (.int .i64)] fun r w'=>
  r.1=chE b L.length∧Sep E w0 w' (ledE q (chL b L.length uB L)::Rs):=led_call S fun G a c SG=>Use_c hL SG
theorem Count_e {b m:Int} (hL:∀ x∈L,0≤x.li∧x.li≤1000000000) (hm:-9223372036854775808≤m∧m≤1000000) (S:Sep E w0 w (ledE q L::Rs)):CallV Tryz.prog 121 #[.pointer (some ⟨q,0,none⟩),.int .i64 b,.int .i64 m] w [.one (.int .i64)] fun r w'=>
  r.1=chE b L.length∧Sep E w0 w' (ledE q (chL b L.length (cB m) L)::Rs):=led_call S fun G a c SG=>Count_c hL hm SG
theorem Victim_e {ns bu:Int} (hn:L.length≤1000000) (S:Sep E w0 w (ledE q L::Rs)):CallV Tryz.prog 200 #[.pointer (some ⟨q,0,none⟩),.int .i64 ns,.int .i64 bu] w [.one (.int .i64)] fun r w'=>r.1=victT L ns bu L.length∧Ext w w':=by
 obtain ⟨a,c,S⟩:=ledE_out S
 exact Victim_c hn S
theorem Held_e {ns:Int} (hn:L.length≤1000000) (S:Sep E w0 w (ledE q L::Rs)):CallV Tryz.prog 28 #[.pointer (some ⟨q,0,none⟩),.int .i64 ns] w [.one (.int .i64)] fun r w'=>r.1=manyT L (ownB ns) L.length∧Ext w w':=by
 obtain ⟨a,c,S⟩:=ledE_out S
 exact Held21_c hn S
theorem Bads_e (hn:L.length≤1000000) (S:Sep E w0 w (ledE q L::Rs)):CallV Tryz.prog 158 #[.pointer (some ⟨q,0,none⟩)] w [.one (.int .i64)] fun r w'=>r.1=bads L∧Ext w w':=by
 obtain ⟨a,c,S⟩:=ledE_out S
 exact Bads_c hn S
theorem ldFr (h:s.fr.length=4) {ns:Int} (hn:0≤ns∧ns<4) (S:Sep E w0 w (stS sp pp pm p q g s Rs)) {K:Int→Prop} (hk:K (frG s ns)):LoadS w ⟨sp,8+ns.toNat*1,none⟩ (.int .i64) K:=
 S.ldR (i:=0) rfl (v:=.int .i64 (frG s ns)) (by rw [Nat.mul_one];exact (stV_at pp pm g h).1 ns.toNat (by omega)) rfl hk
theorem ldOp (h:s.fr.length=4) (S:Sep E w0 w (stS sp pp pm p q g s Rs)) {K:Int→Prop} (hk:K s.op):LoadS w ⟨sp,13,none⟩ (.int .u64) K:=S.ldR (i:=0) rfl (stV_at pp pm g h).2.2.1 rfl hk
theorem ldEp (h:s.fr.length=4) (S:Sep E w0 w (stS sp pp pm p q g s Rs)) {K:Int→Prop} (hk:K s.ep):LoadS w ⟨sp,12,none⟩ (.int .u64) K:=S.ldR (i:=0) rfl (stV_at pp pm g h).2.1 rfl hk
theorem ldCt (h:s.fr.length=4) (S:Sep E w0 w (stS sp pp pm p q g s Rs)) {K:Int→Prop} (hk:K s.ct):LoadS w ⟨sp,14,none⟩ (.int .u64) K:=S.ldR (i:=0) rfl (stV_at pp pm g h).2.2.2.1 rfl hk
theorem ldRo (h:s.fr.length=4) (S:Sep E w0 w (stS sp pp pm p q g s Rs)) {K:Bool→Prop} (hk:K s.ro):LoadS w ⟨sp,15,none⟩ .bool K:=S.ldR (i:=0) rfl (stV_at pp pm g h).2.2.2.2.1 rfl hk
theorem suFr (h:s.fr.length=4) {ns v:Int} (hn:0≤ns∧ns<4) (S:Sep E w0 w (stS sp pp pm p q g s Rs)) {K:World→Prop} (hk:∀ w',Sep E w0 w' (stS sp pp pm p q g (frS s ns v) Rs)→Fr (fun k=>k=sp) w w'→K w'):StoreV w ⟨sp,8+ns.toNat*1,none⟩ [.int .i64 v] K:=by
 refine S.storeR1 (i:=0) rfl (by rw [(stV_at pp pm g h).2.2.2.2.2];omega) fun w' S f=>hk w' ?_ f
 rw [Nat.mul_one,(stV_set pp pm g h).1 _ v (by omega)] at S
 exact S
theorem suOp (h:s.fr.length=4) {v:Int} (S:Sep E w0 w (stS sp pp pm p q g s Rs)) {K:World→Prop} (hk:∀ w',Sep E w0 w' (stS sp pp pm p q g {s with op:=v} Rs)→Fr (fun k=>k=sp) w w'→K w'):StoreV w ⟨sp,13,none⟩ [.int .u64 v] K:=by
 refine S.storeR1 (i:=0) rfl (by rw [(stV_at pp pm g h).2.2.2.2.2];omega) fun w' S f=>hk w' ?_ f
 rw [(stV_set pp pm g h).2.1 v] at S
 exact S
theorem suCt (h:s.fr.length=4) {v:Int} (S:Sep E w0 w (stS sp pp pm p q g s Rs)) {K:World→Prop} (hk:∀ w',Sep E w0 w' (stS sp pp pm p q g {s with ct:=v} Rs)→Fr (fun k=>k=sp) w w'→K w'):StoreV w ⟨sp,14,none⟩ [.int .u64 v] K:=by
 refine S.storeR1 (i:=0) rfl (by rw [(stV_at pp pm g h).2.2.2.2.2];omega) fun w' S f=>hk w' ?_ f
 rw [(stV_set pp pm g h).2.2.1 v] at S
 exact S
theorem suRo (h:s.fr.length=4) {v:Bool} (S:Sep E w0 w (stS sp pp pm p q g s Rs)) {K:World→Prop} (hk:∀ w',Sep E w0 w' (stS sp pp pm p q g {s with ro:=v} Rs)→Fr (fun k=>k=sp) w w'→K w'):StoreV w ⟨sp,15,none⟩ [.bool v] K:=by
 refine S.storeR1 (i:=0) rfl (by rw [(stV_at pp pm g h).2.2.2.2.2];omega) fun w' S f=>hk w' ?_ f
 rw [(stV_set pp pm g h).2.2.2 v] at S
 exact S
theorem ldg (S:Sep E w0 w (stS sp pp pm p q g s Rs)) {K:RT [.one .ptr]→World→Prop} (hk:K (some ⟨q,0,none⟩,()) w):LoadS w ⟨sp,0,none⟩ .ptr fun x=>CallV Tryz.prog 27 #[.pointer x] w [.one .ptr] K:=by
 refine S.ld0 (j:=0) rfl rfl ?_
 obtain ⟨y,S⟩:=polE_out (S.fro [2,2,2] rfl)
 refine (Ledger24_c (s:=y) S).mono ?_
 rintro ⟨r,⟨⟩⟩ w' ⟨h1,rfl⟩
 dsimp only at h1
 subst h1
 exact hk
theorem ldg0 (S:Sep E w0 w (stS sp pp pm p q g s Rs)) {K:RT [.one .ptr]→World→Prop} (hk:K (some ⟨q,0,none⟩,()) w):CallV Tryz.prog 27 #[.pointer (some ⟨pp,0,none⟩)] w [.one .ptr] K:=by
 obtain ⟨y,S⟩:=polE_out (S.fro [2,2,2] rfl)
 refine (Ledger24_c (s:=y) S).mono ?_
 rintro ⟨r,⟨⟩⟩ w' ⟨h1,rfl⟩
 dsimp only at h1
 subst h1
 exact hk
theorem SI.len6 (h:SI g n s):s.L.length≤1000000:=by have:=h.ln;have:=h.no;omega
theorem over25_c (h:SI g n s) (S:Sep E w0 w (stS sp pp pm p q g s Rs)):CallV Tryz.prog 111 #[.pointer (some ⟨sp,0,none⟩)] w [.one (.int .i64)] fun r w'=>r.1=(overP s).2∧Sep E w0 w' (stS sp pp pm p q g (overP s).1 Rs):=by
 apply stream_Stream_over.vc
 unfold stream_Stream_over.P
 simp only [Addr.add_lit,Nat.zero_add]
 have hgg:=h.pi.gg
 refine S.reg fun D hD hkeep S T=>?_
 refine ⟨hD _ S.bl0,S.ld0 (j:=0) rfl rfl ⟨hD _ S.bl0,S.ld0 (j:=5) rfl rfl ?_⟩⟩
 refine ldg0 S ⟨hkeep _ T.fr,?_⟩
 refine (Bads_e h.len6 (S.fro [3] rfl)).mono ?_
 rintro ⟨r,⟨⟩⟩ w1 ⟨h1,x1⟩
 dsimp only at h1 ⊢
 subst h1
 have S:=S.stepE x1
 have T:=T.stepE x1
 refine ⟨hkeep _ T.fr,?_⟩
 unfold overP
 rw [hgg]
 refine cond_d (fun hgt=>?_) (fun hle=>?_)
 ·rw [if_pos hgt]
  refine suRo h.fl S fun w2 S f=>ldRo (s:={s with ro:=true}) h.fl S ?_
  exact cond_t rfl ⟨rfl,S⟩
 ·rw [if_neg hle]
  refine ldRo h.fl S (cond_of (fun hr=>?_) (fun hr=>?_))
  ·rw [if_pos hr];exact ⟨rfl,S⟩
  ·rw [if_neg (by rw [hr];exact Bool.false_ne_true)];exact ⟨rfl,S⟩
theorem left25_c {e:Int} (h:SI g n s) (S:Sep E w0 w (stS sp pp pm p q g s Rs)):CallV Tryz.prog 176 #[.pointer (some ⟨sp,0,none⟩),.int .i64 e] w [.one (.int .i64)] fun r w'=>r.1=(leftP s e).2∧Sep E w0 w' (stS sp pp pm p q g (leftP s e).1 Rs):=by
 apply stream_Stream_left.vc
 unfold stream_Stream_left.P
 simp only [Addr.add_lit,Nat.zero_add]
 unfold leftP
 refine cond_eq (fun h4=>?_) (fun h4=>?_)
 ·rw [if_pos h4];exact ⟨h4,S⟩
 rw [if_neg h4]
 have fin:∀ {w':World},Sep E w0 w' (stS sp pp pm p q g (roS s e) Rs)→CallV Tryz.prog 111 #[.pointer (some ⟨sp,0,none⟩)] w' [.one (.int .i64)] fun (r2:Int×Unit) w3=>cond (r2.1 != 0) (r2.1=(if (overP (roS s e)).2≠0 then overP (roS s e) else ((overP (roS s e)).1,e)).2∧Sep E w0 w3 (stS sp pp pm p q g (if (overP (roS s e)).2≠0 then overP (roS s e) else ((overP (roS s e)).1,e)).1 Rs)) (e=(if (overP (roS s e)).2≠0 then overP (roS s e) else ((overP (roS s e)).1,e)).2∧Sep E w0 w3 (stS sp pp pm p q g (if (overP (roS s e)).2≠0 then overP (roS s e) else ((overP (roS s e)).1,e)).1 Rs)):=fun S=>by
  refine (over25_c (h.roS e).i S).mono ?_
  rintro ⟨r,⟨⟩⟩ w3 ⟨h3,S⟩
  dsimp only at h3 ⊢
  subst h3
  refine cond_ne (fun h0=>?_) (fun h0=>?_)
  ·rw [if_pos h0];exact ⟨rfl,S⟩
  ·rw [if_neg (fun k=>k h0)];exact ⟨rfl,S⟩
 refine cond_eq (fun h19=>?_) (fun h19=>?_)
 ·refine suRo h.fl S fun w2 S f=>fin ?_
  unfold roS
  rw [if_pos h19]
  exact S
 ·refine fin ?_
  unfold roS
  rw [if_neg h19]
  exact S
theorem order25_c (h:SI g n s) (S:Sep E w0 w (stS sp pp pm p q g s Rs)):CallV Tryz.prog 175 #[.pointer (some ⟨sp,0,none⟩)] w [.agg [.int .i64,.int .i64,.int .i64,.int .u32,.int .u64,.int .u64]] fun r w'=>r.1=(⟨0,0,0,0,s.ep,u64w (s.op+1)⟩:Hd).tup∧Sep E w0 w' (stS sp pp pm p q g {s with op:=u64w (s.op+1)} Rs):=by
 apply stream_Stream_order.vc
 unfold stream_Stream_order.P
 simp only [Addr.add_lit,Nat.zero_add]
 refine S.newB fun b1 w1 S f1 _=>?_
 refine ldOp h.fl (S.fro [1,1,1,1,1] rfl) ?_
 refine suOp h.fl (S.fro [1,1,1,1,1] rfl) fun w2 S f2=>?_
 have S:Sep E w0 w2 (BoxA b1 _ _::stS sp pp pm p q g {s with op:=u64w (s.op+1)} Rs):=S.fro [5] rfl
 refine S.regX (fun k=>k=b1) fun D hD hkeep S T=>?_
 have hne:sp≠b1:=fun e=>S.ne (i:=0) (j:=1) (by decide) rfl rfl e.symm
 refine ⟨hD _ S.bl1 hne,ldEp (s:={s with op:=u64w (s.op+1)}) h.fl (S.fro [1,1,1,1,1] rfl) ⟨hD _ S.bl1 hne,ldOp (s:={s with op:=u64w (s.op+1)}) h.fl (S.fro [1,1,1,1,1] rfl) ?_⟩⟩
 refine S.st0 (by rfl) fun w3 S f3=>⟨hkeep _ f3,S.la0 rfl ⟨rfl,S.tail⟩⟩
theorem Next25_c {hd:Hd} (h:SI g n s) (S:Sep E w0 w (stS sp pp pm p q g s Rs)):CallV Tryz.prog 51 #[.pointer (some ⟨sp,0,none⟩),hd.val] w [.agg [.int .i64,.int .i64,.int .i64,.int .u32,.int .u64,.int .u64]] fun r w'=>r.1=(nxtS s hd).2.tup∧Sep E w0 w' (stS sp pp pm p q g (nxtS s hd).1 Rs):=by
 apply stream_Stream_Next.vc
 unfold stream_Stream_Next.P
 simp only [Addr.add_lit,Nat.zero_add]
 refine S.newB (vs:=hd.vs) fun b1 w1 S f1 _=>?_
 refine S.newB fun b3 w1 S f3 _=>?_
 refine ldCt h.fl (S.fro [2,2,2,2,2] rfl) ?_
 refine suCt h.fl (S.fro [2,2,2,2,2] rfl) fun w2 S f2=>?_
 have S:Sep E w0 w2 (BoxA b1 _ hd.vs::BoxA b3 _ _::stS sp pp pm p q g {s with ct:=u64w (s.ct+1)} Rs):=S.fro [6,5] rfl
 refine S.regX (fun k=>k=b1) fun D hD hkeep S T=>?_
 have hne:sp≠b1:=fun e=>S.ne (i:=0) (j:=2) (by decide) rfl rfl e.symm
 refine ⟨hD _ S.bl2 hne,ldEp (s:={s with ct:=u64w (s.ct+1)}) h.fl (S.fro [2,2,2,2,2] rfl) ⟨hD _ S.bl2 hne,ldCt (s:={s with ct:=u64w (s.ct+1)}) h.fl (S.fro [2,2,2,2,2] rfl) ?_⟩⟩
 refine S.su0 (by rfl) fun w3 S f3=>⟨hkeep _ f3,S.su0 (by rfl) fun w4 S f4=>⟨hkeep _ (f3.trans f4),?_⟩⟩
 refine S.la0 rfl (S.st1 (by rfl) fun w5 S f5=>S.la1 rfl ⟨rfl,S.tail.tail⟩)
theorem has25_c {b:Int} (h:SI g n s) (S:Sep E w0 w (stS sp pp pm p q g s Rs)):CallV Tryz.prog 123 #[.pointer (some ⟨sp,0,none⟩),.int .i64 b] w [.one .bool] fun r w'=>r.1=decide (0≤b∧b<(s.L.length:Int))∧w'=w:=by
 apply stream_Stream_has.vc
 unfold stream_Stream_has.P
 refine cond_d (fun h0=>?_) (fun h0=>?_)
 ·refine ldg S ((Len_e (S.fro [3] rfl)).mono ?_)
  rintro ⟨r,⟨⟩⟩ w' ⟨h1,rfl⟩
  dsimp only at h1 ⊢
  subst h1
  exact ⟨decide_eq_decide.2 ⟨fun x=>⟨h0,x⟩,fun x=>x.2⟩,rfl⟩
 ·exact ⟨(decide_eq_false fun x=>h0 x.1).symm,rfl⟩
theorem ReadOnly_c (h:s.fr.length=4) (S:Sep E w0 w (stS sp pp pm p q g s Rs)):CallV Tryz.prog 48 #[.pointer (some ⟨sp,0,none⟩)] w [.one .bool] fun r w'=>r.1=s.ro∧w'=w:=by
 apply stream_Stream_ReadOnly.vc
 unfold stream_Stream_ReadOnly.P
 simp only [Addr.add_lit,Nat.zero_add]
 exact ldRo h S ⟨rfl,trivial⟩
theorem Pool25_c (S:Sep E w0 w (stS sp pp pm p q g s Rs)):CallV Tryz.prog 26 #[.pointer (some ⟨sp,0,none⟩)] w [.one .ptr] fun r w'=>r.1=some ⟨pp,0,none⟩∧w'=w:=by
 apply stream_Stream_Pool.vc
 unfold stream_Stream_Pool.P
 exact S.ld0 (j:=0) rfl rfl ⟨rfl,rfl⟩
theorem Map25_c (S:Sep E w0 w (stS sp pp pm p q g s Rs)):CallV Tryz.prog 24 #[.pointer (some ⟨sp,0,none⟩)] w [.one .ptr] fun r w'=>r.1=some ⟨pm,0,none⟩∧w'=w:=by
 apply stream_Stream_Map.vc
 unfold stream_Stream_Map.P
 simp only [Addr.add_lit,Nat.zero_add]
 exact S.ld0 (j:=1) rfl rfl ⟨rfl,trivial⟩
theorem close25_c {ns:Int} (h:SI g n s) (hn:0≤ns∧ns<4) (S:Sep E w0 w (stS sp pp pm p q g s Rs)):CallV Tryz.prog 198 #[.pointer (some ⟨sp,0,none⟩),.int .i64 ns] w [] fun r w'=>Sep E w0 w' (stS sp pp pm p q g (closP s ns) Rs):=by
 apply stream_Stream_close.vc
 unfold stream_Stream_close.P
 simp only [Addr.add_lit,Nat.zero_add]
 refine ⟨hn,ldFr h.fl hn S ⟨hn,suFr h.fl hn S fun w1 S f1=>?_⟩⟩
 unfold closP
 refine cond_d (fun h0=>?_) (fun h0=>?_)
 ·have hb:0≤frG s ns∧frG s ns<(s.L.length:Int):=by
   have:=h.fG hn;have:=h.ln;omega
  refine ldg S ((At_e (S.fro [3] rfl) hb).mono ?_)
  rintro ⟨x,⟨⟩⟩ w2 ⟨h2,x2⟩
  dsimp only at h2 ⊢
  subst h2
  have S:=S.stepE x2
  refine cond_eq (fun hl=>?_) (fun hl=>?_)
  ·rw [if_pos ⟨h0,hl⟩]
   refine ldg S ((Release_e (S.fro [3] rfl)).mono ?_)
   rintro ⟨r,⟨⟩⟩ w3 ⟨-,S⟩
   exact S.fro [1,1,1] rfl
  ·rw [if_neg (fun e=>hl e.2)]
   exact S
 ·rw [if_neg (fun e=>h0 e.1)]
  exact S
theorem full25_c {ns:Int} (h:SI g n s) (hn:0≤ns∧ns<4) (S:Sep E w0 w (stS sp pp pm p q g s Rs)):CallV Tryz.prog 162 #[.pointer (some ⟨sp,0,none⟩),.int .i64 ns] w [.one .bool] fun r w'=>r.1=decide (fulP s ns)∧Ext w w':=by
 apply stream_Stream_full.vc
 unfold stream_Stream_full.P
 simp only [Addr.add_lit,Nat.zero_add]
 refine ⟨hn,ldFr h.fl hn S ?_⟩
 refine S.reg fun D hD hkeep S T=>?_
 have hgg:=h.pi.gg
 have hno:=h.no
 refine cond_d (fun h0=>⟨(decide_eq_true (.inl h0)).symm,Ext.drew w⟩) (fun h0=>?_)
 have hb:0≤frG s ns∧frG s ns<(s.L.length:Int):=by
  have:=h.fG hn;have:=h.ln;omega
 refine ⟨hD _ S.bl0,S.ld0 (j:=0) rfl rfl ⟨hD _ S.bl0,S.ld0 (j:=3) rfl rfl ⟨Rng.i64 (by omega) (by omega),?_⟩⟩⟩
 refine ldg0 S ⟨hkeep _ T.fr,(At_e (S.fro [3] rfl) hb).mono ?_⟩
 rintro ⟨x,⟨⟩⟩ w2 ⟨h2,x2⟩
 dsimp only at h2 ⊢
 subst h2
 refine ⟨hkeep _ (T.stepE x2).fr,decide_eq_decide.2 ?_,(Ext.drew w).trans x2⟩
 unfold fulP
 rw [hgg]
 exact ⟨fun e=>.inr e,fun e=>e.elim (fun e=>absurd e h0) id⟩
theorem may25_c {hd:Hd} (h:SI g n s) (hr:hd.rng) (S:Sep E w0 w (stS sp pp pm p q g s Rs)):CallV Tryz.prog 114 #[.pointer (some ⟨sp,0,none⟩),hd.val] w [.one .bool] fun r w'=>r.1=decide (mayP s hd)∧Ext w w':=by
 apply stream_Stream_may.vc
 unfold stream_Stream_may.P
 simp only [Addr.add_lit,Nat.zero_add]
 have T:=Sep.start NoB w
 refine T.newB (vs:=hd.vs) fun b1 w1 T f1 _=>?_
 have S:=S.stepE T.ext
 refine T.reg fun D hD hkeep T U=>?_
 have hsz:sp<w1.heap.size:=S.bl0
 have S:=S.drew
 refine ⟨hD _ hsz,S.ld0 (j:=1) rfl rfl ⟨hD _ T.bl0,T.ld0 (j:=1) rfl rfl ?_⟩⟩
 refine (Size_m h.xo.four (S.fro [1] rfl)).mono ?_
 rintro ⟨r,⟨⟩⟩ w2 ⟨h2,rfl⟩
 dsimp only at h2 ⊢
 subst h2
 refine ⟨hkeep _ U.fr,?_⟩
 have X:=T.ext
 have hN:=(h.xo.get hd.n).2
 have hrl:=hr.1
 have hl:IntKind.i64.wrap hd.l=hd.l:=wrap_rng (Rng.i64 (by omega) (by omega))
 have no:¬ mayP s hd→(false=decide (mayP s hd)∧Ext w w1.drew):=fun h=>⟨(decide_eq_false h).symm,X⟩
 have tail:(hd.k=1∨hd.k=2)→LoadS w1.drew ⟨b1,2,none⟩ (.int .i64) fun (x9:Int)=>cond (decide (x9≥1)) (LoadS w1.drew ⟨b1,2,none⟩ (.int .i64) fun (x10:Int)=>cond (decide (x10≤(((getX s.X hd.n).n:Nat):Int))) (LoadS w1.drew ⟨b1,3,none⟩ (.int .u32) fun (x11:Int)=>LoadS w1.drew ⟨b1,2,none⟩ (.int .i64) fun (x12:Int)=>Rng .i64 ((((getX s.X hd.n).n:Nat):Int)-x12)∧(decide ((IntKind.i64.wrap x11)≤((((getX s.X hd.n).n:Nat):Int)-x12))=decide (mayP s hd)∧Ext w w1.drew)) (false=decide (mayP s hd)∧Ext w w1.drew)) (false=decide (mayP s hd)∧Ext w w1.drew):=fun hk=>by
  refine T.ld0 (j:=2) rfl rfl (cond_d (fun h1=>?_) (fun h1=>no fun e=>h1 e.2.1))
  refine T.ld0 (j:=2) rfl rfl (cond_d (fun h2=>?_) (fun h2=>no fun e=>h2 e.2.2.1))
  refine T.ld0 (j:=3) rfl rfl (T.ld0 (j:=2) rfl rfl ⟨Rng.i64 (by omega) (by omega),?_,X⟩)
  rw [hl]
  exact decide_eq_decide.2 ⟨fun e=>⟨hk,h1,h2,e⟩,fun e=>e.2.2.2⟩
 refine cond_d (fun hp=>?_) (fun hp=>no fun e=>by have:=e.2.1;have:=e.2.2.1;omega)
 refine T.ld0 (j:=0) rfl rfl (cond_eq (fun h1=>tail (.inl h1)) (fun h1=>?_))
 refine T.ld0 (j:=0) rfl rfl (cond_eq (fun h2=>tail (.inr h2)) (fun h2=>no fun e=>e.1.elim h1 h2))
end
end Go.Proofs.YtbaojfchlhlaeaaGreat.Vc
namespace Go.Proofs.YtbaojfchlhlaeaaGreat.Vc
open Go Go.Eng Go.RowKit
section
variable {g:Geo} {n K J:Nat} {s s' t:SD}
theorem chS_gx (h:SI g n s) (b:Int) (φ:Blk→Blk) (i:Nat):gx (chS s b φ).L i=if (0≤b∧b<(n:Int))∧i=b.toNat then φ (gx s.L i) else gx s.L i:=by
 show gx (chL b s.L.length φ s.L) i=_
 rw [gx_ch rfl,h.ln]
theorem dstS_oth {b:Int} {i:Nat} (hi:i≠b.toNat):gx (dstS s b).1.L i=gx s.L i:=by
 unfold dstS
 split
 ·rw [(over_f _).2.1]
  exact dst_oth s.C rfl b hi
 ·rfl
theorem SI.spo (h:SI g n s) {b:Int} (hb:0≤b∧b<(n:Int)) (h0:(gx s.L b.toNat).li=0) (hf:nfr s b) (ho:s.C.ops+2≤1000000000000) :
  St g n 2 s (spoP s b).1∧(spoP s b).1.X=s.X∧(spoP s b).1.fr=s.fr∧∀ i,i≠b.toNat→gx (spoP s b).1.L i=gx s.L i:=by
 have h1:=h.f b
 have g1:=chS_gx h b fB
 have h2:=h1.i.r b (fun _=>by rw [g1,if_pos ⟨hb,rfl⟩];exact h0) hf
 have g2:=chS_gx h1.i b rB
 obtain ⟨h3,x3,f3⟩:=h2.i.dst (b:=b) (fun _=>by rw [g2,if_pos ⟨hb,rfl⟩];rfl) ho
 have h4:=(h1.trans h2).trans h3
 have g4:∀ i,i≠b.toNat→gx (dstS (chS (chS s b fB) b rB) b).1.L i=gx s.L i:=fun i hi=>by
  rw [dstS_oth hi,g2,if_neg (fun e=>hi e.2),g1,if_neg (fun e=>hi e.2)]
 unfold spoP
 split
 ·exact ⟨h4.up (by omega),x3,f3,g4⟩
 ·have k:=over_f (dstS (chS (chS s b fB) b rB) b).1
  exact ⟨(h4.trans h4.i.over).up (by omega),k.2.2.2.1.trans x3,k.2.2.2.2.1.trans f3,fun i hi=>by rw [k.2.1];exact g4 i hi⟩
structure EmI (g:Geo) (n:Nat) (s:SD) (b ns:Int) (l:List (Int×Int)):Prop where
 i:SI g n s
 hn:0≤ns∧ns<4
 hb:0≤b∧b<(n:Int)
 l:inP s.X (4+b)=l
 he:(gx s.L b.toNat).he=true
 ow:(gx s.L b.toNat).ow=ns
 nf:nfr s b
theorem l32 {X:List (SlP Ce)} {p:Int} {L:List Blk} (h:LI X p n L) (bl:Int):(inP X bl).length≤31:=by have:=h.len bl;have:=h.pp;omega
structure BegI (s f:SD) (ns to:Int) (n:Nat):Prop where
 ht:0≤to∧to<(n:Int)
 h0:(gx s.L to.toNat).he=false
 y:∃ y,gx f.L to.toNat=hB ns y∧y.ba=false
theorem SI.beg (h:SI g n s) {ns:Int} (hn:0≤ns∧ns<4) {sl:Bool} (ho:s.C.ops+768≤1000000000000):St g n 768 s (leftP (opnS ns sl s).1 (opnS ns sl s).2.2).1∧(leftP (opnS ns sl s).1 (opnS ns sl s).2.2).1.X=s.X∧(leftP (opnS ns sl s).1 (opnS ns sl s).2.2).1.fr=s.fr ∧
  KeptH n s.L (leftP (opnS ns sl s).1 (opnS ns sl s).2.2).1.L∧((opnS ns sl s).2.2=0→BegI s (leftP (opnS ns sl s).1 (opnS ns sl s).2.2).1 ns (opnS ns sl s).2.1 n):=by
 obtain ⟨h1,q,x1,f1⟩:=h.opn hn (sl:=sl) ho
 have k:=left_f (opnS ns sl s).1 (opnS ns sl s).2.2
 refine ⟨(h1.trans (h1.i.left _)).up (by omega),k.2.2.2.1.trans x1,k.2.2.2.2.1.trans f1,by rw [k.2.1];exact q.kp,fun e=>?_⟩
 obtain ⟨a1,a2,a3⟩:=q.ok e
 exact ⟨a1,a2,by rw [k.2.1];exact a3⟩
theorem nfr_fr {b:Int} (h:nfr s b) (e:t.fr=s.fr):nfr t b:=fun i hi h0=>by
 have:fat t i=fat s i:=by show t.fr.getD i 0=_;rw [e]
 rw [this] at h0 ⊢
 exact h i hi h0
theorem EmI.cop {b ns:Int} {l:List (Int×Int)} (h:EmI g n s b ns l) {f:SD} {to:Int} (hf:SI g n f) (hX:f.X=s.X) (hfr:f.fr=s.fr) (hk:KeptH n s.L f.L) (hB:BegI s f ns to n) (ho:f.C.ops+63≤1000000000000) :
  St g n 63 f (copP to l 1 f).1∧to≠b∧EmI g n (copP to l 1 f).1 b ns l∧nfr (copP to l 1 f).1 to∧(gx (copP to l 1 f).1.L to.toNat).li=0 ∧
  ((copP to l 1 f).2=0→St g n 0 (copP to l 1 f).1 (movP (copP to l 1 f).1 b to ns l)):=by
 obtain ⟨y,hy,hyb⟩:=hB.y
 have hlen:=l32 h.i.l (4+b)
 have hlen2:=h.i.l.len (4+b)
 rw [h.l] at hlen hlen2
 obtain ⟨a1,a2,a3,a4,a4',a5,a6,a7,a8,a9,a10,a11⟩:=SI.cop hB.ht l 1 hf (by rw [hy];show (0:Int)+_≤_;omega) (by omega)
 have hne:to≠b:=fun e=>by
  have:=hB.h0
  rw [e,h.he] at this
  cases this
 have hb:=h.hb
 have ht:=hB.ht
 have gb:gx (copP to l 1 f).1.L b.toNat=gx s.L b.toNat:=by rw [a6 _ (by omega),hk _ (by omega) h.he]
 have e1:EmI g n (copP to l 1 f).1 b ns l:=⟨a1.i,h.hn,h.hb,by rw [a2,hX];exact h.l,by rw [gb];exact h.he,by rw [gb];exact h.ow,nfr_fr h.nf (a3.trans hfr)⟩
 have hl0:(gx (copP to l 1 f).1.L to.toNat).li=0:=by rw [a9,hy];rfl
 refine ⟨a1.up (by omega),hne,e1,nfr_fr (h.i.nfr_of hB.ht.1 hB.h0) (a3.trans hfr),hl0,fun e=>?_⟩
 have h5:=e1.i.mov (b:=b) (to:=to) h.hn h.hb hB.ht (fun e=>hne e.symm) e1.ow (by rw [a8,hy];rfl) (by rw [a7,hy];rfl) hl0 (by rw [a11 e,hy,e1.l];show (0:Int)+_=_;omega) e1.nf
 rw [e1.l] at h5
 exact h5
theorem mov_L {b to ns:Int} {l:List (Int×Int)} (h:SI g n s) (hb:0≤b∧b<(n:Int)):(gx (movP s b to ns l).L b.toNat).he=false:=by
 have e:(movP s b to ns l).L=(chS (chS {s with X:=movL to (ordO s.O to).hh l 1 s.X} to (cB (l.length:Int))) b rB).L:=by
  unfold movP
  dsimp only
  split <;> rfl
 rw [e]
 show (gx (chL b (chL to s.L.length _ s.L).length rB (chL to s.L.length _ s.L)) b.toNat).he=false
 rw [gx_ch rfl,if_pos ⟨by rw [chL_len,h.ln];exact hb,rfl⟩]
 rfl
def eC (k:Nat):Nat:=840*k
theorem eCs (k:Nat):eC (k+1)=eC k+840:=by unfold eC;omega
theorem eC256:eC 256=215040:=rfl
def wC (k:Nat):Nat:=215044*k
theorem wCs (k:Nat):wC (k+1)=wC k+215044:=by unfold wC;omega
theorem wC256:wC 256=55051264:=rfl
theorem EmI.emp {b ns:Int} {l:List (Int×Int)}:∀ (k:Nat) {s:SD},EmI g n s b ns l→s.C.ops+eC k≤1000000000000 →
  St g n (eC k) s (empL b ns l k s).1∧((empL b ns l k s).2=0→(gx (empL b ns l k s).1.L b.toNat).he=false)
 | 0,s,h,_=>⟨.refl h.i,fun e=>by cases e⟩
 | k+1,s,h,ho=>by
  have hec:=eCs k
  obtain ⟨h1,x1,f1,k1,b1⟩:=h.i.beg h.hn (sl:=false) (by omega)
  unfold empL
  dsimp only
  generalize hr:opnS ns false s=r at h1 x1 f1 k1 b1 ⊢
  obtain ⟨r1,to,e⟩:=r
  dsimp only at h1 x1 f1 k1 b1 ⊢
  generalize hq:leftP r1 e=q at h1 x1 f1 k1 b1 ⊢
  obtain ⟨f,fe⟩:=q
  dsimp only at h1 x1 f1 k1 b1 ⊢
  have o1:=h1.o2
  by_cases hfe:fe=0
  case neg=>
   rw [if_pos hfe]
   dsimp only
   refine ⟨?_,fun e=>absurd e hfe⟩
   split
   ·rename_i he0
    have hB:=b1 he0
    obtain ⟨y,hy,-⟩:=hB.y
    exact (h1.trans (h1.i.r to (fun _=>by rw [hy];rfl) (nfr_fr (h.i.nfr_of hB.ht.1 hB.h0) f1))).up (by omega)
   ·exact h1.up (by omega)
  rw [if_neg (fun k=>k hfe)]
  by_cases he0:e=0
  case neg=>
   exfalso
   have:(leftP r1 e).2=fe:=by rw [hq]
   rw [hfe] at this
   unfold leftP at this
   split at this
   ·cases this
   ·split at this
    ·rename_i h2;exact h2 this
    ·exact he0 this
  have hB:=b1 he0
  obtain ⟨a1,hne,e1,nf1,l0,mv⟩:=h.cop h1.i x1 f1 k1 hB (by omega)
  generalize hc:copP to l 1 f=c at a1 e1 nf1 l0 mv ⊢
  obtain ⟨c1,ce⟩:=c
  dsimp only at a1 e1 nf1 l0 mv ⊢
  have o2:=a1.o2
  by_cases hc0:ce=0
  ·rw [if_pos hc0]
   dsimp only
   exact ⟨((h1.trans a1).trans (mv hc0)).up (by omega),fun _=>mov_L e1.i h.hb⟩
  rw [if_neg hc0]
  by_cases hc5:ce=5
  case neg=>
   rw [if_neg hc5]
   exact ⟨(h1.trans a1).up (by omega),fun e=>absurd e hc0⟩
  rw [if_pos hc5]
  obtain ⟨s1,sx,sf,sg⟩:=e1.i.spo hB.ht l0 nf1 (by omega)
  by_cases hs:(spoP c1 to).2≠0
  ·rw [if_pos hs]
   exact ⟨((h1.trans a1).trans s1).up (by omega),fun e=>absurd e hs⟩
  rw [if_neg hs]
  have hbt:b.toNat≠to.toNat:=by have:=h.hb;have:=hB.ht;omega
  have e2:EmI g n (spoP c1 to).1 b ns l:=⟨s1.i,h.hn,h.hb,by rw [sx];exact e1.l,by rw [sg _ hbt];exact e1.he,by rw [sg _ hbt];exact e1.ow,nfr_fr e1.nf sf⟩
  have o3:=s1.o2
  obtain ⟨z1,z2⟩:=EmI.emp k e2 (by omega)
  exact ⟨(((h1.trans a1).trans s1).trans z1).up (by omega),z2⟩
def fs0 (s:SD) (ns b:Int):SD:=if frG s ns=b then frS s ns (-1) else s
theorem SI.fs0 (h:SI g n s) {ns b:Int} (hn:0≤ns∧ns<4) (ho:0≤b∧b<(n:Int)→(gx s.L b.toNat).ow=ns):St g n 0 s (fs0 s ns b)∧nfr (Vc.fs0 s ns b) b∧(Vc.fs0 s ns b).L=s.L∧(Vc.fs0 s ns b).X=s.X∧(Vc.fs0 s ns b).C=s.C:=by
 unfold Vc.fs0
 have key:∀ i,i<4→0≤fat s i→fat s i=b→frG s ns=b:=fun i hi h0 e=>by
  rcases h.fo i hi with k | ⟨k1,-,k3⟩
  ·omega
  ·rw [e] at k1 k3
   have:=ho k1
   rw [k3] at this
   have hi2:ns.toNat=i:=by omega
   show s.fr.getD ns.toNat 0=b
   rw [hi2]
   exact e
 split
 ·rename_i hb
  refine ⟨h.frm hn,fun i hi h0 e=>?_,rfl,rfl,rfl⟩
  rw [fat_set h.fl hn] at h0 e
  split at h0
  ·omega
  ·rename_i hne
   rw [if_neg hne] at e
   rcases h.fo i hi with k | ⟨k1,-,k3⟩
   ·omega
   ·rw [e] at k1 k3
    have:=ho k1
    rw [k3] at this
    exact hne this
 ·rename_i hb
  exact ⟨.refl h,fun i hi h0 e=>hb (key i hi h0 e),rfl,rfl,rfl⟩
theorem SI.emp (h:SI g n s) {b ns:Int} (hn:0≤ns∧ns<4) (hb:b<(n:Int)) (ho:0≤b∧b<(n:Int)→(gx s.L b.toNat).ow=ns) (hp:s.C.ops+215040≤1000000000000) :
  St g n 215040 s (empP s b ns).1∧((empP s b ns).2=0→0≤b→(gx (empP s b ns).1.L b.toNat).he=false):=by
 obtain ⟨h1,h2,h3,h4,h5⟩:=h.fs0 hn ho
 have e:empP s b ns=if inP s.X (4+b)=[] then (chS (Vc.fs0 s ns b) b rB,0) else empL b ns (inP s.X (4+b)) 256 (Vc.fs0 s ns b):=rfl
 rw [e]
 by_cases hl:inP s.X (4+b)=[]
 ·rw [if_pos hl]
  have l0:0≤b∧b<(n:Int)→(gx (Vc.fs0 s ns b).L b.toNat).li=0:=fun hb=>by
   rw [h3,h.l.li _ (by omega),show 4+((b.toNat:Nat):Int)=4+b by omega,hl];rfl
  refine ⟨(h1.trans (h1.i.r b l0 h2)).up (by omega),fun _ h0=>?_⟩
  rw [chS_gx h1.i,if_pos ⟨⟨h0,hb⟩,rfl⟩]
  rfl
 ·rw [if_neg hl]
  have hb0:0≤b:=by
   refine Classical.byContradiction fun e=>hl (inP_nil fun k hk h1=>?_)
   have:=(h.l.xb k h1).1
   omega
  have hli:(gx s.L b.toNat).li≠0:=by
   rw [h.l.li _ (by omega),show 4+((b.toNat:Nat):Int)=4+b by omega]
   intro e
   exact hl (List.length_eq_zero_iff.1 (by omega))
  have E:EmI g n (Vc.fs0 s ns b) b ns (inP s.X (4+b)):=⟨h1.i,hn,⟨hb0,hb⟩,by rw [h4],by rw [h3];exact h.l.he _ (by omega) hli,by rw [h3];exact ho ⟨hb0,hb⟩,h2⟩
  have hec:=eC256
  obtain ⟨a1,a2⟩:=E.emp 256 (by rw [h5];omega)
  exact ⟨(h1.trans a1).up (by omega),fun e _=>a2 e⟩
theorem vict_is {L:List Blk} {ns bu:Int} (hl:L.length=n) (h:0≤victT L ns bu L.length):ownB ns (gx L (victT L ns bu L.length).toNat)=true:=by
 have:=bestT_is (L:=L) (m:=fun i x=>decide ((i:Int)≠bu) && ownB ns x) (ah:=fun x y=>decide (x.li<y.li)) L.length h
 rw [Bool.and_eq_true] at this
 exact this.2
theorem vict_bd {L:List Blk} {ns bu:Int}:-1≤victT L ns bu L.length∧victT L ns bu L.length<(L.length:Int):=bestT_bd (L:=L) (m:=fun i x=>decide ((i:Int)≠bu) && ownB ns x) (ah:=fun x y=>decide (x.li<y.li)) L.length
theorem own_is {x:Blk} {ns:Int} (h:ownB ns x=true):x.he=true∧x.ba=false∧x.ow=ns:=by
 unfold ownB at h
 simp only [Bool.and_eq_true,Bool.not_eq_true',beq_iff_eq] at h
 exact ⟨h.1.1,h.1.2,h.2⟩
theorem SI.room (h:SI g n s) {ns:Int} (hn:0≤ns∧ns<4) (hp:s.C.ops+215040≤1000000000000):St g n 215040 s (roomP s ns).1:=by
 have h1:=h.clos hn
 have hc:=clos_f s ns
 unfold roomP
 split
 ·have hv:=vict_bd (L:=(closP s ns).L) (ns:=ns) (bu:=-1)
  rw [h1.i.ln] at hv
  have e:s.L.length=(closP s ns).L.length:=by rw [h1.i.ln,h.ln]
  rw [e]
  refine (h1.trans (h1.i.emp (b:=victT (closP s ns).L ns (-1) (closP s ns).L.length) hn (by rw [h1.i.ln] at *;exact hv.2) (fun hb=>?_) (by rw [hc.1];exact hp)).1).up (by omega)
  exact (own_is (vict_is h1.i.ln hb.1)).2.2
 ·obtain ⟨a1,q,x1,f1⟩:=h1.i.opn hn (sl:=true) (by rw [hc.1];omega)
  dsimp only
  have a2:St g n 0 (opnS ns true (closP s ns)).1 (if (opnS ns true (closP s ns)).2.2=0 then frS (opnS ns true (closP s ns)).1 ns (opnS ns true (closP s ns)).2.1 else (opnS ns true (closP s ns)).1):=by
   split
   ·rename_i he
    obtain ⟨b1,b2,y,b3,b4⟩:=q.ok he
    exact a1.i.fr hn (.inr ⟨b1,by rw [b3];rfl,by rw [b3];show ns=_;omega⟩)
   ·exact .refl a1.i
  exact (((h1.trans a1).trans a2).trans (a2.i.left _)).up (by omega)
theorem SI.fai (h:SI g n s) {ns:Int} (hn:0≤ns∧ns<4) (h0:0≤frG s ns) (hp:s.C.ops+215042≤1000000000000):St g n 215042 s (faiP s ns).1:=by
 have hb:=(h.fG hn).resolve_left (by omega)
 have h1:=h.frm hn
 have h2:=h1.i.f (frG s ns)
 have h3:=h2.i.over
 have k3:=over_f (chS (frS s ns (-1)) (frG s ns) fB)
 have g3:gx (overP (chS (frS s ns (-1)) (frG s ns) fB)).1.L (frG s ns).toNat=fB (gx s.L (frG s ns).toNat):=by
  rw [k3.2.1,chS_gx h1.i,if_pos ⟨hb.1,rfl⟩];rfl
 have o3:=((h1.trans h2).trans h3)
 unfold faiP
 dsimp only
 split
 ·exact o3.up (by omega)
 ·have hop:=o3.o2
  obtain ⟨e1,e2⟩:=h3.i.emp (b:=frG s ns) hn hb.1.2 (fun _=>by rw [g3];exact hb.2.2) (by omega)
  split
  ·exact (o3.trans e1).up (by omega)
  ·rename_i he
   have he:(empP (overP (chS (frS s ns (-1)) (frG s ns) fB)).1 (frG s ns) ns).2=0:=Classical.byContradiction he
   have hoe:=e1.o2
   obtain ⟨d1,-,-⟩:=e1.i.dst (b:=frG s ns) (fun hb=>e2 he hb.1) (by omega)
   split
   ·exact ((o3.trans e1).trans d1).up (by omega)
   ·exact (((o3.trans e1).trans d1).trans d1.i.over).up (by omega)
theorem PI.wrt {C:CD} {L:List Blk} {O:List Hd} (h:PI g n C L O) {m:Nat} {b pa:Int} {hd:Hd} {xs tg:List Int} (hr:hd.rng) (bx:Byt xs) (bt:Byt tg) (ho:C.ops+2≤1000000000000):PI g n (wrtT m C b pa hd xs tg).1 L O∧(wrtT m C b pa hd xs tg).1.ops≤C.ops+2∧C.ops≤(wrtT m C b pa hd xs tg).1.ops:=by
 unfold wrtT
 split
 ·split
  ·rename_i hR
   exact h.prg _ _ (mkL_byt hr hR bx bt) ho
  ·exact ⟨h,Nat.le_add_right _ _,Nat.le_refl _⟩
 ·exact ⟨h,Nat.le_add_right _ _,Nat.le_refl _⟩
theorem ful_not (h:SI g n s) {ns:Int} (hn:0≤ns∧ns<4) (hf:¬ fulP s ns):(0≤frG s ns∧frG s ns<(n:Int))∧(gx s.L (frG s ns).toNat).he=true∧(gx s.L (frG s ns).toNat).ow=ns∧(gx s.L (frG s ns).toNat).us+1≤g.p-1:=by
 unfold fulP at hf
 rw [h.pi.gg] at hf
 have hb:=(h.fG hn).resolve_left (by omega)
 exact ⟨hb.1,hb.2.1,hb.2.2,by omega⟩
theorem SI.wr1 (h:SI g n s) {ns:Int} (hn:0≤ns∧ns<4) (hf:¬ fulP s ns) {hd:Hd} {xs tg:List Int} (hr:hd.rng) (bx:Byt xs) (bt:Byt tg) (hp:s.C.ops+2≤1000000000000) :
  St g n 2 s (wr1 s ns hd xs tg).1∧(wr1 s ns hd xs tg).1.X=s.X∧(wr1 s ns hd xs tg).1.fr=s.fr∧(wr1 s ns hd xs tg).1.L=chL (frG s ns) n uB s.L:=by
 have hb:=ful_not h hn hf
 have h1:=h.ch1 (frG s ns) (φ:=uB) (fun _=>rfl) (fun _=>rfl) (fun _=>rfl) (h.l.u _ fun _=>hb.2.2.2)
 obtain ⟨p1,p2,p3⟩:=h1.i.pi.wrt (m:=s.L.length) (b:=frG s ns) (pa:=(gx (chS s (frG s ns) uB).L (frG s ns).toNat).us) hr bx bt hp
 exact ⟨h1.trans (h1.i.set_C p1 p3 p2),rfl,rfl,by show chL (frG s ns) s.L.length uB s.L=_;rw [h.ln]⟩
structure LanI (g:Geo) (n:Nat) (s:SD) (ns:Int) (at_:Int×Int):Prop where
 fb:at_.1=4+frG s ns
 hb:0≤frG s ns∧frG s ns<(n:Int)
 he:(gx s.L (frG s ns).toNat).he=true
 ow:(gx s.L (frG s ns).toNat).ow=ns
 us:at_.2=(gx s.L (frG s ns).toNat).us
 p1:1≤at_.2∧at_.2≤g.p-1
 c0:¬ 1≤cntX s.X at_
theorem SI.wr {ns:Int} (hn:0≤ns∧ns<4) {hd:Hd} {xs tg:List Int} (hr:hd.rng) (bx:Byt xs) (bt:Byt tg):∀ (k:Nat) {s:SD},SI g n s→s.C.ops+wC k≤1000000000000 →
  St g n (wC k) s (wrP ns hd xs tg k s).1∧((wrP ns hd xs tg k s).2.2=0→LanI g n (wrP ns hd xs tg k s).1 ns (wrP ns hd xs tg k s).2.1)
 | 0,s,h,_=>⟨.refl h,fun e=>by cases e⟩
 | k+1,s,h,ho=>by
  have hwc:=wCs k
  unfold wrP
  dsimp only
  by_cases hf:fulP s ns
  ·rw [if_pos hf]
   have h1:=h.room hn (by omega)
   have o1:=h1.o2
   split
   ·rename_i he
    exact ⟨h1.up (by omega),fun e=>absurd e he⟩
   ·obtain ⟨a1,a2⟩:=SI.wr hn hr bx bt k h1.i (by omega)
    exact ⟨(h1.trans a1).up (by omega),a2⟩
  ·rw [if_neg hf]
   obtain ⟨h1,x1,f1,l1⟩:=h.wr1 hn hf (hd:=hd) hr bx bt (by omega)
   have hb:=ful_not h hn hf
   have fG:frG (Vc.wr1 s ns hd xs tg).1 ns=frG s ns:=by show (Vc.wr1 s ns hd xs tg).1.fr.getD _ _=_;rw [f1];rfl
   have gt:gx (Vc.wr1 s ns hd xs tg).1.L (frG s ns).toNat=uB (gx s.L (frG s ns).toNat):=by rw [l1,gx_ch h.ln,if_pos ⟨hb.1,rfl⟩]
   have o1:=h1.o2
   split
   ·refine ⟨h1.up (by omega),fun _=>?_⟩
    dsimp only
    refine ⟨by rw [fG];rfl,by rw [fG];exact hb.1,by rw [fG,gt];exact hb.2.1,by rw [fG,gt];exact hb.2.2.1,by rw [fG,gt];rfl,?_,?_⟩
    ·have:=(h.l.us (frG s ns).toNat (by omega)).1
     show 1≤(gx s.L (frG s ns).toNat).us+1∧(gx s.L (frG s ns).toNat).us+1≤g.p-1
     omega
    ·rw [x1]
     intro h2
     have:=h.l.pu _ h2
     have e:((plc s ns).1-4).toNat=(frG s ns).toNat:=by show (4+frG s ns-4).toNat=_;omega
     rw [e] at this
     have:(gx s.L (frG s ns).toNat).us+1≤(gx s.L (frG s ns).toNat).us:=this
     omega
   ·rename_i hne
    split
    ·have a1:=h1.i.fai hn (by rw [fG];exact hb.1.1) (by omega)
     have o2:=a1.o2
     split
     ·rename_i he
      exact ⟨(h1.trans a1).up (by omega),fun e=>absurd e he⟩
     ·obtain ⟨b1,b2⟩:=SI.wr hn hr bx bt k a1.i (by omega)
      exact ⟨((h1.trans a1).trans b1).up (by omega),b2⟩
    ·exact ⟨h1.up (by omega),fun e=>absurd e hne⟩
end
end Go.Proofs.YtbaojfchlhlaeaaGreat.Vc
namespace Go.Proofs.YtbaojfchlhlaeaaGreat.Vc
open Go Go.Eng Go.RowKit
theorem gonP_mem {X Y:List (SlP Ce)} {k:Int×Int}:k∈gonP X Y↔((0≤k.1∧k.1<64)∧(0≤k.2∧k.2<32))∧1≤cntX X k∧cntX Y k=0:=by
 unfold gonP
 rw [List.mem_filter,List.mem_flatMap,decide_eq_true_iff]
 constructor
 ·rintro ⟨⟨b,hb,h1⟩,h2⟩
  obtain ⟨i,hi,rfl⟩:=List.mem_map.1 h1
  have hb:=List.mem_range.1 hb
  have hi:=List.mem_range.1 hi
  exact ⟨⟨by dsimp only;omega,by dsimp only;omega⟩,h2⟩
 ·rintro ⟨⟨h1,h2⟩,h3⟩
  exact ⟨⟨k.1.toNat,List.mem_range.2 (by omega),List.mem_map.2 ⟨k.2.toNat,List.mem_range.2 (by omega),Prod.ext (by dsimp only;omega) (by dsimp only;omega)⟩⟩,h3⟩
theorem gonP_so (X Y:List (SlP Ce)):(gonP X Y).Pairwise plL:=by
 unfold gonP
 refine List.Pairwise.filter _ ?_
 rw [List.pairwise_flatMap]
 refine ⟨fun b _=>List.pairwise_map.2 (List.pairwise_lt_range.imp fun {a c} h=>.inr ⟨rfl,by dsimp only;omega⟩),List.pairwise_lt_range.imp fun {a c} h x hx y hy=>?_⟩
 obtain ⟨i,-,rfl⟩:=List.mem_map.1 hx
 obtain ⟨j,-,rfl⟩:=List.mem_map.1 hy
 exact .inl (by dsimp only;omega)
def pend (l:List (Int×Int)) (i:Nat):Int:=(l.countP fun k=>decide (k.1=4+(i:Int)):Nat)
structure LP (X:List (SlP Ce)) (p:Int) (n:Nat) (l:List (Int×Int)) (L:List Blk):Prop where
 pp:4≤p∧p≤32
 four:X.length=4
 ll:L.length=n
 xb:∀ k,1≤cntX X k→(4≤k.1∧k.1<4+(n:Int))∧(1≤k.2∧k.2<p)
 us:∀ i,i<n→0≤(gx L i).us∧(gx L i).us≤p-1
 li:∀ i,i<n→(gx L i).li=((inP X (4+(i:Int))).length:Int)+pend l i
 he:∀ i,i<n→(gx L i).li≠0→(gx L i).he=true
 ho:∀ i,i<n→(gx L i).he=true→0≤(gx L i).ow∧(gx L i).ow<4
 pu:∀ k,1≤cntX X k→k.2≤(gx L (k.1-4).toNat).us
 ow:∀ (ns:Int) (j:Nat) (c:Ce),(0≤ns∧ns<4)→(getX X ns).l[j]? = some c→c.has=true→(gx L (c.s.b-4).toNat).ow=ns
 lb:∀ k∈l,4≤k.1∧k.1<4+(n:Int)
structure SP (g:Geo) (n:Nat) (l:List (Int×Int)) (s:SD):Prop where
 pi:PI g n s.C s.L s.O
 xo:XOk s.X
 l:LP s.X g.p n l s.L
 fl:s.fr.length=4
 fo:∀ i,i<4→frOk n s.L i (fat s i)
 ep:u64R s.ep
 op:u64R s.op
 ct:u64R s.ct
section
variable {g:Geo} {n K J:Nat} {s s' t:SD}
theorem SP.fin (h:SP g n [] s):SI g n s:=⟨h.pi,h.xo,⟨h.l.pp,h.l.four,h.l.ll,h.l.xb,h.l.us,fun i hi=>by rw [h.l.li i hi];show _+(0:Int)=_;omega,h.l.he,h.l.ho,h.l.pu,h.l.ow⟩,h.fl,h.fo,h.ep,h.op,h.ct⟩
theorem mem_fr (h:s.fr.length=4) {b:Int} (hb:b∉s.fr):∀ i,i<4→fat s i≠b:=fun i hi e=>hb (by
 rw [←e]
 show s.fr.getD i 0∈s.fr
 rw [List.getD_eq_getElem?_getD,List.getElem?_eq_getElem (by omega)]
 exact List.getElem_mem (by omega))
theorem SP.ded {k:Int×Int} {l:List (Int×Int)} (h:SP g n (k::l) s):SP g n l (ded1 s k)∧(ded1 s k).C=s.C∧(ded1 s k).O=s.O∧(ded1 s k).X=s.X∧(ded1 s k).fr=s.fr∧(ded1 s k).ep=s.ep∧(ded1 s k).op=s.op∧(ded1 s k).ct=s.ct∧(ded1 s k).ro=s.ro:=by
 have hkb:=h.l.lb k List.mem_cons_self
 have hln:=h.pi.ll
 obtain ⟨b,hbk⟩:∃ b:Int,b=k.1-4:=⟨_,rfl⟩
 have hb:0≤b∧b<(n:Int):=by omega
 have g1:∀ i,gx (chL b n (cB (-1)) s.L) i=if (0≤b∧b<(n:Int))∧i=b.toNat then cB (-1) (gx s.L i) else gx s.L i:=gx_ch hln
 have l1:(chL b n (cB (-1)) s.L).length=n:=by rw [chL_len];exact hln
 have pc:∀ i:Nat,pend (k::l) i=pend l i+(if i=b.toNat then 1 else 0):=fun i=>by
  unfold pend
  rw [List.countP_cons]
  by_cases e:i=b.toNat
  ·rw [if_pos e,if_pos (decide_eq_true (by omega))];push_cast;rfl
  ·rw [if_neg e,if_neg (by rw [decide_eq_true_iff];omega)];push_cast;rfl
 have pp0:∀ i,0≤pend l i:=fun i=>by unfold pend;omega
 have hli:(gx s.L b.toNat).li=((inP s.X (4+((b.toNat:Nat):Int))).length:Int)+pend l b.toNat+1:=by
  rw [h.l.li _ (by omega),pc,if_pos rfl];omega
 have c1:(cB (-1) (gx s.L b.toNat)).li=(gx s.L b.toNat).li-1:=by
  have:=pp0 b.toNat
  show (if (-1:Int)<0-(gx s.L b.toNat).li then (0:Int) else (gx s.L b.toNat).li+(-1))=_
  split <;> omega
 have L1:LP s.X g.p n l (chL b n (cB (-1)) s.L):=by
  refine ⟨h.l.pp,h.l.four,l1,h.l.xb,fun i hi=>?_,fun i hi=>?_,fun i hi e=>?_,fun i hi e=>?_,fun k' hk'=>?_,fun ms j c hm hj hc=>?_,fun k' hk'=>h.l.lb k' (List.mem_cons_of_mem _ hk')⟩
  ·rw [g1];split
   ·exact h.l.us i hi
   ·exact h.l.us i hi
  ·rw [g1];split
   ·rename_i e
    have e2:=e.2
    subst e2
    rw [c1,hli];omega
   ·rename_i e
    rw [h.l.li i hi,pc,if_neg (fun e2=>e ⟨hb,e2⟩)];omega
  ·rw [g1] at e⊢;split
   ·rename_i e1
    have e2:=e1.2
    subst e2
    rw [if_pos e1,c1] at e
    exact h.l.he _ hi (by rw [hli] at e⊢;have:=pp0 b.toNat;omega)
   ·rename_i e1;rw [if_neg e1] at e;exact h.l.he i hi e
  ·rw [g1] at e⊢;split
   ·rename_i e1;rw [if_pos e1] at e;exact h.l.ho i hi e
   ·rename_i e1;rw [if_neg e1] at e;exact h.l.ho i hi e
  ·rw [g1];split
   ·exact h.l.pu k' hk'
   ·exact h.l.pu k' hk'
  ·rw [g1];split
   ·exact h.l.ow ms j c hm hj hc
   ·exact h.l.ow ms j c hm hj hc
 have P1:SP g n l (chS s b (cB (-1))):=by
  have hp:=h.pi.chL b (φ:=cB (-1)) (fun _=>rfl)
  refine ⟨hp,h.xo,by show LP s.X g.p n l (chL b s.L.length _ s.L);rw [hln];exact L1,h.fl,fun i hi=>?_,h.ep,h.op,h.ct⟩
  show frOk n (chL b s.L.length _ s.L) i (fat s i)
  rw [hln]
  exact (h.fo i hi).ch1 (φ:=cB (-1)) hln (fun _=>rfl) (fun _=>rfl)
 show SP g n l (if (gx (chS s (k.1-4) (cB (-1))).L (k.1-4).toNat).li=0∧(gx (chS s (k.1-4) (cB (-1))).L (k.1-4).toNat).he=true∧(k.1-4)∉s.fr then chS (chS s (k.1-4) (cB (-1))) (k.1-4) rB else chS s (k.1-4) (cB (-1)))∧_
 unfold ded1
 dsimp only
 rw [←hbk]
 split
 ·rename_i hc
  refine ⟨?_,rfl,rfl,rfl,rfl,rfl,rfl,rfl,rfl⟩
  obtain ⟨hc1,hc2,hc3⟩:=hc
  have hln2:(chS s b (cB (-1))).L.length=n:=P1.pi.ll
  have g2:=gx_ch (b:=b) (φ:=rB) hln2
  have hp:=P1.pi.chL b (φ:=rB) (fun _=>rfl)
  refine ⟨hp,P1.xo,?_,P1.fl,fun i hi=>?_,P1.ep,P1.op,P1.ct⟩
  ·show LP s.X g.p n l (chL b (chS s b (cB (-1))).L.length rB (chS s b (cB (-1))).L)
   rw [hln2]
   have P:LP s.X g.p n l (chS s b (cB (-1))).L:=P1.l
   generalize (chS s b (cB (-1))).L=M at hc1 hc2 hln2 g2 P ⊢
   refine ⟨P.pp,P.four,by rw [chL_len];exact hln2,P.xb,fun i hi=>?_,fun i hi=>?_,fun i hi e=>?_,fun i hi e=>?_,fun k' hk'=>?_,fun ms j c hm hj hcc=>?_,P.lb⟩
   ·rw [g2];split <;> exact P.us i hi
   ·rw [g2];split
    ·rename_i e;rw [←P.li i hi,e.2,hc1];rfl
    ·exact P.li i hi
   ·rw [g2] at e⊢;split
    ·rename_i e1;rw [if_pos e1] at e;exact absurd rfl e
    ·rename_i e1;rw [if_neg e1] at e;exact P.he i hi e
   ·rw [g2] at e⊢;split
    ·rename_i e1;rw [if_pos e1] at e;cases e
    ·rename_i e1;rw [if_neg e1] at e;exact P.ho i hi e
   ·rw [g2];split <;> exact P.pu k' hk'
   ·rw [g2];split <;> exact P.ow ms j c hm hj hcc
  ·show frOk n (chL b (chS s b (cB (-1))).L.length rB (chS s b (cB (-1))).L) i (fat (chS s b (cB (-1))) i)
   rw [hln2]
   refine (P1.fo i hi).oth fun e=>?_
   rw [g2,if_neg]
   rintro ⟨e1,e2⟩
   have hne:fat (chS s b (cB (-1))) i≠b:=mem_fr h.fl hc3 i hi
   omega
 ·exact ⟨P1,rfl,rfl,rfl,rfl,rfl,rfl,rfl,rfl⟩
theorem SP.dead:∀ (l:List (Int×Int)) {s:SD},SP g n l s→SI g n (dedP l s)∧(dedP l s).C=s.C∧(dedP l s).O=s.O∧(dedP l s).X=s.X∧(dedP l s).fr=s.fr∧(dedP l s).ep=s.ep∧(dedP l s).op=s.op∧(dedP l s).ct=s.ct∧(dedP l s).ro=s.ro
 | [],s,h=>⟨h.fin,rfl,rfl,rfl,rfl,rfl,rfl,rfl,rfl⟩
 | k::l,s,h=>by
  obtain ⟨h1,a1,a2,a3,a4,a5,a6,a7,a8⟩:=h.ded
  obtain ⟨h2,b1,b2,b3,b4,b5,b6,b7,b8⟩:=SP.dead l h1
  exact ⟨h2,b1.trans a1,b2.trans a2,b3.trans a3,b4.trans a4,b5.trans a5,b6.trans a6,b7.trans a7,b8.trans a8⟩
structure PuX (s:SD) (hd:Hd) (at_:Int×Int) (Y:List (SlP Ce)):Prop where
 I:PutI (sptS s hd at_) s.X hd.c.toNat Y (putP (sptS s hd at_) s.X hd.c.toNat).2
 sz:∀ ns,(getX Y ns).n=(getX s.X ns).n
 pos:∀ k,k≠at_→1≤cntX Y k→1≤cntX s.X k
 cl:∀ (ns:Int) (j:Nat) (c:Ce),(getX Y ns).l[j]? = some c→(getX s.X ns).l[j]? = some c∨(ns=hd.n∧c=⟨true,sptS s hd at_⟩)
theorem sz_sl {X Y:List (SlP Ce)} (hY:Y.length=4) (hX:X.length=4) (h:Y.map slM=X.map slM) (ns:Int):(getX Y ns).n=(getX X ns).n:=by
 by_cases hn:0≤ns∧ns<4
 ·have h1:(Y.map slM)[ns.toNat]? = (X.map slM)[ns.toNat]?:=by rw [h]
  rw [List.getElem?_map,List.getElem?_map,getX_at hY hn,getX_at hX hn] at h1
  have h2:=Option.some.inj h1
  unfold slM at h2
  injection h2
 ·unfold getX
  rw [if_neg hn,if_neg hn]
theorem SI.pux (h:SI g n s) {hd:Hd} (hm:mayP s hd) (hr:hd.rng) (hn:0≤hd.n∧hd.n<4) (at_:Int×Int):PuX s hd at_ (putP (sptS s hd at_) s.X hd.c.toNat).1:=by
 have I:=putP_inv (s:=sptS s hd at_) h.xo hn hd.c.toNat (by
  show hd.l.toNat+hd.c.toNat≤(getX s.X hd.n).n
  have:=hm.2.1;have:=hm.2.2.1;have:=hm.2.2.2;have:=hr.1
  omega)
 have cl:∀ (ns:Int) (j:Nat) (c:Ce),(getX (putP (sptS s hd at_) s.X hd.c.toNat).1 ns).l[j]? = some c→(getX s.X ns).l[j]? = some c∨(ns=hd.n∧c=⟨true,sptS s hd at_⟩):=fun ns j c hj=>by
  rw [I.cell] at hj
  split at hj
  ·rename_i e
   obtain ⟨c0,hc0,rfl⟩:=Option.map_eq_some_iff.1 hj
   unfold putC
   split
   ·exact .inl hc0
   ·exact .inr ⟨e.1,rfl⟩
  ·exact .inl hj
 refine ⟨I,sz_sl I.ok.four h.xo.four I.sl,fun k hk h1=>?_,cl⟩
 obtain ⟨ns,j,c,hns,hj,hc,rfl⟩:=cntX_ex I.ok.four h1
 rcases cl ns j c hj with e | ⟨-,e⟩
 ·exact cntX_pos h.xo.four hns e hc
 ·subst e
  exact absurd rfl hk
theorem SI.lnd0 (h:SI g n s) {hd:Hd} {at_:Int×Int} (hA:LanI g n s hd.n at_) (hm:mayP s hd) (hr:hd.rng) (hn:0≤hd.n∧hd.n<4):SP g n (gonP s.X (lndX s hd at_)) (lnd1 s hd at_):=by
 have P:PuX s hd at_ (lndX s hd at_):=h.pux hm hr hn at_
 unfold lnd1
 generalize lndX s hd at_=Y at P ⊢
 have hln:=h.ln
 have hbk:at_.1-4=frG s hd.n:=by rw [hA.fb];omega
 rw [hbk]
 have hb:=hA.hb
 have hno:=h.no
 have gm:∀ k,k∈gonP s.X Y↔1≤cntX s.X k∧cntX Y k=0:=fun k=>by
  rw [gonP_mem]
  refine ⟨fun e=>e.2,fun e=>⟨?_,e⟩⟩
  have:=h.l.xb k e.1
  have:=h.l.pp
  omega
 have c0:=hA.c0
 have yb:∀ k,1≤cntX Y k→(4≤k.1∧k.1<4+(n:Int))∧(1≤k.2∧k.2<g.p):=fun k hk=>by
  by_cases e:k=at_
  ·subst e
   have:=hA.fb;have:=hA.p1
   omega
  ·exact h.l.xb k (P.pos k e hk)
 have hcy:=fun k=>(cntX_le P.I.ok k).1
 have cnt:∀ i:Nat,((inP Y (4+(i:Int))).length:Int)+pend (gonP s.X Y) i=((inP s.X (4+(i:Int))).length:Int)+(if 0<cntX Y at_∧i=(frG s hd.n).toNat then 1 else 0):=fun i=>by
  have e1:(inP Y (4+(i:Int))++(gonP s.X Y).filter fun k=>decide (k.1=4+(i:Int))).length=(inP s.X (4+(i:Int))++if 0<cntX Y at_∧i=(frG s hd.n).toNat then [at_] else []).length:=by
   refine len_eq ?_ ?_ fun k=>?_
   ·rw [List.nodup_append]
    refine ⟨so_nd (inP_so _ _),(so_nd (gonP_so _ _)).filter _,fun a ha b hb e=>?_⟩
    subst e
    have h1:=(inP_mem.1 ha).2.2
    have h2:=((gm a).1 (List.mem_filter.1 hb).1).2
    omega
   ·rw [List.nodup_append]
    refine ⟨so_nd (inP_so _ _),by split <;> simp,fun a ha b hb e=>?_⟩
    subst e
    split at hb
    ·rw [List.mem_singleton.1 hb] at ha
     exact c0 (inP_mem.1 ha).2.2
    ·cases hb
   ·rw [List.mem_append,List.mem_append,inP_mem,inP_mem,List.mem_filter,gm,decide_eq_true_iff]
    constructor
    ·rintro (⟨h1,h2,h3⟩ | ⟨⟨h1,h2⟩,h3⟩)
     ·by_cases e:k=at_
      ·subst e
       refine .inr ?_
       rw [if_pos ⟨by omega,by have:=hA.fb;omega⟩]
       exact List.mem_singleton.2 rfl
      ·exact .inl ⟨h1,h2,P.pos k e h3⟩
     ·have:=h.l.xb k h1
      have:=h.l.pp
      exact .inl ⟨h3,by omega,h1⟩
    ·rintro (⟨h1,h2,h3⟩ | h1)
     ·by_cases e:1≤cntX Y k
      ·exact .inl ⟨h1,h2,e⟩
      ·have:=hcy k
       exact .inr ⟨⟨h3,by omega⟩,h1⟩
     ·split at h1
      ·rename_i e
       rw [List.mem_singleton.1 h1]
       have:=yb at_ (by omega)
       have:=h.l.pp
       exact .inl ⟨by have:=hA.fb;omega,by omega,by omega⟩
      ·cases h1
  rw [List.length_append,List.length_append,← List.countP_eq_length_filter] at e1
  unfold pend
  split at e1
  ·rename_i e;rw [if_pos e];rw [List.length_singleton] at e1;omega
  ·rename_i e;rw [if_neg e];rw [List.length_nil] at e1;omega
 have key:∀ L':List Blk,L'.length=n→(∀ i,i<n→(gx L' i).li=(gx s.L i).li+(if 0<cntX Y at_∧i=(frG s hd.n).toNat then 1 else 0)∧(gx L' i).us=(gx s.L i).us∧(gx L' i).he=(gx s.L i).he∧(gx L' i).ow=(gx s.L i).ow) →
   LP Y g.p n (gonP s.X Y) L':=fun L' hl hg=>by
  have out:∀ {k:Int×Int},(4≤k.1∧k.1<4+(n:Int))→(k.1-4).toNat<n:=fun h=>by omega
  refine ⟨h.l.pp,P.I.ok.four,hl,yb,fun i hi=>?_,fun i hi=>?_,fun i hi e=>?_,fun i hi e=>?_,fun k hk=>?_,fun ms j c hms hj hc=>?_,fun k hk=>(h.l.xb k ((gm k).1 hk).1).1⟩
  ·rw [(hg i hi).2.1];exact h.l.us i hi
  ·rw [(hg i hi).1,h.l.li i hi,cnt i]
  ·rw [(hg i hi).2.2.1]
   by_cases e1:i=(frG s hd.n).toNat
   ·rw [e1];exact hA.he
   ·refine h.l.he i hi fun e2=>e ?_
    rw [(hg i hi).1,if_neg (fun e3=>e1 e3.2),e2];rfl
  ·rw [(hg i hi).2.2.2];rw [(hg i hi).2.2.1] at e;exact h.l.ho i hi e
  ·have hkb:=yb k hk
   rw [(hg _ (out hkb.1)).2.1]
   by_cases e:k=at_
   ·subst e
    rw [show (k.1-4).toNat=(frG s hd.n).toNat by have:=hA.fb;omega]
    have:=hA.us
    omega
   ·exact h.l.pu k (P.pos k e hk)
  ·have hkb:=yb c.pl (cntX_pos P.I.ok.four hms hj hc)
   have hlt:(c.s.b-4).toNat<n:=out hkb.1
   rw [(hg _ hlt).2.2.2]
   rcases P.cl ms j c hj with e | ⟨e1,e2⟩
   ·exact h.l.ow ms j c hms e hc
   ·subst e2
    show (gx s.L (at_.1-4).toNat).ow=ms
    rw [hbk,hA.ow,e1]
 by_cases hc:0<cntX Y at_
 ·rw [if_pos hc]
  have hp:=h.pi.chL (frG s hd.n) (φ:=cB 1) (fun _=>rfl)
  refine ⟨hp,P.I.ok,?_,h.fl,fun i hi=>?_,h.ep,h.op,h.ct⟩
  ·show LP Y g.p n (gonP s.X Y) (chL (frG s hd.n) s.L.length (cB 1) s.L)
   rw [hln]
   refine key _ (by rw [chL_len];exact hln) fun i hi=>?_
   rw [gx_ch hln]
   by_cases e:i=(frG s hd.n).toNat
   ·rw [if_pos ⟨hb,e⟩,if_pos ⟨hc,e⟩]
    refine ⟨?_,rfl,rfl,rfl⟩
    have:=h.l.li i hi
    show (if (1:Int)<0-(gx s.L i).li then (0:Int) else (gx s.L i).li+1)=_
    rw [if_neg (by omega)]
   ·rw [if_neg (fun e1=>e e1.2),if_neg (fun e1=>e e1.2)]
    exact ⟨(Int.add_zero _).symm,rfl,rfl,rfl⟩
  ·show frOk n (chL (frG s hd.n) s.L.length (cB 1) s.L) i (fat s i)
   rw [hln]
   exact (h.fo i hi).ch1 (φ:=cB 1) hln (fun _=>rfl) (fun _=>rfl)
 ·rw [if_neg hc]
  refine ⟨h.pi,P.I.ok,key s.L hln fun i hi=>?_,h.fl,h.fo,h.ep,h.op,h.ct⟩
  rw [if_neg (fun e=>hc e.1)]
  exact ⟨(Int.add_zero _).symm,rfl,rfl,rfl⟩
theorem lnd1_f (s:SD) (hd:Hd) (at_:Int×Int):(lnd1 s hd at_).C=s.C∧(lnd1 s hd at_).X=lndX s hd at_∧(lnd1 s hd at_).O=s.O∧(lnd1 s hd at_).fr=s.fr∧(lnd1 s hd at_).ep=s.ep∧(lnd1 s hd at_).op=s.op∧(lnd1 s hd at_).ct=s.ct∧(lnd1 s hd at_).ro=s.ro:=by
 unfold lnd1
 split <;> exact ⟨rfl,rfl,rfl,rfl,rfl,rfl,rfl,rfl⟩
theorem SI.lnd (h:SI g n s) {hd:Hd} {at_:Int×Int} (hA:LanI g n s hd.n at_) (hm:mayP s hd) (hr:hd.rng) (hn:0≤hd.n∧hd.n<4) :
  SI g n (lndP s hd at_)∧(lndP s hd at_).C=s.C∧(lndP s hd at_).X=lndX s hd at_∧(lndP s hd at_).O=s.O∧(lndP s hd at_).fr=s.fr∧(lndP s hd at_).ep=s.ep∧(lndP s hd at_).op=s.op∧(lndP s hd at_).ct=s.ct∧(lndP s hd at_).ro=s.ro:=by
 obtain ⟨h2,b1,b2,b3,b4,b5,b6,b7,b8⟩:=SP.dead _ (h.lnd0 hA hm hr hn)
 obtain ⟨e1,e2,e3,e4,e5,e6,e7,e8⟩:=lnd1_f s hd at_
 exact ⟨h2,b1.trans e1,b3.trans e2,b2.trans e3,b4.trans e4,b5.trans e5,b6.trans e6,b7.trans e7,b8.trans e8⟩
theorem may_sz {hd:Hd} (e:∀ ns,(getX t.X ns).n=(getX s.X ns).n):mayP t hd↔mayP s hd:=by unfold mayP;rw [e]
theorem may_ns {hd:Hd} (h:mayP s hd):0≤hd.n∧hd.n<4:=by
 refine Classical.byContradiction fun e=>?_
 have h1:=h.2.1
 have h2:=h.2.2.1
 unfold getX at h2
 rw [if_neg e] at h2
 have h2:hd.c≤((0:Nat):Int):=h2
 omega
theorem SI.put (h:SI g n s) {hd:Hd} {xs tg:List Int} (hr:hd.rng) (bx:Byt xs) (bt:Byt tg) (ho:s.C.ops+55051264≤1000000000000):St g n 55051264 s (putS s hd xs tg).1:=by
 unfold putS
 by_cases hm:mayP s hd
 case neg=>rw [if_pos hm];exact (St.refl h).up (by omega)
 rw [if_neg (fun k=>k hm)]
 split
 ·exact (St.refl h).up (by omega)
 have hn:=may_ns hm
 have hwc:=wC256
 obtain ⟨a1,a2⟩:=SI.wr hn hr bx bt (xs:=xs) (tg:=tg) 256 h (by omega)
 dsimp only
 split
 ·exact a1.up (by omega)
 ·rename_i he
  have he:(wrP hd.n hd xs tg 256 s).2.2=0:=Classical.byContradiction he
  have hm2:mayP (wrP hd.n hd xs tg 256 s).1 hd:=(may_sz a1.sz).2 hm
  obtain ⟨b0,b1,b2,b3,b4,b5,b6,b7,b8⟩:=a1.i.lnd (a2 he) hm2 hr hn
  have P:=a1.i.pux hm2 hr hn (wrP hd.n hd xs tg 256 s).2.1
  dsimp only
  exact ⟨b0,by rw [b1];exact a1.o1,by rw [b1];have:=a1.o2;omega,fun ns=>by rw [b2];exact (P.sz ns).trans (a1.sz ns),b5.trans a1.ep,b7.trans a1.ct⟩
theorem SI.nxt (h:SI g n s) (hd:Hd):St g n 0 {s with ct:=s.ct} s∧SI g n (nxtS s hd).1:=⟨.refl h,⟨h.pi,h.xo,h.l,h.fl,h.fo,h.ep,h.op,u64w_R _⟩⟩
theorem SI.emt (h:SI g n s) {b:Int} (ho:s.C.ops+215040≤1000000000000):St g n 215040 s (emtS s b).1∧((emtS s b).2=0→0≤b∧b<(n:Int)→(gx (emtS s b).1.L b.toNat).he=false):=by
 unfold emtS
 rw [h.ln]
 by_cases hb:0≤b∧b<(n:Int)
 case neg=>rw [if_pos hb];exact ⟨(St.refl h).up (by omega),fun _ e=>absurd e hb⟩
 rw [if_neg (fun k=>k hb)]
 dsimp only
 by_cases hx:(gx s.L b.toNat).he=false∨(gx s.L b.toNat).ow<0∨4≤(gx s.L b.toNat).ow
 ·rw [if_pos hx]
  refine ⟨(St.refl h).up (by omega),fun _ _=>?_⟩
  rcases hx with e | e
  ·exact e
  ·refine Bool.eq_false_iff.2 fun e2=>?_
   have:=h.l.ho _ (by omega) e2
   omega
 rw [if_neg hx]
 by_cases hc:0<(gx s.L b.toNat).li∧s.ro=true
 ·rw [if_pos hc]
  exact ⟨(St.refl h).up (by omega),fun e=>by cases e⟩
 rw [if_neg hc]
 obtain ⟨a1,a2⟩:=h.emp (b:=b) (ns:=(gx s.L b.toNat).ow) (by omega) hb.2 (fun _=>rfl) ho
 exact ⟨a1,fun e hb=>a2 e hb.1⟩
end
end Go.Proofs.YtbaojfchlhlaeaaGreat.Vc
namespace Go.Proofs.YtbaojfchlhlaeaaGreat.Vc
open Go Go.Eng Go.RowKit
section
variable {E:Nat→Prop} {w0 w:World} {Rs:List Asr} {sp pp pm p q n:Nat} {g:Geo} {s:SD}
theorem SI.us9 (h:SI g n s):∀ x∈s.L,0≤x.us∧x.us≤1000000000:=fun x hx=>by
 obtain ⟨i,hi,rfl⟩:=mem_gx hx
 have:=h.l.us i (by have:=h.ln;omega)
 have:=h.no
 omega
theorem SI.li9 (h:SI g n s):∀ x∈s.L,0≤x.li∧x.li≤1000000000:=fun x hx=>by
 obtain ⟨i,hi,rfl⟩:=mem_gx hx
 rw [h.l.li i (by have:=h.ln;omega)]
 have:=l32 h.l (4+(i:Int))
 omega
theorem Destroy25_c {b:Int} (h:SI g n s) (hh:0≤b∧b<(n:Int)→(gx s.L b.toNat).he=false) (ho:s.C.ops+2≤1000000000000) (S:Sep E w0 w (stS sp pp pm p q g s Rs)) :
  CallV Tryz.prog 47 #[.pointer (some ⟨sp,0,none⟩),.int .i64 b] w [.one (.int .i64)] fun r w'=>r.1=(dstS s b).2∧Sep E w0 w' (stS sp pp pm p q g (dstS s b).1 Rs):=by
 apply stream_Stream_Destroy.vc
 unfold stream_Stream_Destroy.P
 refine (has25_c (b:=b) h S).mono ?_
 rintro ⟨r,⟨⟩⟩ w1 ⟨h1,rfl⟩
 dsimp only at h1 ⊢
 subst h1
 have hln:=h.ln
 unfold dstS
 by_cases hb:0≤b∧b<(n:Int)
 case neg=>
  rw [if_neg (by rw [hln];exact hb)]
  exact cond_t (by rw [decide_eq_false (by rw [hln];exact hb)];rfl) ⟨rfl,S⟩
 rw [if_pos (by rw [hln];exact hb)]
 refine cond_f (by rw [decide_eq_true (by rw [hln];exact hb)];rfl) ?_
 refine S.ld0 (j:=0) rfl rfl ?_
 obtain ⟨y,S⟩:=polE_out (S.fro [2,2,2] rfl)
 refine (Destroy24_c (b:=b) h.pi ho S).mono ?_
 rintro ⟨r,⟨⟩⟩ w2 ⟨h2,S⟩
 dsimp only at h2 ⊢
 rw [show dsC n s.C s.L b=dstP s.C s.L b from if_pos hb] at h2 S
 subst h2
 have S:Sep E w0 w2 (stS sp pp pm p q g {s with C:=(dstP s.C s.L b).1,L:=(dstP s.C s.L b).2.1} Rs):=(polE_in S).fro [3,3] rfl
 refine (over25_c (h.dst0 hb (hh hb) ho).i S).mono ?_
 rintro ⟨r,⟨⟩⟩ w3 ⟨-,S⟩
 exact ⟨rfl,S⟩
theorem Order_p {b:Int} (S:Sep E w0 w (stS sp pp pm p q g s Rs)):CallV Tryz.prog 119 #[.pointer (some ⟨pp,0,none⟩),.int .i64 b] w [.agg [.int .i64,.int .i64,.int .i64,.int .u32,.int .u64,.int .u64]] fun r w'=>r.1=(ordO s.O b).tup∧Ext w w':=by
 obtain ⟨y,S⟩:=polE_out (S.fro [2,2,2] rfl)
 exact Order24_c (b:=b) S
theorem outS_n {a:Option Addr} {nn c:Nat} {Os:List Sp} (S:Sep E w0 w (outS a nn c Os::Rs)):Os.length=nn:=(S.own 0 rfl).lenF Spv_len (by decide)
theorem copied25_c {to:Int} {Os:List Sp} {a:Option Addr} {nn c:Nat} (h:SI g n s) (ht:0≤to∧to<(n:Int)) (hu:(gx s.L to.toNat).us+(Os.length:Int)≤g.p-1) (ho:s.C.ops+(2*Os.length+1)≤1000000000000) (S:Sep E w0 w (outS a nn c Os::stS sp pp pm p q g s Rs)) :
  CallV Tryz.prog 177 #[.pointer (some ⟨sp,0,none⟩),.int .i64 to,.slice a nn c] w [.one (.int .i64)] fun r w'=>r.1=(copP to (Os.map Sp.pk) 1 s).2∧Sep E w0 w' (outS a nn c Os::stS sp pp pm p q g (copP to (Os.map Sp.pk) 1 s).1 Rs):=by
 apply stream_Stream_copied.vc
 unfold stream_Stream_copied.P
 have hnn:=outS_n S
 have hno:=h.no
 have hus:=(h.l.us to.toNat (by omega)).1
 refine Loop1 (fun (v:Int×Unit) w'=>∃ (i:Nat) (t:SD),v.1=(i:Int)∧i≤Os.length∧copP to ((Os.map Sp.pk).drop i) ((i:Int)+1) t=copP to (Os.map Sp.pk) 1 s∧SI g n t∧(gx t.L to.toNat).us+((Os.length:Int)-i)≤g.p-1∧t.C.ops+(2*(Os.length-i)+1)≤1000000000000∧Sep E w0 w' (outS a nn c Os::stS sp pp pm p q g t Rs)) (fun (v:Int×Unit) _=>((nn:Int)-v.1).toNat)
  ⟨0,s,rfl,Nat.zero_le _,by rw [List.drop_zero];rfl,h,by omega,by omega,S⟩ ?_
 clear S
 rintro ⟨(v:Int),⟨⟩⟩ w1 ⟨i,t,hv,hi,hX,h1,hu1,ho1,S⟩
 dsimp only at hv
 subst hv
 refine cond_d (fun hlt=>?_) (fun hge=>?_)
 case refine_2=>
  have hie:i=Os.length:=by omega
  subst hie
  rw [List.drop_of_length_le (by rw [List.length_map];exact Nat.le_refl _)] at hX
  rw [←hX]
  refine S.ld1 (j:=0) rfl rfl ?_
  obtain ⟨y,S⟩:=polE_out (S.fro [3,3,3] rfl)
  refine (Seal24_c (b:=to) h1.pi (by omega) S).mono ?_
  rintro ⟨r,⟨⟩⟩ w2 ⟨h2,S⟩
  dsimp only at h2 ⊢
  show r=(slC t.L.length t.C to).2∧_
  rw [h1.ln]
  refine ⟨h2,?_⟩
  have S:Sep E w0 w2 (outS a nn c Os::stS sp pp pm p q g {t with C:=(slC n t.C to).1} Rs):=(polE_in S).fro [3,3,3] rfl
  show Sep E w0 w2 (outS a nn c Os::stS sp pp pm p q g {t with C:=(slC t.L.length t.C to).1} Rs)
  rw [h1.ln]
  exact S
 obtain ⟨qa,x,hq,hx,hc⟩:=S.nthF (f:=Sp.vs) (m:=14) 0 rfl Spv_len (by decide) (j:=(i:Int)) (by omega) hlt
 rw [Int.toNat_natCast] at hx
 refine ⟨⟨by omega,hlt⟩,qa,hq,x.tup,hc,?_⟩
 refine S.newB fun b6 w2 S f2 _=>S.st0 (by rfl) fun w3 S f3=>?_
 have S:Sep E w0 w3 (stS sp pp pm p q g t (BoxA b6 _ x.vs::outS a nn c Os::Rs)):=S.fro [2,2,2,2,2] rfl
 refine ldg S ((Use_e h1.us9 (S.fro [3] rfl)).mono ?_)
 rintro ⟨r,⟨⟩⟩ w4 ⟨-,S⟩
 have S:=S.fro [1,1,1] rfl
 have hi2:i<Os.length:=by omega
 have hrg:Rng .i64 ((i:Int)+1):=Rng.i64 (by omega) (by omega)
 have S:Sep E w0 w4 ([polE pp p q g t.O,ledE q (chL to t.L.length uB t.L),chipE p t.C]++(boxSt sp pp pm g t::mapE pm t.X::BoxA b6 _ x.vs::outS a nn c Os::Rs)):=S.fro [2,2,2] rfl
 refine Sep.regC [polE pp p q g t.O,ledE q (chL to t.L.length uB t.L),chipE p t.C] S fun G D hG T S hDt hDo hkeep back=>?_
 refine ⟨hDt 0 _ _ _ rfl,S.ld3 (j:=0) rfl rfl ⟨hrg,hDt 2 _ _ _ rfl,S.lb5 (o:=0) rfl ?_⟩⟩
 obtain ⟨y,T⟩:=polE_out T
 have hu2:=h1.ch1 to (φ:=uB) (fun _=>rfl) (fun _=>rfl) (fun _=>rfl) (h1.l.u to fun _=>by omega)
 refine (Copy24_c (b:=to) (pa:=(i:Int)+1) (fb:=x.b) (fp:=x.p) hu2.i.pi (by show t.C.ops+2≤_;omega) T).mono ?_
 rintro ⟨r,⟨⟩⟩ w5 ⟨h5,T⟩
 dsimp only at h5 ⊢
 refine ⟨hkeep _ T.fr,?_⟩
 have S:Sep E w0 w5 (outS a nn c Os::stS sp pp pm p q g (cpyS t to ((i:Int)+1) x.pk).1 Rs):=by
  have S:=((back _ _ (polE_in T)).fro [5,5,3,3] rfl).tail
  show Sep E w0 w5 (outS a nn c Os::boxSt sp pp pm g t::mapE pm t.X::polE pp p q g t.O::ledE q (chL to t.L.length uB t.L)::chipE p (cpyC t.L.length t.C to ((i:Int)+1) x.b x.p).1::Rs)
  rw [show cpyC t.L.length t.C to ((i:Int)+1) x.b x.p=cpyC n t.C to ((i:Int)+1) x.b x.p by rw [h1.ln]]
  exact S
 have hd:(Os.map Sp.pk).drop i=x.pk::(Os.map Sp.pk).drop (i+1):=by
  rw [List.drop_eq_getElem_cons (by rw [List.length_map];exact hi2)]
  congr 1
  rw [List.getElem_map]
  rw [List.getElem?_eq_getElem hi2] at hx
  rw [Option.some.inj hx]
 have hr5:r=(cpyS t to ((i:Int)+1) x.pk).2:=by
  show r=(cpyC t.L.length t.C to ((i:Int)+1) x.b x.p).2
  rw [h1.ln];exact h5
 rw [hd] at hX
 have hX:(if (cpyS t to ((i:Int)+1) x.pk).2≠0 then cpyS t to ((i:Int)+1) x.pk else copP to ((Os.map Sp.pk).drop (i+1)) ((i:Int)+1+1) (cpyS t to ((i:Int)+1) x.pk).1)=copP to (Os.map Sp.pk) 1 s:=hX
 subst hr5
 refine cond_ne (fun hne=>?_) (fun he=>?_)
 ·rw [if_pos hne] at hX
  rw [←hX]
  exact ⟨rfl,S⟩
 ·rw [if_neg (fun k=>k he)] at hX
  have h6:=h1.cpy (to:=to) (pa:=(i:Int)+1) (k:=x.pk) (fun _=>by omega) (by omega)
  have gt:gx (cpyS t to ((i:Int)+1) x.pk).1.L to.toNat=uB (gx t.L to.toNat):=by
   show gx (chL to t.L.length uB t.L) to.toNat=_
   rw [gx_ch rfl,if_pos ⟨by rw [h1.ln];exact ht,rfl⟩]
  have o6:=h6.o2
  exact ⟨hrg,⟨i+1,_,by push_cast;rfl,by omega,by push_cast;exact hX,h6.i,by rw [gt];show (gx t.L to.toNat).us+1+_≤_;push_cast;omega,by omega,S⟩,by omega⟩
end
end Go.Proofs.YtbaojfchlhlaeaaGreat.Vc
namespace Go.Proofs.YtbaojfchlhlaeaaGreat.Vc
open Go Go.Eng Go.RowKit
theorem so_eq {L M:List (Int×Int)} (h1:L.Pairwise plL) (h2:M.Pairwise plL) (h:∀ k,k∈L↔k∈M):L=M:=by
 have hp:L.Perm M:=(List.perm_ext_iff_of_nodup (so_nd h1) (so_nd h2)).2 h
 refine List.Perm.eq_of_pairwise (le:=plL) (fun a b _ _ h1 h2=>?_) h1 h2 hp
 unfold plL at h1 h2
 omega
section
variable {E:Nat→Prop} {w0 w:World} {Rs:List Asr} {sp pp pm p q n:Nat} {g:Geo} {s:SD}
theorem SI.bd (h:SI g n s):∀ (ns:Int) (j:Nat) (c:Ce),(0≤ns∧ns<4)→(getX s.X ns).l[j]? = some c→c.has=true→Bd c.s.pk:=fun ns j c hn hj hc=>by
 have h1:(4≤c.s.b∧c.s.b<4+(n:Int))∧(1≤c.s.p∧c.s.p<g.p):=h.l.xb c.pl (cntX_pos h.xo.four hn hj hc)
 have:=h.no
 unfold Bd
 show -1000<c.s.b∧c.s.b<1000∧-1000<c.s.p∧c.s.p<1000
 omega
theorem In_m {bl:Int} (h:SI g n s) (S:Sep E w0 w (mapE pm s.X::Rs)):CallV Tryz.prog 53 #[.pointer (some ⟨pm,0,none⟩),.int .i64 bl] w [.one .sl] fun r w'=>∃ Os:List Sp,Os.map Sp.pk=inP s.X bl∧Sep E w0 w' (outS r.1.a r.1.n r.1.c Os::mapE pm s.X::Rs):=by
 obtain ⟨r,S⟩:=mapE_out S
 refine Sep.call [boxP pm r s.X,MapF r (cntX s.X),ownsA s.X] S (fun G SG=>In22_c (blk:=bl) h.xo h.bd SG) fun G fr rr w' hr=>?_
 obtain ⟨Os,hI,-,S'⟩:=hr
 refine ⟨Os,so_eq (List.pairwise_map.2 hI.so) (inP_so _ _) fun k=>?_,((mapE_in (((fr _ _ S').fro [1,1,1] rfl))).fro [1] rfl)⟩
 rw [inP_mem]
 constructor
 ·intro hk
  obtain ⟨x,hx,rfl⟩:=List.mem_map.1 hk
  have h1:=hI.ok x hx
  have:=h.l.xb _ h1.2
  have:=h.no
  exact ⟨h1.1,by omega,h1.2⟩
 ·rintro ⟨h1,-,h2⟩
  obtain ⟨ns,j,c,hn,hj,hc,rfl⟩:=cntX_ex h.xo.four h2
  exact hI.all c (List.mem_flatMap.2 ⟨_,List.mem_of_getElem? (getX_at h.xo.four hn),List.mem_of_getElem? hj⟩) hc h1
theorem moved25_c {b to ns:Int} {Os:List Sp} {a:Option Addr} {nn c:Nat} (h:SI g n s) (hn:0≤ns∧ns<4) (ht:-4≤to∧to≤1000000) (hOl:Os.length≤100) (S:Sep E w0 w (outS a nn c Os::stS sp pp pm p q g s Rs)) :
  CallV Tryz.prog 178 #[.pointer (some ⟨sp,0,none⟩),.int .i64 b,.int .i64 to,.int .i64 ns,.slice a nn c] w [] fun r w'=>Sep E w0 w' (outS a nn c Os::stS sp pp pm p q g (movP s b to ns (Os.map Sp.pk)) Rs):=by
 apply stream_Stream_moved.vc
 unfold stream_Stream_moved.P
 simp only [Addr.add_lit,Nat.zero_add]
 have hnn:=outS_n S
 have hno:=h.no
 refine Loop1 (fun (v:Int×Unit) w'=>∃ (i:Nat) (X:List (SlP Ce)),v.1=(i:Int)∧i≤Os.length∧movL to (ordO s.O to).hh ((Os.map Sp.pk).drop i) ((i:Int)+1) X=movL to (ordO s.O to).hh (Os.map Sp.pk) 1 s.X∧XOk X∧Sep E w0 w' (outS a nn c Os::stS sp pp pm p q g {s with X:=X} Rs)) (fun (v:Int×Unit) _=>((nn:Int)-v.1).toNat)
  ⟨0,s.X,rfl,Nat.zero_le _,by rw [List.drop_zero];rfl,h.xo,S⟩ ?_
 clear S
 rintro ⟨(v:Int),⟨⟩⟩ w1 ⟨i,X,hv,hi,hX,hok,S⟩
 dsimp only at hv
 subst hv
 refine cond_d (fun hlt=>?_) (fun hge=>?_)
 case refine_2=>
  have hie:i=Os.length:=by omega
  subst hie
  rw [List.drop_of_length_le (by rw [List.length_map];exact Nat.le_refl _)] at hX
  have hX:X=movL to (ordO s.O to).hh (Os.map Sp.pk) 1 s.X:=hX
  subst hX
  have S:=S.fro [1,1,1,1,1] rfl
  refine ldg S ((Count_e (L:=s.L) h.li9 (by omega) (S.fro [3] rfl)).mono ?_)
  rintro ⟨r,⟨⟩⟩ w2 ⟨-,S⟩
  have S:Sep E w0 w2 (stS sp pp pm p q g (chS {s with X:=movL to (ordO s.O to).hh (Os.map Sp.pk) 1 s.X} to (cB (nn:Int))) (outS a nn c Os::Rs)):=S.fro [1,1,1] rfl
  refine ldg S ((Release_e (S.fro [3] rfl)).mono ?_)
  rintro ⟨r,⟨⟩⟩ w3 ⟨-,S⟩
  have S:Sep E w0 w3 (stS sp pp pm p q g (chS (chS {s with X:=movL to (ordO s.O to).hh (Os.map Sp.pk) 1 s.X} to (cB (nn:Int))) b rB) (outS a nn c Os::Rs)):=S.fro [1,1,1] rfl
  have e:movP s b to ns (Os.map Sp.pk)=if frG (chS (chS {s with X:=movL to (ordO s.O to).hh (Os.map Sp.pk) 1 s.X} to (cB (nn:Int))) b rB) ns<0 then frS (chS (chS {s with X:=movL to (ordO s.O to).hh (Os.map Sp.pk) 1 s.X} to (cB (nn:Int))) b rB) ns to else chS (chS {s with X:=movL to (ordO s.O to).hh (Os.map Sp.pk) 1 s.X} to (cB (nn:Int))) b rB:=by
   unfold movP
   dsimp only
   rw [List.length_map,hnn]
  rw [e]
  have ht4:(chS (chS {s with X:=movL to (ordO s.O to).hh (Os.map Sp.pk) 1 s.X} to (cB (nn:Int))) b rB).fr.length=4:=h.fl
  generalize chS (chS {s with X:=movL to (ordO s.O to).hh (Os.map Sp.pk) 1 s.X} to (cB (nn:Int))) b rB=t at S ht4 ⊢
  refine ⟨hn,ldFr ht4 hn S (cond_d (fun hlt=>⟨hn,suFr ht4 hn S fun w4 S f=>?_⟩) (fun hge=>?_))⟩
  ·rw [if_pos hlt]
   exact S.fro [5] rfl
  ·rw [if_neg hge]
   exact S.fro [5] rfl
 obtain ⟨qa,x,hq,hx,hc⟩:=S.nthF (f:=Sp.vs) (m:=14) 0 rfl Spv_len (by decide) (j:=(i:Int)) (by omega) hlt
 rw [Int.toNat_natCast] at hx
 refine ⟨⟨by omega,hlt⟩,qa,hq,x.tup,hc,?_⟩
 refine S.newB fun b6 w2 S f2 _=>S.st0 (by rfl) fun w3 S f3=>?_
 have hi2:i<Os.length:=by omega
 have hrg:Rng .i64 ((i:Int)+1):=Rng.i64 (by omega) (by omega)
 have S:Sep E w0 w3 ([mapE pm X]++(boxSt sp pp pm g {s with X:=X}::polE pp p q g s.O::ledE q s.L::chipE p s.C::BoxA b6 _ x.vs::outS a nn c Os::Rs)):=S.fro [3,2,2,2,2] rfl
 refine Sep.regC [mapE pm X] S fun G D hG T S hDt hDo hkeep back=>?_
 refine ⟨hDt 0 _ _ _ rfl,S.ld1 (j:=1) rfl rfl ⟨hDt 4 _ _ _ rfl,S.lb5 (o:=0) rfl ⟨hDt 0 _ _ _ rfl,S.ld1 (j:=0) rfl rfl ⟨hrg,hDt 0 _ _ _ rfl,S.ld1 (j:=0) rfl rfl ?_⟩⟩⟩⟩
 refine (Place24_c (pp:=pp) (b:=to) (i:=(i:Int)+1) ht).mono ?_
 rintro ⟨r,⟨⟩⟩ w5 ⟨h5,x5⟩
 dsimp only at h5 ⊢
 subst h5
 have T:=T.stepE x5
 have S5:=S.stepE x5
 refine ⟨hkeep _ T.fr,?_⟩
 refine (Order_p (s:={s with X:=X}) (sp:=sp) (pm:=pm) (b:=to) (Rs:=BoxA b6 _ x.vs::outS a nn c Os::Rs) (S5.fro [1] rfl)).mono ?_
 rintro ⟨r,⟨⟩⟩ w6 ⟨h6,x6⟩
 dsimp only at h6 ⊢
 subst h6
 have T:=T.stepE x6
 refine ⟨hkeep _ T.fr,?_⟩
 refine (Move_m (f:=x.pk) (t:=(4+to,(i:Int)+1)) (o:=(ordO s.O to).hh) hok T).mono ?_
 rintro ⟨r,⟨⟩⟩ w7 T
 refine ⟨hkeep _ T.fr,hrg,?_⟩
 have S:=((back _ _ T).fro [5,5,1] rfl).tail
 have hd:(Os.map Sp.pk).drop i=x.pk::(Os.map Sp.pk).drop (i+1):=by
  rw [List.drop_eq_getElem_cons (by rw [List.length_map];exact hi2)]
  congr 1
  rw [List.getElem_map]
  rw [List.getElem?_eq_getElem hi2] at hx
  rw [Option.some.inj hx]
 rw [hd] at hX
 refine ⟨⟨i+1,mov1 x.pk (4+to,(i:Int)+1) (ordO s.O to).hh X,by push_cast;rfl,by omega,by push_cast;exact hX,?_,S⟩,by omega⟩
 unfold mov1
 split
 ·exact hok
 ·exact movX_ok hok
theorem spoilt25_c {b:Int} (h:SI g n s) (hb:0≤b∧b<(n:Int)) (h0:(gx s.L b.toNat).li=0) (hf:nfr s b) (ho:s.C.ops+2≤1000000000000) (S:Sep E w0 w (stS sp pp pm p q g s Rs)) :
  CallV Tryz.prog 179 #[.pointer (some ⟨sp,0,none⟩),.int .i64 b] w [.one (.int .i64)] fun r w'=>r.1=(spoP s b).2∧Sep E w0 w' (stS sp pp pm p q g (spoP s b).1 Rs):=by
 apply stream_Stream_spoilt.vc
 unfold stream_Stream_spoilt.P
 refine ldg S ((Failed_e (S.fro [3] rfl)).mono ?_)
 rintro ⟨r,⟨⟩⟩ w1 ⟨-,S⟩
 have S:Sep E w0 w1 (stS sp pp pm p q g (chS s b fB) Rs):=S.fro [1,1,1] rfl
 refine ldg S ((Release_e (S.fro [3] rfl)).mono ?_)
 rintro ⟨r,⟨⟩⟩ w2 ⟨-,S⟩
 have S:Sep E w0 w2 (stS sp pp pm p q g (chS (chS s b fB) b rB) Rs):=S.fro [1,1,1] rfl
 have h1:=h.f b
 have g1:=chS_gx h b fB
 have h2:=h1.i.r b (fun _=>by rw [g1,if_pos ⟨hb,rfl⟩];exact h0) hf
 have g2:=chS_gx h1.i b rB
 have hh:0≤b∧b<(n:Int)→(gx (chS (chS s b fB) b rB).L b.toNat).he=false:=fun _=>by rw [g2,if_pos ⟨hb,rfl⟩];rfl
 refine (Destroy25_c h2.i hh ho S).mono ?_
 rintro ⟨r,⟨⟩⟩ w3 ⟨h3,S⟩
 dsimp only at h3 ⊢
 subst h3
 unfold spoP
 refine cond_eq (fun h4=>?_) (fun h4=>?_)
 ·rw [if_pos h4];exact ⟨h4,S⟩
 ·rw [if_neg h4]
  obtain ⟨d1,-,-⟩:=h2.i.dst hh ho
  refine (over25_c d1.i S).mono ?_
  rintro ⟨r,⟨⟩⟩ w4 h4
  exact h4
theorem Order_b {sl:Bool} {ns:Int} (h:SI g n s) (hn:0≤ns∧ns<4) (ho:s.C.ops+768≤1000000000000) {fn:FuncId} (hfn:fn=if sl=true then 201 else 174)
  (S:Sep E w0 w (stS sp pp pm p q g {s with op:=u64w (s.op+1)} Rs)):CallV Tryz.prog fn #[.pointer (some ⟨pp,0,none⟩),.int .i64 ns,.agg #[.int .i64 0,.int .i64 0,.int .i64 0,.int .u32 0,.int .u64 s.ep,.int .u64 (u64w (s.op+1))]] w [.one (.int .i64),.one (.int .i64)] fun r w'=>
   r.1=(opnS ns sl s).2.1∧r.2.1=(opnS ns sl s).2.2∧Sep E w0 w' (stS sp pp pm p q g (opnS ns sl s).1 Rs):=by
 have hr:(⟨0,0,0,0,s.ep,u64w (s.op+1)⟩:Hd).rng:=⟨⟨Int.le_refl _,by show (0:Int)<4294967296;decide⟩,h.ep,u64w_R _⟩
 obtain ⟨y,S⟩:=polE_out (S.fro [2,2,2] rfl)
 cases sl with
 | true=>
  subst hfn
  refine (Open24_c (ns:=ns) (o:=⟨0,0,0,0,s.ep,u64w (s.op+1)⟩) h.pi hr ho S).mono ?_
  rintro ⟨r1,r2,⟨⟩⟩ w2 ⟨h1,h2,S⟩
  exact ⟨h1,h2,(polE_in S).fro [3,3] rfl⟩
 | false=>
  subst hfn
  refine (Begin24_c (ns:=ns) (o:=⟨0,0,0,0,s.ep,u64w (s.op+1)⟩) h.pi hr ho S).mono ?_
  rintro ⟨r1,r2,⟨⟩⟩ w2 ⟨h1,h2,S⟩
  exact ⟨h1,h2,(polE_in S).fro [3,3] rfl⟩
theorem empty25_c {b ns:Int} (h:SI g n s) (hn:0≤ns∧ns<4) (hb:-1≤b∧b<(n:Int)) (ho:0≤b∧b<(n:Int)→(gx s.L b.toNat).ow=ns) (hp:s.C.ops+215040≤1000000000000) (S:Sep E w0 w (stS sp pp pm p q g s Rs)) :
  CallV Tryz.prog 124 #[.pointer (some ⟨sp,0,none⟩),.int .i64 b,.int .i64 ns] w [.one (.int .i64)] fun r w'=>r.1=(empP s b ns).2∧Sep E w0 w' (stS sp pp pm p q g (empP s b ns).1 Rs):=by
 apply stream_Stream_empty.vc
 unfold stream_Stream_empty.P
 simp only [Addr.add_lit,Nat.zero_add]
 have hno:=h.no
 obtain ⟨h0,nf0,L0,X0,C0⟩:=h.fs0 hn ho
 refine ⟨fun v w'=>Sep E w0 w' (stS sp pp pm p q g (fs0 s ns b) Rs),?_,?_⟩
 case refine_2=>
  refine ⟨hn,ldFr h.fl hn S ?_⟩
  unfold fs0
  refine cond_eq (fun e=>⟨hn,suFr h.fl hn S fun w1 S f=>?_⟩) (fun e=>?_)
  ·rw [if_pos e];exact S
  ·rw [if_neg e];exact S
 clear S
 rintro v w1 S
 have e:empP s b ns=if inP s.X (4+b)=[] then (chS (fs0 s ns b) b rB,0) else empL b ns (inP s.X (4+b)) 256 (fs0 s ns b):=rfl
 rw [e]
 have hl':inP s.X (4+b)=inP (fs0 s ns b).X (4+b):=by rw [X0]
 have hops:(fs0 s ns b).C.ops+215040≤1000000000000:=by rw [C0];exact hp
 refine S.ld0 (j:=1) rfl rfl ⟨Rng.i64 (by omega) (by omega),?_⟩
 refine (In_m (bl:=4+b) h0.i (S.fro [1] rfl)).mono ?_
 rintro ⟨⟨ra,rn,rc⟩,⟨⟩⟩ w2 ⟨Os,hOs,S⟩
 dsimp only at hOs S ⊢
 have hnn:=outS_n S
 have hll:(inP s.X (4+b)).length=rn:=by rw [hl',← hOs,List.length_map,hnn]
 have S:Sep E w0 w2 (outS ra rn rc Os::stS sp pp pm p q g (fs0 s ns b) Rs):=S.fro [0,1] rfl
 refine cond_eq (fun hz=>?_) (fun hz=>?_)
 ·have hz:rn=0:=by have hz:((rn:Nat):Int)=0:=hz;omega
  rw [if_pos (List.length_eq_zero_iff.1 (hll.trans hz))]
  refine ldg S.tail ((Release_e (S.tail.fro [3] rfl)).mono ?_)
  rintro ⟨r,⟨⟩⟩ w3 ⟨-,S⟩
  exact ⟨rfl,S.fro [1,1,1] rfl⟩
 have hz:rn≠0:=by have hz:((rn:Nat):Int)≠0:=hz;omega
 have hne:inP s.X (4+b)≠[]:=fun e=>hz (by rw [←hll,e];rfl)
 rw [if_neg hne]
 have hb0:0≤b:=by
  refine Classical.byContradiction fun e=>hne (inP_nil fun k hk h1=>?_)
  have:=(h.l.xb k h1).1
  omega
 have hli:(gx s.L b.toNat).li≠0:=by
  rw [h.l.li _ (by omega),show 4+((b.toNat:Nat):Int)=4+b by omega]
  omega
 have E0:EmI g n (fs0 s ns b) b ns (inP s.X (4+b)):=⟨h0.i,hn,⟨hb0,hb.2⟩,hl'.symm,by rw [L0];exact h.l.he _ (by omega) hli,by rw [L0];exact ho ⟨hb0,hb.2⟩,nf0⟩
 rw [←hl'] at hOs
 have hec:=eC256
 clear e hl' L0 X0 C0 nf0 hli hne
 generalize inP s.X (4+b)=l at hOs E0 hll ⊢
 generalize fs0 s ns b=t0 at S E0 hops ⊢
 clear h0 h
 refine Loop1 (fun (v:Int×Unit) w'=>∃ (k:Nat) (t:SD),v.1=256-(k:Int)∧k≤256∧EmI g n t b ns l∧t.C.ops+eC k≤1000000000000∧empL b ns l k t=empL b ns l 256 t0∧Sep E w0 w' (outS ra rn rc Os::stS sp pp pm p q g t Rs)) (fun (v:Int×Unit) _=>(256-v.1).toNat)
  ⟨256,t0,by decide,Nat.le_refl _,E0,by omega,rfl,S⟩ ?_
 clear S
 rintro ⟨(v:Int),⟨⟩⟩ w3 ⟨k,t,hv,hk,Et,hop,hX,S⟩
 dsimp only at hv
 subst hv
 refine cond_d (fun hlt=>?_) (fun hge=>?_)
 case refine_2=>
  have hk0:k=0:=by omega
  subst hk0
  rw [←hX]
  exact ⟨rfl,S.tail⟩
 obtain ⟨m,rfl⟩:∃ m,k=m+1:=⟨k-1,by omega⟩
 have hes:=eCs m
 rw [←hX]
 have hrg:Rng .i64 (256-((m+1:Nat):Int)+1):=Rng.i64 (by omega) (by omega)
 obtain ⟨h1,x1,f1,k1,b1⟩:=Et.i.beg hn (sl:=false) (by omega)
 refine ⟨fun v w'=>v.1=(opnS ns false t).2.1∧v.2.1=(opnS ns false t).2.2∧Sep E w0 w' (outS ra rn rc Os::stS sp pp pm p q g (opnS ns false t).1 Rs),?_,?_⟩
 case refine_2=>
  refine ⟨fun _=>False,?_⟩
  have ko:∀ w',KeepOn (fun _=>False) w3.drew w':=fun w' k hk=>hk.elim
  have S:=S.drew
  have fin:∀ {w4:World},Sep E w0 w4 (stS sp pp pm p q g {t with op:=u64w (t.op+1)} (outS ra rn rc Os::Rs))→CallV Tryz.prog 174 #[.pointer (some ⟨pp,0,none⟩),.int .i64 ns,.agg #[.int .i64 0,.int .i64 0,.int .i64 0,.int .u32 0,.int .u64 t.ep,.int .u64 (u64w (t.op+1))]] w4 [.one (.int .i64),.one (.int .i64)] fun (r:Int×Int×Unit) w5=>KeepOn (fun _=>False) w3.drew w5∧r.1=(opnS ns false t).2.1∧r.2.1=(opnS ns false t).2.2∧Sep E w0 w5 (outS ra rn rc Os::stS sp pp pm p q g (opnS ns false t).1 Rs):=fun S=>by
   refine (Order_b (sl:=false) Et.i hn (by omega) rfl S).mono ?_
   rintro ⟨r1,r2,⟨⟩⟩ w5 ⟨e1,e2,S⟩
   exact ⟨ko _,e1,e2,S.fro [5] rfl⟩
  refine ⟨?_,?_⟩
  ·refine S.ld1 (j:=0) rfl rfl ⟨ko _,?_⟩
   refine (order25_c Et.i (S.fro [1,1,1,1,1] rfl)).mono ?_
   rintro ⟨r,⟨⟩⟩ w4 ⟨h4,S⟩
   dsimp only at h4 ⊢
   subst h4
   exact ⟨ko _,fin S⟩
  ·refine (order25_c Et.i (S.fro [1,1,1,1,1] rfl)).mono ?_
   rintro ⟨r,⟨⟩⟩ w4 ⟨h4,S⟩
   dsimp only at h4 ⊢
   subst h4
   exact ⟨ko _,S.ld0 (j:=0) rfl rfl ⟨ko _,fin S⟩⟩
 clear S
 rintro ⟨(to:Int),(e:Int),⟨⟩⟩ w4 ⟨hto,he,S⟩
 dsimp only at hto he ⊢
 obtain ⟨o1,-,-,-⟩:=Et.i.opn hn (sl:=false) (by omega)
 refine (left25_c (e:=e) o1.i (S.fro [1,1,1,1,1] rfl)).mono ?_
 rintro ⟨(r:Int),⟨⟩⟩ w5 ⟨h5,S⟩
 dsimp only at h5 ⊢
 have hun:empL b ns l (m+1) t=if (leftP (opnS ns false t).1 (opnS ns false t).2.2).2≠0 then (if (opnS ns false t).2.2=0 then chS (leftP (opnS ns false t).1 (opnS ns false t).2.2).1 (opnS ns false t).2.1 rB else (leftP (opnS ns false t).1 (opnS ns false t).2.2).1,(leftP (opnS ns false t).1 (opnS ns false t).2.2).2) else
   if (copP (opnS ns false t).2.1 l 1 (leftP (opnS ns false t).1 (opnS ns false t).2.2).1).2=0 then (movP (copP (opnS ns false t).2.1 l 1 (leftP (opnS ns false t).1 (opnS ns false t).2.2).1).1 b (opnS ns false t).2.1 ns l,0) else
   if (copP (opnS ns false t).2.1 l 1 (leftP (opnS ns false t).1 (opnS ns false t).2.2).1).2=5 then (if (spoP (copP (opnS ns false t).2.1 l 1 (leftP (opnS ns false t).1 (opnS ns false t).2.2).1).1 (opnS ns false t).2.1).2≠0 then spoP (copP (opnS ns false t).2.1 l 1 (leftP (opnS ns false t).1 (opnS ns false t).2.2).1).1 (opnS ns false t).2.1 else empL b ns l m (spoP (copP (opnS ns false t).2.1 l 1 (leftP (opnS ns false t).1 (opnS ns false t).2.2).1).1 (opnS ns false t).2.1).1) else copP (opnS ns false t).2.1 l 1 (leftP (opnS ns false t).1 (opnS ns false t).2.2).1:=rfl
 rw [hun] at hX ⊢
 simp only [←hto,← he] at hX b1 h1 x1 f1 k1 ⊢
 clear hun o1
 have hl0:=left0 (opnS ns false t).1 e
 generalize leftP (opnS ns false t).1 e=F at h5 S hX b1 h1 x1 f1 k1 hl0 ⊢
 obtain ⟨f,fe⟩:=F
 dsimp only at h5 S hX b1 h1 x1 f1 k1 hl0 ⊢
 subst h5
 have o1:=h1.o2
 refine cond_ne (fun hfe=>?_) (fun hfe=>?_)
 ·rw [if_pos hfe]
  refine cond_eq (fun he0=>?_) (fun he0=>?_)
  ·rw [if_pos he0]
   refine ldg S ((Release_e (S.fro [3] rfl)).mono ?_)
   rintro ⟨r2,⟨⟩⟩ w6 ⟨-,S⟩
   exact ⟨rfl,(S.fro [5,1,1,1] rfl).tail⟩
  ·rw [if_neg he0]
   exact ⟨rfl,(S.fro [5] rfl).tail⟩
 rw [if_neg (fun k=>k hfe)] at hX ⊢
 have he0:e=0:=hl0 hfe
 have hB:=b1 he0
 obtain ⟨a1,hne,e1,nf1,l0,mv⟩:=Et.cop h1.i x1 f1 k1 hB (by omega)
 obtain ⟨y,hy,hyb⟩:=hB.y
 have hlen:=h1.i.l.len (4+b)
 rw [x1,Et.l] at hlen
 have hOl:Os.length=l.length:=by rw [←hOs,List.length_map]
 have hpp:=h1.i.no
 refine (copied25_c h1.i hB.ht (by rw [hy,hOl];show (0:Int)+_≤_;omega) (by omega) (S.fro [5] rfl)).mono ?_
 rintro ⟨(r:Int),⟨⟩⟩ w6 ⟨h6,S⟩
 dsimp only at h6 ⊢
 rw [hOs] at h6 S
 generalize copP to l 1 f=Cc at h6 S hX a1 e1 nf1 l0 mv ⊢
 obtain ⟨c,ce⟩:=Cc
 dsimp only at h6 S hX a1 e1 nf1 l0 mv ⊢
 subst h6
 have o2:=a1.o2
 refine cond_eq (fun hc0=>?_) (fun hc0=>?_)
 ·rw [if_pos hc0]
  refine (moved25_c (b:=b) (to:=to) e1.i hn (by have:=hB.ht;omega) (by omega) S).mono ?_
  rintro ⟨⟩ w7 S
  rw [hOs] at S
  exact ⟨rfl,S.tail⟩
 rw [if_neg hc0] at hX ⊢
 refine cond_eq (fun hc5=>?_) (fun hc5=>?_)
 ·rw [if_pos hc5] at hX ⊢
  refine (spoilt25_c (b:=to) e1.i hB.ht l0 nf1 (by omega) (S.fro [1,1,1,1,1] rfl)).mono ?_
  rintro ⟨(r:Int),⟨⟩⟩ w7 ⟨h7,S⟩
  dsimp only at h7 ⊢
  subst h7
  obtain ⟨s1,sx,sf,sg⟩:=e1.i.spo hB.ht l0 nf1 (by omega)
  refine cond_ne (fun hs=>?_) (fun hs=>?_)
  ·rw [if_pos hs]
   exact ⟨rfl,(S.fro [5] rfl).tail⟩
  ·rw [if_neg (fun k=>k hs)] at hX ⊢
   have hbt:b.toNat≠to.toNat:=by have:=hB.ht;omega
   have e2:EmI g n (spoP c to).1 b ns l:=⟨s1.i,hn,⟨hb0,hb.2⟩,by rw [sx];exact e1.l,by rw [sg _ hbt];exact e1.he,by rw [sg _ hbt];exact e1.ow,nfr_fr e1.nf sf⟩
   have o3:=s1.o2
   exact ⟨hrg,⟨m,(spoP c to).1,by push_cast;omega,by omega,e2,by omega,rfl,S.fro [5] rfl⟩,by omega⟩
 ·rw [if_neg hc5]
  exact ⟨rfl,S.tail⟩
end
end Go.Proofs.YtbaojfchlhlaeaaGreat.Vc
namespace Go.Proofs.YtbaojfchlhlaeaaGreat.Vc
open Go Go.Eng Go.RowKit
section
variable {E:Nat→Prop} {w0 w:World} {Rs:List Asr} {sp pp pm p q n:Nat} {g:Geo} {s:SD}
theorem room25_c {ns:Int} (h:SI g n s) (hn:0≤ns∧ns<4) (h1:1≤(getX s.X ns).n) (hp:s.C.ops+215040≤1000000000000) (S:Sep E w0 w (stS sp pp pm p q g s Rs)) :
  CallV Tryz.prog 163 #[.pointer (some ⟨sp,0,none⟩),.int .i64 ns] w [.one (.int .i64)] fun r w'=>r.1=(roomP s ns).2∧Sep E w0 w' (stS sp pp pm p q g (roomP s ns).1 Rs):=by
 apply stream_Stream_room.vc
 unfold stream_Stream_room.P
 simp only [Addr.add_lit,Nat.zero_add]
 refine (close25_c h hn S).mono ?_
 rintro ⟨⟩ w1 S
 have hc:=h.clos hn
 have kc:=clos_f s ns
 have hR:Right g:=h.pi.R
 have hgg:=h.pi.gg
 refine S.reg fun D hD hkeep S T=>?_
 refine ⟨hD _ S.bl0,S.lb0 (o:=2) rfl ⟨hD _ S.bl0,S.ld0 (j:=1) rfl rfl ?_⟩⟩
 refine (Size_m (ns:=ns) hc.i.xo.four (S.fro [1] rfl)).mono ?_
 rintro ⟨(r:Int),⟨⟩⟩ w2 ⟨h2,rfl⟩
 dsimp only at h2 ⊢
 subst h2
 refine ⟨hkeep _ T.fr,?_⟩
 refine (Quota_c (g:=g)).mono ?_
 rintro ⟨(r:Int),(e:Int),⟨⟩⟩ w3 ⟨h3,h4,x3⟩
 dsimp only at h3 h4 ⊢
 have hsz:=hc.sz ns
 have hN:=(h.xo.get ns).2
 have hq0:quoE g (((getX (closP s ns).X ns).n:Nat):Int)=0:=by unfold quoE;rw [if_pos hR,if_pos (by rw [hsz];omega)]
 rw [hq0] at h3 h4
 rw [if_pos rfl] at h3
 subst h3;subst h4
 have S:=S.stepE x3
 refine ⟨hkeep _ (T.stepE x3).fr,cond_f rfl ?_⟩
 have hqb:=quo_bd hR (m:=(((getX (closP s ns).X ns).n:Nat):Int)) (by rw [hsz];omega)
 have hqs:quo g (((getX (closP s ns).X ns).n:Nat):Int)=quoS s ns:=by unfold quoS;rw [hgg,hsz]
 rw [hqs] at hqb ⊢
 refine ldg S ((Held_e hc.i.len6 (S.fro [3] rfl)).mono ?_)
 rintro ⟨(r:Int),⟨⟩⟩ w4 ⟨h4,x4⟩
 dsimp only at h4 ⊢
 subst h4
 have S:=S.stepE x4
 refine ⟨Rng.i64 (by omega) (by omega),?_⟩
 have hln:s.L.length=(closP s ns).L.length:=by rw [hc.i.ln,h.ln]
 unfold roomP
 refine cond_d (fun hge=>?_) (fun hlt=>?_)
 ·rw [if_pos (show quoS s ns-1≤heldS (closP s ns) ns from hge)]
  refine ldg S ((Victim_e hc.i.len6 (S.fro [3] rfl)).mono ?_)
  rintro ⟨(r:Int),⟨⟩⟩ w5 ⟨h5,x5⟩
  dsimp only at h5 ⊢
  subst h5
  have S:=S.stepE x5
  have hv:=vict_bd (L:=(closP s ns).L) (ns:=ns) (bu:=-1)
  have hcl:=hc.i.ln
  rw [hln]
  refine (empty25_c (b:=victT (closP s ns).L ns (-1) (closP s ns).L.length) hc.i hn (by omega) (fun hb=>(own_is (vict_is hcl hb.1)).2.2) (by rw [kc.1];exact hp) S).mono ?_
  rintro ⟨r,⟨⟩⟩ w6 h6
  exact h6
 ·rw [if_neg (show ¬ quoS s ns-1≤heldS (closP s ns) ns from hlt)]
  obtain ⟨a1,qI,x1,f1⟩:=hc.i.opn hn (sl:=true) (by rw [kc.1];omega)
  refine ⟨fun v w'=>v.2.1=(opnS ns true (closP s ns)).2.1∧v.1=(opnS ns true (closP s ns)).2.2∧Sep E w0 w' (stS sp pp pm p q g (opnS ns true (closP s ns)).1 Rs),?_,?_⟩
  case refine_2=>
   refine ⟨fun _=>False,?_⟩
   have ko:∀ w',KeepOn (fun _=>False) w4.drew w':=fun w' k hk=>hk.elim
   have S:=S.drew
   have fin:∀ {w5:World},Sep E w0 w5 (stS sp pp pm p q g {closP s ns with op:=u64w ((closP s ns).op+1)} Rs)→CallV Tryz.prog 201 #[.pointer (some ⟨pp,0,none⟩),.int .i64 ns,.agg #[.int .i64 0,.int .i64 0,.int .i64 0,.int .u32 0,.int .u64 (closP s ns).ep,.int .u64 (u64w ((closP s ns).op+1))]] w5 [.one (.int .i64),.one (.int .i64)] fun (r:Int×Int×Unit) w6=>KeepOn (fun _=>False) w4.drew w6∧r.1=(opnS ns true (closP s ns)).2.1∧r.2.1=(opnS ns true (closP s ns)).2.2∧Sep E w0 w6 (stS sp pp pm p q g (opnS ns true (closP s ns)).1 Rs):=fun S=>by
    refine (Order_b (sl:=true) hc.i hn (by rw [kc.1];omega) rfl S).mono ?_
    rintro ⟨r1,r2,⟨⟩⟩ w6 ⟨e1,e2,S⟩
    exact ⟨ko _,e1,e2,S⟩
   refine ⟨?_,?_⟩
   ·refine S.ld0 (j:=0) rfl rfl ⟨ko _,?_⟩
    refine (order25_c hc.i S).mono ?_
    rintro ⟨r,⟨⟩⟩ w5 ⟨h5,S⟩
    dsimp only at h5 ⊢
    subst h5
    exact ⟨ko _,fin S⟩
   ·refine (order25_c hc.i S).mono ?_
    rintro ⟨r,⟨⟩⟩ w5 ⟨h5,S⟩
    dsimp only at h5 ⊢
    subst h5
    exact ⟨ko _,S.ld0 (j:=0) rfl rfl ⟨ko _,fin S⟩⟩
  clear S
  rintro ⟨(e:Int),(b:Int),⟨⟩⟩ w5 ⟨hb,he,S⟩
  dsimp only at hb he ⊢
  rw [←hb,← he] at qI
  simp only [←hb,← he]
  have fin:∀ {t:SD} {w':World},SI g n t→Sep E w0 w' (stS sp pp pm p q g t Rs)→CallV Tryz.prog 176 #[.pointer (some ⟨sp,0,none⟩),.int .i64 e] w' [.one (.int .i64)] fun (r:Int×Unit) w3=>r.1=(leftP t e).2∧Sep E w0 w3 (stS sp pp pm p q g (leftP t e).1 Rs):=fun ht S=>left25_c ht S
  refine cond_eq (fun h0=>⟨hn,suFr a1.i.fl hn S fun w6 S f=>?_⟩) (fun h0=>?_)
  ·rw [if_pos h0]
   obtain ⟨b1,b2,y,b3,b4⟩:=qI.ok h0
   exact fin (a1.i.fr hn (.inr ⟨b1,by rw [b3];rfl,by rw [b3];show ns=_;omega⟩)).i S
  ·rw [if_neg h0]
   exact fin a1.i S
theorem failed25_c {ns:Int} (h:SI g n s) (hn:0≤ns∧ns<4) (h0:0≤frG s ns) (hp:s.C.ops+215042≤1000000000000) (S:Sep E w0 w (stS sp pp pm p q g s Rs)) :
  CallV Tryz.prog 166 #[.pointer (some ⟨sp,0,none⟩),.int .i64 ns] w [.one (.int .i64)] fun r w'=>r.1=(faiP s ns).2∧Sep E w0 w' (stS sp pp pm p q g (faiP s ns).1 Rs):=by
 apply stream_Stream_failed.vc
 unfold stream_Stream_failed.P
 simp only [Addr.add_lit,Nat.zero_add]
 have hb:=(h.fG hn).resolve_left (by omega)
 refine ⟨hn,ldFr h.fl hn S ⟨hn,suFr h.fl hn S fun w1 S f1=>?_⟩⟩
 have h1:=h.frm hn
 refine ldg S ((Failed_e (b:=frG s ns) (S.fro [3] rfl)).mono ?_)
 rintro ⟨r,⟨⟩⟩ w2 ⟨-,S⟩
 have S:Sep E w0 w2 (stS sp pp pm p q g (chS (frS s ns (-1)) (frG s ns) fB) Rs):=S.fro [1,1,1] rfl
 have h2:=h1.i.f (frG s ns)
 have h3:=h2.i.over
 have k3:=over_f (chS (frS s ns (-1)) (frG s ns) fB)
 have g3:gx (overP (chS (frS s ns (-1)) (frG s ns) fB)).1.L (frG s ns).toNat=fB (gx s.L (frG s ns).toNat):=by
  rw [k3.2.1,chS_gx h1.i,if_pos ⟨hb.1,rfl⟩];rfl
 refine (over25_c h2.i S).mono ?_
 rintro ⟨(r:Int),⟨⟩⟩ w3 ⟨h4,S⟩
 dsimp only at h4 ⊢
 subst h4
 unfold faiP
 dsimp only
 refine cond_ne (fun he=>?_) (fun he=>?_)
 ·rw [if_pos he];exact ⟨rfl,S⟩
 rw [if_neg (fun k=>k he)]
 have o3:=((h1.trans h2).trans h3).o2
 refine (empty25_c (b:=frG s ns) h3.i hn (by omega) (fun _=>by rw [g3];exact hb.2.2) (by omega) S).mono ?_
 rintro ⟨(r:Int),⟨⟩⟩ w4 ⟨h5,S⟩
 dsimp only at h5 ⊢
 subst h5
 obtain ⟨e1,e2⟩:=h3.i.emp (b:=frG s ns) hn hb.1.2 (fun _=>by rw [g3];exact hb.2.2) (by omega)
 have oe:=e1.o2
 refine cond_ne (fun he=>?_) (fun he=>?_)
 ·rw [if_pos he];exact ⟨rfl,S⟩
 rw [if_neg (fun k=>k he)]
 have hh:0≤frG s ns∧frG s ns<(n:Int)→(gx (empP (overP (chS (frS s ns (-1)) (frG s ns) fB)).1 (frG s ns) ns).1.L (frG s ns).toNat).he=false:=fun hb=>e2 he hb.1
 refine (Destroy25_c e1.i hh (by omega) S).mono ?_
 rintro ⟨(r:Int),⟨⟩⟩ w5 ⟨h6,S⟩
 dsimp only at h6 ⊢
 subst h6
 refine cond_eq (fun h4=>?_) (fun h4=>?_)
 ·rw [if_pos h4];exact ⟨h4,S⟩
 ·rw [if_neg h4]
  refine (over25_c (e1.i.dst hh (by omega)).1.i S).mono ?_
  rintro ⟨r,⟨⟩⟩ w6 h6
  exact h6
theorem Write24t_c {y:SlV} {O:List Hd} {C:CD} {L:List Blk} {b pa:Int} {hd:Hd} {dd tt:SlP Int} {D:List (SlP Int)} (hdD:dd∈D) (htD:tt∈D) (h:PI g n C L O) (hr:hd.rng) (hlen:dd.n=0∨(dd.n:Int)=g.s) (htl:tt.n=0∨tt.n=32) (ho:C.ops+2≤1000000000000) (S:Sep E w0 w (plS pp p q g y O C L (RdL D::Rs))) :
  CallV Tryz.prog 117 #[.pointer (some ⟨pp,0,none⟩),.int .i64 b,.int .i64 pa,hd.val,.slice dd.a dd.n dd.c,.slice tt.a tt.n tt.c] w [.one (.int .i64)] fun r w'=>
   r.1=(wrtT n C b pa hd dd.l tt.l).2∧Sep E w0 w' (plS pp p q g y O (wrtT n C b pa hd dd.l tt.l).1 L (RdL D::Rs)):=by
 apply pool_Pool_Write.vc
 unfold pool_Pool_Write.P
 simp only [Addr.add_lit,Nat.zero_add]
 have hnn:=plS_n S
 have hol:=h.ol
 have hle:=h.le
 have hR:=h.R
 have hx:(Ints w .u8 dd.a dd.n dd.c dd.l∧Byt dd.l)∧(Ints w .u8 tt.a tt.n tt.c tt.l∧Byt tt.l):=by
  obtain ⟨G,hG,-⟩:=S.get (i:=4) rfl
  exact ⟨⟨Ty.ints (hG _ hdD),Ty.byt (hG _ hdD)⟩,⟨Ty.ints (hG _ htD),Ty.byt (hG _ htD)⟩⟩
 refine S.newB fun b1 w1 S f1 _=>?_
 refine (has24_c (b:=b) (S.fro [1,1,1,1] rfl)).mono ?_
 rintro ⟨(r:Bool),⟨⟩⟩ w2 ⟨h2,rfl⟩
 dsimp only at h2 ⊢
 subst h2
 unfold wrtT
 by_cases hb:0≤b∧b<(n:Int)
 case neg=>exact cond_t (by rw [decide_eq_false (by omega)];rfl) (by rw [if_neg hb];exact ⟨rfl,S.tail⟩)
 refine cond_f (by rw [decide_eq_true (by omega)];rfl) ?_
 rw [if_pos hb]
 refine S.reg fun D' hD hkeep S T=>?_
 refine ⟨hD _ S.bl1,S.lb1 (o:=1) rfl ⟨hD _ S.bl0,S.la0 rfl ?_⟩⟩
 have hI:Ints w2.drew .u8 dd.a dd.n dd.c dd.l:=(hx.1.1.ext f1.ext).drew
 have hI2:Ints w2.drew .u8 tt.a tt.n tt.c tt.l:=(hx.2.1.ext f1.ext).drew
 refine (Make_c (g:=g) (h:=hd) hr hI hI2).mono ?_
 rintro ⟨⟨va,vn,vc⟩,(e:Int),⟨⟩⟩ w3 ⟨x3,h3,h3'⟩
 dsimp only at h3 h3' ⊢
 refine ⟨hkeep _ (T.stepE x3).fr,?_⟩
 by_cases hH:HRight hd
 case neg=>
  obtain ⟨-,he⟩:=h3' (fun x=>hH x.2.1.1)
  subst he
  exact cond_t rfl (by rw [if_neg hH];exact ⟨rfl,(S.stepE x3).tail⟩)
 obtain ⟨r3,he⟩:=h3 ⟨hR,⟨hH,htl⟩,hlen⟩
 subst he
 refine cond_f rfl ?_
 rw [if_pos hH]
 have bm:Byt (mkL g hd dd.l tt.l):=mkL_byt hr hH hx.1.2 hx.2.2
 have S:=res_rdL S r3 bm
 have htl2:tt.l.length=0∨tt.l.length=32:=by have:=hI2.len;omega
 have hvn:vn≤100000:=by
  have h8:=r3.own.ints.len
  have h9:(mkL g hd dd.l tt.l).length≤g.s.toNat+88:=by
   unfold mkL payL
   rw [List.length_append,endL_length _ htl2]
   have:=hI.len
   split
   ·rw [List.length_replicate];omega
   ·omega
  have h7:=hR.sec
  dsimp only at h8
  omega
 refine (Place24_c (pp:=pp) (b:=b) (i:=pa) (by omega)).mono ?_
 rintro ⟨x,⟨⟩⟩ w4 ⟨h4,x4⟩
 dsimp only at h4 ⊢
 subst h4
 have S:=S.stepE x4
 refine (programmed_c (bl:=4+b) (pa:=pa) (dd:=⟨va,vn,vc,mkL g hd dd.l tt.l⟩) h bm ho hvn (S.fro [2,2,2,2] rfl)).mono ?_
 rintro ⟨e,⟨⟩⟩ w5 ⟨h5,S⟩
 dsimp only at h5 S
 rw [h.gg]
 exact ⟨h5,(S.fro [4,4] rfl).tail.tail⟩
abbrev putB (b1 b3 b5 b7:Nat) (sp:Nat) (hd:Hd) (dd tt:SlP Int) (Rs:List Asr):List Asr:=BoxA b1 32 [.pointer (some ⟨sp,0,none⟩)]::BoxA b3 62 hd.vs::BoxA b5 63 [.slice dd.a dd.n dd.c]::BoxA b7 63 [.slice tt.a tt.n tt.c]::RdL [dd,tt]::Rs
end
end Go.Proofs.YtbaojfchlhlaeaaGreat.Vc
namespace Go.Proofs.YtbaojfchlhlaeaaGreat.Vc
open Go Go.Eng Go.RowKit
section
variable {E:Nat→Prop} {w0 w:World} {Rs:List Asr} {sp pp pm p q n:Nat} {g:Geo} {s:SD}
theorem Put1_c {b pa:Int} {b1 b3 b5 b7:Nat} {hd:Hd} {dd tt:SlP Int} (h:SI g n s) (hr:hd.rng) (hlen:dd.n=0∨(dd.n:Int)=g.s) (htl:tt.n=0∨tt.n=32) (ho:s.C.ops+2≤1000000000000) (S:Sep E w0 w (stS sp pp pm p q g s (putB b1 b3 b5 b7 sp hd dd tt Rs))) :
  CallV Tryz.prog 116 #[.int .i64 b,.int .i64 pa,.pointer (some ⟨b1,0,none⟩),.pointer (some ⟨b3,0,none⟩),.pointer (some ⟨b5,0,none⟩),.pointer (some ⟨b7,0,none⟩)] w [.one (.int .i64)] fun r w'=>
   r.1=(wrtT n s.C b pa hd dd.l tt.l).2∧Sep E w0 w' (stS sp pp pm p q g {s with C:=(wrtT n s.C b pa hd dd.l tt.l).1} (putB b1 b3 b5 b7 sp hd dd tt Rs)):=by
 apply stream_Stream_Put_1.vc
 unfold stream_Stream_Put_1.P
 simp only [Addr.add_lit,Nat.zero_add]
 have S:Sep E w0 w ([polE pp p q g s.O,ledE q s.L,chipE p s.C,RdL [dd,tt]]++(boxSt sp pp pm g s::mapE pm s.X::BoxA b1 _ [.pointer (some ⟨sp,0,none⟩)]::BoxA b3 _ hd.vs::BoxA b5 _ [.slice dd.a dd.n dd.c]::BoxA b7 _ [.slice tt.a tt.n tt.c]::Rs)):=S.fro [2,2,2,6] rfl
 refine Sep.regC [polE pp p q g s.O,ledE q s.L,chipE p s.C,RdL [dd,tt]] S fun G D hG T S hDt hDo hkeep back=>?_
 refine ⟨hDt 2 _ _ _ rfl,S.ld6 (j:=0) rfl rfl (PtrK.of rfl ⟨hDt 0 _ _ _ rfl,S.ld4 (j:=0) rfl rfl ⟨hDt 3 _ _ _ rfl,S.la7 rfl ⟨hDt 4 _ _ _ rfl,S.ld8 (j:=0) rfl rfl ⟨hDt 5 _ _ _ rfl,S.ld9 (j:=0) rfl rfl ?_⟩⟩⟩⟩)⟩
 obtain ⟨y,T⟩:=polE_out T
 refine (Write24t_c (b:=b) (pa:=pa) (dd:=dd) (tt:=tt) (D:=[dd,tt]) List.mem_cons_self (List.mem_cons_of_mem _ List.mem_cons_self) h.pi hr hlen htl ho T).mono ?_
 rintro ⟨r,⟨⟩⟩ w2 ⟨h2,T⟩
 dsimp only at h2 ⊢
 exact ⟨hkeep _ T.fr,h2,(back _ _ (polE_in T)).fro [4,4,0,0,0,1,1,1,1] rfl⟩
theorem okf_put:okf 116=true:=by kernel_rfl
theorem write25_c {b1 b3 b5 b7:Nat} {hd:Hd} {dd tt:SlP Int} (h:SI g n s) (hn:0≤hd.n∧hd.n<4) (h1:1≤(getX s.X hd.n).n) (hr:hd.rng) (hlen:dd.n=0∨(dd.n:Int)=g.s) (htl:tt.n=0∨tt.n=32) (bx:Byt dd.l) (bt:Byt tt.l) (hp:s.C.ops+wC 256≤1000000000000) (S:Sep E w0 w (stS sp pp pm p q g s (putB b1 b3 b5 b7 sp hd dd tt Rs))) :
  CallV Tryz.prog 115 #[.pointer (some ⟨sp,0,none⟩),.int .i64 hd.n,.func (.func 116) #[] #[.pointer (some ⟨b1,0,none⟩),.pointer (some ⟨b3,0,none⟩),.pointer (some ⟨b5,0,none⟩),.pointer (some ⟨b7,0,none⟩)]] w [.agg [.int .i64,.int .i64],.one (.int .i64)] fun r w'=>
   r.1=((wrP hd.n hd dd.l tt.l 256 s).2.1.1,(wrP hd.n hd dd.l tt.l 256 s).2.1.2,())∧r.2.1=(wrP hd.n hd dd.l tt.l 256 s).2.2∧Sep E w0 w' (stS sp pp pm p q g (wrP hd.n hd dd.l tt.l 256 s).1 (putB b1 b3 b5 b7 sp hd dd tt Rs)):=by
 apply stream_Stream_write.vc
 unfold stream_Stream_write.P
 simp only [Addr.add_lit,Nat.zero_add]
 refine S.newB fun b0 w1 S f1 _=>?_
 have done:∀ {w':World} {a c e:Int} {v:List Value} {t:SD},v.length=2→t=(wrP hd.n hd dd.l tt.l 256 s).1→(a,c)=(wrP hd.n hd dd.l tt.l 256 s).2.1→e=(wrP hd.n hd dd.l tt.l 256 s).2.2→Sep E w0 w' (BoxA b0 81 v::stS sp pp pm p q g t (putB b1 b3 b5 b7 sp hd dd tt Rs)) →
   StoreV w' ⟨b0,0,none⟩ [.int .i64 a,.int .i64 c] fun w2=>LoadA w2 ⟨b0,0,none⟩ [.int .i64,.int .i64] fun (x:Int×Int×Unit)=>(x.1,x.2.1,())=((wrP hd.n hd dd.l tt.l 256 s).2.1.1,(wrP hd.n hd dd.l tt.l 256 s).2.1.2,())∧e=(wrP hd.n hd dd.l tt.l 256 s).2.2∧Sep E w0 w2 (stS sp pp pm p q g (wrP hd.n hd dd.l tt.l 256 s).1 (putB b1 b3 b5 b7 sp hd dd tt Rs)):=@fun w' a c e v t hv ht ha he S=>by
  subst ht
  refine S.st0 (news:=[.int .i64 a,.int .i64 c]) hv fun w2 S f=>S.la0 rfl ⟨?_,he,S.tail⟩
  rw [←ha]
 refine Loop1 (fun (v:Int×Unit) w'=>∃ (k:Nat) (t:SD),v.1=256-(k:Int)∧k≤256∧SI g n t∧1≤(getX t.X hd.n).n∧t.C.ops+wC k≤1000000000000∧wrP hd.n hd dd.l tt.l k t=wrP hd.n hd dd.l tt.l 256 s∧Sep E w0 w' (BoxA b0 81 [.int .i64 0,.int .i64 0]::stS sp pp pm p q g t (putB b1 b3 b5 b7 sp hd dd tt Rs))) (fun (v:Int×Unit) _=>(256-v.1).toNat)
  ⟨256,s,by decide,Nat.le_refl _,h,h1,hp,rfl,S⟩ ?_
 clear S
 rintro ⟨(v:Int),⟨⟩⟩ w3 ⟨k,t,hv,hk,ht,h1t,hop,hX,S⟩
 dsimp only at hv
 subst hv
 refine cond_d (fun hlt=>?_) (fun hge=>?_)
 case refine_2=>
  have hk0:k=0:=by omega
  subst hk0
  exact done rfl (by rw [←hX];rfl) (by rw [←hX];rfl) (by rw [←hX];rfl) S
 obtain ⟨m,rfl⟩:∃ m,k=m+1:=⟨k-1,by omega⟩
 have hes:=wCs m
 have hrg:Rng .i64 (256-((m+1:Nat):Int)+1):=Rng.i64 (by omega) (by omega)
 have hX:(if fulP t hd.n then (if (roomP t hd.n).2≠0 then ((roomP t hd.n).1,(0,0),(roomP t hd.n).2) else wrP hd.n hd dd.l tt.l m (roomP t hd.n).1) else
  if (wr1 t hd.n hd dd.l tt.l).2=0 then ((wr1 t hd.n hd dd.l tt.l).1,plc t hd.n,0) else
  if (wr1 t hd.n hd dd.l tt.l).2=5 then (if (faiP (wr1 t hd.n hd dd.l tt.l).1 hd.n).2≠0 then ((faiP (wr1 t hd.n hd dd.l tt.l).1 hd.n).1,(0,0),(faiP (wr1 t hd.n hd dd.l tt.l).1 hd.n).2) else wrP hd.n hd dd.l tt.l m (faiP (wr1 t hd.n hd dd.l tt.l).1 hd.n).1) else ((wr1 t hd.n hd dd.l tt.l).1,(0,0),(wr1 t hd.n hd dd.l tt.l).2))=wrP hd.n hd dd.l tt.l 256 s:=hX
 refine (full25_c ht hn (S.fro [1,1,1,1,1] rfl)).mono ?_
 rintro ⟨(r:Bool),⟨⟩⟩ w4 ⟨h4,x4⟩
 dsimp only at h4 ⊢
 subst h4
 have S:=S.stepE x4
 refine cond_d (fun hf=>?_) (fun hf=>?_)
 ·rw [if_pos hf] at hX
  have hr1:=ht.room hn (by omega)
  have o1:=hr1.o2
  refine (room25_c ht hn h1t (by omega) (S.fro [1,1,1,1,1] rfl)).mono ?_
  rintro ⟨(r:Int),⟨⟩⟩ w5 ⟨h5,S⟩
  dsimp only at h5 ⊢
  subst h5
  refine cond_ne (fun he=>?_) (fun he=>?_)
  ·rw [if_pos he] at hX
   exact done rfl (by rw [←hX]) (by rw [←hX]) (by rw [←hX]) (S.fro [5] rfl)
  ·rw [if_neg (fun k=>k he)] at hX
   exact ⟨hrg,⟨m,(roomP t hd.n).1,by push_cast;omega,by omega,hr1.i,by rw [hr1.sz];exact h1t,by omega,hX,S.fro [5] rfl⟩,by omega⟩
 rw [if_neg hf] at hX
 obtain ⟨a1,x1,f1,l1⟩:=ht.wr1 hn hf (hd:=hd) hr bx bt (by omega)
 have hb:=ful_not ht hn hf
 have o1:=a1.o2
 have S:=S.fro [1,1,1,1,1] rfl
 refine ⟨hn,ldFr ht.fl hn S ?_⟩
 refine ldg S ((Use_e ht.us9 (S.fro [3] rfl)).mono ?_)
 rintro ⟨r,⟨⟩⟩ w5 ⟨-,S⟩
 have S:Sep E w0 w5 (stS sp pp pm p q g (chS t (frG t hd.n) uB) (BoxA b0 81 [.int .i64 0,.int .i64 0]::putB b1 b3 b5 b7 sp hd dd tt Rs)):=S.fro [1,1,1] rfl
 have hu:=ht.ch1 (frG t hd.n) (φ:=uB) (fun _=>rfl) (fun _=>rfl) (fun _=>rfl) (ht.l.u _ fun _=>hb.2.2.2)
 refine ldg S ((At_e (S.fro [3] rfl) (by have:=hu.i.ln;have:=hb.1;exact ⟨by omega,by show frG t hd.n<((chS t (frG t hd.n) uB).L.length:Int);omega⟩)).mono ?_)
 rintro ⟨x,⟨⟩⟩ w6 ⟨h6,x6⟩
 dsimp only at h6 ⊢
 subst h6
 have S:=S.stepE x6
 refine cond_t okf_put ?_
 refine (Put1_c (b:=frG t hd.n) (pa:=(gx (chS t (frG t hd.n) uB).L (frG t hd.n).toNat).us) hu.i hr hlen htl (by show t.C.ops+2≤_;omega) (S.fro [0,0,0,0,0,1,1,1,1,1] rfl)).mono ?_
 rintro ⟨(r:Int),⟨⟩⟩ w7 ⟨h7,S⟩
 dsimp only at h7 ⊢
 have e1:wr1 t hd.n hd dd.l tt.l=({chS t (frG t hd.n) uB with C:=(wrtT n t.C (frG t hd.n) (gx (chS t (frG t hd.n) uB).L (frG t hd.n).toNat).us hd dd.l tt.l).1},(wrtT n t.C (frG t hd.n) (gx (chS t (frG t hd.n) uB).L (frG t hd.n).toNat).us hd dd.l tt.l).2):=by
  show ({chS t (frG t hd.n) uB with C:=(wrtT t.L.length t.C (frG t hd.n) (gx (chS t (frG t hd.n) uB).L (frG t hd.n).toNat).us hd dd.l tt.l).1},(wrtT t.L.length t.C (frG t hd.n) (gx (chS t (frG t hd.n) uB).L (frG t hd.n).toNat).us hd dd.l tt.l).2)=_
  rw [ht.ln]
 have hp2:(gx (chS t (frG t hd.n) uB).L (frG t hd.n).toNat).us=(gx t.L (frG t hd.n).toNat).us+1:=by
  rw [chS_gx ht,if_pos ⟨hb.1,rfl⟩];rfl
 have fG:frG (wr1 t hd.n hd dd.l tt.l).1 hd.n=frG t hd.n:=by show (wr1 t hd.n hd dd.l tt.l).1.fr.getD _ _=_;rw [f1];rfl
 have h7:r=(wr1 t hd.n hd dd.l tt.l).2:=by rw [e1];exact h7
 have S:Sep E w0 w7 (stS sp pp pm p q g (wr1 t hd.n hd dd.l tt.l).1 (putB b1 b3 b5 b7 sp hd dd tt (BoxA b0 81 [.int .i64 0,.int .i64 0]::Rs))):=by rw [e1];exact S
 rw [hp2]
 subst h7
 clear e1
 have S:Sep E w0 w7 (BoxA b0 81 [.int .i64 0,.int .i64 0]::stS sp pp pm p q g (wr1 t hd.n hd dd.l tt.l).1 (putB b1 b3 b5 b7 sp hd dd tt Rs)):=S.fro [10] rfl
 have hno:=ht.no
 have hbu:=hb.2.2.2
 have hb1:=hb.1
 refine cond_eq (fun h0=>?_) (fun h0=>?_)
 ·rw [if_pos h0] at hX
  refine S.ld1 (j:=0) rfl rfl ?_
  refine (Place24_c (pp:=pp) (b:=frG t hd.n) (i:=(gx t.L (frG t hd.n).toNat).us+1) (by omega)).mono ?_
  rintro ⟨r,⟨⟩⟩ w8 ⟨h8,x8⟩
  dsimp only at h8 ⊢
  subst h8
  exact done rfl (by rw [←hX]) (by rw [←hX];rfl) (by rw [←hX]) (S.stepE x8)
 rw [if_neg h0] at hX
 refine cond_eq (fun h5=>?_) (fun h5=>?_)
 ·rw [if_pos h5] at hX
  have a2:=a1.i.fai hn (by rw [fG];omega) (by omega)
  have o2:=a2.o2
  refine (failed25_c a1.i hn (by rw [fG];omega) (by omega) (S.fro [1,1,1,1,1] rfl)).mono ?_
  rintro ⟨(r:Int),⟨⟩⟩ w8 ⟨h8,S⟩
  dsimp only at h8 ⊢
  subst h8
  refine cond_ne (fun he=>?_) (fun he=>?_)
  ·rw [if_pos he] at hX
   exact done rfl (by rw [←hX]) (by rw [←hX]) (by rw [←hX]) (S.fro [5] rfl)
  ·rw [if_neg (fun k=>k he)] at hX
   exact ⟨hrg,⟨m,_,by push_cast;omega,by omega,a2.i,by rw [a2.sz,a1.sz];exact h1t,by omega,hX,S.fro [5] rfl⟩,by omega⟩
 ·rw [if_neg h5] at hX
  exact done rfl (by rw [←hX]) (by rw [←hX]) (by rw [←hX]) S
end
end Go.Proofs.YtbaojfchlhlaeaaGreat.Vc
namespace Go.Proofs.YtbaojfchlhlaeaaGreat.Vc
open Go Go.Eng Go.RowKit
section
variable {E:Nat→Prop} {w0 w:World} {Rs:List Asr} {sp pp pm p q n:Nat} {g:Geo} {s:SD} {X:List (SlP Ce)}
theorem SlIndex_c {c:Nat} {b:Int} (h4:s.fr.length=4) (S:Sep E w0 w (stS sp pp pm p q g s Rs)):CallV Tryz.prog 207 #[.slice (some ⟨sp,8,none⟩) 4 c,.int .i64 b] w [.one (.int .i64)] fun (r:Int×Unit) w'=>(0≤r.1↔b∈s.fr)∧w'=w:=by
 apply slices_Index_int_int.vc
 unfold slices_Index_int_int.P
 refine Loop1 (fun (v:Int×Unit) w'=>(∃ i:Nat,v.1=(i:Int)∧i≤4∧∀ j,j<i→fat s j≠b)∧w'=w) (fun (v:Int×Unit) _=>(4-v.1).toNat) ⟨⟨0,rfl,by omega,fun j hj=>by omega⟩,rfl⟩ ?_
 rintro ⟨(v:Int),⟨⟩⟩ w1 ⟨⟨i,hv,hi,hno⟩,rfl⟩
 dsimp only at hv
 subst hv
 have mem:∀ j,j<4→fat s j∈s.fr:=fun j hj=>by
  show s.fr.getD j 0∈s.fr
  rw [List.getD_eq_getElem?_getD,List.getElem?_eq_getElem (by omega)]
  exact List.getElem_mem (by omega)
 refine cond_d (fun hlt=>?_) (fun hge=>?_)
 ·have hi4:i<4:=by have hlt:(i:Int)<((4:Nat):Int):=hlt;omega
  refine ⟨⟨by omega,hlt⟩,⟨sp,8,none⟩,rfl,?_⟩
  have e:(⟨sp,8,none⟩:Addr).add ((i:Int).toNat*1)=⟨sp,8+(i:Int).toNat*1,none⟩:=by rw [Addr.add_lit]
  rw [e]
  refine ldFr (ns:=(i:Int)) h4 (by omega) S ?_
  have e2:frG s (i:Int)=fat s i:=by unfold frG;rw [Int.toNat_natCast]
  rw [e2]
  refine cond_eq (fun hb=>⟨⟨fun _=>by rw [show b=fat s i from hb];exact mem i hi4,fun _=>by omega⟩,rfl⟩) (fun hb=>⟨Rng.i64 (by omega) (by omega),⟨⟨i+1,by push_cast;rfl,by omega,fun j hj=>?_⟩,rfl⟩,by omega⟩)
  by_cases e3:j=i
  ·rw [e3];exact fun e4=>hb e4.symm
  ·exact hno j (by omega)
 ·have hi4:i=4:=by have hge:¬ (i:Int)<((4:Nat):Int):=hge;omega
  refine ⟨⟨fun h=>by omega,fun hm=>?_⟩,rfl⟩
  obtain ⟨j,hj,e⟩:=List.getElem_of_mem hm
  exact absurd (show fat s j=b by show s.fr.getD j 0=b;rw [List.getD_eq_getElem?_getD,List.getElem?_eq_getElem hj];exact e) (hno j (by omega))
theorem Cont_c {c:Nat} {b:Int} (h4:s.fr.length=4) (S:Sep E w0 w (stS sp pp pm p q g s Rs)):CallV Tryz.prog 173 #[.slice (some ⟨sp,8,none⟩) 4 c,.int .i64 b] w [.one .bool] fun r w'=>r.1=decide (b∈s.fr)∧w'=w:=by
 apply slices_Contains_int_int.vc
 unfold slices_Contains_int_int.P
 refine (SlIndex_c (c:=c) (b:=b) h4 S).mono ?_
 rintro ⟨(r:Int),⟨⟩⟩ w1 ⟨h1,rfl⟩
 exact ⟨decide_eq_decide.2 h1,rfl⟩
theorem SP.li9 {l:List (Int×Int)} (h:SP g n l s) (hl:l.length≤100000):∀ x∈s.L,0≤x.li∧x.li≤1000000000:=fun x hx=>by
 obtain ⟨i,hi,rfl⟩:=mem_gx hx
 rw [h.l.li i (by have:=h.l.ll;omega)]
 have h1:(inP s.X (4+(i:Int))).length≤32:=by
  unfold inP
  refine Nat.le_trans (List.length_filter_le _ _) ?_
  rw [List.length_map,List.length_range]
  exact Nat.le_refl _
 have h2:pend l i≤(l.length:Int):=by
  unfold pend
  have:=List.countP_le_length (p:=fun k:Int×Int=>decide (k.1=4+(i:Int))) (l:=l)
  omega
 have h3:0≤pend l i:=by unfold pend;omega
 omega
theorem dead25_c {l:List (Int×Int)} {a:Option Addr} {nn c:Nat} (h:SP g n l s) (hl:l.length≤100000) (S:Sep E w0 w (outA a nn c l::stS sp pp pm p q g s Rs)) :
  CallV Tryz.prog 122 #[.pointer (some ⟨sp,0,none⟩),.slice a nn c] w [] fun r w'=>Sep E w0 w' (outA a nn c l::stS sp pp pm p q g (dedP l s) Rs):=by
 apply stream_Stream_dead.vc
 unfold stream_Stream_dead.P
 simp only [Addr.add_lit,Nat.zero_add]
 have hnn:l.length=nn:=by have:=(S.own 0 rfl).len;rw [flatF_len plV_len] at this;omega
 refine Loop1 (fun (v:Int×Unit) w'=>∃ (i:Nat) (t:SD),v.1=(i:Int)∧i≤l.length∧SP g n (l.drop i) t∧dedP (l.drop i) t=dedP l s∧Sep E w0 w' (outA a nn c l::stS sp pp pm p q g t Rs)) (fun (v:Int×Unit) _=>((nn:Int)-v.1).toNat)
  ⟨0,s,rfl,Nat.zero_le _,by rw [List.drop_zero];exact h,by rw [List.drop_zero],S⟩ ?_
 clear S
 rintro ⟨(v:Int),⟨⟩⟩ w1 ⟨i,t,hv,hi,ht,hX,S⟩
 dsimp only at hv
 subst hv
 refine cond_d (fun hlt=>?_) (fun hge=>?_)
 case refine_2=>
  have hie:i=l.length:=by omega
  subst hie
  rw [List.drop_of_length_le (Nat.le_refl _)] at hX
  have hX:t=dedP l s:=hX
  rw [←hX]
  exact S
 obtain ⟨qa,k,hq,hk,hc⟩:=S.nthF (f:=plV) (m:=2) 0 rfl plV_len (by decide) (j:=(i:Int)) (by omega) hlt
 rw [Int.toNat_natCast] at hk
 have hi2:i<l.length:=by omega
 have hd:l.drop i=k::l.drop (i+1):=by
  rw [List.drop_eq_getElem_cons hi2]
  rw [List.getElem?_eq_getElem hi2] at hk
  rw [Option.some.inj hk]
 rw [hd] at hX ht
 have hX:dedP (l.drop (i+1)) (ded1 t k)=dedP l s:=hX
 have hkb:=ht.l.lb k List.mem_cons_self
 have hno:(n:Int)≤60:=ht.pi.le
 have h9:=ht.li9 (by rw [List.length_cons,List.length_drop];omega)
 have hrg:Rng .i64 ((i:Int)+1):=Rng.i64 (by omega) (by omega)
 refine ⟨⟨by omega,hlt⟩,qa,hq,(k.1,k.2,()),hc,?_⟩
 refine S.newB fun b6 w2 S f2 _=>S.st0 (by rfl) fun w3 S f3=>S.ld0 (j:=0) rfl rfl ⟨Rng.i64 (by omega) (by omega),?_⟩
 obtain ⟨hD,d1,d2,d3,d4,d5,d6,d7,d8⟩:=ht.ded
 have S:Sep E w0 w3 (stS sp pp pm p q g t (BoxA b6 _ [.int .i64 k.1,.int .i64 k.2]::outA a nn c l::Rs)):=S.fro [2,2,2,2,2] rfl
 refine ldg S ((Count_e (b:=k.1-4) (m:=-1) h9 (by decide) (S.fro [3] rfl)).mono ?_)
 rintro ⟨r,⟨⟩⟩ w4 ⟨-,S⟩
 have S:Sep E w0 w4 (stS sp pp pm p q g (chS t (k.1-4) (cB (-1))) (BoxA b6 _ [.int .i64 k.1,.int .i64 k.2]::outA a nn c l::Rs)):=S.fro [1,1,1] rfl
 have hln2:(chS t (k.1-4) (cB (-1))).L.length=n:=by show (chL _ _ _ _).length=n;rw [chL_len];exact ht.pi.ll
 refine ldg S ((At_e (b:=k.1-4) (S.fro [3] rfl) (by rw [hln2];omega)).mono ?_)
 rintro ⟨x,⟨⟩⟩ w5 ⟨h5,x5⟩
 dsimp only at h5 ⊢
 subst h5
 have S:=S.stepE x5
 refine S.newB fun b20 w6 S f6 _=>S.st0 (by rfl) fun w7 S f7=>?_
 have S:Sep E w0 w7 (BoxA b20 103 (gx (chS t (k.1-4) (cB (-1))).L (k.1-4).toNat).vs::stS sp pp pm p q g (chS t (k.1-4) (cB (-1))) (BoxA b6 _ [.int .i64 k.1,.int .i64 k.2]::outA a nn c l::Rs)):=S
 have e1:ded1 t k=if (gx (chS t (k.1-4) (cB (-1))).L (k.1-4).toNat).li=0∧(gx (chS t (k.1-4) (cB (-1))).L (k.1-4).toNat).he=true∧(k.1-4)∉t.fr then chS (chS t (k.1-4) (cB (-1))) (k.1-4) rB else chS t (k.1-4) (cB (-1)):=rfl
 have nxt:∀ {w':World} {t2:SD},t2=ded1 t k→Sep E w0 w' (outA a nn c l::stS sp pp pm p q g t2 Rs)→(∃ (i':Nat) (t:SD),(i:Int)+1=(i':Int)∧i'≤l.length∧SP g n (l.drop i') t∧dedP (l.drop i') t=dedP l s∧Sep E w0 w' (outA a nn c l::stS sp pp pm p q g t Rs))∧((nn:Int)-((i:Int)+1)).toNat<((nn:Int)-(i:Int)).toNat:=fun {w' t2} e S=>by
  subst e
  exact ⟨⟨i+1,_,by push_cast;rfl,by omega,hD,hX,S⟩,by omega⟩
 refine S.ld0 (j:=2) rfl rfl ?_
 refine cond_eq (fun hz=>?_) (fun hz=>⟨hrg,nxt (by rw [e1,if_neg (fun e=>hz e.1)]) (S.tail.fro [5,5] rfl).tail⟩)
 refine S.ld0 (j:=4) rfl rfl (cond_of (fun hh=>?_) (fun hh=>⟨hrg,nxt (by rw [e1,if_neg (fun e=>by rw [hh] at e;cases e.2.1)]) (S.tail.fro [5,5] rfl).tail⟩))
 intro a' ha
 have ha:a'=some ⟨sp,8,none⟩:=by rw [ha];rfl
 subst ha
 have S:=S.tail
 refine (Cont_c (s:=chS t (k.1-4) (cB (-1))) (c:=4-0) (b:=k.1-4) ht.fl S).mono ?_
 rintro ⟨(r:Bool),⟨⟩⟩ w8 ⟨h8,rfl⟩
 dsimp only at h8 ⊢
 subst h8
 by_cases hm:(k.1-4)∈t.fr
 ·refine cond_f (by rw [decide_eq_true (show (k.1-4)∈(chS t (k.1-4) (cB (-1))).fr from hm)];rfl) ⟨hrg,nxt (by rw [e1,if_neg (fun e=>e.2.2 hm)]) (S.fro [5,5] rfl).tail⟩
 ·refine cond_t (by rw [decide_eq_false (show ¬ (k.1-4)∈(chS t (k.1-4) (cB (-1))).fr from hm)];rfl) ?_
  refine ldg S ((Release_e (b:=k.1-4) (S.fro [3] rfl)).mono ?_)
  rintro ⟨r,⟨⟩⟩ w9 ⟨-,S⟩
  exact ⟨hrg,nxt (by rw [e1,if_pos ⟨hz,hh,hm⟩]) ((S.fro [5,5,1,1,1] rfl).tail)⟩
theorem Put_m {hd:Hd} {at_:Int×Int} (h:SI g n s) (hm:mayP s hd) (hr:hd.rng) (S:Sep E w0 w (mapE pm s.X::Rs)) :
  CallV Tryz.prog 118 #[.pointer (some ⟨pm,0,none⟩),(sptS s hd at_).val] w [.one .sl,.one (.int .i64)] fun r w'=>r.2.1=(0:Int)∧(gonP s.X (lndX s hd at_)).length≤100000∧Sep E w0 w' (outA r.1.a r.1.n r.1.c (gonP s.X (lndX s hd at_))::mapE pm (lndX s hd at_)::Rs):=by
 have hn:=may_ns hm
 have P:PuX s hd at_ (lndX s hd at_):=h.pux hm hr hn at_
 have hno:=h.no
 have bnd:∀ k,1≤cntX s.X k→(0≤k.1∧k.1<64)∧(0≤k.2∧k.2<32):=fun k hk=>by have:=h.l.xb k hk;omega
 have hgl:(gonP s.X (lndX s hd at_)).length≤2048:=by
  unfold gonP
  refine Nat.le_trans (List.length_filter_le _ _) ?_
  rw [List.length_flatMap]
  simp only [List.length_map,List.length_range]
  decide
 have gm:∀ k,k∈(putP (sptS s hd at_) s.X hd.c.toNat).2↔k∈gonP s.X (lndX s hd at_):=fun k=>by
  rw [P.I.mem,gonP_mem]
  exact ⟨fun e=>⟨bnd k e.1,e⟩,fun e=>e.2⟩
 have hL:(putP (sptS s hd at_) s.X hd.c.toNat).2.length≤2048:=Nat.le_trans (nodup_sub _ _ P.I.nd fun k hk=>(gm k).1 hk) hgl
 have hT:Told (fun L L'=>L'.Perm L∧L'.Pairwise fun x y=>¬ plL y x) (putP (sptS s hd at_) s.X hd.c.toNat).2:=Told.all (fun k hk=>by
  have:=bnd k ((P.I.mem k).1 hk).1
  unfold Bd
  omega) (by omega)
 obtain ⟨r,S⟩:=mapE_out S
 have hok:okT s.X (sptS s hd at_):=hm
 refine Sep.call [boxP pm r s.X,MapF r (cntX s.X),ownsA s.X] S (fun G SG=>Put22_c (s:=sptS s hd at_) (T:=fun L L'=>L'.Perm L∧L'.Pairwise fun x y=>¬ plL y x) hr.1 h.xo (fun _=>hT) SG) fun G fr rr w' hr2=>?_
 obtain ⟨h1,L',⟨hp,hs⟩,S'⟩:=hr2.2 hok
 have e:L'=gonP s.X (lndX s hd at_):=by
  have hnd:L'.Nodup:=(hp.nodup_iff).2 P.I.nd
  have so:L'.Pairwise plL:=(hs.and hnd).imp fun {x y} ⟨h1,h2⟩=>by
   have h3:¬ (x.1=y.1∧x.2=y.2):=fun e=>h2 (Prod.ext e.1 e.2)
   unfold plL at h1 ⊢
   omega
  exact so_eq so (gonP_so _ _) fun k=>by rw [hp.mem_iff];exact gm k
 subst e
 exact ⟨h1,by omega,(mapE_in ((fr _ _ S').fro [1,1,1] rfl)).fro [1] rfl⟩
theorem Put25_c {hd:Hd} {dd tt:SlP Int} (h:SI g n s) (hr:hd.rng) (hlen:dd.n=0∨(dd.n:Int)=g.s) (htl:tt.n=0∨tt.n=32) (bx:Byt dd.l) (bt:Byt tt.l) (hp:s.C.ops+wC 256≤1000000000000) (S:Sep E w0 w (stS sp pp pm p q g s (RdL [dd,tt]::Rs))) :
  CallV Tryz.prog 45 #[.pointer (some ⟨sp,0,none⟩),hd.val,.slice dd.a dd.n dd.c,.slice tt.a tt.n tt.c] w [.one (.int .i64)] fun r w'=>r.1=(putS s hd dd.l tt.l).2∧Sep E w0 w' (stS sp pp pm p q g (putS s hd dd.l tt.l).1 (RdL [dd,tt]::Rs)):=by
 apply stream_Stream_Put.vc
 unfold stream_Stream_Put.P
 simp only [Addr.add_lit,Nat.zero_add]
 refine S.newB fun b1 w1 S f1 _=>S.newB (vs:=hd.vs) fun b3 w2 S f2 _=>S.newB fun b5 w3 S f3 _=>S.newB fun b7 w4 S f4 _=>?_
 have S:Sep E w0 w4 (stS sp pp pm p q g s (putB b1 b3 b5 b7 sp hd dd tt Rs)):=S.fro [4,4,4,4,4,3,2,1,0] rfl
 have fin:∀ {w':World} {t:SD} {Ts:List Asr},Sep E w0 w' (stS sp pp pm p q g t (putB b1 b3 b5 b7 sp hd dd tt Rs))→Sep E w0 w' (stS sp pp pm p q g t (RdL [dd,tt]::Rs)):=fun S=>((S.fro [5,5,5,5] rfl).tail.tail.tail.tail)
 refine S.ld5 (j:=0) rfl rfl (cond_f rfl ?_)
 refine S.ld5 (j:=0) rfl rfl (S.la6 rfl ?_)
 refine (may25_c (hd:=hd) h hr S).mono ?_
 rintro ⟨(r:Bool),⟨⟩⟩ w5 ⟨h5,x5⟩
 dsimp only at h5 ⊢
 subst h5
 have S:=S.stepE x5
 unfold putS
 by_cases hm:mayP s hd
 case neg=>
  rw [if_pos hm]
  exact cond_t (by rw [decide_eq_false hm];rfl) ⟨rfl,fin (Ts:=[]) S⟩
 rw [if_neg (fun k=>k hm)]
 refine cond_f (by rw [decide_eq_true hm];rfl) ?_
 refine S.ld5 (j:=0) rfl rfl (PtrK.of rfl ?_)
 simp only [Addr.add_lit,Nat.zero_add]
 refine ldRo h.fl S (cond_of (fun hro=>?_) (fun hro=>?_))
 ·rw [if_pos hro];exact ⟨rfl,fin (Ts:=[]) S⟩
 rw [if_neg (by rw [hro];exact Bool.false_ne_true)]
 have hn:=may_ns hm
 refine S.ld5 (j:=0) rfl rfl (S.ld6 (j:=1) rfl rfl ?_)
 obtain ⟨a1,a2⟩:=SI.wr hn hr bx bt (xs:=dd.l) (tg:=tt.l) 256 h hp
 refine (write25_c (b1:=b1) (b3:=b3) (b5:=b5) (b7:=b7) (hd:=hd) (dd:=dd) (tt:=tt) h hn (by have:=hm.2.1;have:=hm.2.2.1;omega) hr hlen htl bx bt hp S).mono ?_
 rintro ⟨r,(e:Int),⟨⟩⟩ w6 ⟨h6,h7,S⟩
 dsimp only at h6 h7 ⊢
 subst h6
 generalize wrP hd.n hd dd.l tt.l 256 s=W at h7 S a1 a2 ⊢
 obtain ⟨t,at_,we⟩:=W
 dsimp only at h7 S a1 a2 ⊢
 subst h7
 refine S.newB fun b21 w7 S f7 _=>S.st0 (by rfl) fun w8 S f8=>?_
 have S:Sep E w0 w8 (BoxA b21 81 [.int .i64 at_.1,.int .i64 at_.2]::stS sp pp pm p q g t (putB b1 b3 b5 b7 sp hd dd tt Rs)):=S
 refine cond_ne (fun he=>?_) (fun he=>?_)
 ·rw [if_pos he];exact ⟨rfl,fin (Ts:=[]) S.tail⟩
 rw [if_neg (fun k=>k he)]
 have hA:=a2 he
 have hm2:mayP t hd:=(may_sz a1.sz).2 hm
 have hno:=a1.i.no
 have hat:-4≤at_.1∧at_.1≤100:=by have:=hA.fb;have:=hA.hb;omega
 refine S.ld0 (j:=0) rfl rfl ⟨Rng.i64 (by omega) (by omega),?_⟩
 have S:Sep E w0 w8 ([mapE pm t.X]++(BoxA b21 81 [.int .i64 at_.1,.int .i64 at_.2]::boxSt sp pp pm g t::polE pp p q g t.O::ledE q t.L::chipE p t.C::putB b1 b3 b5 b7 sp hd dd tt Rs)):=S.fro [2] rfl
 refine Sep.regC [mapE pm t.X] S fun G D hG T S hDt hDo hkeep back=>?_
 refine ⟨hDt 5 _ _ _ rfl,S.ld6 (j:=0) rfl rfl (PtrK.of rfl ?_)⟩
 simp only [Addr.add_lit,Nat.zero_add]
 refine ⟨hDt 1 _ _ _ rfl,S.ld2 (j:=1) rfl rfl ⟨hDt 0 _ _ _ rfl,S.la1 rfl ⟨hDt 6 _ _ _ rfl,S.la7 rfl ⟨hDt 5 _ _ _ rfl,S.ld6 (j:=0) rfl rfl (PtrK.of rfl ⟨hDt 1 _ _ _ rfl,S.ld2 (j:=0) rfl rfl ?_⟩)⟩⟩⟩⟩
 refine (Order_p (s:=t) (sp:=sp) (pm:=pm) (b:=at_.1-4) (S.fro [2,0,1,1,1] rfl)).mono ?_
 rintro ⟨r,⟨⟩⟩ w9 ⟨h9,x9⟩
 dsimp only at h9 ⊢
 subst h9
 have T:=T.stepE x9
 refine ⟨hkeep _ T.fr,?_⟩
 refine (Put_m (hd:=hd) (at_:=at_) a1.i hm2 hr T).mono ?_
 rintro ⟨⟨va,vn,vc⟩,(e:Int),⟨⟩⟩ w10 ⟨h10,hgl,T⟩
 dsimp only at h10 hgl T ⊢
 subst h10
 refine ⟨hkeep _ T.fr,cond_f rfl ?_⟩
 have S:Sep E w0 w10 (outA va vn vc (gonP t.X (lndX t hd at_))::stS sp pp pm p q g {t with X:=lndX t hd at_} (BoxA b21 81 [.int .i64 at_.1,.int .i64 at_.2]::putB b1 b3 b5 b7 sp hd dd tt Rs)):=(back _ _ T).fro [0,2,0,1,1,1] rfl
 have hL0:=a1.i.lnd0 hA hm2 hr hn
 have ded:∀ {w':World} {t2:SD},t2=lnd1 t hd at_→Sep E w0 w' (outA va vn vc (gonP t.X (lndX t hd at_))::stS sp pp pm p q g t2 (BoxA b21 81 [.int .i64 at_.1,.int .i64 at_.2]::putB b1 b3 b5 b7 sp hd dd tt Rs))→CallV Tryz.prog 122 #[.pointer (some ⟨sp,0,none⟩),.slice va vn vc] w' [] fun _ w2=>(0:Int)=0∧Sep E w0 w2 (stS sp pp pm p q g (lndP t hd at_) (RdL [dd,tt]::Rs)):=fun {w' t2} e S=>by
  subst e
  refine (dead25_c hL0 hgl S).mono ?_
  rintro ⟨⟩ w2 S
  exact ⟨rfl,fin (Ts:=[]) ((S.tail.fro [5] rfl).tail)⟩
 refine S.reg fun D hD hkeep S U=>?_
 refine ⟨hD _ S.bl7,S.ld7 (j:=0) rfl rfl (PtrK.of rfl ?_)⟩
 simp only [Addr.add_lit,Nat.zero_add]
 refine ⟨hD _ S.bl1,S.ld1 (j:=1) rfl rfl ⟨hD _ S.bl6,S.la6 rfl ?_⟩⟩
 have hX4:(lndX t hd at_).length=4:=(a1.i.pux hm2 hr hn at_).I.ok.four
 refine (Refs_m (b:=at_.1) (k:=at_.2) hX4 (S.fro [2] rfl)).mono ?_
 rintro ⟨(r:Int),⟨⟩⟩ w11 ⟨h11,x11⟩
 dsimp only at h11 ⊢
 subst h11
 have S:=S.stepE x11
 refine ⟨hkeep _ (U.stepE x11).fr,?_⟩
 refine cond_d (fun (hgt:cntX (lndX t hd at_) at_>0)=>?_) (fun (hle:¬ cntX (lndX t hd at_) at_>0)=>?_)
 ·refine S.ld7 (j:=0) rfl rfl (PtrK.of rfl ?_)
  refine ldg (S.fro [1,1,1,1,1] rfl) ((Count_e (L:=t.L) a1.i.li9 (by decide) (S.fro [4] rfl)).mono ?_)
  rintro ⟨r,⟨⟩⟩ w12 ⟨-,S⟩
  have S:Sep E w0 w12 (outA va vn vc (gonP t.X (lndX t hd at_))::stS sp pp pm p q g (chS {t with X:=lndX t hd at_} (at_.1-4) (cB 1)) (BoxA b21 81 [.int .i64 at_.1,.int .i64 at_.2]::putB b1 b3 b5 b7 sp hd dd tt Rs)):=S.fro [1,1,1,1] rfl
  refine S.ld7 (j:=0) rfl rfl ?_
  exact ded (by unfold lnd1;rw [if_pos hgt]) S
 ·refine S.ld7 (j:=0) rfl rfl ?_
  exact ded (by unfold lnd1;rw [if_neg hle]) S
theorem Empty25_c {b:Int} (h:SI g n s) (hp:s.C.ops+215040≤1000000000000) (S:Sep E w0 w (stS sp pp pm p q g s Rs)) :
  CallV Tryz.prog 46 #[.pointer (some ⟨sp,0,none⟩),.int .i64 b] w [.one (.int .i64)] fun r w'=>r.1=(emtS s b).2∧Sep E w0 w' (stS sp pp pm p q g (emtS s b).1 Rs):=by
 apply stream_Stream_Empty.vc
 unfold stream_Stream_Empty.P
 simp only [Addr.add_lit,Nat.zero_add]
 refine (has25_c (b:=b) h S).mono ?_
 rintro ⟨(r:Bool),⟨⟩⟩ w1 ⟨h1,rfl⟩
 dsimp only at h1 ⊢
 subst h1
 unfold emtS
 have hln:=h.ln
 by_cases hb:0≤b∧b<(s.L.length:Int)
 case neg=>rw [if_pos hb];exact cond_t (by rw [decide_eq_false hb];rfl) ⟨rfl,S⟩
 rw [if_neg (fun k=>k hb)]
 refine cond_f (by rw [decide_eq_true hb];rfl) ?_
 refine ldg S ((At_e (b:=b) (S.fro [3] rfl) hb).mono ?_)
 rintro ⟨x,⟨⟩⟩ w2 ⟨h2,x2⟩
 dsimp only at h2 ⊢
 subst h2
 have S:=S.stepE x2
 refine S.newB fun b8 w3 S f3 _=>S.st0 (by rfl) fun w4 S f4=>?_
 have S:Sep E w0 w4 (BoxA b8 103 (gx s.L b.toNat).vs::stS sp pp pm p q g s Rs):=S
 refine S.ld0 (j:=4) rfl rfl ?_
 by_cases hh:(gx s.L b.toNat).he=false
 ·rw [if_pos (.inl hh)]
  exact cond_t (by rw [hh];rfl) ⟨rfl,S.tail⟩
 have hh2:(gx s.L b.toNat).he=true:=by simpa using hh
 refine cond_f (by rw [hh2];rfl) ?_
 refine S.ld0 (j:=0) rfl rfl (cond_d (fun h1=>?_) (fun h1=>?_))
 ·rw [if_pos (.inr (.inl h1))];exact ⟨rfl,S.tail⟩
 refine S.ld0 (j:=0) rfl rfl (cond_d (fun h3=>?_) (fun h3=>?_))
 ·rw [if_pos (.inr (.inr h3))];exact ⟨rfl,S.tail⟩
 rw [if_neg (fun e=>by rcases e with e | e | e;exact hh e;exact h1 e;exact h3 e)]
 have hno:0≤(gx s.L b.toNat).ow∧(gx s.L b.toNat).ow<4:=by omega
 have emp:∀ {w':World},Sep E w0 w' (BoxA b8 103 (gx s.L b.toNat).vs::stS sp pp pm p q g s Rs)→LoadS w' ⟨b8,0,none⟩ (.int .i64) fun (x:Int)=>CallV Tryz.prog 124 #[.pointer (some ⟨sp,0,none⟩),.int .i64 b,.int .i64 x] w' [.one (.int .i64)] fun (r:Int×Unit) w2=>r.1=(empP s b (gx s.L b.toNat).ow).2∧Sep E w0 w2 (stS sp pp pm p q g (empP s b (gx s.L b.toNat).ow).1 Rs):=fun S=>by
  refine S.ld0 (j:=0) rfl rfl ?_
  exact empty25_c (b:=b) h hno (by omega) (fun _=>rfl) hp S.tail
 refine S.ld0 (j:=2) rfl rfl (cond_d (fun h4=>?_) (fun h4=>?_))
 ·refine ldRo h.fl (S.fro [1,1,1,1,1] rfl) (cond_of (fun hr=>?_) (fun hr=>?_))
  ·rw [if_pos ⟨h4,hr⟩];exact ⟨rfl,S.tail⟩
  ·rw [if_neg (fun e=>by rw [hr] at e;cases e.2)];exact emp S
 ·rw [if_neg (fun e=>h4 e.1)];exact emp S
end
end Go.Proofs.YtbaojfchlhlaeaaGreat.Vc
namespace Go.Proofs.YtbaojfchlhlaeaaGreat.Vc
open Go Go.Eng Go.RowKit
abbrev nG (g:Geo):Nat:=(g.b-4).toNat
def s00 (g:Geo) (pl:List FD) (X:List (SlP Ce)):SD:=⟨newC g pl,List.replicate (nG g) Blk.new,List.replicate (nG g) zHd,X,[-1,-1,-1,-1],1,0,0,false⟩
structure New0 (X:List (SlP Ce)) (z0 z1:Nat):Prop where
 ok:XOk X
 l:∀ ns,(getX X ns).l=List.replicate (if ns=0 then z0 else if ns=1 then z1 else 0) Ce0
 n:∀ ns,(getX X ns).n=if ns=0 then z0 else if ns=1 then z1 else 0
theorem New0.cnt {X:List (SlP Ce)} {z0 z1:Nat} (h:New0 X z0 z1) (k:Int×Int):¬ 1≤cntX X k:=fun h1=>by
 obtain ⟨m,j,c,hm,hj,hc,-⟩:=cntX_ex h.ok.four h1
 rw [h.l] at hj
 have:=List.eq_of_mem_replicate (List.mem_of_getElem? hj)
 rw [this] at hc
 cases hc
theorem rep_gx (n:Nat) {i:Nat} (h:i<n):gx (List.replicate n Blk.new) i=Blk.new:=by
 show (List.replicate n Blk.new).getD i default=_
 rw [List.getD_eq_getElem?_getD,List.getElem?_replicate,if_pos h]
 rfl
theorem s00_I {g:Geo} {pl:List FD} {X:List (SlP Ce)} {z0 z1:Nat} (hR:Right g) (hg:LG g) (hp:∀ f∈pl,Byt f.2.2.1∧f.2.2.1.length≤140737488351232) (hX:New0 X z0 z1):SI g (nG g) (s00 g pl X):=by
 have hk:=hR.1
 unfold Kept at hk
 have hnil:∀ b:Int,inP X b=[]:=fun b=>inP_nil fun k _=>hX.cnt k
 have gr:=fun {i:Nat} (hi:i<nG g)=>rep_gx (nG g) hi
 refine ⟨⟨newC_ok hR hg hp,rfl,by show (((g.b-4).toNat:Nat):Int)=_;omega,List.length_replicate,List.length_replicate,fun x hx=>?_⟩,hX.ok,⟨⟨by omega,by omega⟩,hX.ok.four,List.length_replicate,fun k hk=>absurd hk (hX.cnt k),fun i hi=>?_,fun i hi=>?_,fun i hi e=>?_,fun i hi e=>?_,fun k hk=>absurd hk (hX.cnt k),fun m j c hm hj hc=>?_⟩,rfl,fun i hi=>?_,⟨by show (0:Int)≤1;decide,by show (1:Int)<_;decide⟩,⟨Int.le_refl _,by show (0:Int)<_;decide⟩,⟨Int.le_refl _,by show (0:Int)<_;decide⟩⟩
 ·rw [(List.mem_replicate.1 hx).2]
  exact ⟨Int.le_refl _,Int.natCast_nonneg _⟩
 ·show 0≤(gx (List.replicate (nG g) Blk.new) i).us∧(gx (List.replicate (nG g) Blk.new) i).us≤g.p-1
  rw [gr hi]
  exact ⟨Int.le_refl _,by show (0:Int)≤g.p-1;omega⟩
 ·show (gx (List.replicate (nG g) Blk.new) i).li=((inP X (4+(i:Int))).length:Int)
  rw [gr hi,hnil];rfl
 ·change (gx (List.replicate (nG g) Blk.new) i).li≠0 at e
  rw [gr hi] at e
  exact absurd rfl e
 ·change (gx (List.replicate (nG g) Blk.new) i).he=true at e
  rw [gr hi] at e
  cases e
 ·exact absurd (cntX_pos hX.ok.four hm hj hc) (hX.cnt _)
 ·refine .inl ?_
  match i,hi with
  | 0,_=>rfl
  | 1,_=>rfl
  | 2,_=>rfl
  | 3,_=>rfl
theorem s00_over {g:Geo} {pl:List FD} {X:List (SlP Ce)} (hR:Right g):overP (s00 g pl X)=(s00 g pl X,0):=by
 have hk:=hR.1
 unfold Kept at hk
 have hb:bads (s00 g pl X).L=0:=manyT_none _ fun j hj=>by
  have hj:j<nG g:=by have:(s00 g pl X).L.length=nG g:=List.length_replicate;omega
  show (gx (List.replicate (nG g) Blk.new) j).ba=false
  rw [rep_gx (nG g) hj]
  rfl
 unfold overP
 rw [if_neg]
 ·rfl
 ·rw [hb]
  show ¬ g.sp<0
  omega
end Go.Proofs.YtbaojfchlhlaeaaGreat.Vc
namespace Go.Proofs.YtbaojfchlhlaeaaGreat.Vc
open Go Go.Eng Go.RowKit
abbrev X0:List (SlP Ce):=[noC,noC,noC,noC]
theorem X0_ok:XOk X0:=⟨rfl,fun x hx=>by simp at hx;rw [hx];exact ⟨rfl,Nat.zero_le _⟩⟩
theorem cnt_new {X:List (SlP Ce)} (hX:X.length=4) {ns:Int} (hn:0≤ns∧ns<4) {x:SlP Ce} {n:Nat} (hx:x.l=List.replicate n Ce0) (h0:(getX X ns).l=[]):cntX (X.set ns.toNat x)=cntX X:=by
 funext k
 unfold cntX
 obtain ⟨m1,m2⟩:=flat_mid (f:=fun x:SlP Ce=>x.l) (z:=x) (getX_at hX hn)
 have h1:flatX X=_:=m1
 have h2:flatX (X.set ns.toNat x)=_:=m2
 rw [h1,h2,hx,h0]
 unfold cntC
 simp only [List.countP_append,List.countP_replicate]
 have:isP k Ce0=false:=rfl
 rw [this]
 simp
theorem ok_new {X:List (SlP Ce)} (h:XOk X) {i:Nat} {x:SlP Ce} (hx:x.l.length=x.n∧x.n≤65535):XOk (X.set i x):=
 ⟨by rw [List.length_set];exact h.four,fun y hy=>(List.mem_or_eq_of_mem_set hy).elim (h.len y) fun e=>by rw [e];exact hx⟩
theorem getX_set {X:List (SlP Ce)} (hX:X.length=4) {ns:Int} (hn:0≤ns∧ns<4) {x:SlP Ce} (ns':Int):getX (X.set ns.toNat x) ns'=if ns'=ns then x else getX X ns':=by
 by_cases hn':0≤ns'∧ns'<4
 ·have h1:=getX_at (X:=X.set ns.toNat x) (by rw [List.length_set];exact hX) hn'
  rw [List.getElem?_set] at h1
  by_cases h:ns'=ns
  ·subst h
   rw [if_pos rfl,if_pos (by omega)] at h1
   rw [if_pos rfl]
   exact (Option.some.inj h1).symm
  ·rw [if_neg (by omega),getX_at hX hn'] at h1
   rw [if_neg h]
   exact (Option.some.inj h1).symm
 ·have h:ns'≠ns:=fun e=>hn' (e ▸ hn)
  rw [if_neg h]
  unfold getX
  rw [if_neg hn',if_neg hn']
end Go.Proofs.YtbaojfchlhlaeaaGreat.Vc
namespace Go.Proofs.YtbaojfchlhlaeaaGreat.Vc
open Go Go.Eng Go.RowKit
section
variable {E:Nat→Prop} {w0 w:World} {Rs:List Asr} {sp pp pm p q n:Nat} {g:Geo} {s:SD} {X:List (SlP Ce)}
theorem New_m (S:Sep E w0 w Rs):CallV Tryz.prog 43 #[] w [.one .ptr] fun r w'=>∃ pm:Nat,r.1=some (⟨pm,0,none⟩:Addr)∧Sep E w0 w' (mapE pm X0::Rs):=by
 refine New22_c.mono ?_
 rintro ⟨r,⟨⟩⟩ w1 ⟨pm,rr,h1,S1⟩
 refine ⟨pm,h1,?_⟩
 have S2:=S.frame0 (fromQ (X:=X0) S1)
 exact mapE_in (r:=rr) (X:=X0) S2
theorem Add_m {ns size:Int} (hX:XOk X) (hn:0≤ns∧ns<4) (h0:(getX X ns).n=0) (hz:1≤size∧size≤65535) (S:Sep E w0 w (mapE pm X::Rs)) :
  CallV Tryz.prog 81 #[.pointer (some ⟨pm,0,none⟩),.int .i64 ns,.int .i64 size] w [.one (.int .i64)] fun (rr:Int×Unit) w'=>rr.1=0∧∃ x:SlP Ce,x.l=List.replicate size.toNat Ce0∧x.n=size.toNat∧Sep E w0 w' (mapE pm (X.set ns.toNat x)::Rs):=by
 obtain ⟨r,S⟩:=mapE_out S
 have hl:(getX X ns).l=[]:=List.length_eq_zero_iff.1 (by rw [(hX.get ns).1];exact h0)
 have ha:addE X ns size=0:=by
  unfold addE
  rw [if_neg (fun k=>k hn),if_neg (fun k=>k hz),if_neg (by omega)]
 refine Sep.call [boxP pm r X,MapF r (cntX X),ownsA X] S (fun G SG=>Add22_c (ns:=ns) (size:=size) hX.four (toQ SG)) fun G fr rr w' hr=>?_
 obtain ⟨h1,-,h2⟩:=hr
 obtain ⟨x,hx1,hx2,S'⟩:=h2 ha
 refine ⟨h1.trans ha,x,hx1,hx2,?_⟩
 have S3:=fr _ _ (fromQ (X:=X.set ns.toNat x) S')
 rw [←cnt_new hX.four hn hx1 hl] at S3
 exact mapE_in (r:=r) S3
theorem New0.zero:New0 X0 0 0:=⟨X0_ok,fun ns=>by
 have:getX X0 ns=noC:=by
  unfold getX
  split
  ·rename_i h
   obtain ⟨h1,h2⟩:=h
   have:ns.toNat<4:=by omega
   show X0.getD ns.toNat noC=noC
   match ns.toNat,this with
   | 0,_=>rfl
   | 1,_=>rfl
   | 2,_=>rfl
   | 3,_=>rfl
  ·rfl
 rw [this]
 split
 ·rfl
 ·split <;> rfl,fun ns=>by
 have:getX X0 ns=noC:=by
  unfold getX
  split
  ·rename_i h
   obtain ⟨h1,h2⟩:=h
   have:ns.toNat<4:=by omega
   show X0.getD ns.toNat noC=noC
   match ns.toNat,this with
   | 0,_=>rfl
   | 1,_=>rfl
   | 2,_=>rfl
   | 3,_=>rfl
  ·rfl
 rw [this]
 split
 ·rfl
 ·split <;> rfl⟩
theorem New0.add0 {z:Nat} {x:SlP Ce} (h:New0 X 0 0) (hx1:x.l=List.replicate z Ce0) (hx2:x.n=z) (hz:z≤65535):New0 (X.set (0:Int).toNat x) z 0:=
 ⟨ok_new h.ok ⟨by rw [hx1,List.length_replicate,hx2],by omega⟩,fun ns=>by
  rw [getX_set h.ok.four (by decide)]
  by_cases e:ns=0
  ·rw [if_pos e,if_pos e];exact hx1
  ·rw [if_neg e,h.l,if_neg e,if_neg e],fun ns=>by
  rw [getX_set h.ok.four (by decide)]
  by_cases e:ns=0
  ·rw [if_pos e,if_pos e];exact hx2
  ·rw [if_neg e,h.n,if_neg e,if_neg e]⟩
theorem New25_c {pl:List FD} {z0 z1:Nat} (hR:Right g) (hg:LG g) (hp:∀ f∈pl,Byt f.2.2.1∧f.2.2.1.length≤140737488351232) (hX:New0 X z0 z1) (S:Sep E w0 w (mapE pm X::polE pp p q g (List.replicate (nG g) zHd)::ledE q (List.replicate (nG g) Blk.new)::chipE p (newC g pl)::Rs)) :
  CallV Tryz.prog 42 #[.pointer (some ⟨pp,0,none⟩),.pointer (some ⟨pm,0,none⟩),g.val,.int .u64 1] w [.one .ptr,.one (.int .i64)] fun r w'=>∃ sp:Nat,r.1=some (⟨sp,0,none⟩:Addr)∧r.2.1=(0:Int)∧Sep E w0 w' (stS sp pp pm p q g (s00 g pl X) Rs):=by
 apply stream_New.vc
 unfold stream_New.P
 refine S.newB (vs:=g.vs) fun b1 w1 S f1 _=>S.la0 rfl ?_
 refine (Check_c (g:=g)).mono ?_
 rintro ⟨(e:Int),⟨⟩⟩ w2 ⟨h2,x2⟩
 dsimp only at h2 ⊢
 have h2:e=0:=by rw [h2];unfold chkE;rw [if_pos hR]
 subst h2
 have S:=S.stepE x2
 refine cond_f rfl (S.la0 rfl ?_)
 refine S.newB (vs:=stV pp pm g {s00 g pl X with fr:=[0,0,0,0]}) fun b7 w3 S f3 _=>?_
 have S:Sep E w0 w3 (stS b7 pp pm p q g {s00 g pl X with fr:=[0,0,0,0]} (BoxA b1 23 g.vs::Rs)):=S.fro [0,1,1,1,1] rfl
 refine Loop1 (fun (v:Int×Unit) w'=>∃ (i:Nat) (f:List Int),v.1=(i:Int)∧i≤4∧f.length=4∧(∀ j,j<i→f.getD j 0=-1)∧Sep E w0 w' (stS b7 pp pm p q g {s00 g pl X with fr:=f} (BoxA b1 23 g.vs::Rs))) (fun (v:Int×Unit) _=>(4-v.1).toNat)
  ⟨0,[0,0,0,0],rfl,by omega,rfl,fun j hj=>by omega,S⟩ ?_
 clear S
 rintro ⟨(v:Int),⟨⟩⟩ w4 ⟨i,f,hv,hi,hf,hj,S⟩
 dsimp only at hv
 subst hv
 refine cond_d (fun hlt=>?_) (fun hge=>?_)
 ·have hi4:i<4:=by have hlt:(i:Int)<4:=hlt;omega
  refine ⟨⟨by omega,hlt⟩,?_⟩
  simp only [Addr.add_lit]
  refine suFr (ns:=(i:Int)) hf (by omega) S fun w5 S f5=>⟨Rng.i64 (by omega) (by omega),⟨i+1,f.set i (-1),by push_cast;rfl,by omega,by rw [List.length_set];exact hf,fun j hj2=>?_,?_⟩,by omega⟩
  ·rw [List.getD_eq_getElem?_getD,List.getElem?_set]
   by_cases e:i=j
   ·rw [if_pos e,if_pos (by omega)];rfl
   ·rw [if_neg e,← List.getD_eq_getElem?_getD];exact hj j (by omega)
  ·have:frS {s00 g pl X with fr:=f} (i:Int) (-1)={s00 g pl X with fr:=f.set i (-1)}:=by unfold frS;rw [Int.toNat_natCast]
   rw [this] at S
   exact S
 ·have hi4:i=4:=by have hge:¬ (i:Int)<4:=hge;omega
  subst hi4
  have ef:f=[-1,-1,-1,-1]:=by
   match f,hf with
   | [a,b,c,d],_=>
    have h0:a=-1:=hj 0 (by omega)
    have h1:b=-1:=hj 1 (by omega)
    have h2:c=-1:=hj 2 (by omega)
    have h3:d=-1:=hj 3 (by omega)
    rw [h0,h1,h2,h3]
  subst ef
  have S:Sep E w0 w4 (stS b7 pp pm p q g (s00 g pl X) (BoxA b1 23 g.vs::Rs)):=S
  refine (over25_c (s00_I hR hg hp hX) S).mono ?_
  rintro ⟨(e:Int),⟨⟩⟩ w5 ⟨-,S⟩
  rw [s00_over hR] at S
  exact ⟨b7,rfl,rfl,(S.fro [5] rfl).tail⟩
end
end Go.Proofs.YtbaojfchlhlaeaaGreat.Vc
namespace Go.Proofs.YtbaojfchlhlaeaaGreat.Vc
open Go Go.Eng Go.RowKit Go.ChangeShapes
def Ty.big:(t:Ty)→t.T→Prop
 | .int _,_=>True
 | .bool,_=>True
 | .str,(x:ByteArray)=>x.size≤140737488351232
 | .sl e,(x:SlP e.T)=>x.n≤140737488351232∧∀ y∈x.l,e.big y
 | .nil,_=>True
 | .cons a r,(x:a.T×r.T)=>a.big x.1∧r.big x.2
end Go.Proofs.YtbaojfchlhlaeaaGreat.Vc
namespace Go.Proofs.YtbaojfchlhlaeaaGreat.Vc
open Go Go.Eng Go.RowKit
theorem fds_byt {w:World} {G:Nat→Prop} {f:SlP TF.T} (hf:LF.rd w G f):∀ F∈fds f,Byt F.2.2.1:=fun F hF=>by
 obtain ⟨x,hx,rfl⟩:=List.mem_map.1 hF
 rw [TF_dat]
 exact fun v hv=>rng_u8 ((hf.2.2.2.2 x hx).2.2.1.2.2.2.2 v hv)
end Go.Proofs.YtbaojfchlhlaeaaGreat.Vc
namespace Go.Proofs.YtbaojfchlhlaeaaGreat.Vc
open Go Go.Eng Go.RowKit
theorem zHd_rep' (m:Nat):(List.replicate m [Value.int .i64 0,.int .i64 0,.int .i64 0,.int .u32 0,.int .u64 0,.int .u64 0]).flatten=(List.replicate m zHd).flatMap Hd.vs:=by
 rw [List.flatMap_def,List.map_replicate]
 rfl
theorem _root_.Go.Eng.Sep.rdNil {E:Nat→Prop} {w0 w:World} {Rs:List Asr} (S:Sep E w0 w Rs):Sep E w0 w (RdL [⟨none,0,0,[]⟩]::Rs):=
 (S.nilOwn 5 1).conv fun F hF _ x hx=>by
  rw [List.mem_singleton.1 hx]
  exact own_rdB (xs:=[]) hF (fun k hk=>hk) Byt.nil
theorem rd_two {E:Nat→Prop} {w0 w:World} {Rs:List Asr} {a b:SlP Int} (S:Sep E w0 w (RdL [a]::RdL [b]::Rs)):Sep E w0 w (RdL [a,b]::Rs):=
 S.conv2 fun F1 F2 h1 h2 _ x hx=>by
  rcases List.mem_cons.1 hx with e | e
  ·rw [e];exact TB.rd_mono (fun k hk _=>.inl hk) (h1 a (List.mem_singleton.2 rfl))
  ·rw [List.mem_singleton.1 e];exact TB.rd_mono (fun k hk _=>.inr hk) (h2 b (List.mem_singleton.2 rfl))
theorem chip_new {w w':World} {p:Nat} {y:Lay} {g:Geo} {pl:List FD} {Rs:List Asr} {w0:World} {E:Nat→Prop} (hF:fds y.F=pl) (S:Sep E w0 w' (ChipP p y (newC g pl) []++Rs)):Sep E w0 w' (chipE p (newC g pl)::Rs):=
 chipE_in (C:=newC g pl) ⟨hF,rfl,fun o ho=>(List.not_mem_nil ho).elim⟩ S
section
variable {E:Nat→Prop} {w0 w:World} {Rs:List Asr} {sp pp pm p q n:Nat} {g:Geo} {s:SD}
theorem nxt_rng (h:SI g n s) {hd:Hd} (hr:hd.rng):(nxtS s hd).2.rng:=⟨hr.1,h.ep,u64w_R _⟩
end
end Go.Proofs.YtbaojfchlhlaeaaGreat.Vc
namespace Go.Proofs.YtbaojfchlhlaeaaGreat.Vc
open Go Go.Eng Go.RowKit
def szOk (l:List Int):Prop:=∀ x∈l,1≤x∧x≤65535
instance (l:List Int):Decidable (szOk l):=by unfold szOk;infer_instance
def qs (g:Geo):List Int→Int
 | []=>0
 | x::l=>quo g x+qs g l
theorem qs_append (g:Geo) (l m:List Int):qs g (l++m)=qs g l+qs g m:=by
 induction l with
 | nil=>simp [qs]
 | cons x l ih=>simp only [List.cons_append,qs,ih];omega
theorem szOk_append {l m:List Int}:szOk (l++m)↔szOk l∧szOk m:=by
 unfold szOk
 simp only [List.mem_append]
 exact ⟨fun h=>⟨fun x hx=>h x (.inl hx),fun x hx=>h x (.inr hx)⟩,fun ⟨h,h'⟩ x hx=>hx.elim (h x) (h' x)⟩
theorem szOk_one {x:Int}:szOk [x]↔1≤x∧x≤65535:=by unfold szOk;simp
theorem qs_one (g:Geo) (x:Int):qs g [x]=quo g x:=by simp [qs]
def fitE (g:Geo) (l:List Int):Int:=if Right g then (if szOk l then (if l.length≤4∧g.sp+qs g l≤g.b-4 then 0 else 14) else 13) else 2
theorem fitE_zero {g:Geo} {l:List Int}:fitE g l=0↔Right g∧szOk l∧l.length≤4∧g.sp+qs g l≤g.b-4:=by
 unfold fitE
 split
 ·split
  ·split
   ·simp [*]
   ·simp [*]
  ·simp [*]
 ·simp [*]
theorem take_snoc {l:List Int} {i:Nat} (h:i<l.length):l.take (i+1)=l.take i++[l.getD i 0]:=by
 rw [List.take_succ_eq_append_getElem h,getD_get h]
theorem rFit_c {w:World} {g:Geo} {a:Option Addr} {n c:Nat} {l:List Int} (hr:Right g) (hl:Ints w .i64 a n c l) :
  CallV Tryz.prog 77 #[g.val,.slice a n c] w [.one (.int .i64)] fun r w'=>r.1=fitE g l∧Ext w w':=by
 refine ref11_Fit.vc _ _ _ _ _ _ _ _ _ _ _ ?_
 unfold ref11_Fit.P
 have hr':=hr
 unfold Right Kept at hr'
 have ln:=hl.len
 have lim:=hl.lim
 refine newG fun b1 w1 e1 hb=>?_
 refine hb.ld (i:=3) (h:=.int .i64) (x:=g.sp) rfl ?_
 refine Loop1 (fun (y:Int×Int×Unit) w'=>∃ i:Nat,y.2.1=(i:Int)∧i≤n∧szOk (l.take i)∧(y.1≤64→y.1=g.sp+qs g (l.take i))∧(64<y.1→64<g.sp+qs g (l.take i))∧0≤y.1∧y.1≤65601∧Ext w1 w')
  (fun (y:Int×Int×Unit) _=>((n:Int)-y.2.1).toNat) ⟨0,rfl,by omega,fun x hx=>by simp at hx,fun _=>by simp [qs],fun h=>by dsimp only at h;omega,by dsimp only;omega,by dsimp only;omega,Ext.refl _⟩ ?_
 rintro ⟨(s:Int),(y:Int),⟨⟩⟩ w2 ⟨i,hy,hi,hok,hs1,hs2,hs0,hsb,e2⟩
 dsimp only at hy hs1 hs2 hs0 hsb ⊢
 subst hy
 refine cond_d (fun hlt=>?_) (fun hge=>?_)
 ·refine (hl.ext (e1.trans e2)).idx (by omega) hlt ?_
  rw [Int.toNat_natCast]
  have hmem:l.getD i 0∈l:=by rw [getD_get (by omega)];exact List.getElem_mem _
  have ht:=take_snoc (l:=l) (i:=i) (by omega)
  have hq:=qs_append g (l.take i) [l.getD i 0]
  rw [qs_one] at hq
  refine in11_c.mono ?_
  rintro ⟨(r3:Bool),⟨⟩⟩ w3 ⟨h3,rfl⟩
  dsimp only at h3 ⊢
  subst h3
  by_cases hin:1≤l.getD i 0∧l.getD i 0≤65535
  ·refine cond_f (by rw [decide_eq_true hin];rfl) ?_
   have hqb:=quo_bd hr hin
   have hok':szOk (l.take (i+1)):=by rw [ht];exact szOk_append.2 ⟨hok,szOk_one.2 hin⟩
   refine cond_d (fun h64=>?_) (fun h64=>?_)
   ·refine DrawV.old w3 fun D hD hkeep=>?_
    have hb3:=hb.ext e2
    have hD1:=hD _ hb3.lt
    refine ⟨hD1,ldG (hb3.ext (Ext.drew w3)) ?_⟩
    refine (hl.ext (e1.trans e2)).idxD (Ext.drew w3) (by omega) hlt hD ?_
    rw [Int.toNat_natCast]
    refine (rQuota_c (g:=g) (by omega) hin).mono ?_
    rintro ⟨(r4:Int),⟨⟩⟩ w4 ⟨h4,e4⟩
    dsimp only at h4 ⊢
    have h4':r4=quo g (l.getD i 0):=h4
    have E4:=(Ext.drew w3).trans e4
    have:=hs1 h64
    refine ⟨hkeep _ E4,Rng.i64 (by omega) (by omega),Rng.i64 (by omega) (by omega),⟨i+1,by push_cast;rfl,by omega,hok',fun h=>?_,fun h=>?_,by omega,by omega,e2.trans E4⟩,by omega⟩
    ·show s+r4=_
     rw [ht,hq];omega
    ·have h':64<s+r4:=h
     rw [ht,hq];omega
   ·have:=hs2 (by omega)
    refine ⟨Rng.i64 (by omega) (by omega),⟨i+1,by push_cast;rfl,by omega,hok',fun h=>absurd h h64,fun h=>?_,hs0,hsb,e2⟩,by omega⟩
    rw [ht,hq];omega
  ·refine cond_t (by rw [decide_eq_false hin];rfl) ⟨?_,e1.trans e2⟩
   show (13:Int)=_
   unfold fitE
   rw [if_pos hr,if_neg (fun h=>hin (h _ hmem))]
 ·have:i=n:=by omega
  subst this
  rw [List.take_of_length_le (by omega)] at hok hs1 hs2
  have e14:¬ (l.length≤4∧g.sp+qs g l≤g.b-4)→((14:Int)=fitE g l∧Ext w w2):=fun h=>⟨by unfold fitE;rw [if_pos hr,if_pos hok,if_neg h],e1.trans e2⟩
  refine cond_d (fun h4=>e14 (by omega)) (fun h4=>?_)
  refine (hb.ext e2).ld (i:=0) (h:=.int .i64) (x:=g.b) rfl ⟨Rng.i64 (by omega) (by omega),?_⟩
  refine cond_d (fun h5=>e14 (fun h=>?_)) (fun h5=>⟨?_,e1.trans e2⟩)
  ·by_cases h64:s≤64
   ·have:=hs1 h64;omega
   ·have:=hs2 (by omega);omega
  ·have:=hs1 (by omega)
   show (0:Int)=_
   exact (fitE_zero.2 ⟨hr,hok,by omega,by omega⟩).symm
end Go.Proofs.YtbaojfchlhlaeaaGreat.Vc
namespace Go.Proofs.YtbaojfchlhlaeaaGreat.Vc
open Go Go.Eng Go.RowKit
section
variable {E:Nat→Prop} {w0 w:World} {Rs:List Asr} {e2:TypeId} {a:Option Addr} {n c:Nat} {L:List Blk}
def erLe (x y:Blk):Bool:=decide (x.er≤y.er)
end
end Go.Proofs.YtbaojfchlhlaeaaGreat.Vc
namespace Go.Proofs.YtbaojfchlhlaeaaGreat.Vc
open Go Go.Eng Go.RowKit
def erGe (x y:Blk):Bool:=decide (y.er≤x.er)
def goodB (_:Nat) (x:Blk):Bool:=!x.ba
section
variable {E:Nat→Prop} {w0 w:World} {Rs:List Asr} {e2:TypeId} {a:Option Addr} {n c:Nat} {L:List Blk}
theorem rSpread_c (hn:n≤1000000) (S0:Sep E w0 w (OwnA e2 9 a n c (bvs L)::Rs)) :
  CallV Tryz.prog 134 #[.slice a n c] w [.agg [.int .i64,.int .i64]] fun r w'=>r.1.1=dnT L goodB erLe n n∧r.1.2.1=dnT L goodB erGe n n∧Ext w w':=by
 apply ref21_Spread.vc
 unfold ref21_Spread.P
 have S:=Sep.start NoB w
 refine S.newB fun b1 w1 S f1 _=>?_
 refine S.newB fun b3 w3 S f3 _=>?_
 refine S.st0 (by rfl) fun w5 S f5=>⟨Rng.i64 (by omega) (by omega),?_⟩
 refine Loop1 (fun (v:Int×Unit) w'=>∃ k:Nat,k≤n∧v.1=(n:Int)-1-k∧Sep NoB w w' [BoxA b3 25 [.int .i64 (dnT L goodB erLe n k),.int .i64 (dnT L goodB erGe n k)],BoxA b1 25 [.int .i64 0,.int .i64 0]]) (fun (v:Int×Unit) _=>(v.1+1).toNat) ⟨0,by omega,by dsimp only;omega,S⟩ ?_
 rintro ⟨(z:Int),⟨⟩⟩ w6 ⟨k,hk,hz,S⟩
 dsimp only at hz ⊢
 refine cond_d (fun hlt=>?_) (fun hge=>?_)
 case refine_2=>
  have hkn:k=n:=by omega
  subst hkn
  refine S.la0 rfl (S.st1 (by rfl) fun w7 S f7=>S.la1 rfl ?_)
  exact ⟨rfl,rfl,S.ext⟩
 have tb1:=dnT_bd (L:=L) (m:=goodB) (le:=erLe) (n:=n) k hk
 have tb2:=dnT_bd (L:=L) (m:=goodB) (le:=erGe) (n:=n) k hk
 have hzn:z.toNat=n-1-k:=by omega
 have hzi:(((n-1-k:Nat)):Int)=z:=by omega
 have SL:=S0.stepE S.ext
 obtain ⟨q,hq,hc,hb⟩:=nthB (i:=z) 0 SL rfl (by omega) (by omega)
 rw [hzn] at hc
 generalize hx:gx L (n-1-k)=x at hc
 refine ⟨⟨by omega,by omega⟩,q,hq,ldc (by rw [hzn];exact hc) 6 (h:=.bool) rfl ?_⟩
 have step1:dnT L goodB erLe n (k+1)=if goodB (n-1-k) x=true∧(dnT L goodB erLe n k<0∨erLe x (gx L (dnT L goodB erLe n k).toNat)=true) then z else dnT L goodB erLe n k:=by rw [←hx,← hzi];rfl
 have step2:dnT L goodB erGe n (k+1)=if goodB (n-1-k) x=true∧(dnT L goodB erGe n k<0∨erGe x (gx L (dnT L goodB erGe n k).toNat)=true) then z else dnT L goodB erGe n k:=by rw [←hx,← hzi];rfl
 have fin:∀ {w':World},Sep NoB w w' [BoxA b3 25 [.int .i64 (dnT L goodB erLe n (k+1)),.int .i64 (dnT L goodB erGe n (k+1))],BoxA b1 25 [.int .i64 0,.int .i64 0]] →
   Rng .i64 (z-1)∧(∃ k:Nat,k≤n∧z-1=(n:Int)-1-k∧Sep NoB w w' [BoxA b3 25 [.int .i64 (dnT L goodB erLe n k),.int .i64 (dnT L goodB erGe n k)],BoxA b1 25 [.int .i64 0,.int .i64 0]])∧(z-1+1).toNat<(z+1).toNat:=
  fun S=>⟨Rng.i64 (by omega) (by omega),⟨k+1,by omega,by push_cast;omega,S⟩,by omega⟩
 refine cond_of (fun hbad=>?_) (fun hgood=>?_)
 ·refine fin ?_
  have hb:¬ goodB (n-1-k) x=true:=by unfold goodB;rw [hbad];simp
  rw [step1,step2,if_neg (fun h=>hb h.1),if_neg (fun h=>hb h.1)]
  exact S
 have hg:goodB (n-1-k) x=true:=by unfold goodB;rw [hgood];rfl
 refine ⟨fun (_:Unit) w'=>Sep NoB w w' [BoxA b3 25 [.int .i64 (dnT L goodB erLe n (k+1)),.int .i64 (dnT L goodB erGe n k)],BoxA b1 25 [.int .i64 0,.int .i64 0]],?_,?_⟩
 ·rintro ⟨⟩ w7 S
  refine S.reg fun D hD hkeep S T=>?_
  have SL:=S0.stepE S.ext
  obtain ⟨q',hq',hc',hb'⟩:=nthB (i:=z) 0 SL rfl (by omega) (by omega)
  rw [hq] at hq';cases hq'
  rw [hzn,hx] at hc'
  refine ⟨by decide,hD _ S.bl0,S.ld0 rfl rfl (cond_d (fun h0=>⟨by decide,?_⟩) fun h0=>?_)⟩
  ·refine S.su0 (by rfl) fun w8 S f8=>fin ?_
   rw [step2,if_pos ⟨hg,.inl h0⟩]
   exact S
  obtain ⟨q2,hq2,hc2,hb2⟩:=nthB (i:=dnT L goodB erGe n k) 0 SL rfl (by omega) (by omega)
  rw [hq] at hq2;cases hq2
  have hbd:∀ i j,D ((q.add i).add j).block:=fun i j=>by rw [add_block,add_block];exact hD _ hb'
  refine ⟨⟨by omega,by omega⟩,q,hq,hbd _ _,ldc (by rw [hzn];exact hc') 3 (h:=.int .i64) rfl ?_⟩
  refine ⟨by decide,hD _ S.bl0,S.ld0 rfl rfl ⟨⟨by omega,by omega⟩,q,hq,hbd _ _,ldc hc2 3 (h:=.int .i64) rfl ?_⟩⟩
  refine cond_d (fun h1=>⟨by decide,?_⟩) (fun h1=>fin ?_)
  ·refine S.su0 (by rfl) fun w8 S f8=>fin ?_
   rw [step2,if_pos ⟨hg,.inr (decide_eq_true h1)⟩]
   exact S
  ·rw [step2,if_neg (fun h=>by rcases h.2 with h | h;omega;exact h1 (of_decide_eq_true h))]
   exact S
 ·refine S.reg fun D hD hkeep S T=>?_
  have SL:=S0.stepE S.ext
  obtain ⟨q',hq',hc',hb'⟩:=nthB (i:=z) 0 SL rfl (by omega) (by omega)
  rw [hq] at hq';cases hq'
  rw [hzn,hx] at hc'
  refine ⟨by decide,hD _ S.bl0,S.ld0 rfl rfl (cond_d (fun h0=>⟨by decide,?_⟩) fun h0=>?_)⟩
  ·refine S.su0 (by rfl) fun w8 S f8=>?_
   show Sep NoB w w8 _
   rw [step1,if_pos ⟨hg,.inl h0⟩]
   exact S
  obtain ⟨q2,hq2,hc2,hb2⟩:=nthB (i:=dnT L goodB erLe n k) 0 SL rfl (by omega) (by omega)
  rw [hq] at hq2;cases hq2
  have hbd:∀ i j,D ((q.add i).add j).block:=fun i j=>by rw [add_block,add_block];exact hD _ hb'
  refine ⟨⟨by omega,by omega⟩,q,hq,hbd _ _,ldc (by rw [hzn];exact hc') 3 (h:=.int .i64) rfl ?_⟩
  refine ⟨by decide,hD _ S.bl0,S.ld0 rfl rfl ⟨⟨by omega,by omega⟩,q,hq,hbd _ _,ldc hc2 3 (h:=.int .i64) rfl ?_⟩⟩
  refine cond_d (fun h1=>⟨by decide,?_⟩) (fun h1=>?_)
  ·refine S.su0 (by rfl) fun w8 S f8=>?_
   show Sep NoB w w8 _
   rw [step1,if_pos ⟨hg,.inr (decide_eq_true h1)⟩]
   exact S
  ·show Sep NoB w _ _
   rw [step1,if_neg (fun h=>by rcases h.2 with h | h;omega;exact h1 (of_decide_eq_true h))]
   exact S
end
end Go.Proofs.YtbaojfchlhlaeaaGreat.Vc
namespace Go.Proofs.YtbaojfchlhlaeaaGreat.Vc
open Go Go.Eng Go.RowKit
inductive RSt:CD→List Blk→CD→List Blk→Prop
 | refl (C:CD) (L:List Blk):RSt C L C L
 | prog {C:CD} {L:List Blk} {C':CD} {L':List Blk} (bl pa:Int) (xs:List Int):RSt C L C' L'→RSt C L (progC C' bl pa xs).1 L'
 | led {C:CD} {L:List Blk} {C':CD} {L' M:List Blk}:RSt C L C' L'→M.length=L'.length→(∀ i,(gx M i).er=(gx L' i).er)→RSt C L C' M
 | dst {C:CD} {L:List Blk} {C':CD} {L':List Blk} (b:Int):RSt C L C' L'→RSt C L (dstP C' L' b).1 (dstP C' L' b).2.1
theorem ch_er {b:Int} {n:Nat} {φ:Blk→Blk} (h:∀ x,(φ x).er=x.er) (L:List Blk) (i:Nat):(gx (chL b n φ L) i).er=(gx L i).er:=by
 unfold chL
 split
 ·by_cases e:i=b.toNat∧i<L.length
  ·obtain ⟨e,hl⟩:=e
   subst e
   show ((L.set b.toNat (φ (L.getD b.toNat default))).getD b.toNat default).er=_
   rw [List.getD_eq_getElem?_getD,List.getElem?_set_self hl]
   exact h _
  ·show ((L.set b.toNat (φ (L.getD b.toNat default))).getD i default).er=(L.getD i default).er
   by_cases e1:b.toNat=i
   ·have e2:L.length≤b.toNat:=Nat.le_of_not_lt fun k=>e ⟨e1.symm,by omega⟩
    rw [List.set_eq_of_length_le e2]
   ·simp only [List.getD_eq_getElem?_getD,List.getElem?_set_ne e1]
 ·rfl
theorem RSt.ch {C C':CD} {L L':List Blk} (k:RSt C L C' L') (b:Int) (n:Nat) {φ:Blk→Blk} (h:∀ x,(φ x).er=x.er):RSt C L C' (chL b n φ L'):=k.led (chL_len _ _ _ _) (ch_er h L')
section
variable {C C':CD} {L L':List Blk}
theorem RSt.prgP (k:RSt C L C' L') (bl pa:Int) (xs:List Int):RSt C L (prgP C' bl pa xs).1 L':=by
 unfold Vc.prgP
 split
 ·exact (k.prog _ _ _).prog _ _ _
 ·exact k.prog _ _ _
theorem RSt.fstP (k:RSt C L C' L') (b:Int) (h:Hd) (sl:Bool):RSt C L (fstP C' b h sl).1 L':=by
 unfold Vc.fstP
 split
 ·exact (k.prog _ _ _).prog _ _ _
 ·exact k.prog _ _ _
theorem RSt.begP (k:RSt C L C' L') (O:List Hd) (b ns:Int) (o:Hd) (sl:Bool):RSt C L (begP C' L' O b ns o sl).1 (begP C' L' O b ns o sl).2.1:=by
 unfold Vc.begP
 split
 ·exact (k.fstP b _ sl).ch _ _ fun _=>rfl
 ·exact k.fstP b _ sl
theorem RSt.opnP {ns:Int} {o:Hd} {sl:Bool}:∀ (m:Nat) {C':CD} {L':List Blk} {O:List Hd},RSt C L C' L'→RSt C L (opnP ns o sl m C' L' O).1.1 (opnP ns o sl m C' L' O).1.2.1
 | 0,C',L',O,k=>k
 | m+1,C',L',O,k=>by
  unfold Vc.opnP
  split
  ·exact k
  ·have hr:RSt C L (if (gx L' (pickT L' L'.length).toNat).cl=true then (C',L',(0:Int)) else dstP C' L' (pickT L' L'.length)).1 (if (gx L' (pickT L' L'.length).toNat).cl=true then (C',L',(0:Int)) else dstP C' L' (pickT L' L'.length)).2.1:=by
    split
    ·exact k
    ·exact k.dst _
   generalize (if (gx L' (pickT L' L'.length).toNat).cl=true then (C',L',(0:Int)) else dstP C' L' (pickT L' L'.length))=r at hr ⊢
   dsimp only
   split
   ·have hs:=hr.begP O (pickT L' L'.length) ns o sl
    generalize Vc.begP r.1 r.2.1 O (pickT L' L'.length) ns o sl=s at hs ⊢
    split
    ·exact hs
    ·split
     ·exact hs
     ·have hd:=(hs.ch (pickT L' L'.length) L'.length (φ:=fB) fun _=>rfl).dst (pickT L' L'.length)
      split
      ·exact hd
      ·exact RSt.opnP m hd
   ·split
    ·exact hr
    ·exact RSt.opnP m hr
end
def RS (s t:SD):Prop:=RSt s.C s.L t.C t.L
section
variable {s t:SD}
theorem RS.of (h:RS s t) {u:SD} (e1:u.C=t.C) (e2:u.L=t.L):RS s u:=by unfold RS;rw [e1,e2];exact h
theorem RS.mk {u:SD} {C:CD} {L:List Blk} (h:RSt s.C s.L C L) (e1:u.C=C) (e2:u.L=L):RS s u:=by unfold RS;rw [e1,e2];exact h
theorem RS.chS (h:RS s t) (b:Int) {φ:Blk→Blk} (k:∀ x,(φ x).er=x.er):RS s (chS t b φ):=RS.mk (RSt.ch h b t.L.length k) rfl rfl
theorem RS.over (h:RS s t):RS s (overP t).1:=by unfold overP;split <;> exact h.of rfl rfl
theorem RS.roS (h:RS s t) (e:Int):RS s (roS t e):=by unfold Vc.roS;split <;> exact h.of rfl rfl
theorem RS.left (h:RS s t) (e:Int):RS s (leftP t e).1:=by
 unfold leftP
 split
 ·exact h
 ·split
  ·exact (h.roS e).over
  ·exact (h.roS e).over
theorem RS.opn (h:RS s t) (ns:Int) (sl:Bool):RS s (opnS ns sl t).1:=by
 unfold opnS opC
 dsimp only
 split
 ·exact RS.mk (RSt.opnP 128 h) rfl rfl
 ·exact h.of rfl rfl
theorem RS.dst (h:RS s t) (b:Int):RS s (dstS t b).1:=by
 unfold dstS
 split
 ·exact RS.over (t:={t with C:=(dstP t.C t.L b).1,L:=(dstP t.C t.L b).2.1}) (RS.mk (RSt.dst b h) rfl rfl)
 ·exact h
theorem RS.cpy (h:RS s t) (to pa:Int) (k:Int×Int):RS s (cpyS t to pa k).1:=by
 unfold cpyS cpyC
 dsimp only
 have h1:RSt s.C s.L t.C (chL to t.L.length uB t.L):=RSt.ch h to _ fun _=>rfl
 split
 ·split
  ·exact RS.mk (h1.prgP _ _ _) rfl rfl
  ·exact RS.mk h1 rfl rfl
 ·exact RS.mk h1 rfl rfl
theorem RS.cop {to:Int}:∀ (l:List (Int×Int)) (i:Int) {t:SD},RS s t→RS s (copP to l i t).1
 | [],i,t,h=>by
  have h1:RSt s.C s.L (slC t.L.length t.C to).1 t.L:=by
   unfold slC
   split
   ·exact RSt.prog _ _ _ h
   ·exact h
  exact RS.mk h1 rfl rfl
 | k::l,i,t,h=>by
  unfold copP
  split
  ·exact h.cpy to i k
  ·exact RS.cop l (i+1) (h.cpy to i k)
theorem RS.mov (h:RS s t) (b to ns:Int) (l:List (Int×Int)):RS s (movP t b to ns l):=by
 have h0:RS s {t with X:=movL to (ordO t.O to).hh l 1 t.X}:=h.of rfl rfl
 unfold movP
 generalize ({t with X:=movL to (ordO t.O to).hh l 1 t.X}:SD)=u at h0 ⊢
 have h1:=(h0.chS to (φ:=cB (l.length:Int)) fun _=>rfl).chS b (φ:=rB) fun _=>rfl
 dsimp only
 split
 ·exact h1.of rfl rfl
 ·exact h1
theorem RS.spo (h:RS s t) (b:Int):RS s (spoP t b).1:=by
 have h1:=((h.chS b (φ:=fB) fun _=>rfl).chS b (φ:=rB) fun _=>rfl).dst b
 unfold spoP
 split
 ·exact h1
 ·exact h1.over
theorem RS.empL {b ns:Int} {l:List (Int×Int)}:∀ (k:Nat) {t:SD},RS s t→RS s (empL b ns l k t).1
 | 0,t,h=>h
 | k+1,t,h=>by
  have h1:=(h.opn ns false).left (opnS ns false t).2.2
  have h2:=RS.cop l 1 (to:=(opnS ns false t).2.1) h1
  unfold Vc.empL
  dsimp only
  split
  ·split
   ·exact h1.chS _ fun _=>rfl
   ·exact h1
  ·split
   ·exact h2.mov _ _ _ _
   ·split
    ·split
     ·exact h2.spo _
     ·exact RS.empL k (h2.spo _)
    ·exact h2
theorem RS.ded1 (h:RS s t) (k:Int×Int):RS s (ded1 t k):=by
 have h1:RS s (Vc.chS t (k.1-4) (cB (-1))):=h.chS _ fun _=>rfl
 unfold Vc.ded1
 dsimp only
 split
 ·exact h1.chS _ fun _=>rfl
 ·exact h1
end
structure ErI (n:Nat) (C:CD) (L:List Blk):Prop where
 pl:C.pl=[]
 off:C.off=false
 gb:C.g.b=4+(n:Int)
 bl:C.bs.length=C.g.b.toNat
 ll:L.length=n
 er:∀ i,i<n→(gx L i).er=(blkC C (4+(i:Int))).er
theorem code_nf {C:CD} (h:C.pl=[]):codeC C=(0,[],false):=by unfold codeC atF;rw [h];rfl
theorem bs_get (l:List BD) (i j:Nat) (x:BD) (hj:j<l.length):(l.set j x).getD i default=if i=j then x else l.getD i default:=by
 rw [List.getD_eq_getElem?_getD,List.getElem?_set]
 by_cases e:i=j
 ·subst e
  rw [if_pos rfl,if_pos hj,if_pos rfl]
  rfl
 ·rw [if_neg (fun k=>e k.symm),if_neg e,List.getD_eq_getElem?_getD]
theorem ErI.prog {n:Nat} {C:CD} {L:List Blk} (h:ErI n C L) (bl pa:Int) (xs:List Int):ErI n (progC C bl pa xs).1 L:=by
 unfold progC
 split
 ·rename_i hr
  have hc:=code_nf h.pl
  have hin:(0≤bl∧bl<C.g.b):=by
   unfold refC at hr
   rw [h.off,if_neg Bool.false_ne_true] at hr
   by_cases hi:inC C bl pa∧xs.length=szP C.g
   ·exact hi.1.1
   ·rw [if_pos hi] at hr;omega
  refine ⟨h.pl,by show (codeC C).2.2=false;rw [hc],h.gb,by show (C.bs.set _ _).length=_;rw [List.length_set];exact h.bl,h.ll,fun i hi=>?_⟩
  rw [h.er i hi]
  show _=((C.bs.set _ _).getD _ default).er
  rw [bs_get _ _ _ _ (by have:=h.bl;omega)]
  split
  ·rename_i e
   show (C.bs.getD _ default).er=(C.bs.getD _ default).er
   rw [e]
  ·rfl
 ·exact h
theorem ErI.dst {n:Nat} {C:CD} {L:List Blk} (h:ErI n C L) (b:Int):ErI n (dstP C L b).1 (dstP C L b).2.1∧(0≤b∧b<(n:Int)→(dstP C L b).2.2=0∧(dstP C L b).2.1=chL b n eB L):=by
 have hc:=code_nf h.pl
 have hm:mayC C (4+b)=if ¬ (0≤4+b∧4+b<C.g.b) then 2 else 0:=by unfold mayC;rw [h.off,if_neg Bool.false_ne_true]
 have hgb:=h.gb
 by_cases hb:0≤4+b∧4+b<C.g.b
 ·rw [if_neg (fun k=>k hb)] at hm
  have e:eraC C (4+b)=(eraX C (4+b),0):=by unfold eraC;rw [if_pos hm,hc]
  have ed:dstP C L b=(eraX C (4+b),chL b L.length eB L,0):=by
   unfold dstP
   rw [e,if_neg (by show ¬ (0:Int)=5;decide),if_pos rfl]
  rw [ed]
  refine ⟨⟨h.pl,by show (codeC C).2.2=false;rw [hc],h.gb,by show (C.bs.set _ _).length=_;rw [List.length_set];exact h.bl,by show (chL _ _ _ _).length=n;rw [chL_len];exact h.ll,fun i hi=>?_⟩,fun hb2=>⟨rfl,by rw [←h.ll]⟩⟩
  show (gx (chL b L.length eB L) i).er=((C.bs.set _ _).getD _ default).er
  rw [gx_ch rfl,bs_get _ _ _ _ (by have:=h.bl;omega),hc,h.ll]
  have hn:=h.er i hi
  by_cases e2:(0≤b∧b<(n:Int))∧i=b.toNat
  ·rw [if_pos e2,if_pos (by omega),if_pos rfl]
   show (gx L i).er+1=(blkC C (4+b)).er+1
   rw [hn,show 4+(i:Int)=4+b by omega]
  ·rw [if_neg e2,if_neg (by omega)]
   exact hn
 ·rw [if_pos hb] at hm
  have e:eraC C (4+b)=(C,2):=by unfold eraC;rw [if_neg (by omega),hm]
  have ed:dstP C L b=(C,L,2):=by
   unfold dstP
   rw [e,if_neg (by show ¬ (2:Int)=5;decide),if_neg (by show ¬ (2:Int)=0;decide)]
  rw [ed]
  exact ⟨h,fun hb2=>absurd ⟨by omega,by omega⟩ hb⟩
theorem ErI.go {n:Nat} {C C':CD} {L L':List Blk} (h:ErI n C L) (k:RSt C L C' L'):ErI n C' L':=by
 induction k with
 | refl=>exact h
 | prog bl pa xs _ ih=>exact ih.prog bl pa xs
 | led _ h1 h2 ih=>exact ⟨ih.pl,ih.off,ih.gb,ih.bl,h1.trans ih.ll,fun i hi=>(h2 i).trans (ih.er i hi)⟩
 | dst b _ ih=>exact (ih.dst b).1
end Go.Proofs.YtbaojfchlhlaeaaGreat.Vc
