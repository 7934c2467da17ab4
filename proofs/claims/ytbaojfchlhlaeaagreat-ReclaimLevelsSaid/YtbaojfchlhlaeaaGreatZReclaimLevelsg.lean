/- Texts in one: The plans of functions as plain statements, printed by wip/tools/vcgen.py; the kernel holds each to the code. The plans of functions as plain statements, printed by wip/tools/vcgen.py; the kernel holds each to the code. The contracts of layer 26 (reclaim): how unlike blocks are worn; blocks, levelled. The contracts of layer 26 (reclaim): blocks, levelled. The plans of functions as plain statements, printed by wip/tools/vcgen.py; the kernel holds each to the code. The contracts of the laws of layer 26: which cases are played; a new stream on an array, a sector written; what is known of blocks. The law ReclaimTells of layer 26: each call gives true, and what it read stays. Steps of the laws of layers 25 and 27, as data. The law HeadMarks of layer 14: each call gives true, and what it read stays. The law PageBack of layer 15: each call gives true, and what it read stays. Plain laws of layer 13: what a trace tells of programs. Plain laws of layer 13: what only clears. Plain laws of layer 24 (pool): what a block has that was destroyed, or opened. Plain laws of layer 25 (stream): without crashes, what of a block is programmed; what may fail. Plain laws of layer 25 (stream): without crashes, a block that is begun, opened, copied to, sealed: what may fail. Plain laws of layer 25 (stream): without crashes, a block that is opened; live places copied, a block sealed; a page written. Plain laws of layer 25 (stream): without crashes, what each operation answers; how many blocks are bad, or held. Plain laws of layer 25 (stream): without crashes, live places copied to a block that was begun, and the block sealed, or spoilt. Plain laws of layer 25 (stream): without crashes, live places copied, and a block sealed. Plain laws of layer 25 (stream): without crashes, a block that was begun and failed; what live pages have; places moved. Plain laws of layer 25 (stream): without crashes, places moved, and a block emptied. Plain laws of layer 25 (stream): without crashes, a block emptied, and room made: how many blocks a namespace holds. Plain laws of layer 25 (stream): without crashes, a block opened, and room made. Plain laws of layer 25 (stream): without crashes, a front that failed, and a page written. Plain laws of layer 25 (stream): without crashes, a page put; what a sector has then. Plain laws of layer 25 (stream): what a page has that was written; a copy has the same. The contracts of the laws of layer 25: which cases are played; is a ledger as the map says? The plans of functions as plain statements, printed by wip/tools/vcgen.py; the kernel holds each to the code. Plain laws of layer 25 (stream): without faults nothing fails, and there is always a block that is free. Plain laws of layer 25 (stream): a block emptied from outside, and destroyed; without faults room is made, and a page put. Plain laws of layer 25 (stream): what each sector has, head and page, is kept; a put changes what it speaks of. -/
import Derived.Test.YtbaojfchlhlaeaaGreatZReclaimLevelsf
set_option linter.unusedVariables false
set_option linter.unusedSimpArgs false
namespace Go.Proofs.YtbaojfchlhlaeaaGreat.Vc
open Go Go.Eng
def reclaim_spread.A:Ann:=.no
def reclaim_spread.P (p0:Addr) (w:World) (K:Int×Int×Unit→World→Prop):Prop:=
 CallV Tryz.prog 191 #[.pointer (some p0)] w [.one (.int .i64),.one (.int .i64)] fun (r1:Int×Int×Unit) w2=>
 cond (decide (r1.1<0))
 (K (((-1):Int),(0:Int),()) w2)
 (CallV Tryz.prog 54 #[.pointer (some p0),.int .i64 r1.2.1] w2 [.agg [.int .i64,.int .i64,.int .i64,.int .i64,.bool,.bool,.bool,.bool,.bool]] fun (r3:(Int×Int×Int×Int×Bool×Bool×Bool×Bool×Bool×Unit)×Unit) w4=>
 CallV Tryz.prog 54 #[.pointer (some p0),.int .i64 r1.1] w4 [.agg [.int .i64,.int .i64,.int .i64,.int .i64,.bool,.bool,.bool,.bool,.bool]] fun (r5:(Int×Int×Int×Int×Bool×Bool×Bool×Bool×Bool×Unit)×Unit) w6=>
 Rng .i64 (r3.1.2.2.2.1-r5.1.2.2.2.1) ∧
 K (r1.1,r3.1.2.2.2.1-r5.1.2.2.2.1,()) w6)
theorem reclaim_spread.vc (p0:Addr) (w:World) (K:Int×Int×Unit→World→Prop) (h:reclaim_spread.P p0 w K):CallV Tryz.prog 133 #[.pointer (some p0)] w [.one (.int .i64),.one (.int .i64)] K:=by
 refine vcFun.of (A:=reclaim_spread.A) (wr:=false) okf_ok follows h Tryz.func133 ?_
 kernel_rfl
def reclaim_Unlike.A:Ann:=.no
def reclaim_Unlike.P (p0:Addr) (p1:Int) (w:World) (K:Bool×Unit→World→Prop):Prop:=
 CallV Tryz.prog 26 #[.pointer (some p0)] w [.one .ptr] fun (r1:(Option Addr)×Unit) w2=>
 CallV Tryz.prog 27 #[.pointer r1.1] w2 [.one .ptr] fun (r3:(Option Addr)×Unit) w4=>
 CallV Tryz.prog 133 #[.pointer r3.1] w4 [.one (.int .i64),.one (.int .i64)] fun (r5:Int×Int×Unit) w6=>
 cond (decide (p1≥1))
 (K (decide (r5.2.1>p1),()) w6)
 (K (false,()) w6)
theorem reclaim_Unlike.vc (p0:Addr) (p1:Int) (w:World) (K:Bool×Unit→World→Prop) (h:reclaim_Unlike.P p0 p1 w K):CallV Tryz.prog 62 #[.pointer (some p0),.int .i64 p1] w [.one .bool] K:=by
 refine vcFun.of (A:=reclaim_Unlike.A) (wr:=false) okf_ok follows h Tryz.func62 ?_
 kernel_rfl
def reclaim_Erases.A:Ann:=.two .no (.two .no (.two .no (.two (.two .no (.one (.loop [3,5,11,12,13,14,15,16,17,18,19,20,21] [(3,.one .sl),(11,.one (.int .i64))] .no))) .no)))
def reclaim_Erases.P (p0:Addr) (w:World) (K:SlV×Unit→World→Prop):Prop:=
 CallV Tryz.prog 26 #[.pointer (some p0)] w [.one .ptr] fun (r1:(Option Addr)×Unit) w2=>
 CallV Tryz.prog 27 #[.pointer r1.1] w2 [.one .ptr] fun (r3:(Option Addr)×Unit) w4=>
 CallV Tryz.prog 52 #[.pointer r3.1] w4 [.one (.int .i64)] fun (r5:Int×Unit) w6=>
 LoopV [.one .sl,.one (.int .i64)] ((⟨none,0,0⟩:SlV),(0:Int),()) w6 fun (z7:SlV×Int×Unit) w8 (K9:SlV×Int×Unit→World→Prop)=>
 cond (decide (z7.2.1<r5.1))
 (CallV Tryz.prog 54 #[.pointer r3.1,.int .i64 z7.2.1] w8 [.agg [.int .i64,.int .i64,.int .i64,.int .i64,.bool,.bool,.bool,.bool,.bool]] fun (r10:(Int×Int×Int×Int×Bool×Bool×Bool×Bool×Bool×Unit)×Unit) w11=>
 NewV #[.int .i64 r10.1.2.2.2.1] 3 w11 fun b12 w13=>
 AppS w13 (some ⟨b12,0,none⟩) 1 1 fun ns18=>
 AppV w13 3 1 8 z7.1.a z7.1.n z7.1.c ns18 1 fun a14 n15 c16 w17=>
 Rng .i64 (z7.2.1+1) ∧
 K9 ((⟨a14,n15,c16⟩:SlV),z7.2.1+1,()) w17)
 (K (z7.1,()) w8)
theorem reclaim_Erases.vc (p0:Addr) (w:World) (K:SlV×Unit→World→Prop) (h:reclaim_Erases.P p0 w K):CallV Tryz.prog 61 #[.pointer (some p0)] w [.one .sl] K:=by
 refine vcFun.of (A:=reclaim_Erases.A) (wr:=false) okf_ok follows h Tryz.func61 ?_
 kernel_rfl
def reclaim_Level.A:Ann:=.two .no (.two .no (.two (.two .no (.one (.loop [4,5,6,7,19,20,21,22,23,24,25,26,27,28,29,30,31,32,33,34,35,36,37,38,39,40,41,42,43,44,45,46] [(19,.one (.int .i64))] .no))) .no))
def reclaim_Level.P (p0:Addr) (p1:Int) (w:World) (K:Int×Unit→World→Prop):Prop:=
 cond (decide (p1<1))
 (K ((2:Int),()) w)
 (CallV Tryz.prog 26 #[.pointer (some p0)] w [.one .ptr] fun (r1:(Option Addr)×Unit) w2=>
 CallV Tryz.prog 27 #[.pointer r1.1] w2 [.one .ptr] fun (r3:(Option Addr)×Unit) w4=>
 CallV Tryz.prog 52 #[.pointer r3.1] w4 [.one (.int .i64)] fun (r5:Int×Unit) w6=>
 Rng .i64 ((64:Int)*r5.1) ∧
 LoopV [.one (.int .i64)] ((0:Int),()) w6 fun (z7:Int×Unit) w8 (K9:Int×Unit→World→Prop)=>
 cond (decide (z7.1<((64:Int)*r5.1)))
 (CallV Tryz.prog 48 #[.pointer (some p0)] w8 [.one .bool] fun (r10:Bool×Unit) w11=>
 cond r10.1
 (K ((15:Int),()) w11)
 (CallV Tryz.prog 62 #[.pointer (some p0),.int .i64 p1] w11 [.one .bool] fun (r12:Bool×Unit) w13=>
 cond (!r12.1)
 (K ((0:Int),()) w13)
 (CallV Tryz.prog 26 #[.pointer (some p0)] w13 [.one .ptr] fun (r14:(Option Addr)×Unit) w15=>
 CallV Tryz.prog 27 #[.pointer r14.1] w15 [.one .ptr] fun (r16:(Option Addr)×Unit) w17=>
 CallV Tryz.prog 133 #[.pointer r16.1] w17 [.one (.int .i64),.one (.int .i64)] fun (r18:Int×Int×Unit) w19=>
 NewV #[.func (.func 46) #[.pointer (some p0)] #[],.func (.func 47) #[.pointer (some p0)] #[]] 94 w19 fun b20 w21=>
 CallV Tryz.prog 135 #[.int .i64 r18.1,.slice (some ⟨b20,0,none⟩) 2 2] w21 [.one (.int .i64)] fun (r22:Int×Unit) w23=>
 cond (r22.1 == 4)
 (cond (r22.1 == 4)
 (K (r22.1,()) w23)
 (Rng .i64 (z7.1+1) ∧
 K9 (z7.1+1,()) w23))
 (cond (r22.1 == 15)
 (K (r22.1,()) w23)
 (Rng .i64 (z7.1+1) ∧
 K9 (z7.1+1,()) w23)))))
 (K ((0:Int),()) w8))
theorem reclaim_Level.vc (p0:Addr) (p1:Int) (w:World) (K:Int×Unit→World→Prop) (h:reclaim_Level.P p0 p1 w K):CallV Tryz.prog 66 #[.pointer (some p0),.int .i64 p1] w [.one (.int .i64)] K:=by
 refine vcFun.of (A:=reclaim_Level.A) (wr:=false) okf_ok follows h Tryz.func66 ?_
 kernel_rfl
end Go.Proofs.YtbaojfchlhlaeaaGreat.Vc
namespace Go.Proofs.YtbaojfchlhlaeaaGreat.Vc
open Go Go.Eng
def reclaim_both.A:Ann:=.two .no (.two (.two .no (.one (.loop [4,6,7,10,11,12,13,14,15,16,17,18,19,20] [(10,.one (.int .i64))] .no))) .no)
def reclaim_both.P (p0:Int) (a1:Option Addr) (n1 c1:Nat) (w:World) (K:Int×Unit→World→Prop):Prop:=
 LoopV [.one (.int .i64)] ((0:Int),()) w fun (z1:Int×Unit) w2 (K3:Int×Unit→World→Prop)=>
 cond (decide (z1.1<((n1:Nat):Int)))
 ((0≤z1.1∧z1.1<((n1:Nat):Int))∧∃ q4:Addr,a1=some q4 ∧
 LoadS w2 (q4.add (z1.1.toNat*1)) .fn fun (x5:(FuncId×Array Value×Array Value))=>
 cond (okf x5.1)
 (CallV Tryz.prog x5.1 ((x5.2.1).toList++((([.int .i64 p0]:List Value))++(x5.2.2).toList)).toArray w2 [.one (.int .i64)] fun (r6:Int×Unit) w7=>
 cond (r6.1 != 0)
 (K (r6.1,()) w7)
 (Rng .i64 (z1.1+1) ∧
 K3 (z1.1+1,()) w7))
 False)
 (K ((0:Int),()) w2)
theorem reclaim_both.vc (p0:Int) (a1:Option Addr) (n1 c1:Nat) (w:World) (K:Int×Unit→World→Prop) (h:reclaim_both.P p0 a1 n1 c1 w K):CallV Tryz.prog 135 #[.int .i64 p0,.slice a1 n1 c1] w [.one (.int .i64)] K:=by
 refine vcFun.of (A:=reclaim_both.A) (wr:=false) okf_ok follows h Tryz.func135 ?_
 kernel_rfl
end Go.Proofs.YtbaojfchlhlaeaaGreat.Vc
namespace Go.Proofs.YtbaojfchlhlaeaaGreat.Vc
open Go Go.Eng Go.RowKit
abbrev lowT (L:List Blk):Int:=leastT L L.length
abbrev topT (L:List Blk):Int:=mostT L L.length
def byL (L:List Blk):Int:=if lowT L<0 then 0 else (gx L (topT L).toNat).er-(gx L (lowT L).toNat).er
def unlB (L:List Blk) (wear:Int):Bool:=decide (1≤wear) && decide (wear<byL L)
theorem low_is (L:List Blk):Least L (fun _ x=>!x.ba) (fun x=>x.er) (fun j=>j<L.length) (lowT L):=bestT_least (fun _ _=>rfl) L.length
theorem top_is (L:List Blk):Least L (fun _ x=>!x.ba) (fun x=>0-x.er) (fun j=>j<L.length) (topT L):=bestT_least (ah:=fun x y=>decide (y.er<x.er)) (fun x y=>decide_eq_decide.2 ⟨fun h=>by omega,fun h=>by omega⟩) L.length
theorem low_top (L:List Blk) (h:0≤lowT L):lowT L<(L.length:Int)∧0≤topT L∧topT L<(L.length:Int):=by
 rcases low_is L with ⟨h1,-⟩ | ⟨a,h1,h2,h3,h4⟩
 ·omega
 ·have h2:a<L.length:=h2
  refine ⟨by omega,?_⟩
  rcases top_is L with ⟨k1,k2⟩ | ⟨c,k1,k2,k3,k4⟩
  ·have:=k2 a h2
   rw [this] at h3
   cases h3
  ·have k2:c<L.length:=k2
   omega
def botS (s:SD) (b:Int):SD×Int:=if (emtS s b).2≠0 then emtS s b else dstS (emtS s b).1 b
def lvlP (wear:Int):Nat→SD→SD×Int
 | 0,s=>(s,0)
 | k+1,s=>if s.ro=true then (s,15) else if unlB s.L wear=false then (s,0) else
  if (botS s (lowT s.L)).2=4∨(botS s (lowT s.L)).2=15 then botS s (lowT s.L) else lvlP wear k (botS s (lowT s.L)).1
def lvlS (wear:Int) (s:SD):SD×Int:=if wear<1 then (s,2) else lvlP wear (64*s.L.length) s
section
variable {g:Geo} {n K J:Nat} {s s' t:SD}
theorem SI.bot (h:SI g n s) {b:Int} (hb:0≤b∧b<(n:Int)) (ho:s.C.ops+215042≤1000000000000):St g n 215042 s (botS s b).1:=by
 obtain ⟨e1,e2⟩:=h.emt (b:=b) (by omega)
 unfold botS
 split
 ·exact e1.up (by omega)
 ·rename_i h0
  have h0:(emtS s b).2=0:=by omega
  have o2:=e1.o2
  obtain ⟨d1,-⟩:=e1.i.dst (b:=b) (e2 h0) (by omega)
  exact e1.trans d1
def lvC (k:Nat):Nat:=215042*k
theorem lvCs (k:Nat):lvC (k+1)=lvC k+215042:=Nat.mul_succ _ _
theorem lvC_le {k:Nat} (h:k≤3840):lvC k≤825761280:=Nat.mul_le_mul (Nat.le_refl 215042) h
theorem unl_low {L:List Blk} {wear:Int} (h:unlB L wear=true):0≤lowT L:=by
 unfold unlB at h
 rw [Bool.and_eq_true] at h
 have h1:1≤wear:=of_decide_eq_true h.1
 have h2:wear<byL L:=of_decide_eq_true h.2
 unfold byL at h2
 split at h2
 ·omega
 ·omega
theorem SI.lvl {wear:Int}:∀ (k:Nat) {s:SD},SI g n s→s.C.ops+lvC k≤1000000000000→St g n (lvC k) s (lvlP wear k s).1
 | 0,s,h,_=>(St.refl h).up (Nat.zero_le _)
 | k+1,s,h,ho=>by
  have e:=lvCs k
  unfold lvlP
  split
  ·exact (St.refl h).up (Nat.zero_le _)
  ·split
   ·exact (St.refl h).up (Nat.zero_le _)
   ·rename_i hu
    have hl:=unl_low (L:=s.L) (wear:=wear) (by simpa using hu)
    have hlt:=(low_top s.L hl).1
    rw [h.ln] at hlt
    have h1:=h.bot (b:=lowT s.L) ⟨hl,hlt⟩ (by omega)
    split
    ·exact h1.up (by omega)
    ·have o2:=h1.o2
     have h2:=SI.lvl (wear:=wear) k h1.i (by omega)
     exact (h1.trans h2).up (by omega)
end
section
variable {E:Nat→Prop} {w0 w:World} {Rs:List Asr} {sp pp pm p q n:Nat} {g:Geo} {s:SD} {L:List Blk}
theorem Spread_e (hn:L.length≤1000000) (S:Sep E w0 w (ledE q L::Rs)):CallV Tryz.prog 191 #[.pointer (some ⟨q,0,none⟩)] w [.one (.int .i64),.one (.int .i64)] fun r w'=>r.1=lowT L∧r.2.1=topT L∧Ext w w':=by
 obtain ⟨a,c,S⟩:=ledE_out S
 exact Spread_c hn S
theorem spread26_c (hn:L.length≤1000000) (hL:∀ x∈L,0≤x.er∧x.er≤2000000000000) (S:Sep E w0 w (ledE q L::Rs)):CallV Tryz.prog 133 #[.pointer (some ⟨q,0,none⟩)] w [.one (.int .i64),.one (.int .i64)] fun r w'=>r.1=(if lowT L<0 then -1 else lowT L)∧r.2.1=byL L∧Ext w w':=by
 apply reclaim_spread.vc
 unfold reclaim_spread.P byL
 refine (Spread_e hn S).mono ?_
 rintro ⟨(a:Int),(c:Int),⟨⟩⟩ w1 ⟨h1,h2,x1⟩
 dsimp only at h1 h2 ⊢
 subst h1;subst h2
 have S:=S.stepE x1
 refine cond_d (fun h=>?_) (fun h=>?_)
 ·rw [if_pos h,if_pos h];exact ⟨rfl,rfl,x1⟩
 ·rw [if_neg h,if_neg h]
  obtain ⟨l1,l2,l3⟩:=low_top L (by omega)
  refine (At_e (b:=topT L) S ⟨l2,l3⟩).mono ?_
  rintro ⟨x,⟨⟩⟩ w2 ⟨h2,x2⟩
  dsimp only at h2 ⊢
  subst h2
  have S:=S.stepE x2
  refine (At_e (b:=lowT L) S ⟨by omega,l1⟩).mono ?_
  rintro ⟨x,⟨⟩⟩ w3 ⟨h3,x3⟩
  dsimp only at h3 ⊢
  subst h3
  have r1:=hL _ (gx_mem (L:=L) (i:=(topT L).toNat) (by omega))
  have r2:=hL _ (gx_mem (L:=L) (i:=(lowT L).toNat) (by omega))
  exact ⟨Rng.i64 (z:=(gx L (topT L).toNat).er-(gx L (lowT L).toNat).er) (by omega) (by omega),rfl,rfl,(x1.trans x2).trans x3⟩
theorem SI.er2 (h:SI g n s):∀ x∈s.L,0≤x.er∧x.er≤2000000000000:=fun x hx=>by
 have h1:=h.pi.er x hx
 have h2:=h.pi.ok.ops
 omega
theorem Unlike26_c {wear:Int} (h:SI g n s) (S:Sep E w0 w (stS sp pp pm p q g s Rs)):CallV Tryz.prog 62 #[.pointer (some ⟨sp,0,none⟩),.int .i64 wear] w [.one .bool] fun r w'=>r.1=unlB s.L wear∧Ext w w':=by
 apply reclaim_Unlike.vc
 unfold reclaim_Unlike.P unlB
 refine (Pool25_c S).mono ?_
 rintro ⟨r,⟨⟩⟩ w1 ⟨h1,rfl⟩
 dsimp only at h1 ⊢
 subst h1
 refine ldg0 S ((spread26_c h.len6 h.er2 (S.fro [3] rfl)).mono ?_)
 rintro ⟨(a:Int),(c:Int),⟨⟩⟩ w2 ⟨-,h2,x2⟩
 dsimp only at h2 ⊢
 subst h2
 refine cond_d (fun k=>⟨?_,x2⟩) (fun k=>⟨?_,x2⟩)
 ·rw [decide_eq_true (show 1≤wear from k),Bool.true_and]
 ·rw [decide_eq_false (show ¬ 1≤wear from k),Bool.false_and]
def erLs (L:List Blk):List Int:=L.map fun x=>x.er
theorem Erases26_c (h:SI g n s) (S:Sep E w0 w (stS sp pp pm p q g s Rs)):CallV Tryz.prog 61 #[.pointer (some ⟨sp,0,none⟩)] w [.one .sl] fun r w'=>r.1.n=n∧Sep E w0 w' (OwnA 3 1 r.1.a r.1.n r.1.c ((erLs s.L).map (Value.int .i64))::stS sp pp pm p q g s Rs):=by
 apply reclaim_Erases.vc
 unfold reclaim_Erases.P
 have hln:=h.ln
 have hno:=h.no
 refine (Pool25_c S).mono ?_
 rintro ⟨r,⟨⟩⟩ w1 ⟨h1,rfl⟩
 dsimp only at h1 ⊢
 subst h1
 refine ldg0 S ((Len_e (S.fro [3] rfl)).mono ?_)
 rintro ⟨(r:Int),⟨⟩⟩ w2 ⟨h2,rfl⟩
 dsimp only at h2 ⊢
 subst h2
 have S:=S.nilOwn 3 1
 refine Loop1 (fun (v:SlV×Int×Unit) w'=>∃ i:Nat,v.2.1=(i:Int)∧i≤n∧v.1.n=i∧Sep E w0 w' (OwnA 3 1 v.1.a v.1.n v.1.c ((erLs (s.L.take i)).map (Value.int .i64))::stS sp pp pm p q g s Rs)) (fun (v:SlV×Int×Unit) _=>((n:Int)-v.2.1).toNat) ⟨0,rfl,Nat.zero_le _,rfl,S⟩ ?_
 clear S
 rintro ⟨⟨a,m,c⟩,(v:Int),⟨⟩⟩ w4 ⟨i,hv,hi,hm,S⟩
 dsimp only at hv hm S ⊢
 subst hv
 subst hm
 refine cond_d (fun hlt=>?_) (fun hge=>?_)
 ·have hml:m<s.L.length:=by omega
  refine (At_e (b:=(m:Int)) (S.fro [4] rfl) ⟨by omega,by omega⟩).mono ?_
  rintro ⟨x,⟨⟩⟩ w5 ⟨h5,x5⟩
  dsimp only at h5 ⊢
  subst h5
  have S:=S.stepE x5
  rw [Int.toNat_natCast]
  refine S.newB fun b6 w6 S f6 _=>?_
  refine AppS.of (news:=[.int .i64 (gx s.L m).er]) rfl (.inr ⟨_,rfl,S.cells 0 rfl⟩) ?_
  refine S.ap1 rfl (fun u hu=>by rw [List.mem_singleton.1 hu];rfl) (by omega) (by omega) fun a' c' w7 S f7=>⟨Rng.i64 (by omega) (by omega),⟨m+1,by push_cast;rfl,by omega,rfl,?_⟩,by omega⟩
  have e:(erLs (s.L.take (m+1))).map (Value.int .i64)=(erLs (s.L.take m)).map (Value.int .i64)++[.int .i64 (gx s.L m).er]:=by
   unfold erLs
   rw [List.take_succ_eq_append_getElem hml,List.map_append,List.map_append]
   have:gx s.L m=s.L[m]:=by show s.L.getD m default=_;rw [List.getD_eq_getElem?_getD,List.getElem?_eq_getElem hml];rfl
   rw [this]
   rfl
  rw [e]
  exact S.tail
 ·have e:m=n:=by omega
  subst e
  rw [List.take_of_length_le (by omega)] at S
  exact ⟨rfl,S⟩
end
end Go.Proofs.YtbaojfchlhlaeaaGreat.Vc
namespace Go.Proofs.YtbaojfchlhlaeaaGreat.Vc
open Go Go.Eng Go.RowKit
section
variable {E:Nat→Prop} {w0 w:World} {Rs:List Asr} {sp pp pm p q n:Nat} {g:Geo} {s:SD} {L:List Blk}
theorem okf_emp:okf 46=true:=by kernel_rfl
theorem okf_des:okf 47=true:=by kernel_rfl
abbrev stepsA (b1 sp:Nat) (e1:TypeId):Asr:=BoxA b1 e1 [.func (.func 46) #[.pointer (some ⟨sp,0,none⟩)] #[],.func (.func 47) #[.pointer (some ⟨sp,0,none⟩)] #[]]
theorem addA (b:Nat):(⟨b,0,none⟩:Addr).add ((0:Int).toNat*1)=⟨b,0,none⟩∧(⟨b,0,none⟩:Addr).add ((1:Int).toNat*1)=⟨b,1,none⟩:=by
 constructor <;> rw [Addr.add_lit] <;> rfl
theorem both26_c {b:Int} {b1:Nat} {e1:TypeId} (h:SI g n s) (hb:0≤b∧b<(n:Int)) (ho:s.C.ops+215042≤1000000000000) (S:Sep E w0 w (stepsA b1 sp e1::stS sp pp pm p q g s Rs)) :
  CallV Tryz.prog 135 #[.int .i64 b,.slice (some ⟨b1,0,none⟩) 2 2] w [.one (.int .i64)] fun r w'=>r.1=(botS s b).2∧Sep E w0 w' (stepsA b1 sp e1::stS sp pp pm p q g (botS s b).1 Rs):=by
 apply reclaim_both.vc
 unfold reclaim_both.P botS
 obtain ⟨k1,k2⟩:=h.emt (b:=b) (by omega)
 have o2:=k1.o2
 refine Loop1 (fun (v:Int×Unit) w'=>(v.1=0∧Sep E w0 w' (stepsA b1 sp e1::stS sp pp pm p q g s Rs))∨(v.1=1∧(emtS s b).2=0∧Sep E w0 w' (stepsA b1 sp e1::stS sp pp pm p q g (emtS s b).1 Rs)) ∨
   (v.1=2∧(emtS s b).2=0∧(dstS (emtS s b).1 b).2=0∧Sep E w0 w' (stepsA b1 sp e1::stS sp pp pm p q g (dstS (emtS s b).1 b).1 Rs))) (fun (v:Int×Unit) _=>(2-v.1).toNat) (.inl ⟨rfl,S⟩) ?_
 clear S
 rintro ⟨(v:Int),⟨⟩⟩ w1 (⟨hv,S⟩ | ⟨hv,h0,S⟩ | ⟨hv,h0,h1,S⟩)
 ·dsimp only at hv
  subst hv
  refine cond_t rfl ⟨⟨by decide,by decide⟩,_,rfl,?_⟩
  rw [(addA b1).1]
  refine S.ld0 (j:=0) (h:=.fn) (x:=(46,#[.pointer (some ⟨sp,0,none⟩)],#[])) rfl rfl ?_
  refine cond_t okf_emp ?_
  refine (Empty25_c (b:=b) h (by omega) (S.fro [1,1,1,1,1] rfl)).mono ?_
  rintro ⟨(r:Int),⟨⟩⟩ w2 ⟨h2,S⟩
  dsimp only at h2 ⊢
  subst h2
  have S:Sep E w0 w2 (stepsA b1 sp e1::stS sp pp pm p q g (emtS s b).1 Rs):=S.fro [5] rfl
  refine cond_of (fun he=>?_) (fun he=>?_)
  ·have he:(emtS s b).2≠0:=by simpa using he
   rw [if_pos he]
   exact ⟨rfl,S⟩
  ·have he:(emtS s b).2=0:=by simpa using he
   exact ⟨Rng.i64 (by decide) (by decide),.inr (.inl ⟨rfl,he,S⟩),by decide⟩
 ·dsimp only at hv
  subst hv
  refine cond_t rfl ⟨⟨by decide,by decide⟩,_,rfl,?_⟩
  rw [(addA b1).2]
  refine S.ld0 (j:=1) (h:=.fn) (x:=(47,#[.pointer (some ⟨sp,0,none⟩)],#[])) rfl rfl ?_
  refine cond_t okf_des ?_
  rw [if_neg (fun k=>k h0)]
  refine (Destroy25_c (b:=b) k1.i (k2 h0) (by omega) (S.fro [1,1,1,1,1] rfl)).mono ?_
  rintro ⟨(r:Int),⟨⟩⟩ w2 ⟨h2,S⟩
  dsimp only at h2 ⊢
  subst h2
  have S:Sep E w0 w2 (stepsA b1 sp e1::stS sp pp pm p q g (dstS (emtS s b).1 b).1 Rs):=S.fro [5] rfl
  refine cond_of (fun he=>⟨rfl,S⟩) (fun he=>?_)
  have he:(dstS (emtS s b).1 b).2=0:=by simpa using he
  exact ⟨Rng.i64 (by decide) (by decide),.inr (.inr ⟨rfl,h0,he,S⟩),by decide⟩
 ·dsimp only at hv
  subst hv
  rw [if_neg (fun k=>k h0)]
  exact cond_f rfl ⟨h1.symm,S⟩
theorem RO25_c (h:SI g n s) (S:Sep E w0 w (stS sp pp pm p q g s Rs)):CallV Tryz.prog 48 #[.pointer (some ⟨sp,0,none⟩)] w [.one .bool] fun r w'=>r.1=s.ro∧w'=w:=ReadOnly_c h.fl S
theorem Level26_c {wear:Int} (h:SI g n s) (ho:s.C.ops+825761280≤1000000000000) (S:Sep E w0 w (stS sp pp pm p q g s Rs)) :
  CallV Tryz.prog 66 #[.pointer (some ⟨sp,0,none⟩),.int .i64 wear] w [.one (.int .i64)] fun r w'=>r.1=(lvlS wear s).2∧Sep E w0 w' (stS sp pp pm p q g (lvlS wear s).1 Rs):=by
 apply reclaim_Level.vc
 unfold reclaim_Level.P lvlS
 refine cond_d (fun hw=>?_) (fun hw=>?_)
 ·rw [if_pos hw];exact ⟨rfl,S⟩
 rw [if_neg hw]
 have hln:=h.ln
 have hno:=h.no
 refine (Pool25_c S).mono ?_
 rintro ⟨r,⟨⟩⟩ w1 ⟨h1,rfl⟩
 dsimp only at h1 ⊢
 subst h1
 refine ldg0 S ((Len_e (S.fro [3] rfl)).mono ?_)
 rintro ⟨(r:Int),⟨⟩⟩ w2 ⟨h2,rfl⟩
 dsimp only at h2 ⊢
 rw [hln] at h2 ⊢
 subst h2
 refine ⟨Rng.i64 (by omega) (by omega),?_⟩
 have hlv:lvC (64*n)≤825761280:=lvC_le (by omega)
 generalize hN:64*n=N at hlv ⊢
 have hN2:(64:Int)*(n:Int)=(N:Int):=by omega
 rw [hN2]
 refine Loop1 (fun (v:Int×Unit) w'=>∃ (k:Nat) (t:SD),v.1=(N:Int)-(k:Int)∧k≤N∧SI g n t∧t.C.ops+lvC k≤1000000000000∧lvlP wear k t=lvlP wear N s∧Sep E w0 w' (stS sp pp pm p q g t Rs)) (fun (v:Int×Unit) _=>((N:Int)-v.1).toNat)
  ⟨N,s,by show (0:Int)=_;omega,Nat.le_refl _,h,by omega,rfl,S⟩ ?_
 clear S
 rintro ⟨(v:Int),⟨⟩⟩ w3 ⟨k,t,hv,hk,ht,hop,hX,S⟩
 dsimp only at hv
 subst hv
 refine cond_d (fun hlt=>?_) (fun hge=>?_)
 case refine_2=>
  have hk0:k=0:=by omega
  subst hk0
  rw [←hX]
  exact ⟨rfl,S⟩
 obtain ⟨m,rfl⟩:∃ m,k=m+1:=⟨k-1,by omega⟩
 have ed:=lvCs m
 have hX:(if t.ro=true then (t,15) else if unlB t.L wear=false then (t,0) else
  if (botS t (lowT t.L)).2=4∨(botS t (lowT t.L)).2=15 then botS t (lowT t.L) else lvlP wear m (botS t (lowT t.L)).1)=lvlP wear N s:=hX
 refine (RO25_c ht S).mono ?_
 rintro ⟨(r:Bool),⟨⟩⟩ w4 ⟨h4,rfl⟩
 dsimp only at h4 ⊢
 subst h4
 refine cond_of (fun hr=>?_) (fun hr=>?_)
 ·rw [if_pos hr] at hX
  rw [←hX];exact ⟨rfl,S⟩
 rw [if_neg (by rw [hr];exact Bool.false_ne_true)] at hX
 refine (Unlike26_c (wear:=wear) ht S).mono ?_
 rintro ⟨(r:Bool),⟨⟩⟩ w5 ⟨h5,x5⟩
 dsimp only at h5 ⊢
 subst h5
 have S:=S.stepE x5
 refine cond_of (fun hu=>?_) (fun hu=>?_)
 ·rw [if_pos (by simpa using hu)] at hX
  rw [←hX];exact ⟨rfl,S⟩
 have hu:unlB t.L wear=true:=by simpa using hu
 rw [if_neg (by rw [hu];decide)] at hX
 have hl:=unl_low hu
 obtain ⟨l1,-⟩:=low_top t.L hl
 rw [ht.ln] at l1
 refine (Pool25_c S).mono ?_
 rintro ⟨r,⟨⟩⟩ w6 ⟨h6,rfl⟩
 dsimp only at h6 ⊢
 subst h6
 refine ldg0 S ((spread26_c ht.len6 ht.er2 (S.fro [3] rfl)).mono ?_)
 rintro ⟨(a:Int),(c:Int),⟨⟩⟩ w7 ⟨h7,-,x7⟩
 dsimp only at h7 ⊢
 rw [if_neg (by omega)] at h7
 subst h7
 have S:=S.stepE x7
 refine S.newB fun b20 w8 S f8 _=>?_
 refine (both26_c (b:=lowT t.L) ht ⟨hl,l1⟩ (by omega) S).mono ?_
 rintro ⟨(r:Int),⟨⟩⟩ w9 ⟨h9,S⟩
 dsimp only at h9 ⊢
 subst h9
 have S:=S.tail
 have o2:=(ht.bot (b:=lowT t.L) ⟨hl,l1⟩ (by omega)).o2
 have hi:=(ht.bot (b:=lowT t.L) ⟨hl,l1⟩ (by omega)).i
 have nx:¬ ((botS t (lowT t.L)).2=4∨(botS t (lowT t.L)).2=15)→Rng .i64 ((N:Int)-((m+1:Nat):Int)+1)∧(∃ (k:Nat) (u:SD),(N:Int)-((m+1:Nat):Int)+1=(N:Int)-(k:Int)∧k≤N∧SI g n u∧u.C.ops+lvC k≤1000000000000∧lvlP wear k u=lvlP wear N s∧Sep E w0 w9 (stS sp pp pm p q g u Rs))∧((N:Int)-((N:Int)-((m+1:Nat):Int)+1)).toNat<((N:Int)-((N:Int)-((m+1:Nat):Int))).toNat:=fun hn=>by
  rw [if_neg hn] at hX
  exact ⟨Rng.i64 (by omega) (by omega),⟨m,_,by omega,by omega,hi,by omega,hX,S⟩,by omega⟩
 refine cond_eq (fun h4=>?_) (fun h4=>?_)
 ·rw [if_pos (.inl h4)] at hX
  refine cond_eq (fun _=>by rw [←hX];exact ⟨rfl,S⟩) (fun k=>absurd h4 k)
 ·refine cond_eq (fun h15=>?_) (fun h15=>?_)
  ·rw [if_pos (.inr h15)] at hX
   rw [←hX];exact ⟨rfl,S⟩
  ·exact nx (fun k=>k.elim h4 h15)
end
end Go.Proofs.YtbaojfchlhlaeaaGreat.Vc
namespace Go.Proofs.YtbaojfchlhlaeaaGreat.Vc
open Go Go.Eng
def law26_light.A:Ann:=.no
def law26_light.P (p0_0 p0_1 p0_2 p0_3 p0_4 p0_5:Int) (a0_6:Option Addr) (n0_6 c0_6:Nat) (p0_7:Int) (a0_8:Option Addr) (n0_8 c0_8:Nat) (w:World) (K:Bool×Unit→World→Prop):Prop:=
 NewV #[.int .i64 p0_0,.int .i64 p0_1,.int .i64 p0_2,.int .i64 p0_3,.int .i64 p0_4,.int .i64 p0_5,.slice a0_6 n0_6 c0_6,.int .i64 p0_7,.slice a0_8 n0_8 c0_8] 108 w fun b1 w2=>
 LoadA w2 ⟨b1,0,none⟩ [.int .i64,.int .i64,.int .i64,.int .i64,.int .i64,.int .i64] fun (x3:Int×Int×Int×Int×Int×Int×Unit)=>
 CallV Tryz.prog 75 #[.agg #[.int .i64 x3.1,.int .i64 x3.2.1,.int .i64 x3.2.2.1,.int .i64 x3.2.2.2.1,.int .i64 x3.2.2.2.2.1,.int .i64 x3.2.2.2.2.2.1]] w2 [.one .bool] fun (r4:Bool×Unit) w5=>
 cond r4.1
 (LoadS w5 ⟨b1,6,none⟩ .sl fun (x6:SlV)=>
 CallV Tryz.prog 76 #[.slice x6.a x6.n x6.c] w5 [.one .bool] fun (r7:Bool×Unit) w8=>
 cond r7.1
 (LoadS w8 ⟨b1,0,none⟩ (.int .i64) fun (x9:Int)=>
 cond (decide (x9≤16))
 (LoadS w8 ⟨b1,1,none⟩ (.int .i64) fun (x10:Int)=>
 cond (decide (x10≤16))
 (LoadS w8 ⟨b1,2,none⟩ (.int .i64) fun (x11:Int)=>
 cond (decide (x11≤128))
 (LoadS w8 ⟨b1,8,none⟩ .sl fun (x12:SlV)=>
 cond (decide (((x12.n:Nat):Int)≤200))
 (LoadA w8 ⟨b1,0,none⟩ [.int .i64,.int .i64,.int .i64,.int .i64,.int .i64,.int .i64] fun (x13:Int×Int×Int×Int×Int×Int×Unit)=>
 LoadS w8 ⟨b1,7,none⟩ (.int .i64) fun (x14:Int)=>
 NewV #[.int .i64 x14] 3 w8 fun b15 w16=>
 CallV Tryz.prog 77 #[.agg #[.int .i64 x13.1,.int .i64 x13.2.1,.int .i64 x13.2.2.1,.int .i64 x13.2.2.2.1,.int .i64 x13.2.2.2.2.1,.int .i64 x13.2.2.2.2.2.1],.slice (some ⟨b15,0,none⟩) 1 1] w16 [.one (.int .i64)] fun (r17:Int×Unit) w18=>
 K ((r17.1 == 0),()) w18)
 (K (false,()) w8))
 (K (false,()) w8))
 (K (false,()) w8))
 (K (false,()) w8))
 (K (false,()) w8))
 (K (false,()) w5)
theorem law26_light.vc (p0_0 p0_1 p0_2 p0_3 p0_4 p0_5:Int) (a0_6:Option Addr) (n0_6 c0_6:Nat) (p0_7:Int) (a0_8:Option Addr) (n0_8 c0_8:Nat) (w:World) (K:Bool×Unit→World→Prop) (h:law26_light.P p0_0 p0_1 p0_2 p0_3 p0_4 p0_5 a0_6 n0_6 c0_6 p0_7 a0_8 n0_8 c0_8 w K):CallV Tryz.prog 56 #[.agg #[.int .i64 p0_0,.int .i64 p0_1,.int .i64 p0_2,.int .i64 p0_3,.int .i64 p0_4,.int .i64 p0_5,.slice a0_6 n0_6 c0_6,.int .i64 p0_7,.slice a0_8 n0_8 c0_8]] w [.one .bool] K:=by
 refine vcFun.of (A:=law26_light.A) (wr:=false) okf_ok follows h Tryz.func56 ?_
 kernel_rfl
def law26_made.A:Ann:=.no
def law26_made.P (p0_0 p0_1 p0_2 p0_3 p0_4 p0_5:Int) (a0_6:Option Addr) (n0_6 c0_6:Nat) (p0_7:Int) (a0_8:Option Addr) (n0_8 c0_8:Nat) (w:World) (K:(Option Addr)×(Option Addr)×Unit→World→Prop):Prop:=
 NewV #[.int .i64 p0_0,.int .i64 p0_1,.int .i64 p0_2,.int .i64 p0_3,.int .i64 p0_4,.int .i64 p0_5,.slice a0_6 n0_6 c0_6,.int .i64 p0_7,.slice a0_8 n0_8 c0_8] 108 w fun b1 w2=>
 LoadA w2 ⟨b1,0,none⟩ [.int .i64,.int .i64,.int .i64,.int .i64,.int .i64,.int .i64] fun (x3:Int×Int×Int×Int×Int×Int×Unit)=>
 LoadS w2 ⟨b1,6,none⟩ .sl fun (x4:SlV)=>
 CallV Tryz.prog 78 #[.agg #[.int .i64 x3.1,.int .i64 x3.2.1,.int .i64 x3.2.2.1,.int .i64 x3.2.2.2.1,.int .i64 x3.2.2.2.2.1,.int .i64 x3.2.2.2.2.2.1],.slice x4.a x4.n x4.c] w2 [.one .ptr,.one (.int .i64)] fun (r5:(Option Addr)×Int×Unit) w6=>
 LoadA w6 ⟨b1,0,none⟩ [.int .i64,.int .i64,.int .i64,.int .i64,.int .i64,.int .i64] fun (x7:Int×Int×Int×Int×Int×Int×Unit)=>
 CallV Tryz.prog 80 #[.agg #[.int .i64 x7.1,.int .i64 x7.2.1,.int .i64 x7.2.2.1,.int .i64 x7.2.2.2.1,.int .i64 x7.2.2.2.2.1,.int .i64 x7.2.2.2.2.2.1]] w6 [.one (.int .i64)] fun (r8:Int×Unit) w9=>
 CallV Tryz.prog 79 #[.int .i64 r8.1] w9 [.one .ptr,.one (.int .i64)] fun (r10:(Option Addr)×Int×Unit) w11=>
 CallV Tryz.prog 43 #[] w11 [.one .ptr] fun (r12:(Option Addr)×Unit) w13=>
 LoadS w13 ⟨b1,7,none⟩ (.int .i64) fun (x14:Int)=>
 CallV Tryz.prog 81 #[.pointer r12.1,.int .i64 0,.int .i64 x14] w13 [.one (.int .i64)] fun (r15:Int×Unit) w16=>
 CallV Tryz.prog 52 #[.pointer r10.1] w16 [.one (.int .i64)] fun (r17:Int×Unit) w18=>
 ((0:Int)≤(r17.1:Int)∧(r17.1:Int)≤(r17.1:Int)∧(r17.1:Int)≤9223372036854775807∧((48:Nat):Int)*(r17.1:Int)≤140737488355328) ∧
 NewV (List.replicate r17.1.toNat [.int .i64 0,.int .i64 0,.int .i64 0,.int .u32 0,.int .u64 0,.int .u64 0]).flatten.toArray 62 w18 fun b19 w20=>
 CallV Tryz.prog 82 #[.pointer r5.1,.pointer r10.1,.slice (some ⟨b19,0,none⟩) r17.1.toNat r17.1.toNat] w20 [.one .ptr,.one (.int .i64)] fun (r21:(Option Addr)×Int×Unit) w22=>
 LoadA w22 ⟨b1,0,none⟩ [.int .i64,.int .i64,.int .i64,.int .i64,.int .i64,.int .i64] fun (x23:Int×Int×Int×Int×Int×Int×Unit)=>
 CallV Tryz.prog 42 #[.pointer r21.1,.pointer r12.1,.agg #[.int .i64 x23.1,.int .i64 x23.2.1,.int .i64 x23.2.2.1,.int .i64 x23.2.2.2.1,.int .i64 x23.2.2.2.2.1,.int .i64 x23.2.2.2.2.2.1],.int .u64 1] w22 [.one .ptr,.one (.int .i64)] fun (r24:(Option Addr)×Int×Unit) w25=>
 K (r24.1,r5.1,()) w25
theorem law26_made.vc (p0_0 p0_1 p0_2 p0_3 p0_4 p0_5:Int) (a0_6:Option Addr) (n0_6 c0_6:Nat) (p0_7:Int) (a0_8:Option Addr) (n0_8 c0_8:Nat) (w:World) (K:(Option Addr)×(Option Addr)×Unit→World→Prop) (h:law26_made.P p0_0 p0_1 p0_2 p0_3 p0_4 p0_5 a0_6 n0_6 c0_6 p0_7 a0_8 n0_8 c0_8 w K):CallV Tryz.prog 58 #[.agg #[.int .i64 p0_0,.int .i64 p0_1,.int .i64 p0_2,.int .i64 p0_3,.int .i64 p0_4,.int .i64 p0_5,.slice a0_6 n0_6 c0_6,.int .i64 p0_7,.slice a0_8 n0_8 c0_8]] w [.one .ptr,.one .ptr] K:=by
 refine vcFun.of (A:=law26_made.A) (wr:=false) okf_ok follows h Tryz.func58 ?_
 kernel_rfl
def law26_awake.A:Ann:=.no
def law26_awake.P  (w:World) (K:Bool×Unit→World→Prop):Prop:=
 CallV Tryz.prog 58 #[.agg #[.int .i64 9,.int .i64 10,.int .i64 64,.int .i64 0,.int .i64 1,.int .i64 1,.slice none 0 0,.int .i64 5,.slice none 0 0]] w [.one .ptr,.one .ptr] fun (r1:(Option Addr)×(Option Addr)×Unit) w2=>
 CallV Tryz.prog 66 #[.pointer r1.1,.int .i64 1] w2 [.one (.int .i64)] fun (r3:Int×Unit) w4=>
 cond (r3.1 == 0)
 (CallV Tryz.prog 61 #[.pointer r1.1] w4 [.one .sl] fun (r5:SlV×Unit) w6=>
 cond (((r5.1.n:Nat):Int) == 5)
 (CallV Tryz.prog 66 #[.pointer r1.1,.int .i64 0] w6 [.one (.int .i64)] fun (r7:Int×Unit) w8=>
 K ((r7.1 == 2),()) w8)
 (K (false,()) w6))
 (K (false,()) w4)
theorem law26_awake.vc  (w:World) (K:Bool×Unit→World→Prop) (h:law26_awake.P  w K):CallV Tryz.prog 57 #[] w [.one .bool] K:=by
 refine vcFun.of (A:=law26_awake.A) (wr:=false) okf_ok follows h Tryz.func57 ?_
 kernel_rfl
def law26_write.A:Ann:=.no
def law26_write.P (p0:Addr) (p1_0 p1_1 p1_2 p1_3 p1_4 p1_5 p2 p3:Int) (w:World) (K:Int×Unit→World→Prop):Prop:=
 NewV #[.int .i64 p1_0,.int .i64 p1_1,.int .i64 p1_2,.int .i64 p1_3,.int .i64 p1_4,.int .i64 p1_5] 23 w fun b1 w2=>
 LoadS w2 ⟨b1,2,none⟩ (.int .i64) fun (x3:Int)=>
 CallV Tryz.prog 132 #[.int .u8 (IntKind.u8.wrap p3),.int .i64 x3] w2 [.one .sl] fun (r4:SlV×Unit) w5=>
 CallV Tryz.prog 51 #[.pointer (some p0),.agg #[.int .i64 1,.int .i64 0,.int .i64 1,.int .u32 (IntKind.u32.wrap p2),.int .u64 0,.int .u64 0]] w5 [.agg [.int .i64,.int .i64,.int .i64,.int .u32,.int .u64,.int .u64]] fun (r6:(Int×Int×Int×Int×Int×Int×Unit)×Unit) w7=>
 CallV Tryz.prog 45 #[.pointer (some p0),.agg #[.int .i64 r6.1.1,.int .i64 r6.1.2.1,.int .i64 r6.1.2.2.1,.int .u32 r6.1.2.2.2.1,.int .u64 r6.1.2.2.2.2.1,.int .u64 r6.1.2.2.2.2.2.1],.slice r4.1.a r4.1.n r4.1.c,.slice none 0 0] w7 [.one (.int .i64)] fun (r8:Int×Unit) w9=>
 K (r8.1,()) w9
theorem law26_write.vc (p0:Addr) (p1_0 p1_1 p1_2 p1_3 p1_4 p1_5 p2 p3:Int) (w:World) (K:Int×Unit→World→Prop) (h:law26_write.P p0 p1_0 p1_1 p1_2 p1_3 p1_4 p1_5 p2 p3 w K):CallV Tryz.prog 60 #[.pointer (some p0),.agg #[.int .i64 p1_0,.int .i64 p1_1,.int .i64 p1_2,.int .i64 p1_3,.int .i64 p1_4,.int .i64 p1_5],.int .i64 p2,.int .i64 p3] w [.one (.int .i64)] K:=by
 refine vcFun.of (A:=law26_write.A) (wr:=false) okf_ok follows h Tryz.func60 ?_
 kernel_rfl
def law26_blocks.A:Ann:=.two .no (.two .no (.two (.two .no (.one (.loop [3,4,5,7,8,9,10,11,12,13,14,15,16,17,18,19,20,21,22,23,24,25,26,27,28,29,30,31,32,33,34,35,36,37,38,39,40,41] [(3,.one .sl),(4,.one (.int .i64))] .no))) .no))
def law26_blocks.P (p0:Addr) (w:World) (K:SlV×Unit→World→Prop):Prop:=
 NewV #[] 213 w fun b1 w2=>
 LoopV [.one .sl,.one (.int .i64)] ((⟨(some ⟨b1,0,none⟩),0,0⟩:SlV),(0:Int),()) w2 fun (z3:SlV×Int×Unit) w4 (K5:SlV×Int×Unit→World→Prop)=>
 CallV Tryz.prog 26 #[.pointer (some p0)] w4 [.one .ptr] fun (r6:(Option Addr)×Unit) w7=>
 CallV Tryz.prog 27 #[.pointer r6.1] w7 [.one .ptr] fun (r8:(Option Addr)×Unit) w9=>
 CallV Tryz.prog 52 #[.pointer r8.1] w9 [.one (.int .i64)] fun (r10:Int×Unit) w11=>
 cond (decide (z3.2.1<r10.1))
 (CallV Tryz.prog 26 #[.pointer (some p0)] w11 [.one .ptr] fun (r12:(Option Addr)×Unit) w13=>
 CallV Tryz.prog 27 #[.pointer r12.1] w13 [.one .ptr] fun (r14:(Option Addr)×Unit) w15=>
 CallV Tryz.prog 54 #[.pointer r14.1,.int .i64 z3.2.1] w15 [.agg [.int .i64,.int .i64,.int .i64,.int .i64,.bool,.bool,.bool,.bool,.bool]] fun (r16:(Int×Int×Int×Int×Bool×Bool×Bool×Bool×Bool×Unit)×Unit) w17=>
 NewV #[.int .i64 0,.int .i64 0,.int .i64 0,.int .i64 0,.bool false,.bool false,.bool false,.bool false,.bool false] 103 w17 fun b18 w19=>
 StoreV w19 ⟨b18,0,none⟩ [.int .i64 r16.1.1,.int .i64 r16.1.2.1,.int .i64 r16.1.2.2.1,.int .i64 r16.1.2.2.2.1,.bool r16.1.2.2.2.2.1,.bool r16.1.2.2.2.2.2.1,.bool r16.1.2.2.2.2.2.2.1,.bool r16.1.2.2.2.2.2.2.2.1,.bool r16.1.2.2.2.2.2.2.2.2.1] fun w20=>
 LoadS w20 ⟨b18,0,none⟩ (.int .i64) fun (x21:Int)=>
 LoadS w20 ⟨b18,1,none⟩ (.int .i64) fun (x22:Int)=>
 LoadS w20 ⟨b18,2,none⟩ (.int .i64) fun (x23:Int)=>
 LoadS w20 ⟨b18,3,none⟩ (.int .i64) fun (x24:Int)=>
 LoadS w20 ⟨b18,4,none⟩ .bool fun (x25:Bool)=>
 LoadS w20 ⟨b18,5,none⟩ .bool fun (x26:Bool)=>
 LoadS w20 ⟨b18,6,none⟩ .bool fun (x27:Bool)=>
 LoadS w20 ⟨b18,7,none⟩ .bool fun (x28:Bool)=>
 LoadS w20 ⟨b18,8,none⟩ .bool fun (x29:Bool)=>
 NewV #[.int .i64 x21,.int .i64 x22,.int .i64 x23,.int .i64 x24,.bool x25,.bool x26,.bool x27,.bool x28,.bool x29] 213 w20 fun b30 w31=>
 AppS w31 (some ⟨b30,0,none⟩) 1 9 fun ns36=>
 AppV w31 213 9 40 z3.1.a z3.1.n z3.1.c ns36 1 fun a32 n33 c34 w35=>
 Rng .i64 (z3.2.1+1) ∧
 K5 ((⟨a32,n33,c34⟩:SlV),z3.2.1+1,()) w35)
 (K (z3.1,()) w11)
theorem law26_blocks.vc (p0:Addr) (w:World) (K:SlV×Unit→World→Prop) (h:law26_blocks.P p0 w K):CallV Tryz.prog 64 #[.pointer (some p0)] w [.one .sl] K:=by
 refine vcFun.of (A:=law26_blocks.A) (wr:=false) okf_ok follows h Tryz.func64 ?_
 kernel_rfl
def law26_right.A:Ann:=.no
def law26_right.P (p0_0 p0_1 p0_2 p0_3 p0_4 p0_5:Int) (a0_6:Option Addr) (n0_6 c0_6:Nat) (p0_7:Int) (a0_8:Option Addr) (n0_8 c0_8:Nat) (p1:Int) (w:World) (K:Bool×Unit→World→Prop):Prop:=
 NewV #[.int .i64 p0_0,.int .i64 p0_1,.int .i64 p0_2,.int .i64 p0_3,.int .i64 p0_4,.int .i64 p0_5,.slice a0_6 n0_6 c0_6,.int .i64 p0_7,.slice a0_8 n0_8 c0_8] 108 w fun b1 w2=>
 cond (decide (p1≥0))
 (LoadS w2 ⟨b1,7,none⟩ (.int .i64) fun (x3:Int)=>
 K (decide (p1<x3),()) w2)
 (K (false,()) w2)
theorem law26_right.vc (p0_0 p0_1 p0_2 p0_3 p0_4 p0_5:Int) (a0_6:Option Addr) (n0_6 c0_6:Nat) (p0_7:Int) (a0_8:Option Addr) (n0_8 c0_8:Nat) (p1:Int) (w:World) (K:Bool×Unit→World→Prop) (h:law26_right.P p0_0 p0_1 p0_2 p0_3 p0_4 p0_5 a0_6 n0_6 c0_6 p0_7 a0_8 n0_8 c0_8 p1 w K):CallV Tryz.prog 59 #[.agg #[.int .i64 p0_0,.int .i64 p0_1,.int .i64 p0_2,.int .i64 p0_3,.int .i64 p0_4,.int .i64 p0_5,.slice a0_6 n0_6 c0_6,.int .i64 p0_7,.slice a0_8 n0_8 c0_8],.int .i64 p1] w [.one .bool] K:=by
 refine vcFun.of (A:=law26_right.A) (wr:=false) okf_ok follows h Tryz.func59 ?_
 kernel_rfl
def ref26_Differ.A:Ann:=.two .no (.two .no (.two .no (.two .no (.two (.draw (.take 0 (.take 1 (.take 2 (.take 3 (.take 4 (.take 5 (.take 6 (.take 7 (.take 8 (.take 9 (.take 10 (.take 11 (.take 12 (.take 13 (.done)))))))))))))))) .no))))
def ref26_Differ.P (a0:Option Addr) (n0 c0:Nat) (w:World) (K:Int×Unit→World→Prop):Prop:=
 cond (((n0:Nat):Int) == 0)
 (K ((0:Int),()) w)
 (CallV Tryz.prog 134 #[.slice a0 n0 c0] w [.agg [.int .i64,.int .i64]] fun (r1:(Int×Int×Unit)×Unit) w2=>
 NewV #[.int .i64 0,.int .i64 0] 25 w2 fun b3 w4=>
 StoreV w4 ⟨b3,0,none⟩ [.int .i64 r1.1.1,.int .i64 r1.1.2.1] fun w5=>
 (0≤(0:Int)∧0<(2:Int)) ∧
 LoadS w5 ⟨b3,0,none⟩ (.int .i64) fun (x6:Int)=>
 cond (decide (x6<0))
 (K ((0:Int),()) w5)
 ((0≤(1:Int)∧1<(2:Int)) ∧
 LoadS w5 ⟨b3,1,none⟩ (.int .i64) fun (x7:Int)=>
 cond (decide (x7<0))
 (K ((0:Int),()) w5)
 (DrawV fun D8=>
 (0≤(1:Int)∧1<(2:Int)) ∧
 (D8 b3∧LoadS w5.drew ⟨b3,1,none⟩ (.int .i64) fun (x9:Int)=>
 (0≤x9∧x9<((n0:Nat):Int))∧∃ q10:Addr,a0=some q10 ∧
 (D8 ((q10.add (x9.toNat*9)).add 3).block∧LoadS w5.drew ((q10.add (x9.toNat*9)).add 3) (.int .i64) fun (x11:Int)=>
 (0≤(0:Int)∧0<(2:Int)) ∧
 (D8 b3∧LoadS w5.drew ⟨b3,0,none⟩ (.int .i64) fun (x12:Int)=>
 (0≤x12∧x12<((n0:Nat):Int))∧∃ q13:Addr,a0=some q13 ∧
 (D8 ((q13.add (x12.toNat*9)).add 3).block∧LoadS w5.drew ((q13.add (x12.toNat*9)).add 3) (.int .i64) fun (x14:Int)=>
 Rng .i64 (x11-x14) ∧
 K (x11-x14,()) w5.drew)))))))
theorem ref26_Differ.vc (a0:Option Addr) (n0 c0:Nat) (w:World) (K:Int×Unit→World→Prop) (h:ref26_Differ.P a0 n0 c0 w K):CallV Tryz.prog 63 #[.slice a0 n0 c0] w [.one (.int .i64)] K:=by
 refine vcFun.of (A:=ref26_Differ.A) (wr:=false) okf_ok follows h Tryz.func63 ?_
 kernel_rfl
end Go.Proofs.YtbaojfchlhlaeaaGreat.Vc
namespace Go.Proofs.YtbaojfchlhlaeaaGreat.Vc
open Go Go.Eng Go.RowKit
abbrev LIn:Ty:=.sl (.int .i64)
abbrev casV26 (g:Geo) (f:SlP TF.T) (z:Int) (st:SlV):List Value:=[.int .i64 g.b,.int .i64 g.p,.int .i64 g.s,.int .i64 g.sp,.int .i64 g.wr,.int .i64 g.ro,.slice f.a f.n f.c,.int .i64 z,.slice st.a st.n st.c]
structure Li26 (g:Geo) (f:SlP TF.T) (z:Int) (n:Nat):Prop where
 R:Right g
 F:FRight (fds f)
 b:g.b≤16
 p:g.p≤16
 s:g.s≤128
 n:n≤200
 z:fitE g [z]=0
section
variable {E:Nat→Prop} {w0 w:World} {Rs:List Asr} {sp pp pm p q n:Nat} {g:Geo} {s:SD} {L:List Blk}
theorem light26_c {f:SlP TF.T} {z:Int} {st:SlV} (hf:LF.rd w All f) :
  CallV Tryz.prog 56 #[.agg (casV26 g f z st).toArray] w [.one .bool] fun r w'=>(r.1=true→Li26 g f z st.n)∧Ext w w':=by
 apply law26_light.vc
 unfold law26_light.P
 have S:=Sep.start NoB w
 have no:∀ {w':World},Ext w w'→((false=true→Li26 g f z st.n)∧Ext w w'):=fun e=>⟨fun h=>(by cases h),e⟩
 refine S.newB (vs:=casV26 g f z st) fun b1 w1 S f1 _=>S.lb0 (o:=0) rfl ?_
 refine (Right_c (g:=g)).mono ?_
 rintro ⟨(r:Bool),⟨⟩⟩ w4 ⟨h4,x4⟩
 dsimp only at h4 ⊢
 subst h4
 have S:=S.stepE x4
 refine cond_of (fun h1=>?_) (fun _=>no S.ext)
 have h1:Right g:=by simpa using h1
 refine S.ld0 (j:=6) rfl rfl ?_
 refine (rRight12_c (Ty.rd_ext S.ext _ hf)).mono ?_
 rintro ⟨(r:Bool),⟨⟩⟩ w5 ⟨h5,rfl⟩
 dsimp only at h5 ⊢
 subst h5
 refine cond_of (fun h2=>?_) (fun _=>no S.ext)
 have h2:FRight (fds f):=by simpa using h2
 refine S.ld0 (j:=0) rfl rfl (cond_d (fun h3=>?_) (fun _=>no S.ext))
 refine S.ld0 (j:=1) rfl rfl (cond_d (fun h4=>?_) (fun _=>no S.ext))
 refine S.ld0 (j:=2) rfl rfl (cond_d (fun h5=>?_) (fun _=>no S.ext))
 refine S.ld0 (j:=8) rfl rfl (cond_d (fun h6=>?_) (fun _=>no S.ext))
 refine S.lb0 (o:=0) rfl (S.ld0 (j:=7) rfl rfl ?_)
 refine S.newB fun b15 w6 S f6 _=>?_
 refine (rFit_c (g:=g) (l:=[z]) h1 ⟨rfl,Nat.le_refl _,(by show (1:Nat)≤9223372036854775807;decide),.inr ⟨_,rfl,S.cells 0 rfl⟩⟩).mono ?_
 rintro ⟨(r:Int),⟨⟩⟩ w7 ⟨h7,x7⟩
 dsimp only at h7 ⊢
 subst h7
 refine ⟨fun h=>⟨h1,h2,by omega,by omega,by omega,?_,?_⟩,(S.stepE x7).ext⟩
 ·have h6:((st.n:Nat):Int)≤200:=h6;omega
 ·have h:(fitE g [z] == 0)=true:=h
  simpa using h
theorem made26_c {f:SlP TF.T} {z:Int} {st:SlV} (hf:LF.rd w All f) (hR:Right g) (hFR:FRight (fds f)) (hg:LG g) (hz:1≤z∧z≤65535) :
  CallV Tryz.prog 58 #[.agg (casV26 g f z st).toArray] w [.one .ptr,.one .ptr] fun r w'=>∃ (sp pp pm p q:Nat) (X:List (SlP Ce)),r.1=some (⟨sp,0,none⟩:Addr)∧r.2.1=some (⟨p,0,none⟩:Addr)∧New0 X z.toNat 0∧Sep NoB w w' (stS sp pp pm p q g (s00 g (fds f) X) []):=by
 apply law26_made.vc
 unfold law26_made.P
 have S:=Sep.start NoB w
 have hk:=hR.1
 unfold Kept at hk
 have hpF:∀ F∈fds f,Byt F.2.2.1∧F.2.2.1.length≤140737488351232:=fun F hF=>⟨fds_byt hf F hF,hFR.fit F hF⟩
 have hC0:COk (newC g (fds f)):=newC_ok hR hg hpF
 refine S.newB (vs:=casV26 g f z st) fun b1 w1 S f1 _=>?_
 refine S.lb0 (o:=0) rfl (S.ld0 (j:=6) rfl rfl ?_)
 refine (New13_c (g:=g) (x:=f) (Ty.rd_ext S.ext _ hf) hFR.fit).mono ?_
 rintro ⟨pv,(e:Int),⟨⟩⟩ w2 ⟨x2,-,hgood⟩
 obtain ⟨-,p,y,hp,hyF,S2⟩:=hgood ⟨hR,hFR⟩
 dsimp only at hp
 subst hp
 have S:=chip_new (w:=w) hyF (S.frame0 S2)
 clear S2
 refine S.lb1 (o:=0) rfl ?_
 refine (Data_c (g:=g)).mono ?_
 rintro ⟨(d:Int),⟨⟩⟩ w3 ⟨h3,x3⟩
 dsimp only at h3 ⊢
 rw [if_pos hR] at h3
 subst h3
 have S:=S.stepE x3
 refine (New21_c (n:=g.b-4) (by omega)).mono ?_
 rintro ⟨qv,(e:Int),⟨⟩⟩ w4 ⟨-,q,a6,c6,hq,S4⟩
 dsimp only at hq
 subst hq
 have S:=ledE_in (q:=q) (L:=List.replicate (nG g) Blk.new) (S.frame0 S4)
 clear S4
 refine (New_m S).mono ?_
 rintro ⟨mv,⟨⟩⟩ w5 ⟨pm,hm,S⟩
 dsimp only at hm
 subst hm
 refine S.ld3 (j:=7) rfl rfl ?_
 refine (Add_m (ns:=0) (size:=z) X0_ok (by decide) (New0.zero.n 0) hz S).mono ?_
 rintro ⟨(r:Int),⟨⟩⟩ w6 ⟨-,x0,hx1,hx2,S⟩
 have hN2:=New0.zero.add0 hx1 hx2 (by omega)
 refine (Len_e (S.fro [1] rfl)).mono ?_
 rintro ⟨(r:Int),⟨⟩⟩ w8 ⟨h8,rfl⟩
 dsimp only at h8 ⊢
 rw [List.length_replicate] at h8
 subst h8
 have hnG:((nG g:Nat):Int)=g.b-4:=by unfold nG;omega
 refine ⟨⟨by omega,by omega,by omega,by push_cast;omega⟩,?_⟩
 rw [Int.toNat_natCast]
 refine S.newB fun b22 w9 S f9 _=>?_
 rw [zHd_rep'] at S
 refine (New24_c (y:=⟨some ⟨b22,0,none⟩,nG g,nG g⟩) (O:=List.replicate (nG g) zHd) hC0 (by rw [List.length_replicate];omega) (by show nG g≤1000;omega) (.inr ⟨_,rfl,S.cells 0 rfl⟩) List.length_replicate (S.fro [3,2] rfl)).mono ?_
 rintro ⟨pv2,(e:Int),⟨⟩⟩ w10 ⟨-,h8⟩
 obtain ⟨-,pp,t,hpp,x8,S⟩:=h8 ⟨by rw [List.length_replicate];exact hnG,hnG⟩
 dsimp only at hpp
 subst hpp
 have S:=polE_in S
 refine (S.fro [5] rfl).lb0 (o:=0) rfl ?_
 have hgC:(newC g (fds f)).g=g:=rfl
 rw [hgC] at S
 refine (New25_c (pl:=fds f) hR hg hpF hN2 (S.fro [4,0,0,0] rfl)).mono ?_
 rintro ⟨sv,(e:Int),⟨⟩⟩ w11 ⟨sp,hsp,-,S⟩
 exact ⟨sp,pp,pm,p,q,_,hsp,rfl,hN2,S.take (Rs:=stS sp pp pm p q g (s00 g (fds f) _) [])⟩
def hd26 (lba:Int):Hd:=⟨1,0,1,IntKind.u32.wrap lba,0,0⟩
def pl26 (g:Geo) (k:Int):List Int:=List.replicate g.s.toNat (IntKind.u8.wrap k)
def do26 (g:Geo) (s:SD) (lba k:Int):SD×Int:=putS (nxtS s (hd26 lba)).1 (nxtS s (hd26 lba)).2 (pl26 g k) []
theorem hd26_rng (lba:Int):(hd26 lba).rng:=by
 have:0≤IntKind.u32.wrap lba∧IntKind.u32.wrap lba<4294967296:=by rw [u32_wrap];omega
 exact ⟨this,⟨Int.le_refl _,by show (0:Int)<_;decide⟩,⟨Int.le_refl _,by show (0:Int)<_;decide⟩⟩
theorem u8_R (k:Int):0≤IntKind.u8.wrap k∧IntKind.u8.wrap k<256:=by
 have:IntKind.u8.wrap k=k % 256:=by simp [IntKind.wrap,IntKind.signed,IntKind.bits]
 omega
theorem pl26_byt (g:Geo) (k:Int):Byt (pl26 g k):=Byt.replicate (u8_R k).1 (u8_R k).2 _
theorem SI.do26 (h:SI g n s) (lba k:Int) (ho:s.C.ops+55051264≤1000000000000):St g n 55051264 (nxtS s (hd26 lba)).1 (do26 g s lba k).1:=by
 have h1:=(h.nxt (hd26 lba)).2
 exact h1.put (xs:=pl26 g k) (tg:=[]) (nxt_rng h (hd26_rng lba)) (pl26_byt g k) Byt.nil ho
theorem write26_c {lba k:Int} (h:SI g n s) (ho:s.C.ops+55051264≤1000000000000) (S:Sep E w0 w (stS sp pp pm p q g s Rs)) :
  CallV Tryz.prog 60 #[.pointer (some ⟨sp,0,none⟩),g.val,.int .i64 lba,.int .i64 k] w [.one (.int .i64)] fun r w'=>r.1=(do26 g s lba k).2∧Sep E w0 w' (stS sp pp pm p q g (do26 g s lba k).1 Rs):=by
 apply law26_write.vc
 unfold law26_write.P
 have hwc:=wC256
 have hR:=h.pi.R
 have hs:=hR.sec
 have h1:=(h.nxt (hd26 lba)).2
 have hr:=nxt_rng h (hd26_rng lba)
 have hln:g.s≤1000:=by have:=h.pi.ok.lg;rw [h.pi.gg] at this;unfold LG at this;omega
 refine S.newB (vs:=g.vs) fun b1 w1 S f1 _=>S.ld0 (j:=2) rfl rfl ?_
 have S:=S.tail
 refine (rFill_c (x:=IntKind.u8.wrap k) (n:=g.s)).mono ?_
 rintro ⟨⟨va,vn,vc⟩,⟨⟩⟩ w2 R2
 have em:(max 0 (min 65536 g.s)).toNat=g.s.toNat:=by omega
 rw [em] at R2
 have S:=res_rdL S R2 (pl26_byt g k)
 have hvn:(vn:Int)=g.s:=by have:=R2.own.ints.len;dsimp only at this;rw [List.length_replicate] at this;omega
 clear R2
 have S:Sep E w0 w2 (stS sp pp pm p q g s (RdL [⟨va,vn,vc,pl26 g k⟩]::Rs)):=S.fro [1,1,1,1,1] rfl
 refine (Next25_c (hd:=hd26 lba) h S).mono ?_
 rintro ⟨r,⟨⟩⟩ w3 ⟨h3,S⟩
 dsimp only at h3 ⊢
 subst h3
 have S:=rd_two ((S.rdNil).fro [6,0] rfl)
 have S:Sep E w0 w3 (stS sp pp pm p q g (nxtS s (hd26 lba)).1 (RdL [⟨va,vn,vc,pl26 g k⟩,⟨none,0,0,[]⟩]::Rs)):=S.fro [1,1,1,1,1] rfl
 refine (Put25_c (hd:=(nxtS s (hd26 lba)).2) (dd:=⟨va,vn,vc,pl26 g k⟩) (tt:=⟨none,0,0,[]⟩) h1 hr (.inr hvn) (.inl rfl) (pl26_byt g k) Byt.nil (by rw [hwc];exact ho) S).mono ?_
 rintro ⟨(r:Int),⟨⟩⟩ w4 ⟨h4,S⟩
 exact ⟨h4,(S.fro [5] rfl).tail⟩
theorem right26_c {f:SlP TF.T} {z lba:Int} {st:SlV}:CallV Tryz.prog 59 #[.agg (casV26 g f z st).toArray,.int .i64 lba] w [.one .bool] fun r w'=>r.1=(decide (0≤lba) && decide (lba<z))∧Ext w w':=by
 apply law26_right.vc
 unfold law26_right.P
 have S:=Sep.start NoB w
 refine S.newB (vs:=casV26 g f z st) fun b1 w1 S f1 _=>cond_d (fun h=>S.ld0 (j:=7) rfl rfl ⟨?_,S.ext⟩) (fun h=>⟨?_,S.ext⟩)
 ·rw [decide_eq_true (show 0≤lba from h),Bool.true_and]
 ·rw [decide_eq_false (show ¬ 0≤lba from h),Bool.false_and]
theorem blocks26_c (h:SI g n s) (S:Sep E w0 w (stS sp pp pm p q g s Rs)):CallV Tryz.prog 64 #[.pointer (some ⟨sp,0,none⟩)] w [.one .sl] fun r w'=>r.1.n=n∧Sep E w0 w' (OwnA 213 9 r.1.a r.1.n r.1.c (bvs s.L)::stS sp pp pm p q g s Rs):=by
 apply law26_blocks.vc
 unfold law26_blocks.P
 have hln:=h.ln
 have hno:=h.no
 refine S.newB fun b1 w1 S f1 _=>?_
 have S:=S.asOwn (sz:=9) (n:=0) rfl (by omega) oneAll.nil
 refine Loop1 (fun (v:SlV×Int×Unit) w'=>∃ i:Nat,v.2.1=(i:Int)∧i≤n∧v.1.n=i∧Sep E w0 w' (OwnA 213 9 v.1.a v.1.n v.1.c (bvs (s.L.take i))::stS sp pp pm p q g s Rs)) (fun (v:SlV×Int×Unit) _=>((n:Int)-v.2.1).toNat) ⟨0,rfl,Nat.zero_le _,rfl,S⟩ ?_
 clear S
 rintro ⟨⟨a,m,c⟩,(v:Int),⟨⟩⟩ w4 ⟨i,hv,hi,hm,S⟩
 dsimp only at hv hm S ⊢
 subst hv
 subst hm
 have S1:Sep E w0 w4 (stS sp pp pm p q g s (OwnA 213 9 a m c (bvs (s.L.take m))::Rs)):=S.fro [1,1,1,1,1] rfl
 refine (Pool25_c S1).mono ?_
 rintro ⟨r,⟨⟩⟩ w5 ⟨h5,rfl⟩
 dsimp only at h5 ⊢
 subst h5
 refine ldg0 S1 ((Len_e (S.fro [4] rfl)).mono ?_)
 rintro ⟨(r:Int),⟨⟩⟩ w6 ⟨h6,rfl⟩
 dsimp only at h6 ⊢
 subst h6
 refine cond_d (fun hlt=>?_) (fun hge=>?_)
 ·have hml:m<s.L.length:=by omega
  refine (Pool25_c S1).mono ?_
  rintro ⟨r,⟨⟩⟩ w7 ⟨h7,rfl⟩
  dsimp only at h7 ⊢
  subst h7
  refine ldg0 S1 ((At_e (b:=(m:Int)) (S.fro [4] rfl) ⟨by omega,by omega⟩).mono ?_)
  rintro ⟨x,⟨⟩⟩ w8 ⟨h8,x8⟩
  dsimp only at h8 ⊢
  subst h8
  have S:=S.stepE x8
  rw [Int.toNat_natCast]
  refine S.newB fun b18 w9 S f9 _=>S.st0 (by rfl) fun w10 S f10=>?_
  have S:Sep E w0 w10 (BoxA b18 103 (gx s.L m).vs::OwnA 213 9 a m c (bvs (s.L.take m))::stS sp pp pm p q g s Rs):=S
  refine S.ld0 (j:=0) rfl rfl (S.ld0 (j:=1) rfl rfl (S.ld0 (j:=2) rfl rfl (S.ld0 (j:=3) rfl rfl (S.ld0 (j:=4) rfl rfl (S.ld0 (j:=5) rfl rfl (S.ld0 (j:=6) rfl rfl (S.ld0 (j:=7) rfl rfl (S.ld0 (j:=8) rfl rfl ?_))))))))
  refine S.newB (vs:=(gx s.L m).vs) fun b30 w11 S f11 _=>?_
  refine AppS.of (news:=(gx s.L m).vs) rfl (.inr ⟨_,rfl,S.cells 0 rfl⟩) ?_
  refine S.ap2 rfl (fun u hu=>bvs_one [gx s.L m] u (by show u∈(gx s.L m).vs++[];rw [List.append_nil];exact hu)) (by omega) (by omega) fun a' c' w12 S f12=>⟨Rng.i64 (by omega) (by omega),⟨m+1,by push_cast;rfl,by omega,rfl,?_⟩,by omega⟩
  have e:bvs (s.L.take (m+1))=bvs (s.L.take m)++(gx s.L m).vs:=by
   unfold bvs
   rw [List.take_succ_eq_append_getElem hml,List.flatMap_append]
   have:gx s.L m=s.L[m]:=by show s.L.getD m default=_;rw [List.getD_eq_getElem?_getD,List.getElem?_eq_getElem hml];rfl
   rw [this]
   simp only [List.flatMap_cons,List.flatMap_nil,List.append_nil]
  rw [e]
  exact S.tail.tail
 ·have e:m=n:=by omega
  subst e
  rw [List.take_of_length_le (by omega)] at S
  exact ⟨rfl,S⟩
theorem Differ26_c {a:Option Addr} {c:Nat} {e2:TypeId} (hn:L.length≤1000000) (hL:∀ x∈L,0≤x.er∧x.er≤2000000000000) (S:Sep E w0 w (OwnA e2 9 a L.length c (bvs L)::Rs)) :
  CallV Tryz.prog 63 #[.slice a L.length c] w [.one (.int .i64)] fun r w'=>r.1=byL L∧Ext w w':=by
 apply ref26_Differ.vc
 unfold ref26_Differ.P
 refine cond_eq (fun h0=>?_) (fun h0=>?_)
 ·have:L=[]:=List.length_eq_zero_iff.1 (by omega)
  subst this
  exact ⟨rfl,Ext.refl _⟩
 refine (rSpread_c hn S).mono ?_
 rintro ⟨⟨(l1:Int),(t1:Int),⟨⟩⟩,⟨⟩⟩ w2 ⟨h2,h2',x2⟩
 have q1:lowT L=l1:=Eq.trans (best_dn (key:=fun x=>x.er) (fun x y=>rfl) (fun x y=>rfl) L.length) (Eq.symm h2)
 have q2:topT L=t1:=Eq.trans (best_dn (m:=goodB) (ah:=fun x y=>decide (y.er<x.er)) (le:=erGe) (key:=fun x=>0-x.er) (fun x y=>decide_eq_decide.2 ⟨fun h=>by omega,fun h=>by omega⟩) (fun x y=>decide_eq_decide.2 ⟨fun h=>by omega,fun h=>by omega⟩) L.length) (Eq.symm h2')
 subst q1;subst q2
 have S:=S.stepE x2
 have T:=Sep.start NoB w2
 refine T.newB fun b3 w3 T f3 _=>T.st0 (by rfl) fun w4 T f4=>?_
 have T:Sep NoB w2 w4 [BoxA b3 25 [.int .i64 (lowT L),.int .i64 (topT L)]]:=T
 unfold byL
 refine ⟨⟨by decide,by decide⟩,T.ld0 (j:=0) rfl rfl (cond_d (fun hl=>?_) (fun hl=>?_))⟩
 ·rw [if_pos hl];exact ⟨rfl,x2.trans T.ext⟩
 have hl:¬ lowT L<0:=hl
 rw [if_neg hl]
 obtain ⟨b1,b2,b3'⟩:=low_top L (by omega)
 refine ⟨⟨by decide,by decide⟩,T.ld0 (j:=1) rfl rfl (cond_d (fun ht=>?_) (fun ht=>?_))⟩
 ·have ht:topT L<0:=ht;omega
 refine DrawV.any fun D hD=>?_
 have T:=T.drew
 have SL:Sep E w0 w4.drew (OwnA e2 9 a L.length c (bvs L)::Rs):=S.stepE T.ext
 obtain ⟨qa,hqa,hca,-⟩:=nthB (i:=topT L) 0 SL rfl b2 b3'
 obtain ⟨qb,hqb,hcb,-⟩:=nthB (i:=lowT L) 0 SL rfl (by omega) b1
 have r1:=hL _ (gx_mem (L:=L) (i:=(topT L).toNat) (by omega))
 have r2:=hL _ (gx_mem (L:=L) (i:=(lowT L).toNat) (by omega))
 refine ⟨⟨by decide,by decide⟩,hD _,T.ld0 (j:=1) rfl rfl ⟨⟨b2,b3'⟩,qa,hqa,hD _,(gx L (topT L).toNat).er,hca.get (j:=3) rfl,⟨by decide,by decide⟩,hD _,T.ld0 (j:=0) rfl rfl ⟨⟨by omega,b1⟩,qb,hqb,hD _,(gx L (lowT L).toNat).er,hcb.get (j:=3) rfl,Rng.i64 (by omega) (by omega),rfl,x2.trans T.ext⟩⟩⟩
end
end Go.Proofs.YtbaojfchlhlaeaaGreat.Vc
namespace Go.Proofs.YtbaojfchlhlaeaaGreat.Vc
open Go Go.Eng Go.RowKit
abbrev fA26:SlP TF.T:=⟨none,0,0,[]⟩
abbrev gA26:Geo:=⟨9,10,64,0,1,1⟩
theorem LF_nil26 {w:World} {G:Nat→Prop}:LF.rd w G fA26:=⟨rfl,Nat.le_refl _,by show 0≤maxLen;exact Nat.zero_le _,.inl ⟨rfl,rfl⟩,fun y hy=>(List.not_mem_nil hy).elim⟩
theorem awake26_c {w:World}:CallV Tryz.prog 57 #[] w [.one .bool] fun r w'=>r.1=true∧Ext w w':=by
 apply law26_awake.vc
 unfold law26_awake.P
 have hR:Right gA26:=by decide
 have hFR:FRight (fds fA26):=⟨fun f hf=>(List.not_mem_nil hf).elim,by decide⟩
 refine (made26_c (g:=gA26) (f:=fA26) (z:=5) (st:=⟨none,0,0⟩) LF_nil26 hR hFR (by decide) (by decide)).mono ?_
 rintro ⟨sv,cv,⟨⟩⟩ w3 ⟨sp,pp,pm,p,q,X,h1,h2,hX,S⟩
 dsimp only at h1 h2 ⊢
 subst h1;subst h2
 have hI:SI gA26 5 (s00 gA26 [] X):=s00_I hR (by decide) (fun f hf=>(List.not_mem_nil hf).elim) hX
 have hl1:lvlS 1 (s00 gA26 [] X)=(s00 gA26 [] X,0):=by
  have e:lvlP 1 (319+1) (s00 gA26 [] X)=(s00 gA26 [] X,0):=by
   unfold lvlP
   rw [if_neg (fun k=>by cases k),if_pos (show unlB (s00 gA26 [] X).L 1=false from (by decide:unlB (List.replicate 5 Blk.new) 1=false))]
  unfold lvlS
  rw [if_neg (by decide)]
  exact e
 have hl0:lvlS 0 (s00 gA26 [] X)=(s00 gA26 [] X,2):=by
  unfold lvlS
  rw [if_pos (by decide)]
 refine (Level26_c (wear:=1) hI (by show 0+825761280≤1000000000000;decide) S).mono ?_
 rintro ⟨(r:Int),⟨⟩⟩ w4 ⟨h4,S⟩
 dsimp only at h4 S ⊢
 rw [hl1] at h4 S
 subst h4
 refine cond_t rfl ?_
 refine (Erases26_c hI S).mono ?_
 rintro ⟨⟨ra,rn,rc⟩,⟨⟩⟩ w5 ⟨h5,S⟩
 dsimp only at h5 S ⊢
 subst h5
 refine cond_t rfl ?_
 have S:=S.tail
 refine (Level26_c (wear:=0) hI (by show 0+825761280≤1000000000000;decide) S).mono ?_
 rintro ⟨(r:Int),⟨⟩⟩ w6 ⟨h6,S⟩
 dsimp only at h6 S ⊢
 rw [hl0] at h6 S
 subst h6
 exact ⟨rfl,S.ext⟩
abbrev TCs26:Ty:=.cons TGeo (.cons LF (.cons (.int .i64) (.cons LIn .nil)))
end Go.Proofs.YtbaojfchlhlaeaaGreat.Vc
namespace Go.Proofs.YtbaojfchlhlaeaaGreat.Vc
open Go Go.Eng Go.RowKit
abbrev szOf (z0 z1 ns:Int):Int:=if ns=0 then z0 else z1
end Go.Proofs.YtbaojfchlhlaeaaGreat.Vc
namespace Go.Proofs.YtbaojfchlhlaeaaGreat.Vc
open Go Go.Eng Go.RowKit
def core (h:Hd) (tg:List Int):List Int:=(hdL h++invL (hdL h))++tagL tg
def markL (h:Hd) (tg:List Int):List Int:=core h tg++List.replicate 8 0
theorem core_length (h:Hd) {tg:List Int} (hl:tg.length=0∨tg.length=32):(core h tg).length=80:=by
 unfold core
 rw [List.length_append,List.length_append,invL_length,hdL_length,tagL_length hl]
theorem core_byt {h:Hd} (hR:HRight h) {tg:List Int} (bt:Byt tg):Byt (core h tg):=by
 unfold core
 refine ((hdL_byt hR).append (invL_byt _)).append ?_
 unfold tagL
 split
 ·exact Byt.replicate (by omega) (by omega) _
 ·exact bt
theorem markL_length (h:Hd) {tg:List Int} (hl:tg.length=0∨tg.length=32):(markL h tg).length=88:=by
 unfold markL
 rw [List.length_append,core_length h hl,List.length_replicate]
theorem and255:∀ x:Fin 256,Go.bits .and .u8 ((x.val:Nat):Int) 255=((x.val:Nat):Int):=by decide +kernel
theorem getD_left {xs ys:List Int} {i:Nat} (h:i<xs.length):(xs++ys).getD i 0=xs.getD i 0:=by
 rw [List.getD_eq_getElem?_getD,List.getElem?_append_left h,← List.getD_eq_getElem?_getD]
theorem getD_right {xs ys:List Int} {i:Nat} (h:xs.length≤i):(xs++ys).getD i 0=ys.getD (i-xs.length) 0:=by
 rw [List.getD_eq_getElem?_getD,List.getElem?_append_right h,← List.getD_eq_getElem?_getD]
theorem and_mark {h:Hd} (hR:HRight h) {tg:List Int} (bt:Byt tg) (hl:tg.length=0∨tg.length=32):andL (endL h tg) (List.replicate 80 255++List.replicate 8 0)=markL h tg:=by
 refine List.ext_getElem (by rw [andL_length,endL_length h hl,markL_length h hl]) fun i h1 h2=>?_
 have hc:=core_length h hl
 rw [←getD_get h2]
 rw [markL_length h hl] at h2
 rw [show (andL (endL h tg) (List.replicate 80 255++List.replicate 8 0))[i]=Go.bits .and .u8 ((endL h tg).getD i 0) ((List.replicate 80 255++List.replicate 8 0:List Int).getD i 0) by simp [andL]]
 unfold endL markL
 rw [show ((hdL h++invL (hdL h))++tagL tg)=core h tg from rfl]
 by_cases hi:i<80
 ·rw [getD_left (xs:=core h tg) (by omega),getD_left (xs:=List.replicate 80 255) (by simpa using hi),getD_left (xs:=core h tg) (by omega),getD_get (xs:=List.replicate 80 255) (by simpa using hi),List.getElem_replicate,getD_get (xs:=core h tg) (by omega)]
  obtain ⟨x,hx⟩:=byte_nat ((core_byt hR bt) _ (List.getElem_mem (by omega:i<(core h tg).length)))
  rw [hx]
  exact and255 x
 ·rw [getD_right (xs:=core h tg) (by omega),getD_right (xs:=List.replicate 80 255) (by simp;omega),getD_right (xs:=core h tg) (by omega),hc,List.length_replicate,
   getD_get (xs:=List.replicate 8 (255:Int)) (by simp;omega),List.getElem_replicate,getD_get (xs:=List.replicate 8 (0:Int)) (by simp;omega),List.getElem_replicate]
  decide +kernel
end Go.Proofs.YtbaojfchlhlaeaaGreat.Vc
namespace Go.Proofs.YtbaojfchlhlaeaaGreat.Vc
open Go Go.Eng Go.RowKit
theorem payL_length {g:Geo} {xs:List Int} (hs:32≤g.s∧g.s≤4096) (h:xs.length=0∨(xs.length:Int)=g.s):(payL g xs).length=g.s.toNat:=by
 unfold payL
 split
 ·rw [List.length_replicate]
 ·omega
theorem and_full {x:Int} (h:0≤x∧x<256):Go.bits .and .u8 x 255=x:=by
 obtain ⟨y,rfl⟩:=byte_nat h
 exact and255 y
theorem andL_append {xs ys zs us:List Int} (h:xs.length=zs.length):andL (xs++ys) (zs++us)=andL xs zs++andL ys us:=by
 refine List.ext_getElem (by simp [andL]) fun i h1 h2=>?_
 simp only [andL,List.getElem_map,List.getElem_range,List.getElem_append,List.length_map,List.length_range]
 split
 ·rename_i hi
  rw [getD_left hi,getD_left (by omega)]
 ·rename_i hi
  rw [getD_right (by omega),getD_right (by omega),h]
theorem andL_ones {xs:List Int} (bx:Byt xs) {n:Nat} (h:xs.length=n):andL xs (List.replicate n 255)=xs:=by
 refine List.ext_getElem (by simp [andL]) fun i h1 h2=>?_
 simp only [andL,List.getElem_map,List.getElem_range]
 rw [getD_get (xs:=List.replicate n 255) (by simp;omega),List.getElem_replicate,and_full (bx.getD i),getD_get h2]
theorem and_mk {g:Geo} {h:Hd} {xs ts:List Int} (hs:32≤g.s∧g.s≤4096) (hx:xs.length=0∨(xs.length:Int)=g.s) (hR:HRight h) (bx:Byt xs) (bt:Byt ts) (ht:ts.length=0∨ts.length=32):andL (mkL g h xs ts) (comL g)=payL g xs++markL h ts:=by
 unfold mkL comL
 rw [show (g.s+80).toNat=g.s.toNat+80 by omega,← List.replicate_append_replicate,List.append_assoc,andL_append (by rw [payL_length hs hx,List.length_replicate]),and_mark hR bt ht,andL_ones _ (payL_length hs hx)]
 unfold payL
 split
 ·exact Byt.replicate (by omega) (by omega) _
 ·exact bx
end Go.Proofs.YtbaojfchlhlaeaaGreat.Vc
namespace Go.Proofs.YtbaojfchlhlaeaaGreat.Vc
open Go Go.Eng Go.RowKit
theorem ref_in {C:CD} {bl pa:Int} {n:Nat} (h:refC C bl pa n=0):inC C bl pa∧n=szP C.g∧usC C bl pa≤1:=by
 unfold refC at h
 split at h
 ·cases h
 split at h
 ·cases h
 rename_i h2
 have h2:=Classical.not_not.1 h2
 split at h
 ·cases h
 rename_i h3
 exact ⟨h2.1,h2.2,by omega⟩
end Go.Proofs.YtbaojfchlhlaeaaGreat.Vc
namespace Go.Proofs.YtbaojfchlhlaeaaGreat.Vc
open Go Go.Eng Go.RowKit
theorem cl_of {xs ys:List Int} (bx:Byt xs) (by':Byt ys) (hl:ys.length=xs.length) (h:∀ i,i<8*xs.length→hasL ys i=true→hasL xs i=true):andL xs ys=ys:=by
 refine bits_ext (andL_byt _ _) by' (by rw [andL_length,hl]) fun i hi=>?_
 rw [andL_length] at hi
 rw [hasL_and bx by' hi]
 cases hy:hasL ys i
 ·exact Bool.and_false _
 ·rw [h i hi hy];rfl
end Go.Proofs.YtbaojfchlhlaeaaGreat.Vc
namespace Go.Proofs.YtbaojfchlhlaeaaGreat.Vc
open Go Go.Eng Go.RowKit
theorem blk_set {C C':CD} {n:Int} {x:BD} (hC:COk C) (hn:0≤n∧n<C.g.b) (hb:C'.bs=C.bs.set n.toNat x):blkC C' n=x:=by
 unfold blkC
 rw [hb,List.getD_eq_getElem?_getD,List.getElem?_set_self (by rw [hC.bl];omega)]
 rfl
theorem blk_oth {C C':CD} {n m:Int} {x:BD} (hb:C'.bs=C.bs.set n.toNat x) (hne:m.toNat≠n.toNat):blkC C' m=blkC C m:=by
 unfold blkC
 rw [hb,List.getD_eq_getElem?_getD,List.getD_eq_getElem?_getD,List.getElem?_set_ne (fun h=>hne h.symm)]
theorem era_zero {C:CD} (hC:COk C) {n:Int} (hn:0≤n∧n<C.g.b) (h:(eraC C n).2=0):blkC (eraC C n).1 n={blankB C.g with er:=(blkC C n).er+1}:=by
 unfold eraC at h ⊢
 by_cases hm:mayC C n=0
 ·rw [if_pos hm] at h ⊢
  have h:(codeC C).1=0:=h
  refine blk_set hC hn (x:={blankB C.g with er:=(blkC C n).er+1}) ?_
  show C.bs.set n.toNat (if (codeC C).1=0 then _ else _)=_
  rw [if_pos h]
 ·rw [if_neg hm] at h
  exact absurd h hm
theorem scr_zero {C:CD} (hC:COk C) {n:Int} (hn:0≤n∧n<C.g.b) (h:(scrC C n).2=0):allC (scrC C n).1 n=List.replicate (bszC C) 0:=by
 unfold scrC at h ⊢
 by_cases hm:mayC C n=0
 ·rw [if_pos hm] at h ⊢
  have h:(codeC C).1=0:=h
  obtain ⟨-,⟨n3,n4⟩,-,n7,n8⟩:=hC.num
  have hall:=(hC.blk hn).2.all
  have hb:(scrX C n).bs=C.bs.set n.toNat {blkC C n with sc:=true,pg:=cutL (if (codeC C).1=0 then List.replicate (blkC C n).pg.flatten.length 0 else progL (blkC C n).pg.flatten (List.replicate (blkC C n).pg.flatten.length 0) (codeC C).2.1 false) C.g.p.toNat}:=rfl
  have h2:=blk_set hC hn hb
  show (blkC (scrX C n) n).pg.flatten=_
  rw [h2,if_pos h]
  dsimp only
  rw [(cutL_flat (z:=szP C.g) (by omega) (by rw [List.length_replicate];exact hall.1)).1,hall.1]
 ·rw [if_neg hm] at h
  exact absurd h hm
def BIn (C:CD):Prop:=∀ x∈C.bs,x.sc=false→∀ (i:Nat) (q:List Int),x.la<(i:Int)→x.pg[i]? = some q→q=List.replicate (szP C.g) 255
theorem BIn.upd {C C':CD} {n:Int} {x:BD} (h:BIn C) (hg:C'.g=C.g) (hb:C'.bs=C.bs.set n.toNat x) (hx:x.sc=false→∀ (i:Nat) (q:List Int),x.la<(i:Int)→x.pg[i]? = some q→q=List.replicate (szP C.g) 255):BIn C':=fun y hy=>by
 rw [hb] at hy
 rw [hg]
 rcases List.mem_or_eq_of_mem_set hy with k | k
 ·exact h y k
 ·rw [k];exact hx
theorem BIn.new (g:Geo) (pl:List FD):BIn (newC g pl):=fun x hx _ i q _ hq=>by
 rw [(List.mem_replicate.1 hx).2] at hq
 exact (List.mem_replicate.1 (List.mem_of_getElem? hq)).2
theorem BIn.off {C:CD} (h:BIn C) (b:Bool):BIn {C with off:=b}:=h
theorem BIn.prog {C:CD} (hC:COk C) (h:BIn C) (bl pa:Int) (xs:List Int):BIn (progC C bl pa xs).1:=by
 unfold progC
 split
 case isFalse=>exact h
 rename_i hr
 obtain ⟨hi,-,-⟩:=ref_in hr
 obtain ⟨hbk,-⟩:=hC.blk hi.1
 refine h.upd (C':=progX C bl pa xs) (n:=bl) rfl rfl fun hs i q hla hq=>?_
 have hla:max (blkC C bl).la pa<(i:Int):=hla
 have hne:pa.toNat≠i:=by have:=hi.2.1;omega
 have hq:((blkC C bl).pg.set pa.toNat _)[i]? = some q:=hq
 rw [List.getElem?_set_ne hne] at hq
 exact h _ (List.mem_of_getElem? hbk) hs i q (by omega) hq
theorem BIn.scr {C:CD} (h:BIn C) (n:Int):BIn (scrC C n).1:=by
 unfold scrC
 split
 ·exact h.upd (C':=scrX C n) (n:=n) rfl rfl fun hs=>by cases hs
 ·exact h
theorem turn_at {xs:List Int} {f:Nat→Bool} {k:Nat} (hf:∀ i,i / 8=k→f i=false):∀ m,(turn xs f m)[k]? = xs[k]?
 | 0=>rfl
 | m+1=>by
  unfold turn
  split
  ·rename_i hm
   unfold flip1
   rw [List.getElem?_set_ne (fun e=>by rw [hf m e] at hm;cases hm)]
   exact turn_at hf m
  ·exact turn_at hf m
theorem bit255:∀ j:Fin 8,bitB 255 j.val=true:=by decide
theorem era_at {xs ms:List Int} {k:Nat} (h:xs[k]? = some 255):(eraL xs ms)[k]? = some 255:=by
 unfold eraL
 rw [turn_at (fun i hi=>?_)]
 ·exact h
 ·unfold erF hasL
  subst hi
  rw [List.getD_eq_getElem?_getD,h]
  show (!bitB 255 (i % 8) && _)=false
  rw [bit255 ⟨i % 8,Nat.mod_lt _ (by decide)⟩]
  rfl
theorem BIn.era {C:CD} (hC:COk C) (h:BIn C) (n:Int):BIn (eraC C n).1:=by
 unfold eraC
 split
 case isFalse=>exact h
 rename_i hm
 obtain ⟨-,hn⟩:=may_zero hm
 obtain ⟨hbk,hbo⟩:=hC.blk hn
 obtain ⟨-,⟨n3,n4⟩,-,n7,n8⟩:=hC.num
 by_cases hc:(codeC C).1=0
 ·refine h.upd (C':=eraX C n) (n:=n) (x:={blankB C.g with er:=(blkC C n).er+1}) rfl (by show C.bs.set n.toNat (if (codeC C).1=0 then _ else _)=_;rw [if_pos hc]) fun _ i q _ hq=>?_
  exact (List.mem_replicate.1 (List.mem_of_getElem? hq)).2
 ·refine h.upd (C':=eraX C n) (n:=n) (x:={blkC C n with pg:=cutL (eraL (blkC C n).pg.flatten (codeC C).2.1) C.g.p.toNat,er:=(blkC C n).er+1}) rfl (by show C.bs.set n.toNat (if (codeC C).1=0 then _ else _)=_;rw [if_neg hc]) fun hs i q hla hq=>?_
  have hla:(blkC C n).la<(i:Int):=hla
  have hq:(cutL (eraL (blkC C n).pg.flatten (codeC C).2.1) C.g.p.toNat)[i]? = some q:=hq
  have hlen:(eraL (blkC C n).pg.flatten (codeC C).2.1).length=C.g.p.toNat*szP C.g:=by unfold eraL;rw [turn_len];exact hbo.all.1
  have hz:C.g.p.toNat*szP C.g / C.g.p.toNat=szP C.g:=Nat.mul_div_cancel_left _ (by omega)
  have hip:i<C.g.p.toNat:=by
   have:=(List.getElem?_eq_some_iff.1 hq).1
   rwa [(cutL_flat (z:=szP C.g) (by omega) hlen).2.1] at this
  have hpi:i<(blkC C n).pg.length:=by rw [hbo.pl];exact hip
  have hold:=h _ (List.mem_of_getElem? hbk) hs i _ hla (List.getElem?_eq_getElem hpi)
  have hql:=(cutL_flat (z:=szP C.g) (by omega) hlen).2.2 q (List.mem_of_getElem? hq)
  have hqe:q=((eraL (blkC C n).pg.flatten (codeC C).2.1).drop (i*szP C.g)).take (szP C.g):=by
   unfold cutL at hq
   rw [List.getElem?_map,List.getElem?_range hip,hlen,hz] at hq
   exact (Option.some.inj hq).symm
  refine List.ext_getElem? fun j=>?_
  by_cases hj:j<szP C.g
  ·rw [hqe,List.getElem?_take_of_lt hj,List.getElem?_drop,List.getElem?_replicate,if_pos hj]
   refine era_at ?_
   have hf:=fl_get (f:=id) (m:=szP C.g) (l:=(blkC C n).pg) (fun x hx=>(hbo.pb x hx).1) (List.getElem?_eq_getElem hpi) hj
   rw [List.flatMap_id] at hf
   rw [hf,hold]
   show (List.replicate (szP C.g) (255:Int))[j]? = _
   rw [List.getElem?_replicate,if_pos hj]
  ·rw [List.getElem?_eq_none (by omega),List.getElem?_eq_none (by rw [List.length_replicate];omega)]
theorem BIn.fst {C:CD} (hC:COk C) (ho:C.ops+2≤1000000000000) (h:BIn C) (b:Int) {hd:Hd} (hr:hd.rng) (hR:HRight hd) (sl:Bool):BIn (fstP C b hd sl).1:=by
 obtain ⟨o1,-,-⟩:=progC_ok hC (4+b) 0 (mkL_byt (g:=C.g) hr hR Byt.nil Byt.nil) (by omega)
 have h1:=h.prog hC (4+b) 0 (mkL C.g hd [] [])
 unfold fstP
 split
 ·exact h1.prog o1 _ _ _
 ·exact h1
end Go.Proofs.YtbaojfchlhlaeaaGreat.Vc
namespace Go.Proofs.YtbaojfchlhlaeaaGreat.Vc
open Go Go.Eng Go.RowKit
def NF (C:CD):Prop:=C.off=false∧∀ f∈C.pl,f.2.1=false
theorem code_nc {C:CD} (h:NF C):((codeC C).1=0∨(codeC C).1=5)∧(codeC C).2.2=false:=by
 unfold codeC
 split
 ·exact ⟨.inl rfl,rfl⟩
 ·rename_i f hf
  have:f.2.1=false:=h.2 f (List.mem_of_find?_eq_some hf)
  rw [this]
  exact ⟨.inr rfl,rfl⟩
structure BkI (x:Blk) (y:BD):Prop where
 cl:x.cl=true→x.he=false∧y.sc=false∧y.la=-1∧∀ j:Nat,y.us.getD j 0=0
 he:x.he=true→x.ba=false→x.cl=false∧y.sc=false∧y.la≤x.us∧∀ j:Nat,x.us<(j:Int)→y.us.getD j 0=0
 go:x.go=true→x.ba=true∧x.he=false∧∀ q∈y.pg,∀ v∈q,v=0
 le:x.le=true→x.ba=true
theorem BkI.r {x:Blk} {y:BD} (h:BkI x y):BkI (rB x) y:=⟨fun k=>⟨rfl,(h.cl k).2⟩,fun k=>(by cases k),fun k=>⟨(h.go k).1,rfl,(h.go k).2.2⟩,h.le⟩
theorem BkI.f {x:Blk} {y:BD} (h:BkI x y):BkI (fB x) y:=⟨h.cl,fun _ k=>(by cases k),fun k=>⟨rfl,(h.go k).2⟩,fun _=>rfl⟩
theorem BkI.c {x:Blk} {y:BD} (h:BkI x y) (m:Int):BkI (cB m x) y:=⟨h.cl,h.he,h.go,h.le⟩
structure CI (n:Nat) (u:Int) (C:CD) (L:List Blk):Prop where
 nf:NF C
 bi:BIn C
 bk:∀ i,i<n→(i:Int)≠u→BkI (gx L i) (blkC C (4+(i:Int)))
section
variable {g:Geo} {n:Nat} {u b:Int} {C:CD} {L:List Blk} {O:List Hd}
theorem CI.ch (h:CI n u C L) (hl:L.length=n) (b:Int) {φ:Blk→Blk} (k:∀ x y,BkI x y→BkI (φ x) y):CI n u C (chL b n φ L):=⟨h.nf,h.bi,fun i hi hu=>by
 rw [gx_ch hl]
 split
 ·exact k _ _ (h.bk i hi hu)
 ·exact h.bk i hi hu⟩
theorem prog_nc (hC:COk C) (h:NF C) {bl pa:Int} {xs:List Int} (hi:inC C bl pa) (hx:xs.length=szP C.g) (hs:(blkC C bl).sc=false) (hu:usC C bl pa<2) (hl:usC C bl pa=0→(blkC C bl).la<pa) :
  (progC C bl pa xs).1=progX C bl pa xs∧(progC C bl pa xs).2=(codeC C).1∧((progC C bl pa xs).2=0∨(progC C bl pa xs).2=5)∧NF (progC C bl pa xs).1:=by
 have hr:refC C bl pa xs.length=0:=by
  unfold refC
  rw [h.1,if_neg Bool.false_ne_true,if_neg (fun k=>k ⟨hi,hx⟩),if_neg,if_neg]
  ·rintro ⟨h0,h1⟩
   have:=hl h0
   omega
  ·rintro (k | k)
   ·rw [hs] at k;cases k
   ·omega
 have e:progC C bl pa xs=(progX C bl pa xs,(codeC C).1):=if_pos hr
 rw [e]
 exact ⟨rfl,rfl,(code_nc h).1,(code_nc h).2,h.2⟩
theorem prog_oth (C:CD) (bl pa:Int) (xs:List Int) {m:Int} (hm:m.toNat≠bl.toNat):blkC (progC C bl pa xs).1 m=blkC C m:=by
 unfold progC
 split
 ·exact blk_oth (C':=progX C bl pa xs) rfl hm
 ·rfl
theorem era_NF (h:NF C) (n:Int):NF (eraC C n).1:=by
 unfold eraC
 split
 ·exact ⟨(code_nc h).2,h.2⟩
 ·exact h
theorem scr_NF (h:NF C) (n:Int):NF (scrC C n).1:=by
 unfold scrC
 split
 ·exact ⟨(code_nc h).2,h.2⟩
 ·exact h
theorem era_oth (C:CD) (bl:Int) {m:Int} (hm:m.toNat≠bl.toNat):blkC (eraC C bl).1 m=blkC C m:=by
 unfold eraC
 split
 ·exact blk_oth (C':=eraX C bl) rfl hm
 ·rfl
theorem scr_oth (C:CD) (bl:Int) {m:Int} (hm:m.toNat≠bl.toNat):blkC (scrC C bl).1 m=blkC C m:=by
 unfold scrC
 split
 ·exact blk_oth (C':=scrX C bl) rfl hm
 ·rfl
theorem may_nc (h:NF C) {m:Int} (hm:0≤m∧m<C.g.b):mayC C m=0:=by
 unfold mayC
 rw [h.1,if_neg Bool.false_ne_true,if_neg (fun k=>k hm)]
theorem CI.dst (h:CI n u C L) (hp:PI g n C L O) (ho:C.ops+2≤1000000000000) (hb:0≤b∧b<(n:Int)) (hu:u=-1∨u=b) (hh:(gx L b.toNat).he=false) :
  CI n (-1) (dstP C L b).1 (dstP C L b).2.1∧((dstP C L b).2.2=0∨(dstP C L b).2.2=5∨(dstP C L b).2.2=17)∧((dstP C L b).2.2=0→(dstP C L b).2.1=chL b n eB L) ∧
  ((dstP C L b).2.2≠0→∃ m,(dstP C L b).2.1=chL b n (sB m) (chL b n fB L)):=by
 have hnn:=hp.nn
 have hgg:=hp.gg
 have hll:=hp.ll
 have hin:0≤4+b∧4+b<C.g.b:=by rw [hgg];omega
 have hm:=may_nc h.nf hin
 have hc:=(code_nc h.nf).1
 obtain ⟨o1,-,-⟩:=eraC_ok hp.ok (4+b) (by omega)
 have he:eraC C (4+b)=(eraX C (4+b),(codeC C).1):=if_pos hm
 have n1:=era_NF h.nf (4+b)
 have bi1:=h.bi.era hp.ok (4+b)
 have k1:=(eraC_k C (4+b)).1
 have oth1:∀ i,i<n→(i:Int)≠b→blkC (eraC C (4+b)).1 (4+(i:Int))=blkC C (4+(i:Int)):=fun i hi hne=>era_oth C _ (by omega)
 have old:∀ i,i<n→(i:Int)≠b→BkI (gx L i) (blkC C (4+(i:Int))):=fun i hi hne=>h.bk i hi (by omega)
 unfold dstP
 by_cases h5:(eraC C (4+b)).2=5
 ·rw [if_pos h5]
  have hin1:0≤4+b∧4+b<(eraC C (4+b)).1.g.b:=by rw [k1];exact hin
  have hm1:=may_nc n1 hin1
  have hc1:=(code_nc n1).1
  have es:scrC (eraC C (4+b)).1 (4+b)=(scrX (eraC C (4+b)).1 (4+b),(codeC (eraC C (4+b)).1).1):=if_pos hm1
  have n2:=scr_NF n1 (4+b)
  have bi2:=bi1.scr (4+b)
  rw [if_neg (by rw [es];show ¬ (codeC _).1=4;omega)]
  dsimp only
  rw [hll]
  refine ⟨⟨n2,bi2,fun i hi _=>?_⟩,?_,?_,fun _=>⟨_,rfl⟩⟩
  ·rw [gx_ch (by rw [chL_len];exact hll),gx_ch hll]
   by_cases e:(i:Int)=b
   ·rw [if_pos ⟨hb,by omega⟩,if_pos ⟨hb,by omega⟩]
    refine ⟨fun k=>(by cases k),fun k=>(by cases k),fun k=>⟨rfl,rfl,?_⟩,fun _=>rfl⟩
    have k:((scrC (eraC C (4+b)).1 (4+b)).2 == 0)=true:=k
    have k0:(scrC (eraC C (4+b)).1 (4+b)).2=0:=by simpa using k
    have hz:=scr_zero o1 hin1 k0
    intro q hq v hv
    have:v∈allC (scrC (eraC C (4+b)).1 (4+b)).1 (4+b):=by
     rw [show 4+b=4+(i:Int) by omega] at *
     exact List.mem_flatten.2 ⟨q,hq,hv⟩
    rw [hz] at this
    exact (List.mem_replicate.1 this).2
   ·rw [if_neg (by omega),if_neg (by omega),scr_oth _ _ (by omega),oth1 i hi e]
    exact old i hi e
  ·split <;> omega
  ·intro k
   split at k <;> omega
 ·rw [if_neg h5]
  dsimp only
  have h0:(eraC C (4+b)).2=0:=by rw [he] at h5⊢;exact hc.resolve_right h5
  rw [if_pos h0,hll]
  refine ⟨⟨n1,bi1,fun i hi _=>?_⟩,.inl h0,fun _=>rfl,fun k=>absurd h0 k⟩
  rw [gx_ch hll]
  by_cases e:(i:Int)=b
  ·rw [if_pos ⟨hb,by omega⟩,show 4+(i:Int)=4+b by omega,era_zero hp.ok hin h0]
   refine ⟨fun _=>⟨rfl,rfl,rfl,fun j=>?_⟩,fun k=>(by cases k),fun k=>(by cases k),fun k=>(by cases k)⟩
   show (List.replicate C.g.p.toNat (0:Int)).getD j 0=0
   rw [List.getD_eq_getElem?_getD,List.getElem?_replicate]
   split <;> rfl
  ·rw [if_neg (by omega),oth1 i hi e]
   exact old i hi e
end
end Go.Proofs.YtbaojfchlhlaeaaGreat.Vc
namespace Go.Proofs.YtbaojfchlhlaeaaGreat.Vc
open Go Go.Eng Go.RowKit
section
variable {g:Geo} {n:Nat} {u b:Int} {C:CD} {L:List Blk} {O:List Hd}
theorem ul_set (l:List Int) (i j:Nat) (x:Int) (hj:j<l.length):(l.set j x).getD i 0=if i=j then x else l.getD i 0:=by
 rw [List.getD_eq_getElem?_getD,List.getElem?_set]
 by_cases e:i=j
 ·subst e
  rw [if_pos rfl,if_pos hj,if_pos rfl]
  rfl
 ·rw [if_neg (fun k=>e k.symm),if_neg e,List.getD_eq_getElem?_getD]
theorem pgl_set (l:List (List Int)) (i j:Nat) (x:List Int) (hj:j<l.length):(l.set j x).getD i []=if i=j then x else l.getD i []:=by
 rw [List.getD_eq_getElem?_getD,List.getElem?_set]
 by_cases e:i=j
 ·subst e
  rw [if_pos rfl,if_pos hj,if_pos rfl]
  rfl
 ·rw [if_neg (fun k=>e k.symm),if_neg e,List.getD_eq_getElem?_getD]
theorem progX_v (hC:COk C) {bl pa:Int} (hi:inC C bl pa) (xs:List Int) :
  (blkC (progX C bl pa xs) bl).sc=(blkC C bl).sc∧(blkC (progX C bl pa xs) bl).la=max (blkC C bl).la pa∧(∀ j:Nat,(blkC (progX C bl pa xs) bl).us.getD j 0=if j=pa.toNat then usC C bl pa+1 else (blkC C bl).us.getD j 0) ∧
  (∀ j:Nat,(blkC (progX C bl pa xs) bl).pg.getD j []=if j=pa.toNat then (if (codeC C).1=0 then andL (pgC13 C bl pa) xs else progL (pgC13 C bl pa) xs (codeC C).2.1 (!(codeC C).2.2)) else (blkC C bl).pg.getD j []):=by
 have hb:=blk_set (C':=progX C bl pa xs) hC hi.1 rfl
 obtain ⟨-,hbo⟩:=hC.blk hi.1
 have h2:=hi.2
 rw [hb]
 refine ⟨rfl,rfl,fun j=>ul_set _ _ _ _ (by rw [hbo.ul];omega),fun j=>pgl_set _ _ _ _ (by rw [hbo.pl];omega)⟩
theorem fst_nc (hp:PI g n C L O) (h:NF C) (ho:C.ops+2≤1000000000000) (hb:0≤b∧b<(n:Int)) {hd:Hd} (hr:hd.rng) (hR:HRight hd) (sl:Bool) (h1:(blkC C (4+b)).sc=false) (h2:(blkC C (4+b)).la=-1) (h3:∀ j:Nat,(blkC C (4+b)).us.getD j 0=0) :
  ((fstP C b hd sl).2=0∨(fstP C b hd sl).2=5)∧NF (fstP C b hd sl).1∧(∀ m:Int,m.toNat≠(4+b).toNat→blkC (fstP C b hd sl).1 m=blkC C m) ∧
  ((fstP C b hd sl).2=0→(blkC (fstP C b hd sl).1 (4+b)).sc=false∧(blkC (fstP C b hd sl).1 (4+b)).la=0∧∀ j:Nat,(blkC (fstP C b hd sl).1 (4+b)).us.getD j 0=if j=0 then (if sl=true then 2 else 1) else 0):=by
 have hnn:=hp.nn
 have hgg:=hp.gg
 have hnum:=hp.ok.num
 have hin:inC C (4+b) 0:=⟨by rw [hgg];omega,by omega⟩
 have bm:Byt (mkL C.g hd [] []):=mkL_byt hr hR Byt.nil Byt.nil
 have hlm:(mkL C.g hd [] []).length=szP C.g:=by have:=mkL_len13 C.g hd;omega
 have hu0:usC C (4+b) 0=0:=h3 0
 obtain ⟨a1,a2,a3,a4⟩:=prog_nc (xs:=mkL C.g hd [] []) hp.ok h hin hlm h1 (by omega) (fun _=>by omega)
 obtain ⟨o1,-,-⟩:=progC_ok hp.ok (4+b) 0 bm (by omega)
 obtain ⟨v1,v2,v3,-⟩:=progX_v hp.ok hin (mkL C.g hd [] [])
 have oth:=fun m hm=>prog_oth C (4+b) 0 (mkL C.g hd [] []) (m:=m) hm
 rw [←a1] at v1 v2 v3
 have kg:=(progC_k C (4+b) 0 (mkL C.g hd [] [])).1
 unfold fstP
 by_cases hc:(progC C (4+b) 0 (mkL C.g hd [] [])).2=0∧sl=true
 ·rw [if_pos hc]
  unfold selP
  generalize (progC C (4+b) 0 (mkL C.g hd [] [])).1=D at a1 a4 o1 v1 v2 v3 oth kg ⊢
  have hin2:inC D (4+b) 0:=by unfold inC;rw [kg];exact hin
  have hl2:(comL D.g).length=szP D.g:=by rw [comL_len,kg];omega
  have hu1:usC D (4+b) 0=1:=by
   have:=v3 0
   rw [if_pos (by rfl),hu0] at this
   exact this
  obtain ⟨b1,b2,b3,b4⟩:=prog_nc (xs:=comL D.g) o1 a4 hin2 hl2 (v1.trans h1) (by omega) (fun k=>by omega)
  obtain ⟨w1,w2,w3,-⟩:=progX_v o1 hin2 (comL D.g)
  rw [←b1] at w1 w2 w3
  refine ⟨b3,b4,fun m hm=>(prog_oth D (4+b) 0 (comL D.g) hm).trans (oth m hm),fun _=>⟨w1.trans (v1.trans h1),by rw [w2,v2,h2];decide,fun j=>?_⟩⟩
  rw [w3,v3]
  by_cases e:j=0
  ·rw [if_pos (by rw [e];rfl),if_pos e,hu1,if_pos hc.2];rfl
  ·rw [if_neg (by intro k;exact e k),if_neg (by intro k;exact e k),if_neg e];exact h3 j
 ·rw [if_neg hc]
  refine ⟨a3,a4,oth,fun h0=>⟨v1.trans h1,by rw [v2,h2];decide,fun j=>?_⟩⟩
  have hs:¬ sl=true:=fun k=>hc ⟨h0,k⟩
  rw [v3]
  by_cases e:j=0
  ·rw [if_pos (by rw [e];rfl),if_pos e,hu0,if_neg hs];rfl
  ·rw [if_neg (by intro k;exact e k),if_neg e];exact h3 j
structure Bgn (C:CD) (b:Int) (sl:Bool):Prop where
 sc:(blkC C (4+b)).sc=false
 la:(blkC C (4+b)).la=0
 us:∀ j:Nat,(blkC C (4+b)).us.getD j 0=if j=0 then (if sl=true then 2 else 1) else 0
theorem beg_nc {ns:Int} {o:Hd} (h:CI n (-1) C L) (hp:PI g n C L O) (ho:C.ops+2≤1000000000000) (hb:0≤b∧b<(n:Int)) (hn:0≤ns∧ns<4) (hr:o.rng) (sl:Bool) (hcl:(gx L b.toNat).cl=true) (hba:(gx L b.toNat).ba=false) :
  ((begP C L O b ns o sl).2.2.2=0∧CI n (-1) (begP C L O b ns o sl).1 (begP C L O b ns o sl).2.1∧(begP C L O b ns o sl).2.1=chL b n (hB ns) L∧Bgn (begP C L O b ns o sl).1 b sl) ∨
  ((begP C L O b ns o sl).2.2.2=5∧CI n b (begP C L O b ns o sl).1 L∧(begP C L O b ns o sl).2.1=L):=by
 have hbi:b.toNat<n:=by omega
 have eb:4+((b.toNat:Nat):Int)=4+b:=by omega
 have hK:=h.bk b.toNat hbi (by omega)
 rw [eb] at hK
 obtain ⟨-,k1,k2,k3⟩:=hK.cl hcl
 obtain ⟨f1,f2,f3,f4⟩:=fst_nc hp h.nf ho hb (begH_rng L b hn hr) (begH_right L b (o:=o) hn) sl k1 k2 k3
 have bi:=h.bi.fst hp.ok ho b (begH_rng L b hn hr) (begH_right L b (o:=o) hn) sl
 have hll:=hp.ll
 unfold begP
 rcases f1 with h0 | h5
 ·rw [if_pos h0]
  obtain ⟨q1,q2,q3⟩:=f4 h0
  refine .inl ⟨rfl,⟨f2,bi,fun i hi _=>?_⟩,by rw [hll],⟨q1,q2,q3⟩⟩
  dsimp only
  rw [hll,gx_ch hll]
  by_cases e:(i:Int)=b
  ·rw [if_pos ⟨hb,by omega⟩,show 4+(i:Int)=4+b by omega]
   refine ⟨fun k=>(by cases k),fun _ _=>⟨rfl,q1,by show _≤(0:Int);omega,fun j hj=>?_⟩,fun k=>?_,fun k=>by rw [show i=b.toNat by omega] at k⊢;exact hK.le k⟩
   ·have hj:(0:Int)<(j:Int):=hj
    rw [q3,if_neg (by omega)]
   ·have k:(gx L i).go=true:=k
    rw [show i=b.toNat by omega] at k
    have:=(hK.go k).1
    rw [hba] at this
    cases this
  ·rw [if_neg (by omega),f3 _ (by omega)]
   exact h.bk i hi (by omega)
 ·rw [if_neg (by omega)]
  refine .inr ⟨h5,⟨f2,bi,fun i hi hne=>?_⟩,rfl⟩
  dsimp only
  rw [f3 _ (by omega)]
  exact h.bk i hi (by omega)
structure Gro (n:Nat) (b:Int) (L L':List Blk):Prop where
 ba:∀ i,i<n→(gx L i).ba=true→(gx L' i).ba=true
 he:∀ i,i<n→(i:Int)≠b→(gx L' i).he=true→(gx L i).he=true
theorem Gro.refl (b:Int) (L:List Blk):Gro n b L L:=⟨fun _ _ h=>h,fun _ _ _ h=>h⟩
theorem Gro.trans {L1 L2:List Blk} (h:Gro n (-1) L L1) (k:Gro n b L1 L2):Gro n b L L2:=⟨fun i hi a=>k.ba i hi (h.ba i hi a),fun i hi hne a=>h.he i hi (by omega) (k.he i hi hne a)⟩
theorem Gro.ch (hl:L.length=n) (b:Int) {φ:Blk→Blk} (h1:∀ x,x.ba=true→(φ x).ba=true) (h2:∀ x,(φ x).he=true→x.he=true):Gro n (-1) L (chL b n φ L):=⟨fun i hi a=>by
 rw [gx_ch hl];split
 ·exact h1 _ a
 ·exact a,fun i hi _ a=>by
 rw [gx_ch hl] at a;split at a
 ·exact h2 _ a
 ·exact a⟩
end
end Go.Proofs.YtbaojfchlhlaeaaGreat.Vc
namespace Go.Proofs.YtbaojfchlhlaeaaGreat.Vc
open Go Go.Eng Go.RowKit
section
variable {g:Geo} {n:Nat} {u b:Int} {C:CD} {L:List Blk} {O:List Hd}
structure OpN (n:Nat) (sl:Bool) (L:List Blk) (R:(CD×List Blk×List Hd)×Int×Int):Prop where
 ci:CI n (-1) R.1.1 R.1.2.1
 e:R.2.2=0∨R.2.2=19
 no:R.2.2≠0→R.2.1=0∧Gro n (-1) L R.1.2.1
 ok:R.2.2=0→Gro n R.2.1 L R.1.2.1∧Bgn R.1.1 R.2.1 sl
theorem opn_nc {ns:Int} {o:Hd} (hn:0≤ns∧ns<4) (hr:o.rng) (sl:Bool):∀ (k:Nat) {C:CD} {L:List Blk} {O:List Hd},PI g n C L O→CI n (-1) C L→C.ops+6*k≤1000000000000→OpN n sl L (opnP ns o sl k C L O)
 | 0,C,L,O,hp,h,ho=>⟨h,.inr rfl,fun _=>⟨rfl,.refl _ _⟩,fun k=>(by cases k)⟩
 | k+1,C,L,O,hp,h,ho=>by
  have hll:=hp.ll
  unfold opnP
  by_cases hlt:pickT L L.length<0
  ·rw [if_pos hlt]
   exact ⟨h,.inr rfl,fun _=>⟨rfl,.refl _ _⟩,fun k=>(by cases k)⟩
  rw [if_neg hlt]
  obtain ⟨hf,hfb⟩:=pick_free (L:=L) (by omega)
  have hbd:0≤pickT L L.length∧pickT L L.length<(n:Int):=⟨by omega,by have:=(bestT_bd (L:=L) (m:=fun _ x=>freeB x) (ah:=fun x y=>decide (x.er<y.er)) L.length).2;rw [←hll];exact this⟩
  generalize pickT L L.length=b at hlt hf hfb hbd ⊢
  rw [hll]
  have eb:4+((b.toNat:Nat):Int)=4+b:=by omega
  have hX:∃ C1 L1 e1,(if (gx L b.toNat).cl=true then (C,L,(0:Int)) else dstP C L b)=(C1,L1,e1)∧PI g n C1 L1 O∧CI n (-1) C1 L1∧C1.ops≤C.ops+2∧Gro n (-1) L L1∧(e1=0∨e1=5∨e1=17)∧(e1=0→(gx L1 b.toNat).cl=true∧(gx L1 b.toNat).ba=false):=by
   split
   ·rename_i hc
    exact ⟨_,_,_,rfl,hp,h,by omega,.refl _ _,.inl rfl,fun _=>⟨hc,hfb⟩⟩
   ·obtain ⟨q1,q2,q3⟩:=hp.dst b (by omega)
    obtain ⟨d1,d2,d3,d4⟩:=h.dst hp (by omega) hbd (.inl rfl) hf
    refine ⟨(dstP C L b).1,(dstP C L b).2.1,(dstP C L b).2.2,rfl,q1,d1,q2,?_,d2,fun e=>?_⟩
    ·by_cases e:(dstP C L b).2.2=0
     ·rw [d3 e];exact Gro.ch hll b (fun _ k=>k) (fun _ k=>(by cases k))
     ·obtain ⟨m,e2⟩:=d4 e
      rw [e2]
      exact (Gro.ch hll b (φ:=fB) (fun _ _=>rfl) (fun _ k=>k)).trans (Gro.ch ((chL_len ..).trans hll) b (φ:=sB m) (fun _ _=>rfl) (fun _ k=>(by cases k)))
    ·rw [d3 e,gx_ch hll,if_pos ⟨hbd,rfl⟩];exact ⟨rfl,hfb⟩
  obtain ⟨C1,L1,e1,hq,p1,c1,o1,g1,r1,b1⟩:=hX
  rw [hq]
  dsimp only
  by_cases he1:e1=0
  case neg=>
   rw [if_neg he1,if_neg (by omega)]
   have ih:=opn_nc hn hr sl k (O:=O) p1 c1 (by omega)
   exact ⟨ih.ci,ih.e,fun e=>⟨(ih.no e).1,g1.trans (ih.no e).2⟩,fun e=>⟨g1.trans (ih.ok e).1,(ih.ok e).2⟩⟩
  rw [if_pos he1]
  obtain ⟨bc,bb⟩:=b1 he1
  obtain ⟨s1,s2,s3⟩:=p1.beg b (o:=o) hn hr sl (by omega)
  have hl1:=p1.ll
  rcases beg_nc (ns:=ns) (o:=o) c1 p1 (by omega) hbd hn hr sl bc bb with ⟨x1,x2,x3,x4⟩ | ⟨x1,x2,x3⟩
  ·rw [if_pos x1]
   refine ⟨x2,.inl rfl,fun k=>absurd rfl k,fun _=>⟨?_,x4⟩⟩
   dsimp only
   rw [x3]
   refine g1.trans ⟨fun i hi a=>?_,fun i hi hne a=>?_⟩
   ·rw [gx_ch hl1];split
    ·exact a
    ·exact a
   ·rw [gx_ch hl1,if_neg (by omega)] at a;exact a
  ·rw [if_neg (by omega),if_neg (by omega)]
   have p2:=s1.chL b (φ:=fB) (fun _=>rfl)
   rw [s1.ll] at p2
   have c2:CI n b (begP C1 L1 O b ns o sl).1 (chL b n fB (begP C1 L1 O b ns o sl).2.1):=by
    rw [x3];exact x2.ch hl1 b fun _ _ k=>k.f
   have hf1:(gx L1 b.toNat).he=false:=by
    cases e:(gx L1 b.toNat).he
    ·rfl
    ·have:=g1.he b.toNat (by omega) (by omega) e
     rw [hf] at this;cases this
   have hf2:(gx (chL b n fB (begP C1 L1 O b ns o sl).2.1) b.toNat).he=false:=by
    rw [x3,gx_ch hl1,if_pos ⟨hbd,rfl⟩];exact hf1
   obtain ⟨d1,d2,d3,d4⟩:=c2.dst p2 (by omega) hbd (.inr rfl) hf2
   obtain ⟨q1,q2,q3⟩:=p2.dst b (by omega)
   rw [if_neg (by omega)]
   have g2:Gro n (-1) L1 (chL b n fB (begP C1 L1 O b ns o sl).2.1):=by rw [x3];exact Gro.ch hl1 b (fun _ _=>rfl) (fun _ k=>k)
   have hl2:(chL b n fB (begP C1 L1 O b ns o sl).2.1).length=n:=p2.ll
   have g3:Gro n (-1) (chL b n fB (begP C1 L1 O b ns o sl).2.1) (dstP (begP C1 L1 O b ns o sl).1 (chL b n fB (begP C1 L1 O b ns o sl).2.1) b).2.1:=by
    by_cases e:(dstP (begP C1 L1 O b ns o sl).1 (chL b n fB (begP C1 L1 O b ns o sl).2.1) b).2.2=0
    ·rw [d3 e];exact Gro.ch hl2 b (fun _ k=>k) (fun _ k=>(by cases k))
    ·obtain ⟨m,e2⟩:=d4 e
     rw [e2]
     exact (Gro.ch hl2 b (φ:=fB) (fun _ _=>rfl) (fun _ k=>k)).trans (Gro.ch ((chL_len ..).trans hl2) b (φ:=sB m) (fun _ _=>rfl) (fun _ k=>(by cases k)))
   have ih:=opn_nc hn hr sl k q1 d1 (by omega)
   have gg:=(g1.trans g2).trans g3
   exact ⟨ih.ci,ih.e,fun e=>⟨(ih.no e).1,gg.trans (ih.no e).2⟩,fun e=>⟨gg.trans (ih.ok e).1,(ih.ok e).2⟩⟩
structure PrN (C C':CD) (bl pa:Int) (xs:List Int) (e:Int):Prop where
 ee:e=0∨e=5
 nf:NF C'
 bi:BIn C'
 oth:∀ m:Int,m.toNat≠bl.toNat→blkC C' m=blkC C m
 sc:(blkC C' bl).sc=false
 la:(blkC C' bl).la=pa
 us:∀ j:Nat,j≠pa.toNat→(blkC C' bl).us.getD j 0=(blkC C bl).us.getD j 0
 pg:∀ j:Nat,j≠pa.toNat→(blkC C' bl).pg.getD j []=(blkC C bl).pg.getD j []
 ok:e=0→pgC13 C' bl pa=andL (andL (pgC13 C bl pa) xs) (comL C.g)
theorem prg_nc (hC:COk C) (h:NF C) (hB:BIn C) (ho:C.ops+2≤1000000000000) {bl pa:Int} {xs:List Int} (bx:Byt xs) (hi:inC C bl pa) (hx:xs.length=szP C.g) (hs:(blkC C bl).sc=false) (hu:usC C bl pa=0) (hl:(blkC C bl).la<pa) :
  PrN C (prgP C bl pa xs).1 bl pa xs (prgP C bl pa xs).2:=by
 have hnum:=hC.num
 obtain ⟨a1,a2,a3,a4⟩:=prog_nc (xs:=xs) hC h hi hx hs (by omega) (fun _=>hl)
 obtain ⟨o1,-,-⟩:=progC_ok hC bl pa bx (by omega)
 obtain ⟨v1,v2,v3,v4⟩:=progX_v hC hi xs
 have oth:=fun m hm=>prog_oth C bl pa xs (m:=m) hm
 have b1:=hB.prog hC bl pa xs
 rw [←a1] at v1 v2 v3 v4
 have kg:=(progC_k C bl pa xs).1
 unfold prgP
 by_cases hc:(progC C bl pa xs).2=0
 ·rw [if_pos hc]
  have hc0:(codeC C).1=0:=by rw [←a2];exact hc
  have e1:pgC13 (progC C bl pa xs).1 bl pa=andL (pgC13 C bl pa) xs:=by
   have:=v4 pa.toNat
   rw [if_pos rfl,if_pos hc0] at this
   exact this
  generalize (progC C bl pa xs).1=D at a1 a4 o1 v1 v2 v3 v4 oth kg b1 e1 ⊢
  have hin2:inC D bl pa:=by unfold inC;rw [kg];exact hi
  have hl2:(comL C.g).length=szP D.g:=by rw [comL_len,kg];omega
  have hu1:usC D bl pa=1:=by
   have:=v3 pa.toNat
   rw [if_pos rfl,hu] at this
   exact this
  obtain ⟨c1,c2,c3,c4⟩:=prog_nc (xs:=comL C.g) o1 a4 hin2 hl2 (v1.trans hs) (by omega) (fun k=>by omega)
  obtain ⟨w1,w2,w3,w4⟩:=progX_v o1 hin2 (comL C.g)
  have oth2:=fun m hm=>prog_oth D bl pa (comL C.g) (m:=m) hm
  have b2:=b1.prog o1 bl pa (comL C.g)
  rw [←c1] at w1 w2 w3 w4
  refine ⟨c3,c4,b2,fun m hm=>(oth2 m hm).trans (oth m hm),w1.trans (v1.trans hs),by rw [w2,v2];omega,fun j hj=>by rw [w3,if_neg hj,v3,if_neg hj],fun j hj=>by rw [w4,if_neg hj,v4,if_neg hj],fun k=>?_⟩
  have k0:(codeC D).1=0:=by rw [←c2];exact k
  have:=w4 pa.toNat
  rw [if_pos rfl,if_pos k0,e1] at this
  exact this
 ·rw [if_neg hc]
  exact ⟨a3,a4,b1,oth,v1.trans hs,by rw [v2];omega,fun j hj=>by rw [v3,if_neg hj],fun j hj=>by rw [v4,if_neg hj],fun k=>absurd k hc⟩
end
end Go.Proofs.YtbaojfchlhlaeaaGreat.Vc
namespace Go.Proofs.YtbaojfchlhlaeaaGreat.Vc
open Go Go.Eng Go.RowKit
theorem manyT_le {L L':List Blk} {m m':Blk→Bool}:∀ i,(∀ j,j<i→m' (gx L' j)=true→m (gx L j)=true)→manyT L' m' i≤manyT L m i
 | 0,_=>Int.le_refl _
 | i+1,h=>by
  have ih:=manyT_le (L:=L) (L':=L') (m:=m) (m':=m') i fun j hj=>h j (by omega)
  have h1:=h i (Nat.lt_succ_self i)
  unfold manyT
  by_cases e:m' (gx L' i)=true
  ·rw [if_pos e,if_pos (h1 e)];omega
  ·rw [if_neg e];split <;> omega
theorem manyT_up {L L':List Blk} {m:Blk→Bool} {b:Nat}:∀ i,(∀ j,j<i→j≠b→m (gx L' j)=true→m (gx L j)=true)→manyT L' m i≤manyT L m i+1
 | 0,_=>by show (0:Int)≤0+1;decide
 | i+1,h=>by
  by_cases e:i=b
  ·have h2:=manyT_le (L:=L) (L':=L') (m:=m) (m':=m) i fun j hj=>h j (by omega) (by omega)
   unfold manyT
   split <;> split <;> omega
  ·have ih:=manyT_up (L:=L) (L':=L') (m:=m) (b:=b) i fun j hj=>h j (by omega)
   have h1:=h i (Nat.lt_succ_self i) e
   unfold manyT
   by_cases e2:m (gx L' i)=true
   ·rw [if_pos e2,if_pos (h1 e2)];omega
   ·rw [if_neg e2];split <;> omega
theorem manyT_lt {L L':List Blk} {m:Blk→Bool} {b:Nat}:∀ i,b<i→(∀ j,j<i→m (gx L j)=true→m (gx L' j)=true)→m (gx L b)=false→m (gx L' b)=true→manyT L m i+1≤manyT L' m i
 | 0,hb,_,_,_=>by omega
 | i+1,hb,h,h0,h1=>by
  by_cases e:b=i
  ·subst e
   have h2:=manyT_le (L:=L') (L':=L) (m:=m) (m':=m) b fun j hj=>h j (by omega)
   unfold manyT
   rw [if_pos h1,if_neg (by rw [h0];exact Bool.false_ne_true)]
   omega
  ·have ih:=manyT_lt (L:=L) (L':=L') (m:=m) (b:=b) i (by omega) (fun j hj=>h j (by omega)) h0 h1
   have h3:=h i (Nat.lt_succ_self i)
   unfold manyT
   by_cases e2:m (gx L i)=true
   ·rw [if_pos e2,if_pos (h3 e2)];omega
   ·rw [if_neg e2];split <;> omega
section
variable {g:Geo} {n:Nat} {s t:SD}
structure NI (g:Geo) (n:Nat) (s:SD):Prop where
 i:SI g n s
 c:CI n (-1) s.C s.L
theorem over_e (s:SD):((overP s).2=0∧(overP s).1=s∧s.ro=false∧bads s.L≤s.C.g.sp)∨((overP s).2=15∧(overP s).1.ro=true):=by
 unfold overP
 split
 ·exact .inr ⟨rfl,rfl⟩
 ·cases h:s.ro
  ·exact .inl ⟨rfl,rfl,rfl,by omega⟩
  ·exact .inr ⟨rfl,by first | exact h | rfl⟩
theorem left_e (s:SD) {e:Int} (h:e=0∨e=19):((leftP s e).2=0∧e=0∧(leftP s e).1=s∧s.ro=false∧bads s.L≤s.C.g.sp)∨((leftP s e).2=15∧(leftP s e).1.ro=true):=by
 rcases h with rfl | rfl
 ·have e1:leftP s 0=if (overP s).2≠0 then overP s else ((overP s).1,0):=rfl
  rw [e1]
  rcases over_e s with ⟨a1,a2,a3,a4⟩ | ⟨a1,a2⟩
  ·rw [if_neg (fun k=>k a1)];exact .inl ⟨rfl,rfl,a2,a3,a4⟩
  ·rw [if_pos (by omega)];exact .inr ⟨a1,a2⟩
 ·have e1:leftP s 19=if (overP {s with ro:=true}).2≠0 then overP {s with ro:=true} else ((overP {s with ro:=true}).1,19):=rfl
  rw [e1]
  rcases over_e {s with ro:=true} with ⟨a1,a2,a3,a4⟩ | ⟨a1,a2⟩
  ·cases a3
  ·rw [if_pos (by omega)];exact .inr ⟨a1,a2⟩
theorem CI.of {C C':CD} {L L':List Blk} {u:Int} (h:CI n u C L) (e1:C'=C) (e2:L'=L):CI n u C' L':=by rw [e1,e2];exact h
theorem NI.over (h:NI g n s):NI g n (overP s).1:=⟨h.i.over.i,h.c.of (over_f s).1 (over_f s).2.1⟩
theorem NI.left (h:NI g n s) (e:Int):NI g n (leftP s e).1:=⟨(h.i.left e).i,h.c.of (left_f s e).1 (left_f s e).2.1⟩
theorem NI.dst (h:NI g n s) {b:Int} (hb:0≤b∧b<(n:Int)) (hh:(gx s.L b.toNat).he=false) (ho:s.C.ops+2≤1000000000000) :
  NI g n (dstS s b).1∧((dstS s b).2=0∨(dstS s b).2=5∨(dstS s b).2=17)∧Gro n (-1) s.L (dstS s b).1.L∧(∀ i,i≠b.toNat→gx (dstS s b).1.L i=gx s.L i)∧(gx (dstS s b).1.L b.toNat).he=false∧((dstS s b).2=0→(dstS s b).1.L=chL b n eB s.L)∧((dstS s b).1.ro=false→s.ro=false):=by
 have hln:=h.i.ln
 obtain ⟨d1,d2,d3,d4⟩:=h.c.dst h.i.pi ho hb (.inl rfl) hh
 obtain ⟨q1,-⟩:=h.i.dst (b:=b) (fun _=>hh) ho
 have e:dstS s b=((overP {s with C:=(dstP s.C s.L b).1,L:=(dstP s.C s.L b).2.1}).1,(dstP s.C s.L b).2.2):=by unfold dstS;rw [if_pos (by rw [hln];exact hb)]
 have k:=over_f {s with C:=(dstP s.C s.L b).1,L:=(dstP s.C s.L b).2.1}
 have hro:(overP {s with C:=(dstP s.C s.L b).1,L:=(dstP s.C s.L b).2.1}).1.ro=false→s.ro=false:=fun hr=>by
  unfold overP at hr
  split at hr
  ·cases hr
  ·exact hr
 rw [e] at q1 ⊢
 dsimp only at q1 ⊢
 have kL:(overP {s with C:=(dstP s.C s.L b).1,L:=(dstP s.C s.L b).2.1}).1.L=(dstP s.C s.L b).2.1:=k.2.1
 rw [kL]
 refine ⟨⟨q1.i,d1.of k.1 k.2.1⟩,d2,?_,fun i hi=>dst_oth s.C hln b hi,?_,fun h0=>d3 h0,hro⟩
 ·by_cases h0:(dstP s.C s.L b).2.2=0
  ·rw [d3 h0];exact Gro.ch hln b (fun _ k=>k) (fun _ k=>(by cases k))
  ·obtain ⟨m,e2⟩:=d4 h0
   rw [e2]
   exact (Gro.ch hln b (φ:=fB) (fun _ _=>rfl) (fun _ k=>k)).trans (Gro.ch ((chL_len ..).trans hln) b (φ:=sB m) (fun _ _=>rfl) (fun _ k=>(by cases k)))
 ·by_cases h0:(dstP s.C s.L b).2.2=0
  ·rw [d3 h0,gx_ch hln,if_pos ⟨hb,rfl⟩];rfl
  ·obtain ⟨m,e2⟩:=d4 h0
   rw [e2,gx_ch ((chL_len ..).trans hln),if_pos ⟨hb,rfl⟩];rfl
theorem NI.opn (h:NI g n s) {ns:Int} (hn:0≤ns∧ns<4) (sl:Bool) (ho:s.C.ops+768≤1000000000000) :
  NI g n (opnS ns sl s).1∧((opnS ns sl s).2.2=0∨(opnS ns sl s).2.2=19)∧((opnS ns sl s).2.2≠0→Gro n (-1) s.L (opnS ns sl s).1.L)∧((opnS ns sl s).2.2=0→Gro n (opnS ns sl s).2.1 s.L (opnS ns sl s).1.L∧Bgn (opnS ns sl s).1.C (opnS ns sl s).2.1 sl)∧(opnS ns sl s).1.ro=s.ro:=by
 have hr:(⟨0,0,0,0,s.ep,u64w (s.op+1)⟩:Hd).rng:=⟨⟨Int.le_refl _,by show (0:Int)<4294967296;decide⟩,h.i.ep,u64w_R _⟩
 have e:opC ns ⟨0,0,0,0,s.ep,u64w (s.op+1)⟩ sl s.C s.L s.O=opnP ns ⟨0,0,0,0,s.ep,u64w (s.op+1)⟩ sl 128 s.C s.L s.O:=if_pos hn
 obtain ⟨k1,-⟩:=h.i.opn hn (sl:=sl) ho
 have q:=opn_nc (ns:=ns) (o:=⟨0,0,0,0,s.ep,u64w (s.op+1)⟩) hn hr sl 128 h.i.pi h.c (by omega)
 unfold opnS at k1 ⊢
 rw [e] at k1 ⊢
 dsimp only at k1 ⊢
 exact ⟨⟨k1.i,q.ci⟩,q.e,fun k=>(q.no k).2,q.ok,rfl⟩
end
end Go.Proofs.YtbaojfchlhlaeaaGreat.Vc
namespace Go.Proofs.YtbaojfchlhlaeaaGreat.Vc
open Go Go.Eng Go.RowKit
section
variable {g:Geo} {n:Nat} {s t:SD} {C:CD}
theorem blank_pg (hC:COk C) (hB:BIn C) {bl pa:Int} (hi:inC C bl pa) (hs:(blkC C bl).sc=false) (hl:(blkC C bl).la<pa):pgC13 C bl pa=List.replicate (szP C.g) 255:=by
 obtain ⟨hbk,hbo⟩:=hC.blk hi.1
 have h2:=hi.2
 have hp:pa.toNat<(blkC C bl).pg.length:=by rw [hbo.pl];omega
 refine hB _ (List.mem_of_getElem? hbk) hs pa.toNat _ (by omega) ?_
 show (blkC C bl).pg[pa.toNat]? = some ((blkC C bl).pg.getD pa.toNat [])
 rw [List.getD_eq_getElem?_getD,List.getElem?_eq_getElem hp]
 rfl
theorem pg_len (hC:COk C) {bl pa:Int} (hi:inC C bl pa):(pgC13 C bl pa).length=szP C.g∧Byt (pgC13 C bl pa):=by
 obtain ⟨hbk,hbo⟩:=hC.blk hi.1
 have h2:=hi.2
 have hp:pa.toNat<(blkC C bl).pg.length:=by rw [hbo.pl];omega
 refine hbo.pb _ ?_
 show (blkC C bl).pg.getD pa.toNat []∈_
 rw [List.getD_eq_getElem?_getD,List.getElem?_eq_getElem hp]
 exact List.getElem_mem hp
theorem cpyL_len {xs:List Int} (h:8≤xs.length):(cpyL xs).length=xs.length:=by
 unfold cpyL
 rw [List.length_append,List.length_take,List.length_replicate]
 omega
def cpB (g:Geo) (xs:List Int):List Int:=andL (andL (List.replicate (szP g) 255) (cpyL xs)) (comL g)
theorem NI.bk (h:NI g n s) {b:Int} (hb:0≤b∧b<(n:Int)):BkI (gx s.L b.toNat) (blkC s.C (4+b)):=by
 have:=h.c.bk b.toNat (by omega) (by omega)
 rwa [show 4+((b.toNat:Nat):Int)=4+b by omega] at this
structure UsN (g:Geo) (n:Nat) (s t:SD) (b:Int) (xs:List Int) (e:Int):Prop where
 ni:CI n (-1) t.C t.L
 ee:e=0∨e=5
 L:t.L=chL b n uB s.L
 oth:∀ m:Int,m.toNat≠(4+b).toNat→blkC t.C m=blkC s.C m
 u0:(blkC t.C (4+b)).us.getD 0 0=(blkC s.C (4+b)).us.getD 0 0
 pg:∀ j:Nat,(j:Int)≠(gx s.L b.toNat).us+1→(blkC t.C (4+b)).pg.getD j []=(blkC s.C (4+b)).pg.getD j []
 ok:e=0→pgC13 t.C (4+b) ((gx s.L b.toNat).us+1)=andL (andL (List.replicate (szP g) 255) xs) (comL g)
theorem NI.use (h:NI g n s) {b:Int} (hb:0≤b∧b<(n:Int)) (he:(gx s.L b.toNat).he=true) (hba:(gx s.L b.toNat).ba=false) (hu:(gx s.L b.toNat).us+1≤g.p-1) {xs:List Int} (bx:Byt xs) (hx:xs.length=szP g) (ho:s.C.ops+2≤1000000000000) {t:SD}
  (eC:t.C=(prgP s.C (4+b) ((gx s.L b.toNat).us+1) xs).1) (eL:t.L=chL b n uB s.L):UsN g n s t b xs (prgP s.C (4+b) ((gx s.L b.toNat).us+1) xs).2:=by
 have hgg:=h.i.pi.gg
 have hnn:=h.i.pi.nn
 have hln:=h.i.ln
 obtain ⟨k1,k2,k3,k4⟩:=(h.bk hb).he he hba
 have hus:=(h.i.l.us b.toNat (by omega)).1
 have hin:inC s.C (4+b) ((gx s.L b.toNat).us+1):=⟨by rw [hgg];omega,by rw [hgg];omega⟩
 have hu0:usC s.C (4+b) ((gx s.L b.toNat).us+1)=0:=k4 _ (by omega)
 have p:=prg_nc h.i.pi.ok h.c.nf h.c.bi ho bx hin (by rw [hgg];exact hx) k2 hu0 (by omega)
 have bl:=blank_pg h.i.pi.ok h.c.bi hin k2 (by omega)
 refine ⟨⟨by rw [eC];exact p.nf,by rw [eC];exact p.bi,fun i hi _=>?_⟩,p.ee,eL,by rw [eC];exact p.oth,by rw [eC];exact p.us 0 (by omega),fun j hj=>by rw [eC];exact p.pg j (by omega),fun k=>by rw [eC,p.ok k,bl,hgg]⟩
 rw [eC,eL,gx_ch hln]
 by_cases e:(i:Int)=b
 ·rw [if_pos ⟨hb,by omega⟩,show i=b.toNat by omega,show 4+((b.toNat:Nat):Int)=4+b by omega]
  refine ⟨fun k=>?_,fun _ _=>⟨k1,p.sc,by rw [p.la];exact Int.le_refl _,fun j hj=>?_⟩,fun k=>?_,(h.bk hb).le⟩
  ·have k:(gx s.L b.toNat).cl=true:=k
   rw [k1] at k;cases k
  ·have hj:(gx s.L b.toNat).us+1<(j:Int):=hj
   rw [p.us j (by omega)]
   exact k4 j (by omega)
  ·have:=((h.bk hb).go k).1
   rw [hba] at this;cases this
 ·rw [if_neg (by omega),p.oth _ (by omega)]
  exact h.c.bk i hi (by omega)
end
end Go.Proofs.YtbaojfchlhlaeaaGreat.Vc
namespace Go.Proofs.YtbaojfchlhlaeaaGreat.Vc
open Go Go.Eng Go.RowKit
section
variable {g:Geo} {n:Nat} {s t:SD} {C:CD}
theorem NI.slN (h:NI g n s) {b:Int} (hb:0≤b∧b<(n:Int)) (he:(gx s.L b.toNat).he=true) (hba:(gx s.L b.toNat).ba=false) (hu:(blkC s.C (4+b)).us.getD 0 0=1) (ho:s.C.ops+1≤1000000000000) :
  ((slC s.L.length s.C b).2=0∨(slC s.L.length s.C b).2=5)∧CI n (-1) (slC s.L.length s.C b).1 s.L∧(∀ m:Int,m.toNat≠(4+b).toNat→blkC (slC s.L.length s.C b).1 m=blkC s.C m)∧(∀ j:Nat,j≠0→(blkC (slC s.L.length s.C b).1 (4+b)).pg.getD j []=(blkC s.C (4+b)).pg.getD j []):=by
 have hgg:=h.i.pi.gg
 have hnn:=h.i.pi.nn
 have hln:=h.i.ln
 have hnum:=h.i.pi.ok.num
 obtain ⟨k1,k2,k3,k4⟩:=(h.bk hb).he he hba
 have e:slC s.L.length s.C b=progC s.C (4+b) 0 (comL s.C.g):=if_pos (by rw [hln];exact hb)
 rw [e]
 have hin:inC s.C (4+b) 0:=⟨by rw [hgg];omega,by omega⟩
 have hl2:(comL s.C.g).length=szP s.C.g:=by rw [comL_len];omega
 have hu1:usC s.C (4+b) 0=1:=hu
 obtain ⟨a1,a2,a3,a4⟩:=prog_nc (xs:=comL s.C.g) h.i.pi.ok h.c.nf hin hl2 k2 (by omega) (fun k=>by omega)
 obtain ⟨v1,v2,v3,v4⟩:=progX_v h.i.pi.ok hin (comL s.C.g)
 have oth:=fun m hm=>prog_oth s.C (4+b) 0 (comL s.C.g) (m:=m) hm
 have b1:=h.c.bi.prog h.i.pi.ok (4+b) 0 (comL s.C.g)
 have hus:=(h.i.l.us b.toNat (by omega)).1
 rw [←a1] at v1 v2 v3 v4
 refine ⟨a3,⟨a4,b1,fun i hi _=>?_⟩,oth,fun j hj=>by rw [v4,if_neg (by intro k;exact hj k)]⟩
 by_cases e:(i:Int)=b
 ·rw [show i=b.toNat by omega,show 4+((b.toNat:Nat):Int)=4+b by omega]
  refine ⟨fun k=>(by rw [k1] at k;cases k),fun _ _=>⟨k1,v1.trans k2,by rw [v2];omega,fun j hj=>?_⟩,fun k=>?_,(h.bk hb).le⟩
  ·rw [v3,if_neg (by intro k;have k:j=0:=k;omega)]
   exact k4 j hj
  ·have:=((h.bk hb).go k).1
   rw [hba] at this;cases this
 ·rw [oth _ (by omega)]
  exact h.c.bk i hi (by omega)
structure CoN (g:Geo) (n:Nat) (s t:SD) (to i:Int) (l:List (Int×Int)) (e:Int):Prop where
 ci:CI n (-1) t.C t.L
 ee:e=0∨e=5
 oth:∀ m:Int,m.toNat≠(4+to).toNat→blkC t.C m=blkC s.C m
 lo:∀ j:Nat,1≤j→(j:Int)<i→(blkC t.C (4+to)).pg.getD j []=(blkC s.C (4+to)).pg.getD j []
 ok:e=0→∀ (j:Nat) (k:Int×Int),l[j]? = some k→pgC13 t.C (4+to) (i+(j:Int))=cpB g (pgC13 s.C k.1 k.2)
theorem NI.cop {to:Int} (ht:0≤to∧to<(n:Int)):∀ (l:List (Int×Int)) (i:Int) {s:SD},NI g n s→(gx s.L to.toNat).he=true→(gx s.L to.toNat).ba=false→(blkC s.C (4+to)).us.getD 0 0=1→i=(gx s.L to.toNat).us+1 →
  (gx s.L to.toNat).us+(l.length:Int)≤g.p-1→(∀ k∈l,inC s.C k.1 k.2∧k.1≠4+to)→s.C.ops+(2*l.length+1)≤1000000000000→CoN g n s (copP to l i s).1 to i l (copP to l i s).2
 | [],i,s,h,he,hba,hu0,hi,hu,hl,ho=>by
  obtain ⟨a1,a2,a3,a4⟩:=h.slN ht he hba hu0 (by omega)
  exact ⟨a2,a1,a3,fun j h1 _=>a4 j (by omega),fun _ j k hk=>by cases hk⟩
 | k::l,i,s,h,he,hba,hu0,hi,hu,hl,ho=>by
  rw [List.length_cons] at hu ho
  push_cast at hu
  have hln:=h.i.ln
  have hgg:=h.i.pi.gg
  have hnum:=h.i.pi.ok.num
  obtain ⟨hk1,hk2⟩:=hl k List.mem_cons_self
  have hrd:readC s.C k.1 k.2=0:=by unfold readC;rw [h.c.nf.1,if_neg Bool.false_ne_true,if_pos hk1]
  have hpl:=pg_len h.i.pi.ok hk1
  have ec:cpyC s.L.length s.C to i k.1 k.2=prgP s.C (4+to) i (cpyL (pgC13 s.C k.1 k.2)):=by
   unfold cpyC
   rw [if_pos (by rw [hln];exact ht),if_pos hrd]
  have eC:(cpyS s to i k).1.C=(prgP s.C (4+to) ((gx s.L to.toNat).us+1) (cpyL (pgC13 s.C k.1 k.2))).1:=by
   show (cpyC s.L.length s.C to i k.1 k.2).1=_
   rw [ec,hi]
  have eL:(cpyS s to i k).1.L=chL to n uB s.L:=by show chL to s.L.length uB s.L=_;rw [hln]
  have eE:(cpyS s to i k).2=(prgP s.C (4+to) ((gx s.L to.toNat).us+1) (cpyL (pgC13 s.C k.1 k.2))).2:=by
   show (cpyC s.L.length s.C to i k.1 k.2).2=_
   rw [ec,hi]
  have U:=h.use ht he hba (by omega) (cpyL_byt hpl.2) (by rw [cpyL_len (by rw [hpl.1];omega),hpl.1,hgg]) (by omega) eC eL
  rw [←eE] at U
  have h1:=h.i.cpy (to:=to) (pa:=i) (k:=k) (fun _=>by omega) (by omega)
  have gt:gx (cpyS s to i k).1.L to.toNat=uB (gx s.L to.toNat):=by rw [eL,gx_ch hln,if_pos ⟨ht,rfl⟩]
  have top:=U.ok
  rw [←hi] at top
  rw [show copP to (k::l) i s=if (cpyS s to i k).2≠0 then cpyS s to i k else copP to l (i+1) (cpyS s to i k).1 from rfl]
  split
  ·rename_i hne
   exact ⟨U.ni,U.ee,U.oth,fun j h1 h2=>U.pg j (by omega),fun e=>absurd e hne⟩
  ·rename_i h0
   have h0:(cpyS s to i k).2=0:=by omega
   have top:=top h0
   have hg1:(cpyS s to i k).1.C.g=s.C.g:=by have:=h1.i.pi.gg;rw [this,hgg]
   have R:=NI.cop ht l (i+1) (s:=(cpyS s to i k).1) ⟨h1.i,U.ni⟩ (by rw [gt];exact he) (by rw [gt];exact hba) (by rw [U.u0];exact hu0) (by rw [gt];show i+1=(gx s.L to.toNat).us+1+1;omega)
    (by rw [gt];show (gx s.L to.toNat).us+1+(l.length:Int)≤_;omega) (fun q hq=>⟨by unfold inC;rw [hg1];exact (hl q (List.mem_cons_of_mem _ hq)).1,(hl q (List.mem_cons_of_mem _ hq)).2⟩) (by have:=h1.o2;omega)
   have hus:=(h.i.l.us to.toNat (by omega)).1
   refine ⟨R.ci,R.ee,fun m hm=>(R.oth m hm).trans (U.oth m hm),fun j j1 j2=>(R.lo j j1 (by omega)).trans (U.pg j (by omega)),fun e j q hq=>?_⟩
   cases j with
   | zero=>
    cases hq
    have a:=R.lo i.toNat (by omega) (by omega)
    show (blkC _ (4+to)).pg.getD (i+((0:Nat):Int)).toNat []=_
    rw [show (i+((0:Nat):Int)).toNat=i.toNat by omega,a]
    exact top
   | succ j=>
    have hq:l[j]? = some q:=hq
    have a:=R.ok e j q hq
    rw [show i+1+(j:Int)=i+((j+1:Nat):Int) by push_cast;omega] at a
    rw [a]
    have hq2:=hl q (List.mem_cons_of_mem _ (List.mem_of_getElem? hq))
    have hq3:=hq2.1.1
    have:pgC13 (cpyS s to i k).1.C q.1 q.2=pgC13 s.C q.1 q.2:=by unfold pgC13;rw [U.oth q.1 (by have:=hq2.2;omega)]
    rw [this]
end
end Go.Proofs.YtbaojfchlhlaeaaGreat.Vc
namespace Go.Proofs.YtbaojfchlhlaeaaGreat.Vc
open Go Go.Eng Go.RowKit
def hdX (X:List (SlP Ce)) (m:Int) (j:Nat):Option Hh:=match (getX X m).l[j]? with | some c=>if c.has=true then some c.s.h else none | none=>none
def PGI (T:Hh→List Int) (s:SD):Prop:=∀ (m:Int) (j:Nat) (c:Ce),(0≤m∧m<4)→(getX s.X m).l[j]? = some c→c.has=true→pgC13 s.C c.s.b c.s.p=T c.s.h∧cpB s.C.g (T c.s.h)=T c.s.h
section
variable {g:Geo} {n:Nat} {s t:SD} {T:Hh→List Int}
theorem PGI.of (h:PGI T s) (hX:t.X=s.X) (hg:t.C.g=s.C.g) (hp:∀ k,1≤cntX s.X k→pgC13 t.C k.1 k.2=pgC13 s.C k.1 k.2) (h4:s.X.length=4):PGI T t:=fun m j c hm hj hc=>by
 rw [hX] at hj
 obtain ⟨a,b⟩:=h m j c hm hj hc
 rw [hg]
 exact ⟨(hp c.pl (cntX_pos h4 hm hj hc)).trans a,b⟩
theorem NI.spo (h:NI g n s) {b:Int} (hb:0≤b∧b<(n:Int)) (h0:(gx s.L b.toNat).li=0) (hf:nfr s b) (hba:(gx s.L b.toNat).ba=false) (ho:s.C.ops+2≤1000000000000) :
  NI g n (spoP s b).1∧((spoP s b).2=0∨((spoP s b).2=15∧(spoP s b).1.ro=true))∧Gro n (-1) s.L (spoP s b).1.L∧(gx (spoP s b).1.L b.toNat).ba=true∧(gx (spoP s b).1.L b.toNat).he=false∧((spoP s b).2=0→(spoP s b).1.ro=false∧s.ro=false∧bads (spoP s b).1.L≤(spoP s b).1.C.g.sp) ∧
  (∀ m:Int,m.toNat≠(4+b).toNat→blkC (spoP s b).1.C m=blkC s.C m):=by
 have hln:=h.i.ln
 have h1:=h.i.f b
 have g1:=chS_gx h.i b fB
 have h2:=h1.i.r b (fun _=>by rw [g1,if_pos ⟨hb,rfl⟩];exact h0) hf
 have g2:=chS_gx h1.i b rB
 have c1:CI n (-1) s.C (chL b n fB s.L):=h.c.ch hln b fun _ _ k=>k.f
 have c2:CI n (-1) s.C (chL b n rB (chL b n fB s.L)):=c1.ch ((chL_len ..).trans hln) b fun _ _ k=>k.r
 have eL:(chS (chS s b fB) b rB).L=chL b n rB (chL b n fB s.L):=by
  show chL b (chL b s.L.length fB s.L).length rB (chL b s.L.length fB s.L)=_
  rw [chL_len,hln]
 have N2:NI g n (chS (chS s b fB) b rB):=⟨h2.i,c2.of rfl eL⟩
 have gb:gx (chS (chS s b fB) b rB).L b.toNat=rB (fB (gx s.L b.toNat)):=by rw [g2,if_pos ⟨hb,rfl⟩,g1,if_pos ⟨hb,rfl⟩]
 have G:Gro n (-1) s.L (chS (chS s b fB) b rB).L:=by
  rw [eL]
  exact (Gro.ch hln b (φ:=fB) (fun _ _=>rfl) (fun _ k=>k)).trans (Gro.ch ((chL_len ..).trans hln) b (φ:=rB) (fun _ k=>k) (fun _ k=>(by cases k)))
 obtain ⟨d1,d2,d3,d4,d5,d6,d7⟩:=N2.dst hb (by rw [gb];rfl) ho
 have bab:(gx (dstS (chS (chS s b fB) b rB) b).1.L b.toNat).ba=true:=d3.ba b.toNat (by omega) (by rw [gb];rfl)
 have oth:∀ m:Int,m.toNat≠(4+b).toNat→blkC (dstS (chS (chS s b fB) b rB) b).1.C m=blkC s.C m:=fun m hm=>by
  have e:dstS (chS (chS s b fB) b rB) b=((overP {chS (chS s b fB) b rB with C:=(dstP s.C (chS (chS s b fB) b rB).L b).1,L:=(dstP s.C (chS (chS s b fB) b rB).L b).2.1}).1,(dstP s.C (chS (chS s b fB) b rB).L b).2.2):=by unfold dstS;rw [if_pos (by rw [h2.i.ln];exact hb)];rfl
  rw [e]
  have k:=(over_f {chS (chS s b fB) b rB with C:=(dstP s.C (chS (chS s b fB) b rB).L b).1,L:=(dstP s.C (chS (chS s b fB) b rB).L b).2.1}).1
  show blkC (overP {chS (chS s b fB) b rB with C:=(dstP s.C (chS (chS s b fB) b rB).L b).1,L:=(dstP s.C (chS (chS s b fB) b rB).L b).2.1}).1.C m=_
  rw [k]
  show blkC (dstP s.C _ b).1 m=_
  unfold dstP
  split
  ·split
   ·exact (scr_oth _ _ hm).trans (era_oth _ _ hm)
   ·exact (scr_oth _ _ hm).trans (era_oth _ _ hm)
  ·exact era_oth _ _ hm
 have e:spoP s b=overP (dstS (chS (chS s b fB) b rB) b).1:=by
  unfold spoP
  rw [if_neg (by omega)]
 rw [e]
 have k:=over_f (dstS (chS (chS s b fB) b rB) b).1
 refine ⟨d1.over,?_,by rw [k.2.1];exact G.trans d3,by rw [k.2.1];exact bab,by rw [k.2.1];exact d5,fun e0=>?_,fun m hm=>by rw [k.1];exact oth m hm⟩
 ·rcases over_e (dstS (chS (chS s b fB) b rB) b).1 with ⟨a1,-⟩ | a
  ·exact .inl a1
  ·exact .inr a
 ·rcases over_e (dstS (chS (chS s b fB) b rB) b).1 with ⟨a1,a2,a3,a4⟩ | ⟨a1,-⟩
  ·rw [a2];exact ⟨a3,d7 a3,a4⟩
  ·omega
end
end Go.Proofs.YtbaojfchlhlaeaaGreat.Vc
namespace Go.Proofs.YtbaojfchlhlaeaaGreat.Vc
open Go Go.Eng Go.RowKit
section
variable {g:Geo} {n:Nat} {s t:SD} {T:Hh→List Int}
theorem dst_blk (C:CD) (L:List Blk) (b:Int) {m:Int} (hm:m.toNat≠(4+b).toNat):blkC (dstP C L b).1 m=blkC C m:=by
 unfold dstP
 split
 ·split
  ·exact (scr_oth _ _ hm).trans (era_oth _ _ hm)
  ·exact (scr_oth _ _ hm).trans (era_oth _ _ hm)
 ·exact era_oth _ _ hm
theorem fst_blk (C:CD) (b:Int) (h:Hd) (sl:Bool) {m:Int} (hm:m.toNat≠(4+b).toNat):blkC (fstP C b h sl).1 m=blkC C m:=by
 unfold fstP selP
 split
 ·exact (prog_oth _ _ _ _ hm).trans (prog_oth _ _ _ _ hm)
 ·exact prog_oth _ _ _ _ hm
theorem opn_fr {ns:Int} {o:Hd} {sl:Bool}:∀ (k:Nat) {C:CD} {L:List Blk} {O:List Hd},L.length=n→∀ i,i<n→(gx L i).he=true→blkC (opnP ns o sl k C L O).1.1 (4+(i:Int))=blkC C (4+(i:Int))
 | 0,C,L,O,_,i,_,_=>rfl
 | k+1,C,L,O,hl,i,hi,he=>by
  unfold opnP
  by_cases hlt:pickT L L.length<0
  ·rw [if_pos hlt]
  rw [if_neg hlt]
  obtain ⟨hf,-⟩:=pick_free (L:=L) (by omega)
  generalize pickT L L.length=b at hlt hf ⊢
  have hne:i≠b.toNat:=fun e=>by rw [e,hf] at he;cases he
  have hm:(4+(i:Int)).toNat≠(4+b).toNat:=by omega
  rw [hl]
  have hX:∃ C1 L1 e1,(if (gx L b.toNat).cl=true then (C,L,(0:Int)) else dstP C L b)=(C1,L1,e1)∧L1.length=n∧gx L1 i=gx L i∧blkC C1 (4+(i:Int))=blkC C (4+(i:Int)):=by
   split
   ·exact ⟨C,L,0,rfl,hl,rfl,rfl⟩
   ·refine ⟨(dstP C L b).1,(dstP C L b).2.1,(dstP C L b).2.2,rfl,?_,dst_oth C hl b hne,dst_blk C L b hm⟩
    rcases dst_L C hl b with e | e | e | ⟨m,e⟩ <;> rw [e]
    ·exact hl
    ·rw [chL_len];exact hl
    ·rw [chL_len];exact hl
    ·rw [chL_len,chL_len];exact hl
  obtain ⟨C1,L1,e1,hq,l1,g1,b1⟩:=hX
  rw [hq]
  dsimp only
  split
  ·have hB:∃ C2 L2 O2 e2,begP C1 L1 O b ns o sl=(C2,L2,O2,e2)∧L2.length=n∧gx L2 i=gx L i∧blkC C2 (4+(i:Int))=blkC C (4+(i:Int)):=by
    unfold begP
    split
    ·exact ⟨_,_,_,_,rfl,by rw [chL_len];exact l1,(ch_oth rfl _ hne).trans g1,(fst_blk C1 b _ sl hm).trans b1⟩
    ·exact ⟨_,_,_,_,rfl,l1,g1,(fst_blk C1 b _ sl hm).trans b1⟩
   obtain ⟨C2,L2,O2,e2,hq2,l2,g2,b2⟩:=hB
   rw [hq2]
   dsimp only
   split
   ·exact b2
   ·split
    ·exact b2
    ·have l3:(chL b n fB L2).length=n:=by rw [chL_len];exact l2
     have g3:gx (chL b n fB L2) i=gx L i:=(ch_oth l2 _ hne).trans g2
     have l4:(dstP C2 (chL b n fB L2) b).2.1.length=n:=by
      rcases dst_L C2 l3 b with e | e | e | ⟨m,e⟩ <;> rw [e]
      ·exact l3
      ·rw [chL_len];exact l3
      ·rw [chL_len];exact l3
      ·rw [chL_len,chL_len];exact l3
     have g4:=(dst_oth C2 l3 b hne).trans g3
     have b4:=(dst_blk C2 (chL b n fB L2) b hm).trans b2
     split
     ·exact b4
     ·exact (opn_fr k l4 i hi (by rw [g4];exact he)).trans b4
  ·split
   ·exact b1
   ·exact (opn_fr k l1 i hi (by rw [g1];exact he)).trans b1
theorem mov_fld (s:SD) (b to ns:Int) (l:List (Int×Int)):(movP s b to ns l).C=s.C∧(movP s b to ns l).L=chL b s.L.length rB (chL to s.L.length (cB (l.length:Int)) s.L)∧(movP s b to ns l).X=movL to (ordO s.O to).hh l 1 s.X∧(movP s b to ns l).ro=s.ro:=by
 have e:(chL to s.L.length (cB (l.length:Int)) s.L).length=s.L.length:=chL_len ..
 unfold movP
 dsimp only
 split
 ·refine ⟨rfl,?_,rfl,rfl⟩
  show chL b (chL to s.L.length (cB (l.length:Int)) s.L).length rB _=_
  rw [e]
  rfl
 ·refine ⟨rfl,?_,rfl,rfl⟩
  show chL b (chL to s.L.length (cB (l.length:Int)) s.L).length rB _=_
  rw [e]
  rfl
theorem mov_hd (h:SI g n s) {b to ns:Int} (ht:0≤to∧to<(n:Int)) (hne:b≠to) (hl0:(gx s.L to.toNat).li=0) (hcp:∀ (j:Nat) (k:Int×Int),(inP s.X (4+b))[j]? = some k→pgC13 s.C (4+to) (1+(j:Int))=cpB s.C.g (pgC13 s.C k.1 k.2)) :
  (PGI T s→PGI T (movP s b to ns (inP s.X (4+b))))∧∀ m j,hdX (movP s b to ns (inP s.X (4+b))).X m j=hdX s.X m j:=by
 have hnd:=so_nd (inP_so s.X (4+b))
 have hmem:=fun k=>inP_mem (X:=s.X) (bl:=4+b) (k:=k)
 obtain ⟨e1,-,e3,-⟩:=mov_fld s b to ns (inP s.X (4+b))
 generalize inP s.X (4+b)=l at hcp hnd hmem e1 e3 ⊢
 have hto:∀ k∈l,k.1≠4+to:=fun k hk e=>by have:=((hmem k).1 hk).1;omega
 have hz:∀ j,1≤j→cntX s.X (4+to,j)=0:=fun j hj=>by
  have:=h.l.none ht hl0 (k:=(4+to,j)) rfl
  have:=(cntX_le h.xo (4+to,j)).1
  omega
 obtain ⟨-,a2,-⟩:=movL_all to (ordO s.O to).hh l 1 h.xo hnd hto hz
 refine ⟨fun hT m j c hm hj hc=>?_,fun m j=>?_⟩
 ·rw [e3,a2] at hj
  rw [e1]
  dsimp only at hj
  rw [List.getElem?_map] at hj
  cases hq:(getX s.X m).l[j]? with
  | none=>rw [hq] at hj;cases hj
  | some c0=>
   rw [hq] at hj
   have hj:movF to (ordO s.O to).hh l 1 c0=c:=Option.some.inj hj
   rcases movF_is to (ordO s.O to).hh l 1 c0 hnd hto with ⟨k1,k2,mm,k3,k4⟩ | ⟨k1,k2⟩
   ·rw [k4] at hj
    obtain ⟨t1,t2⟩:=hT m j c0 hm hq k1
    have:=hcp mm c0.pl k3
    subst hj
    dsimp only
    refine ⟨?_,t2⟩
    rw [this]
    show cpB s.C.g (pgC13 s.C c0.s.b c0.s.p)=_
    rw [t1]
    exact t2
   ·rw [k2] at hj
    subst hj
    exact hT m j c0 hm hq hc
 ·unfold hdX
  rw [e3,a2]
  dsimp only
  rw [List.getElem?_map]
  cases hq:(getX s.X m).l[j]? with
  | none=>rfl
  | some c0=>
   show (if (movF to (ordO s.O to).hh l 1 c0).has=true then some (movF to (ordO s.O to).hh l 1 c0).s.h else none)=(if c0.has=true then some c0.s.h else none)
   rcases movF_is to (ordO s.O to).hh l 1 c0 hnd hto with ⟨k1,k2,mm,k3,k4⟩ | ⟨k1,k2⟩
   ·rw [k4,if_pos k1,if_pos rfl]
   ·rw [k2]
structure EmN (g:Geo) (n:Nat) (T:Hh→List Int) (s t:SD) (b ns e:Int):Prop where
 ci:CI n (-1) t.C t.L
 ee:e=0∨(e=15∧t.ro=true)
 ba:∀ i,i<n→(gx s.L i).ba=true→(gx t.L i).ba=true
 hd:e=0→∀ m,manyT t.L (ownB m) n≤manyT s.L (ownB m) n+(if m=ns∧(gx s.L b.toNat).ba=true then 1 else 0)
 pg:PGI T s→PGI T t
 hx:∀ m j,hdX t.X m j=hdX s.X m j
 ro:e=0→t.ro=s.ro
 hb:e=0→∀ i,i<n→(gx t.L i).he=true→(gx t.L i).ba=true→(gx s.L i).he=true∧(gx s.L i).ba=true∧i≠b.toNat
theorem NI.empL {b ns:Int} {l:List (Int×Int)}:∀ (k:Nat) {s:SD},EmI g n s b ns l→CI n (-1) s.C s.L→l≠[]→(61:Int)≤(k:Int)+bads s.L→s.C.ops+eC k≤1000000000000→EmN g n T s (empL b ns l k s).1 b ns (empL b ns l k s).2
 | 0,s,h,hc,hl,hk,_=>by
  exfalso
  have h1:=(manyT_bd (L:=s.L) (m:=fun x=>x.ba) s.L.length).2
  have h2:=h.i.ln
  have h3:=h.i.no.1
  have:bads s.L=manyT s.L (fun x=>x.ba) s.L.length:=rfl
  omega
 | k+1,s,h,hc,hl,hk,ho=>by
  have hec:=eCs k
  have hN:NI g n s:=⟨h.i,hc⟩
  have hln:=h.i.ln
  obtain ⟨h1,x1,f1,k1,b1⟩:=h.i.beg h.hn (sl:=false) (by omega)
  obtain ⟨N1,ee1,no1,ok1,ro1⟩:=hN.opn h.hn false (by omega)
  have fr1:∀ i,i<n→(gx s.L i).he=true→blkC (opnS ns false s).1.C (4+(i:Int))=blkC s.C (4+(i:Int)):=fun i hi hh=>by
   have e:opC ns ⟨0,0,0,0,s.ep,u64w (s.op+1)⟩ false s.C s.L s.O=opnP ns ⟨0,0,0,0,s.ep,u64w (s.op+1)⟩ false 128 s.C s.L s.O:=if_pos h.hn
   show blkC (opC ns ⟨0,0,0,0,s.ep,u64w (s.op+1)⟩ false s.C s.L s.O).1.1 _=_
   rw [e]
   exact opn_fr 128 hln i hi hh
  have lf:=left_f (opnS ns false s).1 (opnS ns false s).2.2
  have le:=left_e (opnS ns false s).1 ee1
  have N2:=N1.left (opnS ns false s).2.2
  have live:∀ q,1≤cntX s.X q→((q.1-4).toNat<n∧4+(((q.1-4).toNat:Nat):Int)=q.1)∧(gx s.L (q.1-4).toNat).he=true:=fun q hq=>by
   have hb:=(h.i.l.xb q hq).1
   refine ⟨⟨by omega,by omega⟩,h.i.l.he _ (by omega) fun h0=>?_⟩
   exact h.i.l.none (b:=q.1-4) (by omega) h0 (k:=q) (by omega) hq
  have pg1:PGI T s→PGI T (leftP (opnS ns false s).1 (opnS ns false s).2.2).1:=fun hT=>by
   refine hT.of x1 (by rw [N2.i.pi.gg,h.i.pi.gg]) (fun q hq=>?_) h.i.xo.four
   obtain ⟨⟨q1,q2⟩,q3⟩:=live q hq
   have:=fr1 _ q1 q3
   rw [q2] at this
   unfold pgC13
   rw [lf.1,this]
  unfold Vc.empL
  dsimp only
  generalize opnS ns false s=r at h1 x1 f1 k1 b1 N1 ee1 no1 ok1 ro1 lf le N2 pg1 ⊢
  obtain ⟨r1,to,e⟩:=r
  dsimp only at h1 x1 f1 k1 b1 N1 ee1 no1 ok1 ro1 lf le N2 pg1 ⊢
  have o1:=h1.o2
  rcases le with ⟨le1,le2,le3,le4,le5⟩ | ⟨le1,le2⟩
  case inr=>
   rw [if_pos (by omega)]
   dsimp only
   have baf:∀ i,i<n→(gx s.L i).ba=true→(gx (leftP r1 e).1.L i).ba=true:=fun i hi a=>by
    rw [lf.2.1]
    rcases ee1 with e0 | e19
    ·exact (ok1 e0).1.ba i hi a
    ·exact (no1 (by omega)).ba i hi a
   split
   ·refine ⟨?_,.inr ⟨le1,le2⟩,fun i hi a=>?_,fun k=>by omega,fun hT=>(pg1 hT).of rfl rfl (fun _ _=>rfl) N2.i.xo.four,fun m j=>by show hdX (leftP r1 e).1.X m j=_;rw [x1],fun k=>by omega,fun k=>by omega⟩
    ·have:=N2.c.ch N2.i.ln to (φ:=rB) fun _ _ k=>k.r
     refine this.of rfl ?_
     show chL to (leftP r1 e).1.L.length rB _=_
     rw [N2.i.ln]
    ·show (gx (chL to (leftP r1 e).1.L.length rB (leftP r1 e).1.L) i).ba=true
     rw [gx_ch rfl]
     split
     ·exact baf i hi a
     ·exact baf i hi a
   ·exact ⟨N2.c,.inr ⟨le1,le2⟩,baf,fun k=>by omega,pg1,fun m j=>by rw [x1],fun k=>by omega,fun k=>by omega⟩
  rw [if_neg (by omega)]
  rw [le3] at h1 x1 f1 k1 b1 N2 pg1 o1 ⊢
  subst le2
  have hB:=b1 rfl
  obtain ⟨y,hy,hyb⟩:=hB.y
  obtain ⟨G1,Bg⟩:=ok1 rfl
  have ht:=hB.ht
  have hb:=h.hb
  have hlen2:=h.i.l.len (4+b)
  rw [h.l] at hlen2
  have hlen:=l32 h.i.l (4+b)
  rw [h.l] at hlen
  obtain ⟨a1,hne,e1,nf1,l0,mv⟩:=h.cop h1.i x1 f1 k1 hB (by omega)
  obtain ⟨-,c2,c3,-,-,c5,c6,c7,c8,-,c10,c11⟩:=SI.cop ht l 1 h1.i (by rw [hy];show (0:Int)+_≤_;omega) (by omega)
  have hsrc:∀ q∈l,inC r1.C q.1 q.2∧q.1≠4+to:=fun q hq=>by
   rw [←h.l] at hq
   obtain ⟨q1,q2,q3⟩:=inP_mem.1 hq
   have q4:=(h.i.l.xb q q3).2
   have hnn:=h.i.pi.nn
   exact ⟨by unfold inC;rw [N2.i.pi.gg];omega,by omega⟩
  have K:=NI.cop ht l 1 N2 (by rw [hy];rfl) (by rw [hy];exact hyb) (by rw [Bg.us 0];rfl) (by rw [hy];rfl) (by rw [hy];show (0:Int)+_≤_;omega) hsrc (by omega)
  have pg2:PGI T s→PGI T (copP to l 1 r1).1:=fun hT=>by
   refine (pg1 hT).of c2 (by rw [e1.i.pi.gg,N2.i.pi.gg]) (fun q hq=>?_) N2.i.xo.four
   have hq2:=(N2.i.l.xb q hq).1
   have hne2:q.1≠4+to:=fun e=>N2.i.l.none ht (by rw [hy];rfl) (k:=q) e hq
   unfold pgC13
   rw [K.oth q.1 (by omega)]
  have ow:∀ i,i<n→i≠to.toNat→(gx (copP to l 1 r1).1.L i).he=true→gx (copP to l 1 r1).1.L i=gx s.L i:=fun i hi hne2 hh=>by
   rw [c6 i hne2] at hh ⊢
   exact k1 i hi (G1.he i hi (by omega) hh)
  have bac:∀ i,i<n→(gx s.L i).ba=true→(gx (copP to l 1 r1).1.L i).ba=true:=fun i hi a=>by
   by_cases e2:i=to.toNat
   ·subst e2;rw [c10];exact G1.ba _ hi a
   ·rw [c6 i e2];exact G1.ba i hi a
  have bat:(gx s.L to.toNat).ba=false:=by
   cases e2:(gx s.L to.toNat).ba
   ·rfl
   ·have:=G1.ba to.toNat (by omega) e2
    rw [hy] at this
    rw [show (Vc.hB ns y).ba=y.ba from rfl,hyb] at this
    cases this
  generalize copP to l 1 r1=c at a1 e1 nf1 l0 mv c2 c3 c5 c6 c7 c8 c10 c11 K pg2 ow bac ⊢
  obtain ⟨c1,ce⟩:=c
  dsimp only at a1 e1 nf1 l0 mv c2 c3 c5 c6 c7 c8 c10 c11 K pg2 ow bac ⊢
  have o2:=a1.o2
  have gb:gx c1.L b.toNat=gx s.L b.toNat:=ow b.toNat (by omega) (by omega) e1.he
  have lc:c1.L.length=n:=e1.i.ln
  have hro:s.ro=false:=ro1.symm.trans le4
  by_cases hc0:ce=0
  ·rw [if_pos hc0]
   dsimp only
   obtain ⟨m1,m2,m3,m4⟩:=mov_fld c1 b to ns l
   have hcp:∀ (j:Nat) (q:Int×Int),(inP c1.X (4+b))[j]? = some q→pgC13 c1.C (4+to) (1+(j:Int))=cpB c1.C.g (pgC13 c1.C q.1 q.2):=fun j q hq=>by
    rw [e1.l] at hq
    have hs:=hsrc q (List.mem_of_getElem? hq)
    rw [K.ok hc0 j q hq,e1.i.pi.gg]
    congr 1
    unfold pgC13
    rw [K.oth q.1 (by have:=hs.1.1;omega)]
   obtain ⟨p1,p2⟩:=mov_hd (T:=T) (ns:=ns) e1.i ht (fun e=>hne e.symm) l0 hcp
   rw [e1.l] at p1 p2
   have eL:(movP c1 b to ns l).L=chL b n rB (chL to n (cB (l.length:Int)) c1.L):=by rw [m2,lc]
   have l1':(chL to n (cB (l.length:Int)) c1.L).length=n:=by rw [chL_len];exact lc
   have gi:∀ i,i≠b.toNat→i≠to.toNat→gx (movP c1 b to ns l).L i=gx c1.L i:=fun i h1 h2=>by rw [eL,gx_ne l1' h1,gx_ne lc h2]
   have gB:gx (movP c1 b to ns l).L b.toNat=rB (gx c1.L b.toNat):=by rw [eL,gx_eq l1' hb,gx_ne lc (by omega)]
   have gT:gx (movP c1 b to ns l).L to.toNat=cB (l.length:Int) (gx c1.L to.toNat):=by rw [eL,gx_ne l1' (by omega),gx_eq lc ht]
   refine ⟨?_,.inl rfl,fun i hi a=>?_,fun _ m=>?_,fun hT=>p1 (pg2 hT),fun m j=>by rw [p2,c2,x1],fun _=>by rw [m4,c5,hro];exact le4,fun _ i hi h1 h2=>?_⟩
   ·refine ((K.ci.ch lc to (φ:=cB (l.length:Int)) fun _ _ k=>k.c _).ch l1' b (φ:=rB) fun _ _ k=>k.r).of m1 eL
   ·by_cases e2:i=b.toNat
    ·rw [e2,gB];show (gx c1.L b.toNat).ba=true;rw [←e2];exact bac i hi a
    ·by_cases e3:i=to.toNat
     ·rw [e3,gT];show (gx c1.L to.toNat).ba=true;rw [←e3];exact bac i hi a
     ·rw [gi i e2 e3];exact bac i hi a
   ·have g0:gx (chL b n rB s.L) b.toNat=rB (gx s.L b.toNat):=gx_eq hln hb
    have pt:∀ i,i<n→i≠to.toNat→ownB m (gx (movP c1 b to ns l).L i)=true→ownB m (gx (chL b n rB s.L) i)=true:=fun i hi h2 h3=>by
     by_cases e2:i=b.toNat
     ·rw [e2,gB] at h3;cases h3
     ·rw [gi i e2 h2] at h3
      have hh:(gx c1.L i).he=true:=by
       unfold ownB at h3
       rw [Bool.and_eq_true,Bool.and_eq_true] at h3
       exact h3.1.1
      rw [gx_ne hln e2,← ow i hi h2 hh]
      exact h3
    have lt0:manyT (chL b n rB s.L) (ownB m) n≤manyT s.L (ownB m) n:=manyT_le n fun i hi h3=>by
     by_cases e2:i=b.toNat
     ·rw [e2,g0] at h3;cases h3
     ·rw [gx_ne hln e2] at h3;exact h3
    by_cases em:m=ns
    ·have up:=manyT_up (L:=chL b n rB s.L) (L':=(movP c1 b to ns l).L) (m:=ownB m) (b:=to.toNat) n fun i hi h2 h3=>pt i hi h2 h3
     cases hbb:(gx s.L b.toNat).ba
     ·rw [if_neg (fun k=>by cases k.2)]
      have:=manyT_lt (L:=chL b n rB s.L) (L':=s.L) (m:=ownB m) (b:=b.toNat) n (by omega) (fun i hi h3=>by
       by_cases e2:i=b.toNat
       ·rw [e2,g0] at h3;cases h3
       ·rw [gx_ne hln e2] at h3;exact h3) (by rw [g0];rfl) (by unfold ownB;rw [h.he,hbb,h.ow,em];simp)
      omega
     ·rw [if_pos ⟨em,rfl⟩];omega
    ·rw [if_neg (fun k=>em k.1)]
     have:=manyT_le (L:=chL b n rB s.L) (L':=(movP c1 b to ns l).L) (m:=ownB m) (m':=ownB m) n fun i hi h3=>by
      by_cases e2:i=to.toNat
      ·exfalso
       rw [e2,gT] at h3
       unfold ownB at h3
       rw [Bool.and_eq_true] at h3
       have h4:(gx c1.L to.toNat).ow=m:=eq_of_beq h3.2
       rw [c8,hy] at h4
       exact em h4.symm
      ·exact pt i hi e2 h3
     omega
   ·by_cases e2:i=b.toNat
    ·rw [e2,gB] at h1;cases h1
    ·by_cases e3:i=to.toNat
     ·rw [e3,gT] at h2
      have h2:(gx c1.L to.toNat).ba=true:=h2
      rw [c10,hy] at h2
      rw [show (Vc.hB ns y).ba=y.ba from rfl,hyb] at h2
      cases h2
     ·rw [gi i e2 e3] at h1 h2
      rw [←ow i hi e3 h1]
      exact ⟨h1,h2,e2⟩
  rw [if_neg hc0]
  have hc5:ce=5:=K.ee.resolve_left hc0
  rw [if_pos hc5]
  have N3:NI g n c1:=⟨e1.i,K.ci⟩
  obtain ⟨s1,sx,sf,sg⟩:=e1.i.spo ht l0 nf1 (by omega)
  obtain ⟨u1,u2,u3,u4,u5,u6,u7⟩:=N3.spo ht l0 nf1 (by rw [c10,hy];exact hyb) (by omega)
  have pg3:PGI T s→PGI T (spoP c1 to).1:=fun hT=>by
   refine (pg2 hT).of sx (by rw [u1.i.pi.gg,e1.i.pi.gg]) (fun q hq=>?_) e1.i.xo.four
   have hq2:=(e1.i.l.xb q hq).1
   have hne2:q.1≠4+to:=fun e=>e1.i.l.none ht l0 (k:=q) e hq
   unfold pgC13
   rw [u7 q.1 (by omega)]
  have ba3:∀ i,i<n→(gx s.L i).ba=true→(gx (spoP c1 to).1.L i).ba=true:=fun i hi a=>u3.ba i hi (bac i hi a)
  by_cases hs:(spoP c1 to).2≠0
  ·rw [if_pos hs]
   exact ⟨u1.c,.inr (u2.resolve_left hs),ba3,fun k=>absurd k hs,pg3,fun m j=>by rw [sx,c2,x1],fun k=>absurd k hs,fun k=>absurd k hs⟩
  rw [if_neg hs]
  have hs0:(spoP c1 to).2=0:=by omega
  have hbt:b.toNat≠to.toNat:=by omega
  have e2:EmI g n (spoP c1 to).1 b ns l:=⟨s1.i,h.hn,h.hb,by rw [sx];exact e1.l,by rw [sg _ hbt];exact e1.he,by rw [sg _ hbt];exact e1.ow,nfr_fr e1.nf sf⟩
  have o3:=s1.o2
  have hbd:bads s.L+1≤bads (spoP c1 to).1.L:=by
   show manyT s.L (fun x=>x.ba) s.L.length+1≤manyT (spoP c1 to).1.L (fun x=>x.ba) (spoP c1 to).1.L.length
   rw [hln,s1.i.ln]
   exact manyT_lt (b:=to.toNat) n (by omega) (fun i hi a=>ba3 i hi a) bat u4
  have R:=NI.empL k e2 u1.c hl (by push_cast at hk;omega) (by omega)
  have gb3:gx (spoP c1 to).1.L b.toNat=gx s.L b.toNat:=by rw [sg _ hbt,gb]
  refine ⟨R.ci,R.ee,fun i hi a=>R.ba i hi (ba3 i hi a),fun k m=>?_,fun hT=>R.pg (pg3 hT),fun m j=>by rw [R.hx,sx,c2,x1],fun k=>(R.ro k).trans ((u6 hs0).1.trans hro.symm),fun k i hi h1 h2=>?_⟩
  rotate_left
  ·obtain ⟨v1,v2,v3⟩:=R.hb k i hi h1 h2
   by_cases e3:i=to.toNat
   ·rw [e3,u5] at v1;cases v1
   ·rw [sg i e3] at v1 v2
    rw [←ow i hi e3 v1]
    exact ⟨v1,v2,v3⟩
  have hd:=R.hd k m
  rw [gb3] at hd
  have le3:manyT (spoP c1 to).1.L (ownB m) n≤manyT s.L (ownB m) n:=manyT_le n fun i hi h3=>by
   by_cases e3:i=to.toNat
   ·exfalso
    subst e3
    unfold ownB at h3
    rw [u5] at h3
    cases h3
   ·rw [sg i e3] at h3
    have hh:(gx c1.L i).he=true:=by
     unfold ownB at h3
     rw [Bool.and_eq_true,Bool.and_eq_true] at h3
     exact h3.1.1
    rw [←ow i hi e3 hh]
    exact h3
  omega
end
end Go.Proofs.YtbaojfchlhlaeaaGreat.Vc
namespace Go.Proofs.YtbaojfchlhlaeaaGreat.Vc
open Go Go.Eng Go.RowKit
def capS (s:SD) (m:Int):Int:=if (getX s.X m).n=0 then 0 else quoS s m-1
def GD (n:Nat) (s:SD):Prop:=s.ro=false→(∀ i,i<n→(gx s.L i).he=true→(gx s.L i).ba=false)∧∀ m,manyT s.L (ownB m) n≤capS s m
section
variable {g:Geo} {n:Nat} {s t u:SD} {T:Hh→List Int} {b ns e:Int}
structure StN (g:Geo) (n:Nat) (T:Hh→List Int) (s t:SD):Prop where
 ci:CI n (-1) t.C t.L
 ba:∀ i,i<n→(gx s.L i).ba=true→(gx t.L i).ba=true
 pg:PGI T s→PGI T t
 hx:∀ m j,hdX t.X m j=hdX s.X m j
 gd:GD n s→GD n t
 ro:t.ro=false→s.ro=false
theorem StN.refl (h:NI g n s):StN g n T s s:=⟨h.c,fun _ _ h=>h,fun h=>h,fun _ _=>rfl,fun h=>h,fun h=>h⟩
theorem StN.trans (h:StN g n T s t) (k:StN g n T t u):StN g n T s u:=⟨k.ci,fun i hi a=>k.ba i hi (h.ba i hi a),fun a=>k.pg (h.pg a),fun m j=>(k.hx m j).trans (h.hx m j),fun a=>k.gd (h.gd a),fun a=>h.ro (k.ro a)⟩
theorem cap_eq (h:SI g n s) (k:SI g n t) (hz:∀ ns,(getX t.X ns).n=(getX s.X ns).n) (m:Int):capS t m=capS s m:=by
 unfold capS quoS
 rw [hz,h.pi.gg,k.pi.gg]
theorem own_mk {x y:Blk} {m:Int} (h:ownB m x=true) (h1:y.he=x.he) (h2:y.ba=x.ba) (h3:y.ow=x.ow):ownB m y=true:=by
 unfold ownB at h ⊢
 rw [h1,h2,h3]
 exact h
theorem own_he {x:Blk} {m:Int} (h:ownB m x=true):x.he=true:=(own_is h).1
theorem GD.sub (h:GD n s) (hc:∀ m,capS t m=capS s m) (hr:t.ro=false→s.ro=false) (hk:∀ i,i<n→(gx t.L i).he=true→(gx s.L i).he=true∧(gx t.L i).ba=(gx s.L i).ba∧(gx t.L i).ow=(gx s.L i).ow):GD n t:=fun h0=>by
 obtain ⟨a,c⟩:=h (hr h0)
 refine ⟨fun i hi hh=>?_,fun m=>?_⟩
 ·obtain ⟨k1,k2,-⟩:=hk i hi hh
  rw [k2];exact a i hi k1
 ·rw [hc]
  refine Int.le_trans (manyT_le n fun i hi ho=>?_) (c m)
  obtain ⟨k1,k2,k3⟩:=hk i hi (own_he ho)
  exact own_mk ho (k1.trans (own_he ho).symm) k2.symm k3.symm
theorem EmN.fs0 (k:EmN g n T (Vc.fs0 s ns b) t b ns e):EmN g n T s t b ns e:=by
 unfold Vc.fs0 at k
 split at k
 ·exact ⟨k.ci,k.ee,k.ba,k.hd,k.pg,k.hx,k.ro,k.hb⟩
 ·exact k
theorem rel_sub (h:SI g n s) (b:Int):∀ i,i<n→(gx (chS s b rB).L i).he=true→(gx s.L i).he=true∧(gx (chS s b rB).L i).ba=(gx s.L i).ba∧(gx (chS s b rB).L i).ow=(gx s.L i).ow∧(0≤b∧b<(n:Int)→i≠b.toNat):=fun i hi hh=>by
 have gg:=chS_gx h b rB
 rw [gg] at hh ⊢
 split at hh
 ·cases hh
 ·rename_i e
  rw [if_neg e]
  exact ⟨hh,rfl,rfl,fun h0 k=>e ⟨h0,k⟩⟩
theorem NI.rel0 (h:NI g n s) (b:Int):StN g n T s (chS s b rB):=by
 have hln:=h.i.ln
 have gg:=chS_gx h.i b rB
 refine ⟨(h.c.ch hln b fun _ _ k=>k.r).of rfl (by show chL b s.L.length rB s.L=_;rw [hln]),fun i hi a=>?_,fun k=>k,fun _ _=>rfl,fun hG=>hG.sub (fun _=>rfl) (fun k=>k) fun i hi hh=>?_,fun k=>k⟩
 ·rw [gg];split
  ·exact a
  ·exact a
 ·obtain ⟨k1,k2,k3,-⟩:=rel_sub h.i b i hi hh
  exact ⟨k1,k2,k3⟩
theorem NI.rel (h:NI g n s) (b ns:Int) (hb:0≤b∧b<(n:Int)):EmN g n T s (chS s b rB) b ns 0:=by
 have k:=h.rel0 (T:=T) b
 refine ⟨k.ci,.inl rfl,k.ba,fun _ m=>?_,fun k=>k,fun _ _=>rfl,fun _=>rfl,fun _ i hi h1 h2=>?_⟩
 ·have:=manyT_le (L:=s.L) (L':=(chS s b rB).L) (m:=ownB m) (m':=ownB m) n fun i hi ho=>by
   obtain ⟨k1,k2,k3,-⟩:=rel_sub h.i b i hi (own_he ho)
   exact own_mk ho (k1.trans (own_he ho).symm) k2.symm k3.symm
  split <;> omega
 ·obtain ⟨k1,k2,k3,k4⟩:=rel_sub h.i b i hi h1
  rw [k2] at h2
  exact ⟨k1,h2,k4 hb⟩
theorem NI.emp (h:NI g n s) (hn:0≤ns∧ns<4) (hb:0≤b∧b<(n:Int)) (ho:(gx s.L b.toNat).ow=ns) (hp:s.C.ops+215040≤1000000000000):EmN g n T s (empP s b ns).1 b ns (empP s b ns).2:=by
 obtain ⟨h1,h2,h3,h4,h5⟩:=h.i.fs0 hn (fun _=>ho)
 have N1:NI g n (Vc.fs0 s ns b):=⟨h1.i,h.c.of h5 h3⟩
 have e:empP s b ns=if inP s.X (4+b)=[] then (chS (Vc.fs0 s ns b) b rB,0) else Vc.empL b ns (inP s.X (4+b)) 256 (Vc.fs0 s ns b):=rfl
 rw [e]
 refine EmN.fs0 ?_
 by_cases hl:inP s.X (4+b)=[]
 ·rw [if_pos hl]
  exact N1.rel b ns hb
 ·rw [if_neg hl]
  have hli:(gx s.L b.toNat).li≠0:=by
   rw [h.i.l.li _ (by omega),show 4+((b.toNat:Nat):Int)=4+b by omega]
   intro e
   exact hl (List.length_eq_zero_iff.1 (by omega))
  have E:EmI g n (Vc.fs0 s ns b) b ns (inP s.X (4+b)):=⟨h1.i,hn,hb,by rw [h4],by rw [h3];exact h.i.l.he _ (by omega) hli,by rw [h3];exact ho,h2⟩
  have hec:=eC256
  have hbd:=(manyT_bd (L:=(Vc.fs0 s ns b).L) (m:=fun x=>x.ba) (Vc.fs0 s ns b).L.length).1
  exact NI.empL 256 E N1.c hl (by show _≤_+manyT _ _ _;omega) (by rw [h5];omega)
theorem EmN.st (k:EmN g n T s t b ns e) (hi:SI g n s) (kt:SI g n t) (hz:∀ ns,(getX t.X ns).n=(getX s.X ns).n) (hb:s.ro=false→(gx s.L b.toNat).ba=false):StN g n T s t:=by
 have hr:t.ro=false→e=0:=fun h0=>k.ee.resolve_right fun h1=>by rw [h0] at h1;cases h1.2
 refine ⟨k.ci,k.ba,k.pg,k.hx,fun hG h0=>?_,fun h0=>by rw [←k.ro (hr h0)];exact h0⟩
 have e0:=hr h0
 have r0:s.ro=false:=by rw [←k.ro e0];exact h0
 obtain ⟨a,c⟩:=hG r0
 refine ⟨fun i hi hh=>?_,fun m=>?_⟩
 ·cases hq:(gx t.L i).ba
  ·rfl
  ·obtain ⟨v1,v2,-⟩:=k.hb e0 i hi hh hq
   rw [a i hi v1] at v2;cases v2
 ·have:=k.hd e0 m
  rw [if_neg (fun q=>by rw [hb r0] at q;cases q.2)] at this
  rw [cap_eq hi kt hz]
  have:=c m
  omega
end
end Go.Proofs.YtbaojfchlhlaeaaGreat.Vc
namespace Go.Proofs.YtbaojfchlhlaeaaGreat.Vc
open Go Go.Eng Go.RowKit
section
variable {g:Geo} {n:Nat} {s t u:SD} {T:Hh→List Int} {b ns e:Int}
theorem StN.fr (h:NI g n s) (ns v:Int):StN g n T s (frS s ns v):=⟨h.c,fun _ _ h=>h,fun h=>h,fun _ _=>rfl,fun h=>h,fun h=>h⟩
theorem NI.clos (h:NI g n s) (hn:0≤ns∧ns<4):NI g n (closP s ns)∧StN g n T s (closP s ns):=by
 have N1:NI g n (frS s ns (-1)):=⟨(h.i.frm hn).i,h.c⟩
 have k0:StN g n T s (frS s ns (-1)):=.fr h ns (-1)
 have q:StN g n T s (closP s ns):=by
  unfold closP
  split
  ·exact k0.trans (N1.rel0 (frG s ns))
  ·exact k0
 exact ⟨⟨(h.i.clos hn).i,q.ci⟩,q⟩
theorem over_ro (s:SD) (h:(overP s).1.ro=false):s.ro=false:=by
 unfold overP at h
 split at h
 ·cases h
 ·exact h
theorem roS_ro (s:SD) (e:Int) (h:(roS s e).ro=false):s.ro=false:=by
 unfold roS at h
 split at h
 ·cases h
 ·exact h
theorem StN.ro' (h:NI g n s) (hC:t.C=s.C) (hL:t.L=s.L) (hX:t.X=s.X) (hr:t.ro=false→s.ro=false):StN g n T s t:=by
 refine ⟨h.c.of hC hL,fun i hi a=>by rw [hL];exact a,fun k=>k.of hX (by rw [hC]) (fun _ _=>by unfold pgC13;rw [hC]) h.i.xo.four,fun m j=>by rw [hX],fun hG=>hG.sub (fun m=>by unfold capS quoS;rw [hC,hX]) hr fun i hi hh=>?_,hr⟩
 rw [hL] at hh ⊢
 exact ⟨hh,rfl,rfl⟩
theorem NI.overN (h:NI g n s):StN g n T s (overP s).1:=by
 have k:=over_f s
 exact .ro' h k.1 k.2.1 k.2.2.2.1 (over_ro s)
theorem left_ro (s:SD) (e:Int) (h:(leftP s e).1.ro=false):s.ro=false:=by
 rcases left_is s e with k | k
 ·rw [k] at h;exact h
 ·rw [k] at h;exact roS_ro s e (over_ro _ h)
theorem NI.leftN (h:NI g n s) (e:Int):StN g n T s (leftP s e).1:=by
 have k:=left_f s e
 exact .ro' h k.1 k.2.1 k.2.2.2.1 (left_ro s e)
theorem NI.live (h:NI g n s) {q:Int×Int} (hq:1≤cntX s.X q):((q.1-4).toNat<n∧4+(((q.1-4).toNat:Nat):Int)=q.1)∧(gx s.L (q.1-4).toNat).he=true:=by
 have hb:=(h.i.l.xb q hq).1
 refine ⟨⟨by omega,by omega⟩,h.i.l.he _ (by omega) fun h0=>?_⟩
 exact h.i.l.none (b:=q.1-4) (by omega) h0 (k:=q) (by omega) hq
theorem NI.opnN (h:NI g n s) (hn:0≤ns∧ns<4) (sl:Bool) (ho:s.C.ops+768≤1000000000000) (hq:s.ro=false→manyT s.L (ownB ns) n+1≤capS s ns) :
  NI g n (opnS ns sl s).1∧StN g n T s (opnS ns sl s).1:=by
 obtain ⟨N1,ee1,no1,ok1,ro1⟩:=h.opn hn sl ho
 obtain ⟨h1,q,x1,f1⟩:=h.i.opn hn (sl:=sl) ho
 refine ⟨N1,N1.c,fun i hi a=>?_,fun hT=>?_,fun m j=>by rw [x1],fun hG h0=>?_,fun k=>by rw [←ro1];exact k⟩
 ·rcases ee1 with e0 | e19
  ·exact (ok1 e0).1.ba i hi a
  ·exact (no1 (by omega)).ba i hi a
 ·refine hT.of x1 (by rw [N1.i.pi.gg,h.i.pi.gg]) (fun q hq=>?_) h.i.xo.four
  obtain ⟨⟨q1,q2⟩,q3⟩:=h.live hq
  have e:opC ns ⟨0,0,0,0,s.ep,u64w (s.op+1)⟩ sl s.C s.L s.O=opnP ns ⟨0,0,0,0,s.ep,u64w (s.op+1)⟩ sl 128 s.C s.L s.O:=if_pos hn
  have e2:(opnS ns sl s).1.C=(opnP ns ⟨0,0,0,0,s.ep,u64w (s.op+1)⟩ sl 128 s.C s.L s.O).1.1:=by rw [←e];rfl
  have:=opn_fr (ns:=ns) (o:=⟨0,0,0,0,s.ep,u64w (s.op+1)⟩) (sl:=sl) 128 (C:=s.C) (O:=s.O) h.i.ln _ q1 q3
  rw [q2,← e2] at this
  unfold pgC13
  rw [this]
 ·have r0:s.ro=false:=by rw [←ro1];exact h0
  obtain ⟨a,c⟩:=hG r0
  have hcap:=cap_eq h.i N1.i h1.sz
  rcases ee1 with e0 | e19
  ·obtain ⟨b1,b2,y,b3,b4⟩:=q.ok e0
   have hk:∀ i,i<n→i≠(opnS ns sl s).2.1.toNat→(gx (opnS ns sl s).1.L i).he=true→(gx s.L i).he=true∧gx (opnS ns sl s).1.L i=gx s.L i:=fun i hi hne hh=>by
    have:=(ok1 e0).1.he i hi (by omega) hh
    exact ⟨this,q.kp i hi this⟩
   refine ⟨fun i hi hh=>?_,fun m=>?_⟩
   ·by_cases e:i=(opnS ns sl s).2.1.toNat
    ·rw [e,b3];exact b4
    ·obtain ⟨k1,k2⟩:=hk i hi e hh
     rw [k2];exact a i hi k1
   ·rw [hcap]
    by_cases em:m=ns
    ·rw [em]
     refine Int.le_trans (manyT_up (L:=s.L) (b:=(opnS ns sl s).2.1.toNat) n fun i hi hne ho=>?_) (hq r0)
     rw [←(hk i hi hne (own_he ho)).2];exact ho
    ·refine Int.le_trans (manyT_le (L:=s.L) (m:=ownB m) n fun i hi ho=>?_) (c m)
     by_cases e:i=(opnS ns sl s).2.1.toNat
     ·exfalso
      rw [e,b3] at ho
      exact em (own_is ho).2.2.symm
     ·rw [←(hk i hi e (own_he ho)).2];exact ho
  ·refine (hG.sub (t:=(opnS ns sl s).1) hcap (fun _=>r0) fun i hi hh=>?_) h0
   have:=(no1 (by omega)).he i hi (by omega) hh
   rw [q.kp i hi this]
   exact ⟨this,rfl,rfl⟩
theorem emp_neg (h:NI g n s) (hn:0≤ns∧ns<4) (hb:b<0):(empP s b ns).2=0∧StN g n T s (empP s b ns).1∧(empP s b ns).1.ro=s.ro:=by
 have hl:inP s.X (4+b)=[]:=inP_nil fun k hk h1=>by
  have:=(h.i.l.xb k h1).1
  omega
 have e:empP s b ns=(chS (Vc.fs0 s ns b) b rB,0):=if_pos hl
 rw [e]
 have e2:∀ s:SD,chS s b rB=s:=fun s=>by
  have:chL b s.L.length rB s.L=s.L:=if_neg (fun k=>by have:0≤b:=k.1;omega)
  unfold chS
  rw [this]
 rw [e2]
 unfold Vc.fs0
 split
 ·exact ⟨rfl,.fr h ns (-1),rfl⟩
 ·exact ⟨rfl,.refl h,rfl⟩
theorem NI.room (h:NI g n s) (hn:0≤ns∧ns<4) (hz:1≤(getX s.X ns).n) (ho:s.C.ops+215040≤1000000000000) :
  NI g n (roomP s ns).1∧StN g n T s (roomP s ns).1∧((roomP s ns).2=0∨((roomP s ns).2=15∧(roomP s ns).1.ro=true))∧((roomP s ns).2=0→(roomP s ns).1.ro=s.ro):=by
 obtain ⟨N1,S1⟩:=h.clos (T:=T) hn
 have hI:=h.i.room hn ho
 have hcl:=h.i.clos hn
 have hc:=clos_f s ns
 have hro:(closP s ns).ro=s.ro:=by unfold closP;split <;> rfl
 suffices k:StN g n T (closP s ns) (roomP s ns).1∧((roomP s ns).2=0∨((roomP s ns).2=15∧(roomP s ns).1.ro=true))∧((roomP s ns).2=0→(roomP s ns).1.ro=s.ro) from ⟨⟨hI.i,k.1.ci⟩,S1.trans k.1,k.2.1,k.2.2⟩
 unfold roomP
 split
 ·have e:s.L.length=(closP s ns).L.length:=by rw [N1.i.ln,h.i.ln]
  rw [e]
  have hv:=vict_bd (L:=(closP s ns).L) (ns:=ns) (bu:=-1)
  rw [N1.i.ln] at hv
  by_cases hb:0≤victT (closP s ns).L ns (-1) (closP s ns).L.length
  ·have hw:=own_is (vict_is N1.i.ln hb)
   rw [N1.i.ln] at hb hw ⊢
   have E:=N1.emp (T:=T) hn ⟨hb,hv.2⟩ hw.2.2 (by rw [hc.1];exact ho)
   have EI:=(N1.i.emp (b:=victT (closP s ns).L ns (-1) n) hn hv.2 (fun _=>hw.2.2) (by rw [hc.1];exact ho)).1
   exact ⟨E.st N1.i EI.i EI.sz (fun _=>hw.2.1),E.ee,fun k=>(E.ro k).trans hro⟩
  ·obtain ⟨k1,k2,k3⟩:=emp_neg (T:=T) N1 hn (b:=victT (closP s ns).L ns (-1) (closP s ns).L.length) (by omega)
   exact ⟨k2,.inl k1,fun _=>k3.trans hro⟩
 ·rename_i hlt
  have hcap:capS (closP s ns) ns=quoS s ns-1:=by
   rw [cap_eq h.i N1.i hcl.sz]
   unfold capS
   rw [if_neg (by omega)]
  have hh:heldS (closP s ns) ns=manyT (closP s ns).L (ownB ns) n:=by unfold heldS;rw [N1.i.ln]
  obtain ⟨N2,S2⟩:=N1.opnN (T:=T) hn true (by rw [hc.1];omega) fun _=>by rw [hcap,← hh];omega
  obtain ⟨-,ee,-⟩:=N1.opn hn true (by rw [hc.1];omega)
  have ro2:(opnS ns true (closP s ns)).1.ro=s.ro:=hro
  obtain ⟨a1,q,x1,f1⟩:=N1.i.opn hn (sl:=true) (by rw [hc.1];omega)
  dsimp only
  have a2:St g n 0 (opnS ns true (closP s ns)).1 (if (opnS ns true (closP s ns)).2.2=0 then frS (opnS ns true (closP s ns)).1 ns (opnS ns true (closP s ns)).2.1 else (opnS ns true (closP s ns)).1):=by
   split
   ·rename_i he
    obtain ⟨b1,b2,y,b3,b4⟩:=q.ok he
    exact a1.i.fr hn (.inr ⟨b1,by rw [b3];rfl,by rw [b3];show ns=_;omega⟩)
   ·exact .refl a1.i
  have S3:StN g n T (opnS ns true (closP s ns)).1 (if (opnS ns true (closP s ns)).2.2=0 then frS (opnS ns true (closP s ns)).1 ns (opnS ns true (closP s ns)).2.1 else (opnS ns true (closP s ns)).1):=by
   split
   ·exact .fr N2 _ _
   ·exact .refl N2
  have ro3:(if (opnS ns true (closP s ns)).2.2=0 then frS (opnS ns true (closP s ns)).1 ns (opnS ns true (closP s ns)).2.1 else (opnS ns true (closP s ns)).1).ro=s.ro:=by
   split <;> exact ro2
  generalize (if (opnS ns true (closP s ns)).2.2=0 then frS (opnS ns true (closP s ns)).1 ns (opnS ns true (closP s ns)).2.1 else (opnS ns true (closP s ns)).1)=f at a2 S3 ro3 ⊢
  have N3:NI g n f:=⟨a2.i,S3.ci⟩
  refine ⟨(S2.trans S3).trans (N3.leftN _),?_,fun k=>?_⟩
  ·rcases left_e f ee with ⟨k,-⟩ | k
   ·exact .inl k
   ·exact .inr k
  ·rcases left_e f ee with ⟨k1,k2,k3,k4,k5⟩ | ⟨k1,k2⟩
   ·rw [k3];exact ro3
   ·rw [k] at k1;cases k1
end
end Go.Proofs.YtbaojfchlhlaeaaGreat.Vc
namespace Go.Proofs.YtbaojfchlhlaeaaGreat.Vc
open Go Go.Eng Go.RowKit
section
variable {g:Geo} {n:Nat} {s t u:SD} {T:Hh→List Int} {b ns e:Int}
theorem NI.fai (h:NI g n s) (hn:0≤ns∧ns<4) (h0:0≤frG s ns) (hp:s.C.ops+215042≤1000000000000) :
  NI g n (faiP s ns).1∧StN g n T s (faiP s ns).1∧((faiP s ns).2=0∨((faiP s ns).2=15∧(faiP s ns).1.ro=true))∧((faiP s ns).2=0→(faiP s ns).1.ro=false):=by
 have hb:=(h.i.fG hn).resolve_left (by omega)
 have hI:=h.i.fai hn h0 hp
 have h1:=h.i.frm hn
 have N1:NI g n (frS s ns (-1)):=⟨h1.i,h.c⟩
 have h2:=h1.i.f (frG s ns)
 unfold faiP at hI ⊢
 dsimp only at hI ⊢
 generalize frG s ns=b at hb h0 h2 hI ⊢
 have hln:=h.i.ln
 have N2:NI g n (chS (frS s ns (-1)) b fB):=⟨h2.i,(h.c.ch hln b fun _ _ k=>k.f).of rfl (by show chL b s.L.length fB s.L=_;rw [hln])⟩
 have k3:=over_f (chS (frS s ns (-1)) b fB)
 have r3:=over_ro (chS (frS s ns (-1)) b fB)
 have N3:=N2.over
 have h3:=h2.i.over
 have L3:(overP (chS (frS s ns (-1)) b fB)).1.L=chL b n fB s.L:=by rw [k3.2.1];show chL b s.L.length fB s.L=_;rw [hln]
 have ov:=over_e (chS (frS s ns (-1)) b fB)
 have S3:=N2.overN (T:=T)
 have z3:=((h1.trans h2).trans h3)
 generalize overP (chS (frS s ns (-1)) b fB)=o at hI k3 r3 N3 h3 L3 ov S3 z3 ⊢
 have g3:∀ i,gx o.1.L i=if (0≤b∧b<(n:Int))∧i=b.toNat then fB (gx s.L i) else gx s.L i:=fun i=>by rw [L3,gx_ch hln]
 have g3b:gx o.1.L b.toNat=fB (gx s.L b.toNat):=by rw [g3,if_pos ⟨hb.1,rfl⟩]
 have ba3:∀ i,i<n→(gx s.L i).ba=true→(gx o.1.L i).ba=true:=fun i hi a=>by
  rw [g3];split
  ·rfl
  ·exact a
 have pg3:PGI T s→PGI T o.1:=fun k=>S3.pg k
 have hx3:∀ m j,hdX o.1.X m j=hdX s.X m j:=fun m j=>S3.hx m j
 have bad:∀ {t:SD},t.ro=true→GD n s→GD n t:=fun hr _ h0=>by rw [hr] at h0;cases h0
 split
 ·rename_i ho
  rcases ov with ⟨k,-⟩ | ⟨k1,k2⟩
  ·exact absurd k ho
  ·rw [if_pos ho] at hI
   exact ⟨⟨hI.i,N3.c⟩,⟨N3.c,ba3,pg3,hx3,bad k2,r3⟩,.inr ⟨k1,k2⟩,fun k=>absurd k ho⟩
 rename_i ho
 have ho:o.2=0:=Classical.byContradiction ho
 rw [if_neg (by rw [ho];decide)] at hI
 have hop:=z3.o2
 have E:=N3.emp (T:=T) hn hb.1 (by rw [g3b];exact hb.2.2) (by omega)
 obtain ⟨e1,e2⟩:=N3.i.emp (b:=b) hn hb.1.2 (fun _=>by rw [g3b];exact hb.2.2) (by omega)
 generalize empP o.1 b ns=ee at hI E e1 e2 ⊢
 have baE:∀ i,i<n→(gx s.L i).ba=true→(gx ee.1.L i).ba=true:=fun i hi a=>E.ba i hi (ba3 i hi a)
 split
 ·rename_i he
  rw [if_pos he] at hI
  have k:=E.ee.resolve_left he
  exact ⟨⟨hI.i,E.ci⟩,⟨E.ci,baE,fun a=>E.pg (pg3 a),fun m j=>(E.hx m j).trans (hx3 m j),bad k.2,fun k2=>by rw [k.2] at k2;cases k2⟩,.inr k,fun k=>absurd k he⟩
 rename_i he
 have he:ee.2=0:=Classical.byContradiction he
 rw [if_neg (by rw [he];decide)] at hI
 have hoe:=e1.o2
 have NE:NI g n ee.1:=⟨e1.i,E.ci⟩
 have hhe:=e2 he hb.1.1
 obtain ⟨d1,d2,d3,d4,d5,d6,d7⟩:=NE.dst hb.1 hhe (by omega)
 obtain ⟨sd,sdx,sdf⟩:=e1.i.dst (b:=b) (fun _=>hhe) (by omega)
 have pgD:PGI T ee.1→PGI T (dstS ee.1 b).1:=fun hT=>by
  refine hT.of sdx (by rw [d1.i.pi.gg,NE.i.pi.gg]) (fun q hq=>?_) NE.i.xo.four
  have hq2:=(NE.i.l.xb q hq).1
  have hne:q.1≠4+b:=fun e=>NE.i.l.none hb.1 (NE.i.l.free (by omega) hhe) (k:=q) e hq
  have eC:(dstS ee.1 b).1.C=(dstP ee.1.C ee.1.L b).1:=by
   have e:dstS ee.1 b=((overP {ee.1 with C:=(dstP ee.1.C ee.1.L b).1,L:=(dstP ee.1.C ee.1.L b).2.1}).1,(dstP ee.1.C ee.1.L b).2.2):=by unfold dstS;rw [if_pos (by rw [e1.i.ln];exact hb.1)]
   rw [e]
   exact (over_f {ee.1 with C:=(dstP ee.1.C ee.1.L b).1,L:=(dstP ee.1.C ee.1.L b).2.1}).1
  unfold pgC13
  rw [eC,dst_blk _ _ _ (by omega)]
 generalize dstS ee.1 b=d at hI d1 d2 d3 d4 d5 d6 d7 sd sdx sdf pgD ⊢
 have hd4:¬ d.2=4:=by omega
 rw [if_neg hd4] at hI ⊢
 have kf:=over_f d.1
 have S5:=d1.overN (T:=T)
 have o5:=over_e d.1
 have r5:=over_ro d.1
 generalize overP d.1=f at hI kf S5 o5 r5 ⊢
 have hr:f.1.ro=false→s.ro=false:=fun k=>r3 (by rw [←E.ro he];exact d7 (r5 k))
 refine ⟨⟨hI.i,S5.ci⟩,⟨S5.ci,fun i hi a=>S5.ba i hi (d3.ba i hi (baE i hi a)),fun a=>S5.pg (pgD (E.pg (pg3 a))),fun m j=>(S5.hx m j).trans (by rw [sdx];exact (E.hx m j).trans (hx3 m j)),fun hG k=>?_,hr⟩,?_,fun k=>?_⟩
 ·obtain ⟨a,c⟩:=hG (hr k)
  have hba:=a b.toNat (by omega) hb.2.1
  have sub:∀ i,i<n→(gx f.1.L i).he=true→gx f.1.L i=gx ee.1.L i∧i≠b.toNat:=fun i hi hh=>by
   rw [kf.2.1] at hh ⊢
   have hne:i≠b.toNat:=fun e=>by rw [e,d5] at hh;cases hh
   exact ⟨d4 i hne,hne⟩
  refine ⟨fun i hi hh=>?_,fun m=>?_⟩
  ·obtain ⟨k1,k2⟩:=sub i hi hh
   cases hq:(gx f.1.L i).ba
   ·rfl
   ·rw [k1] at hh hq
    obtain ⟨v1,v2,v3⟩:=E.hb he i hi hh hq
    rw [g3,if_neg (fun k=>v3 k.2)] at v1 v2
    rw [a i hi v1] at v2
    cases v2
  ·rw [cap_eq h.i hI.i hI.sz]
   have l1:=manyT_le (L:=ee.1.L) (L':=f.1.L) (m:=ownB m) (m':=ownB m) n fun i hi ho=>by
    rw [←(sub i hi (own_he ho)).1];exact ho
   have l2:=E.hd he m
   have c2:=c m
   by_cases em:m=ns
   ·have l3:=manyT_lt (L:=o.1.L) (L':=s.L) (m:=ownB m) (b:=b.toNat) n (by omega) (fun i hi ho=>by
     rw [g3] at ho
     split at ho
     ·have:=(own_is ho).2.1
      cases this
     ·exact ho) (by rw [g3b];unfold ownB fB;simp) (by unfold ownB;rw [hb.2.1,hba,hb.2.2,em];simp)
    split at l2 <;> omega
   ·have l3:=manyT_le (L:=s.L) (L':=o.1.L) (m:=ownB m) (m':=ownB m) n fun i hi ho=>by
     rw [g3] at ho
     split at ho
     ·have:=(own_is ho).2.1
      cases this
     ·exact ho
    rw [if_neg (fun k=>em k.1)] at l2
    omega
 ·rcases o5 with ⟨k,-⟩ | k
  ·exact .inl k
  ·exact .inr k
 ·rcases o5 with ⟨-,k2,k3,-⟩ | ⟨k1,-⟩
  ·rw [k2];exact k3
  ·rw [k] at k1;cases k1
def pgW (g:Geo) (hd:Hd) (xs tg:List Int):List Int:=andL (andL (List.replicate (szP g) 255) (mkL g hd xs tg)) (comL g)
theorem mkL_lenA {g:Geo} (hg:0≤g.s) {hd:Hd} {xs tg:List Int} (lx:xs.length=0∨(xs.length:Int)=g.s) (lt:tg.length=0∨tg.length=32):(mkL g hd xs tg).length=g.s.toNat+88:=by
 unfold mkL payL
 rw [List.length_append,endL_length _ lt]
 split
 ·rw [List.length_replicate]
 ·omega
theorem NI.wr1 (h:NI g n s) (hn:0≤ns∧ns<4) (hf:¬ fulP s ns) (hG:GD n s) (h0:s.ro=false) {hd:Hd} {xs tg:List Int} (hr:hd.rng) (hR:HRight hd) (bx:Byt xs) (bt:Byt tg) (lx:xs.length=0∨(xs.length:Int)=g.s) (lt:tg.length=0∨tg.length=32) (hp:s.C.ops+2≤1000000000000) :
  NI g n (wr1 s ns hd xs tg).1∧StN g n T s (wr1 s ns hd xs tg).1∧((wr1 s ns hd xs tg).2=0∨(wr1 s ns hd xs tg).2=5)∧(wr1 s ns hd xs tg).1.ro=s.ro∧((wr1 s ns hd xs tg).2=0→pgC13 (wr1 s ns hd xs tg).1.C (plc s ns).1 (plc s ns).2=pgW g hd xs tg):=by
 obtain ⟨h1,x1,f1,l1⟩:=h.i.wr1 hn hf (hd:=hd) hr bx bt hp
 have hb:=ful_not h.i hn hf
 have hba:=(hG h0).1 _ (by omega) hb.2.1
 have hln:=h.i.ln
 have hgg:=h.i.pi.gg
 have hnum:=h.i.pi.ok.num
 have eu:(gx (chS s (frG s ns) uB).L (frG s ns).toNat).us=(gx s.L (frG s ns).toNat).us+1:=by rw [chS_gx h.i,if_pos ⟨hb.1,rfl⟩];rfl
 have eW:wrtT s.L.length s.C (frG s ns) (gx (chS s (frG s ns) uB).L (frG s ns).toNat).us hd xs tg=prgP s.C (4+frG s ns) ((gx s.L (frG s ns).toNat).us+1) (mkL s.C.g hd xs tg):=by
  unfold wrtT
  rw [if_pos (by rw [hln];exact hb.1),if_pos hR,eu]
 have eC:(Vc.wr1 s ns hd xs tg).1.C=(prgP s.C (4+frG s ns) ((gx s.L (frG s ns).toNat).us+1) (mkL g hd xs tg)).1:=by
  rw [←hgg,← eW];rfl
 have eE:(Vc.wr1 s ns hd xs tg).2=(prgP s.C (4+frG s ns) ((gx s.L (frG s ns).toNat).us+1) (mkL g hd xs tg)).2:=by
  rw [←hgg,← eW];rfl
 have U:=h.use hb.1 hb.2.1 hba hb.2.2.2 (mkL_byt (g:=g) hr hR bx bt) (by rw [mkL_lenA (by rw [←hgg];omega) lx lt];unfold szP;rw [hgg] at hnum;omega) hp eC l1
 rw [←eE] at U
 have hro:(Vc.wr1 s ns hd xs tg).1.ro=s.ro:=rfl
 generalize Vc.wr1 s ns hd xs tg=R at h1 x1 f1 l1 eC eE U hro ⊢
 have gi:∀ i,gx R.1.L i=if (0≤frG s ns∧frG s ns<(n:Int))∧i=(frG s ns).toNat then uB (gx s.L i) else gx s.L i:=fun i=>by rw [l1,gx_ch hln]
 refine ⟨⟨h1.i,U.ni⟩,⟨U.ni,fun i hi a=>?_,fun hT=>?_,fun m j=>by rw [x1],fun hG2=>hG2.sub (cap_eq h.i h1.i h1.sz) (fun k=>by rw [←hro];exact k) fun i hi hh=>?_,fun k=>by rw [←hro];exact k⟩,U.ee,hro,fun k=>?_⟩
 ·rw [gi];split
  ·exact a
  ·exact a
 ·refine hT.of x1 (by rw [h1.i.pi.gg,hgg]) (fun q hq=>?_) h.i.xo.four
  have hq2:=(h.i.l.xb q hq).1
  have hq3:=(h.i.l.xb q hq).2
  by_cases e:q.1=4+frG s ns
  ·have:=h.i.l.pu q hq
   rw [show (q.1-4).toNat=(frG s ns).toNat by omega] at this
   unfold pgC13
   rw [e]
   exact U.pg _ (by omega)
  ·unfold pgC13
   rw [U.oth q.1 (by omega)]
 ·rw [gi] at hh ⊢
  split at hh
  ·rename_i e
   rw [if_pos e]
   exact ⟨hh,rfl,rfl⟩
  ·rename_i e
   rw [if_neg e]
   exact ⟨hh,rfl,rfl⟩
 ·exact U.ok k
structure WrN (g:Geo) (n:Nat) (T:Hh→List Int) (s t:SD) (at_:Int×Int) (P:List Int) (e:Int):Prop where
 st:StN g n T s t
 ok:e=0→t.ro=false∧pgC13 t.C at_.1 at_.2=P
theorem NI.wr (hn:0≤ns∧ns<4) {hd:Hd} {xs tg:List Int} (hr:hd.rng) (hR:HRight hd) (bx:Byt xs) (bt:Byt tg) (lx:xs.length=0∨(xs.length:Int)=g.s) (lt:tg.length=0∨tg.length=32):∀ (k:Nat) {s:SD},NI g n s→GD n s→s.ro=false→1≤(getX s.X ns).n→s.C.ops+wC k≤1000000000000 →
  WrN g n T s (wrP ns hd xs tg k s).1 (wrP ns hd xs tg k s).2.1 (pgW g hd xs tg) (wrP ns hd xs tg k s).2.2
 | 0,s,h,_,_,_,_=>⟨.refl h,fun e=>by cases e⟩
 | k+1,s,h,hG,h0,hz,ho=>by
  have hwc:=wCs k
  unfold wrP
  dsimp only
  by_cases hf:fulP s ns
  ·rw [if_pos hf]
   obtain ⟨N1,S1,e1,r1⟩:=h.room (T:=T) hn hz (by omega)
   have h1:=h.i.room hn (by omega)
   have o1:=h1.o2
   split
   ·rename_i he
    exact ⟨S1,fun e=>absurd e he⟩
   ·rename_i he
    have he:(roomP s ns).2=0:=Classical.byContradiction he
    have R:=NI.wr hn hr hR bx bt lx lt k N1 (S1.gd hG) (by rw [r1 he];exact h0) (by rw [h1.sz];exact hz) (by omega)
    exact ⟨S1.trans R.st,R.ok⟩
  ·rw [if_neg hf]
   obtain ⟨N1,S1,e1,r1,p1⟩:=h.wr1 (T:=T) hn hf hG h0 hr hR bx bt lx lt (by omega)
   obtain ⟨h1,x1,f1,l1⟩:=h.i.wr1 hn hf (hd:=hd) hr bx bt (xs:=xs) (tg:=tg) (by omega)
   have hb:=ful_not h.i hn hf
   have fG:frG (Vc.wr1 s ns hd xs tg).1 ns=frG s ns:=by show (Vc.wr1 s ns hd xs tg).1.fr.getD _ _=_;rw [f1];rfl
   have o1:=h1.o2
   split
   ·rename_i he
    exact ⟨S1,fun _=>⟨r1.trans h0,p1 he⟩⟩
   ·rename_i hne
    split
    ·obtain ⟨N2,S2,e2,r2⟩:=N1.fai (T:=T) hn (by rw [fG];exact hb.1.1) (by omega)
     have a1:=h1.i.fai hn (by rw [fG];exact hb.1.1) (by omega)
     have o2:=a1.o2
     split
     ·rename_i he
      exact ⟨S1.trans S2,fun e=>absurd e he⟩
     ·rename_i he
      have he:(faiP (Vc.wr1 s ns hd xs tg).1 ns).2=0:=Classical.byContradiction he
      have R:=NI.wr hn hr hR bx bt lx lt k N2 (S2.gd (S1.gd hG)) (r2 he) (by rw [a1.sz,h1.sz];exact hz) (by omega)
      exact ⟨(S1.trans S2).trans R.st,R.ok⟩
    ·exact ⟨S1,fun e=>absurd e hne⟩
end
end Go.Proofs.YtbaojfchlhlaeaaGreat.Vc
namespace Go.Proofs.YtbaojfchlhlaeaaGreat.Vc
open Go Go.Eng Go.RowKit
structure LeL (L L':List Blk):Prop where
 len:L'.length=L.length
 ba:∀ i,(gx L' i).ba=(gx L i).ba
 ow:∀ i,(gx L' i).ow=(gx L i).ow
 he:∀ i,(gx L' i).he=true→(gx L i).he=true
theorem LeL.refl (L:List Blk):LeL L L:=⟨rfl,fun _=>rfl,fun _=>rfl,fun _ h=>h⟩
theorem LeL.trans {L1 L2 L3:List Blk} (h:LeL L1 L2) (k:LeL L2 L3):LeL L1 L3:=⟨k.len.trans h.len,fun i=>(k.ba i).trans (h.ba i),fun i=>(k.ow i).trans (h.ow i),fun i a=>h.he i (k.he i a)⟩
theorem LeL.ch (L:List Blk) (b:Int) {φ:Blk→Blk} (h1:∀ x,(φ x).ba=x.ba) (h2:∀ x,(φ x).ow=x.ow) (h3:∀ x,(φ x).he=true→x.he=true):LeL L (chL b L.length φ L):=by
 refine ⟨chL_len ..,fun i=>?_,fun i=>?_,fun i=>?_⟩ <;> rw [gx_ch rfl] <;> split
 ·exact h1 _
 ·rfl
 ·exact h2 _
 ·rfl
 ·exact h3 _
 ·exact fun h=>h
section
variable {g:Geo} {n:Nat} {s t u:SD} {T:Hh→List Int} {b ns e:Int}
theorem ded1_L (s:SD) (k:Int×Int):LeL s.L (ded1 s k).L∧(CI n (-1) s.C s.L→s.L.length=n→CI n (-1) s.C (ded1 s k).L):=by
 have a:=LeL.ch s.L (k.1-4) (φ:=cB (-1)) (fun _=>rfl) (fun _=>rfl) (fun _ h=>h)
 have c:CI n (-1) s.C s.L→s.L.length=n→CI n (-1) s.C (chL (k.1-4) s.L.length (cB (-1)) s.L):=fun h hl=>by
  rw [hl];exact h.ch hl _ fun _ _ k=>k.c _
 unfold ded1
 dsimp only
 split
 ·have a2:=LeL.ch (chL (k.1-4) s.L.length (cB (-1)) s.L) (k.1-4) (φ:=rB) (fun _=>rfl) (fun _=>rfl) (fun _ h=>by cases h)
  refine ⟨a.trans a2,fun h hl=>?_⟩
  have c1:=c h hl
  have l1:(chL (k.1-4) s.L.length (cB (-1)) s.L).length=n:=by rw [chL_len];exact hl
  show CI n (-1) s.C (chL (k.1-4) (chL (k.1-4) s.L.length (cB (-1)) s.L).length rB _)
  rw [l1]
  exact c1.ch l1 _ fun _ _ k=>k.r
 ·exact ⟨a,c⟩
theorem ded_L:∀ (l:List (Int×Int)) (s:SD),LeL s.L (dedP l s).L∧(CI n (-1) s.C s.L→s.L.length=n→CI n (-1) s.C (dedP l s).L)
 | [],s=>⟨.refl _,fun h _=>h⟩
 | k::l,s=>by
  have h1:=ded1_L (n:=n) s k
  have hC:(ded1 s k).C=s.C:=by unfold ded1;dsimp only;split <;> rfl
  have h2:=ded_L l (ded1 s k)
  refine ⟨h1.1.trans h2.1,fun h hl=>?_⟩
  have:=h2.2 (by rw [hC];exact h1.2 h hl) (h1.1.len.trans hl)
  rw [hC] at this
  exact this
theorem lnd_L (s:SD) (hd:Hd) (at_:Int×Int):LeL s.L (lndP s hd at_).L∧(CI n (-1) s.C s.L→s.L.length=n→CI n (-1) s.C (lndP s hd at_).L):=by
 have k1:LeL s.L (lnd1 s hd at_).L∧(CI n (-1) s.C s.L→s.L.length=n→CI n (-1) s.C (lnd1 s hd at_).L):=by
  unfold lnd1
  split
  ·refine ⟨LeL.ch s.L (at_.1-4) (φ:=cB 1) (fun _=>rfl) (fun _=>rfl) (fun _ h=>h),fun h hl=>?_⟩
   show CI n (-1) s.C (chL (at_.1-4) s.L.length (cB 1) s.L)
   rw [hl];exact h.ch hl _ fun _ _ k=>k.c _
  ·exact ⟨.refl _,fun h _=>h⟩
 have k2:=ded_L (n:=n) (gonP s.X (lndX s hd at_)) (lnd1 s hd at_)
 have hC:=(lnd1_f s hd at_).1
 refine ⟨k1.1.trans k2.1,fun h hl=>?_⟩
 have:=k2.2 (by rw [hC];exact k1.2 h hl) (k1.1.len.trans hl)
 rw [hC] at this
 exact this
def Fresh (s:SD) (hd:Hd):Prop:=∀ m j h,hdX s.X m j=some h→lesH h hd.hh
def spk (hd:Hd) (m:Int) (j:Nat):Prop:=m=hd.n∧hd.l≤(j:Int)∧(j:Int)<hd.l+hd.c
instance (hd:Hd) (m:Int) (j:Nat):Decidable (spk hd m j):=by unfold spk;infer_instance
instance:DecidableEq Hh:=fun a b=>by
 cases a;cases b
 simp only [Hh.mk.injEq]
 infer_instance
def updT (T:Hh→List Int) (hd:Hd) (P:List Int):Hh→List Int:=fun h=>if h=hd.hh then P else T h
theorem hdX_fresh {hd:Hd} (hF:Fresh s hd) {m:Int} {j:Nat} {c:Ce} (hj:(getX s.X m).l[j]? = some c) (hc:c.has=true):lesH c.s.h hd.hh:=by
 refine hF m j c.s.h ?_
 unfold hdX
 rw [hj]
 exact if_pos hc
structure PutN (g:Geo) (n:Nat) (T:Hh→List Int) (s t:SD) (hd:Hd) (P:List Int) (e:Int):Prop where
 ni:NI g n t
 gd:GD n s→GD n t
 pg:PGI T s→Fresh s hd→PGI (if e=0 then updT T hd P else T) t
 hx:Fresh s hd→∀ m j,hdX t.X m j=if e=0∧spk hd m j then some hd.hh else hdX s.X m j
 h0:∀ m j h,hdX t.X m j=some h→h=hd.hh∨hdX s.X m j=some h
 ro:t.ro=false→s.ro=false
theorem lesH_irr (a:Hh):¬ lesH a a:=fun h=>by unfold lesH at h;omega
theorem NI.put (h:NI g n s) (hG:GD n s) {hd:Hd} {xs tg:List Int} (hr:hd.rng) (hR:mayP s hd→HRight hd) (bx:Byt xs) (bt:Byt tg) (lx:xs.length=0∨(xs.length:Int)=g.s) (lt:tg.length=0∨tg.length=32) (hP:mayP s hd→cpB g (pgW g hd xs tg)=pgW g hd xs tg) (ho:s.C.ops+55051264≤1000000000000) :
  PutN g n T s (putS s hd xs tg).1 hd (pgW g hd xs tg) (putS s hd xs tg).2:=by
 have hI:=h.i.put hr bx bt (xs:=xs) (tg:=tg) ho
 have same:∀ e:Int,e≠0→PutN g n T s s hd (pgW g hd xs tg) e:=fun e he=>⟨h,fun k=>k,fun k _=>by rw [if_neg he];exact k,fun _ m j=>by rw [if_neg (fun k=>he k.1)],fun m j h k=>.inr k,fun k=>k⟩
 unfold putS at hI ⊢
 by_cases hm:mayP s hd
 case neg=>rw [if_pos hm];exact same 2 (by decide)
 rw [if_neg (fun k=>k hm)] at hI ⊢
 by_cases hro:s.ro=true
 ·rw [if_pos hro];exact same 15 (by decide)
 rw [if_neg hro] at hI ⊢
 have hro:s.ro=false:=Bool.eq_false_iff.2 hro
 have hn:=may_ns hm
 have hwc:=wC256
 obtain ⟨a1,a2⟩:=SI.wr hn hr bx bt (xs:=xs) (tg:=tg) 256 h.i (by omega)
 have W:=NI.wr (T:=T) (ns:=hd.n) hn hr (hR hm) bx bt lx lt 256 h hG hro (by have:=hm.2.1;have:=hm.2.2.1;omega) (by omega)
 dsimp only at hI ⊢
 by_cases he:(wrP hd.n hd xs tg 256 s).2.2≠0
 ·rw [if_pos he] at hI ⊢
  exact ⟨⟨hI.i,W.st.ci⟩,W.st.gd,fun k _=>by rw [if_neg he];exact W.st.pg k,fun _ m j=>by rw [if_neg (fun k=>he k.1)];exact W.st.hx m j,fun m j h k=>.inr (by rw [←W.st.hx];exact k),W.st.ro⟩
 rw [if_neg he] at hI ⊢
 have he:(wrP hd.n hd xs tg 256 s).2.2=0:=Classical.byContradiction he
 have hA:=a2 he
 obtain ⟨w1,w2⟩:=W.ok he
 have N1:NI g n (wrP hd.n hd xs tg 256 s).1:=⟨a1.i,W.st.ci⟩
 have hm2:mayP (wrP hd.n hd xs tg 256 s).1 hd:=(may_sz a1.sz).2 hm
 have WS:=W.st
 generalize (wrP hd.n hd xs tg 256 s).2.1=at_ at hI hA w2 ⊢
 generalize (wrP hd.n hd xs tg 256 s).1=r at hI a1 hA w1 w2 N1 hm2 WS ⊢
 obtain ⟨b0,b1,b2,b3,b4,b5,b6,b7,b8⟩:=a1.i.lnd hA hm2 hr hn
 obtain ⟨l1,l2⟩:=lnd_L (n:=n) r hd at_
 have P:PuX r hd at_ (lndX r hd at_):=a1.i.pux hm2 hr hn at_
 dsimp only at hI ⊢
 have NI':NI g n (lndP r hd at_):=⟨b0,by rw [b1];exact l2 N1.c N1.i.ln⟩
 have lo:0≤hd.l:=hr.1.1
 have nc:1≤hd.c:=hm.2.1
 have fr':Fresh s hd→Fresh r hd:=fun hF m j h k=>hF m j h (by rw [←WS.hx];exact k)
 refine ⟨NI',fun hG2=>(WS.gd hG2).sub (cap_eq a1.i b0 fun ns=>by rw [b2];exact P.sz ns) (fun k=>by rw [←b8];exact k) fun i hi hh=>⟨l1.he i hh,l1.ba i,l1.ow i⟩,fun hT hF=>?_,fun hF m j=>?_,fun m j h k=>?_,fun k=>WS.ro (by rw [←b8];exact k)⟩
 ·rw [if_pos rfl]
  have hF:=fr' hF
  have hT:=WS.pg hT
  intro m j c hmm hj hc
  rw [b2] at hj
  rw [b1]
  unfold updT
  rcases P.cl m j c hj with e | ⟨-,e⟩
  ·have hl:=hdX_fresh hF e hc
   rw [if_neg (fun k=>by rw [k] at hl;exact lesH_irr _ hl)]
   exact hT m j c hmm e hc
  ·subst e
   show pgC13 r.C at_.1 at_.2=(if hd.hh=hd.hh then _ else _)∧cpB r.C.g (if hd.hh=hd.hh then _ else _)=(if hd.hh=hd.hh then _ else _)
   rw [if_pos rfl,a1.i.pi.gg]
   exact ⟨w2,hP hm⟩
 ·have hF:=fr' hF
  have hI:(getX (lndX r hd at_) m).l[j]? = if m=hd.n∧hd.l.toNat≤j∧j<hd.l.toNat+hd.c.toNat then ((getX r.X m).l[j]?).map (putC (sptS r hd at_)) else (getX r.X m).l[j]?:=P.I.cell m j
  rw [←WS.hx]
  unfold hdX
  rw [b2,hI]
  by_cases hs:spk hd m j
  ·rw [if_pos (show (0:Int)=0∧spk hd m j from ⟨rfl,hs⟩),if_pos (show m=hd.n∧hd.l.toNat≤j∧j<hd.l.toNat+hd.c.toNat from ⟨hs.1,by have:=hs.2;omega,by have:=hs.2;omega⟩)]
   have hsz:j<(getX r.X m).l.length:=by
    have:=hm2.2.2.2
    have:=hs.2
    have hlen:=(a1.i.xo.get m).1
    rw [hs.1] at *
    omega
   rw [List.getElem?_eq_getElem hsz]
   show (if (putC (sptS r hd at_) (getX r.X m).l[j]).has=true then some (putC (sptS r hd at_) (getX r.X m).l[j]).s.h else none)=some hd.hh
   unfold putC
   split
   ·rename_i k
    exfalso
    have:=hdX_fresh hF (List.getElem?_eq_getElem hsz) k.1
    exact k.2 (.inl this)
   ·rfl
  ·rw [if_neg (fun k=>hs ⟨k.1,by omega,by omega⟩),if_neg (fun k=>hs k.2)]
 ·rw [b2] at k
  unfold hdX at k
  cases hq:(getX (lndX r hd at_) m).l[j]? with
  | none=>rw [hq] at k;cases k
  | some c=>
   rw [hq] at k
   dsimp only at k
   split at k
   ·rename_i hc
    rcases P.cl m j c hq with e | ⟨-,e⟩
    ·refine .inr ?_
     rw [←WS.hx]
     unfold hdX
     rw [e]
     dsimp only
     rw [if_pos hc]
     exact k
    ·subst e
     exact .inl (Option.some.inj k).symm
   ·cases k
end
end Go.Proofs.YtbaojfchlhlaeaaGreat.Vc
namespace Go.Proofs.YtbaojfchlhlaeaaGreat.Vc
open Go Go.Eng Go.RowKit
theorem bit255v:∀ i:Fin 8,bitB 255 i.val=true:=by decide
theorem and_ffs {n:Nat} {b:List Int} (bb:Byt b) (hl:b.length=n):andL (List.replicate n 255) b=b:=by
 refine cl_of (Byt.replicate (by decide) (by decide) _) bb (by rw [List.length_replicate,hl]) fun i hi' _=>?_
 rw [List.length_replicate] at hi'
 unfold hasL
 rw [List.getD_eq_getElem?_getD,List.getElem?_replicate,if_pos (by omega)]
 exact bit255v ⟨i % 8,Nat.mod_lt _ (by decide)⟩
section
variable {g:Geo} {hd:Hd} {xs tg:List Int}
theorem pgW_is (hs:32≤g.s∧g.s≤4096) (hr:hd.rng) (hR:HRight hd) (bx:Byt xs) (bt:Byt tg) (lx:xs.length=0∨(xs.length:Int)=g.s) (lt:tg.length=0∨tg.length=32):pgW g hd xs tg=payL g xs++markL hd tg:=by
 unfold pgW
 rw [and_ffs (mkL_byt hr hR bx bt) (by rw [mkL_lenA (by omega) lx lt];unfold szP;omega)]
 exact and_mk hs lx hR bx bt lt
theorem pgW_cp (hs:32≤g.s∧g.s≤4096) (hr:hd.rng) (hR:HRight hd) (bx:Byt xs) (bt:Byt tg) (lx:xs.length=0∨(xs.length:Int)=g.s) (lt:tg.length=0∨tg.length=32):cpB g (pgW g hd xs tg)=pgW g hd xs tg:=by
 have e:cpyL (pgW g hd xs tg)=mkL g hd xs tg:=by
  rw [pgW_is hs hr hR bx bt lx lt]
  unfold cpyL markL mkL
  rw [←List.append_assoc,show endL hd tg=core hd tg++List.replicate 8 255 from rfl,← List.append_assoc]
  congr 1
  have h1:(payL g xs++core hd tg++List.replicate 8 (0:Int)).length-8=(payL g xs++core hd tg).length:=by rw [List.length_append,List.length_replicate];omega
  rw [h1,List.take_left' rfl]
 unfold cpB
 rw [e]
 rfl
end
end Go.Proofs.YtbaojfchlhlaeaaGreat.Vc
namespace Go.Proofs.YtbaojfchlhlaeaaGreat.Vc
open Go Go.Eng Go.RowKit
section
variable {E:Nat→Prop} {w0 w:World} {Rs:List Asr} {sp pp pm p q n:Nat} {g:Geo} {s:SD}
theorem s00_N {pl:List FD} {X:List (SlP Ce)} {z0 z1:Nat} (hR:Right g) (hg:LG g) (hp:∀ f∈pl,Byt f.2.2.1∧f.2.2.1.length≤140737488351232) (hX:New0 X z0 z1) (hc:∀ f∈pl,f.2.1=false):NI g (nG g) (s00 g pl X)∧GD (nG g) (s00 g pl X):=by
 have e:∀ i,i<nG g→gx (s00 g pl X).L i=Blk.new:=fun i hi=>rep_gx (nG g) hi
 refine ⟨⟨s00_I hR hg hp hX,⟨⟨rfl,hc⟩,BIn.new g pl,fun i hi _=>?_⟩⟩,fun _=>⟨fun i hi k=>?_,fun m=>?_⟩⟩
 ·rw [e i hi]
  exact ⟨fun k=>(by cases k),fun k=>(by cases k),fun k=>(by cases k),fun k=>(by cases k)⟩
 ·rw [e i hi] at k;cases k
 ·have h0:manyT (s00 g pl X).L (ownB m) (nG g)≤manyT (s00 g pl X).L (fun _=>false) (nG g):=manyT_le (nG g) fun j hj k=>by
   rw [e j hj] at k;cases k
  have h1:∀ i,manyT (s00 g pl X).L (fun _=>false) i=0:=fun i=>by
   induction i with
   | zero=>rfl
   | succ i ih=>unfold manyT;rw [ih];rfl
  rw [h1] at h0
  refine Int.le_trans h0 ?_
  unfold capS quoS
  split
  ·exact Int.le_refl _
  ·have hk:=hR.1
   unfold Kept at hk
   have hz:=(hX.ok.get m).2
   have:=quo_bd (g:=g) hR (m:=((getX X m).n:Int)) (by rename_i k;have k:¬ (getX X m).n=0:=k;omega)
   show 0≤quo g ((getX X m).n:Int)-1
   omega
end
end Go.Proofs.YtbaojfchlhlaeaaGreat.Vc
namespace Go.Proofs.YtbaojfchlhlaeaaGreat.Vc
open Go Go.Eng
def law26_kept.A:Ann:=.two .no (.two (.two .no (.one (.loop [6,7,8,9,10,11,12,13,14,15,16,17,18,19,20,21,22,23,24,25,26,27,28,29,30,31,32,33,34,35,36,37,38,39,40,41,42,43,44,45,46,47,48,49,50,51,52,53,54,55,56,57,58,59,60,61,62,63,64,65,66,67,68,69] [(7,.one (.int .i64))] (.two .no (.two (.one (.two .no (.two (.two .no (.one (.loop [8,9,20,21,22,23,24,25,26,27,28,29,30,31,32,33,34] [(8,.one (.int .i64)),(9,.one (.int .i64))] .no))) .no))) .no))))) .no)
def law26_kept.P (p0 p1:Addr) (p2_0 p2_1 p2_2 p2_3 p2_4 p2_5:Int) (a2_6:Option Addr) (n2_6 c2_6:Nat) (p2_7:Int) (a2_8:Option Addr) (n2_8 c2_8:Nat) (w:World) (K:Bool×Unit→World→Prop):Prop:=
 NewV #[.int .i64 p2_0,.int .i64 p2_1,.int .i64 p2_2,.int .i64 p2_3,.int .i64 p2_4,.int .i64 p2_5,.slice a2_6 n2_6 c2_6,.int .i64 p2_7,.slice a2_8 n2_8 c2_8] 108 w fun b1 w2=>
 LoopV [.one (.int .i64)] ((0:Int),()) w2 fun (z3:Int×Unit) w4 (K5:Int×Unit→World→Prop)=>
 LoadS w4 ⟨b1,7,none⟩ (.int .i64) fun (x6:Int)=>
 cond (decide (z3.1<x6))
 (LoopV [.one (.int .i64),.one (.int .i64)] (((-1):Int),(0:Int),()) w4 fun (z7:Int×Int×Unit) w8 (K9:Int×Int×Unit→World→Prop)=>
 LoadS w8 ⟨b1,8,none⟩ .sl fun (x10:SlV)=>
 cond (decide (z7.2.1<((x10.n:Nat):Int)))
 (LoadS w8 ⟨b1,8,none⟩ .sl fun (x11:SlV)=>
 (0≤z7.2.1∧z7.2.1<((x11.n:Nat):Int))∧∃ q12:Addr,x11.a=some q12 ∧
 LoadS w8 (q12.add (z7.2.1.toNat*1)) (.int .i64) fun (x13:Int)=>
 cond (x13 == z3.1)
 (Rng .i64 (z7.2.1+1) ∧
 K9 (z7.2.1,z7.2.1+1,()) w8)
 (Rng .i64 (z7.2.1+1) ∧
 K9 (z7.1,z7.2.1+1,()) w8))
 (CallV Tryz.prog 24 #[.pointer (some p0)] w8 [.one .ptr] fun (r14:(Option Addr)×Unit) w15=>
 CallV Tryz.prog 39 #[.pointer r14.1,.int .i64 0,.int .i64 z3.1] w15 [.agg [.int .i64,.int .i64,.int .i64,.int .i64,.int .i64,.int .u32,.int .u64,.int .u64,.int .i64,.int .i64,.int .i64,.int .u32,.int .u64,.int .u64],.one .bool] fun (r16:(Int×Int×Int×Int×Int×Int×Int×Int×Int×Int×Int×Int×Int×Int×Unit)×Bool×Unit) w17=>
 NewV #[.int .i64 0,.int .i64 0,.int .i64 0,.int .i64 0,.int .i64 0,.int .u32 0,.int .u64 0,.int .u64 0,.int .i64 0,.int .i64 0,.int .i64 0,.int .u32 0,.int .u64 0,.int .u64 0] 83 w17 fun b18 w19=>
 StoreV w19 ⟨b18,0,none⟩ [.int .i64 r16.1.1,.int .i64 r16.1.2.1,.int .i64 r16.1.2.2.1,.int .i64 r16.1.2.2.2.1,.int .i64 r16.1.2.2.2.2.1,.int .u32 r16.1.2.2.2.2.2.1,.int .u64 r16.1.2.2.2.2.2.2.1,.int .u64 r16.1.2.2.2.2.2.2.2.1,.int .i64 r16.1.2.2.2.2.2.2.2.2.1,.int .i64 r16.1.2.2.2.2.2.2.2.2.2.1,.int .i64 r16.1.2.2.2.2.2.2.2.2.2.2.1,.int .u32 r16.1.2.2.2.2.2.2.2.2.2.2.2.1,.int .u64 r16.1.2.2.2.2.2.2.2.2.2.2.2.2.1,.int .u64 r16.1.2.2.2.2.2.2.2.2.2.2.2.2.2.1] fun w20=>
 cond (!(r16.2.1 == decide (z7.1≥0)))
 (K (false,()) w20)
 (cond (!r16.2.1)
 (Rng .i64 (z3.1+1) ∧
 K5 (z3.1+1,()) w20)
 (LoadA w20 ⟨b18,0,none⟩ [.int .i64,.int .i64] fun (x21:Int×Int×Unit)=>
 CallV Tryz.prog 130 #[.pointer (some p1),.agg #[.int .i64 x21.1,.int .i64 x21.2.1]] w20 [.one .sl,.one (.int .i64)] fun (r22:SlV×Int×Unit) w23=>
 cond (r22.2.1 != 0)
 (K (false,()) w23)
 (cond (((r22.1.n:Nat):Int) == 0)
 (K (false,()) w23)
 ((0≤(0:Int)∧0<((r22.1.n:Nat):Int))∧∃ q24:Addr,r22.1.a=some q24 ∧
 LoadS w23 (q24.add (0*1)) (.int .u8) fun (x25:Int)=>
 cond (x25 != (IntKind.u8.wrap z7.1))
 (K (false,()) w23)
 (Rng .i64 (z3.1+1) ∧
 K5 (z3.1+1,()) w23)))))))
 (K (true,()) w4)
theorem law26_kept.vc (p0 p1:Addr) (p2_0 p2_1 p2_2 p2_3 p2_4 p2_5:Int) (a2_6:Option Addr) (n2_6 c2_6:Nat) (p2_7:Int) (a2_8:Option Addr) (n2_8 c2_8:Nat) (w:World) (K:Bool×Unit→World→Prop) (h:law26_kept.P p0 p1 p2_0 p2_1 p2_2 p2_3 p2_4 p2_5 a2_6 n2_6 c2_6 p2_7 a2_8 n2_8 c2_8 w K):CallV Tryz.prog 67 #[.pointer (some p0),.pointer (some p1),.agg #[.int .i64 p2_0,.int .i64 p2_1,.int .i64 p2_2,.int .i64 p2_3,.int .i64 p2_4,.int .i64 p2_5,.slice a2_6 n2_6 c2_6,.int .i64 p2_7,.slice a2_8 n2_8 c2_8]] w [.one .bool] K:=by
 refine vcFun.of (A:=law26_kept.A) (wr:=false) okf_ok follows h Tryz.func67 ?_
 kernel_rfl
end Go.Proofs.YtbaojfchlhlaeaaGreat.Vc
namespace Go.Proofs.YtbaojfchlhlaeaaGreat.Vc
open Go Go.Eng Go.RowKit
section
variable {g:Geo} {n:Nat} {s t:SD} {b ns e u:Int} {C:CD} {L:List Blk} {O:List Hd}
theorem code0 (h:C.pl=[]):codeC C=(0,[],false):=by
 unfold codeC atF
 rw [h]
 rfl
theorem ref5 (C:CD) (bl pa:Int) (m:Nat):refC C bl pa m≠5:=by
 unfold refC
 split
 ·decide
 ·split
  ·decide
  ·split
   ·decide
   ·split <;> decide
theorem prog0 (h:C.pl=[]) (bl pa:Int) (xs:List Int):(progC C bl pa xs).2≠5∧(progC C bl pa xs).1.pl=[]:=by
 unfold progC
 split
 ·exact ⟨by rw [code0 h];show (0:Int)≠5;decide,h⟩
 ·exact ⟨ref5 _ _ _ _,h⟩
theorem era0 (h:NF C) (hz:C.pl=[]) {m:Int} (hm:0≤m∧m<C.g.b):(eraC C m).2=0∧(eraC C m).1.pl=[]:=by
 have e:eraC C m=(eraX C m,(codeC C).1):=if_pos (may_nc h hm)
 rw [e,code0 hz]
 exact ⟨rfl,hz⟩
theorem fst0 (h:C.pl=[]) (b:Int) (hd:Hd) (sl:Bool):(fstP C b hd sl).2≠5∧(fstP C b hd sl).1.pl=[]:=by
 unfold fstP selP
 split
 ·exact prog0 (prog0 h _ _ _).2 _ _ _
 ·exact prog0 h _ _ _
theorem prg0 (h:C.pl=[]) (bl pa:Int) (xs:List Int):(prgP C bl pa xs).2≠5∧(prgP C bl pa xs).1.pl=[]:=by
 unfold prgP
 split
 ·exact prog0 (prog0 h _ _ _).2 _ _ _
 ·exact prog0 h _ _ _
theorem dst_zf (h:CI n u C L) (hp:PI g n C L O) (hb:0≤b∧b<(n:Int)) (hz:C.pl=[]):(dstP C L b).2.2=0∧(dstP C L b).2.1=chL b n eB L∧(dstP C L b).1.pl=[]:=by
 have hnn:=hp.nn
 obtain ⟨e0,e1⟩:=era0 h.nf hz (m:=4+b) ⟨by omega,by rw [hp.gg];omega⟩
 unfold dstP
 rw [if_neg (by rw [e0];decide),if_pos e0,hp.ll]
 exact ⟨e0,rfl,e1⟩
theorem beg0 (h:C.pl=[]) (L:List Blk) (O:List Hd) (b ns:Int) (o:Hd) (sl:Bool):(begP C L O b ns o sl).2.2.2≠5∧(begP C L O b ns o sl).1.pl=[]:=by
 unfold begP
 split
 ·exact ⟨by show (0:Int)≠5;decide,(fst0 h _ _ _).2⟩
 ·exact ⟨(fst0 h _ _ _).1,(fst0 h _ _ _).2⟩
theorem opn_zf {o:Hd} (hn:0≤ns∧ns<4) (hr:o.rng) (sl:Bool) (k:Nat) (hp:PI g n C L O) (h:CI n (-1) C L) (ho:C.ops+6≤1000000000000) (hz:C.pl=[]) (hk:0≤pickT L n) :
  (opnP ns o sl (k+1) C L O).2.2=0∧(opnP ns o sl (k+1) C L O).2.1=pickT L n∧(opnP ns o sl (k+1) C L O).1.2.1=chL (pickT L n) n (hB ns) (if (gx L (pickT L n).toNat).cl=true then L else chL (pickT L n) n eB L)∧(opnP ns o sl (k+1) C L O).1.1.pl=[]:=by
 have hll:=hp.ll
 unfold opnP
 rw [←hll] at hk
 obtain ⟨hf,hfb⟩:=pick_free hk
 have hbd:0≤pickT L L.length∧pickT L L.length<(n:Int):=⟨hk,by have:=(bestT_bd (L:=L) (m:=fun _ x=>freeB x) (ah:=fun x y=>decide (x.er<y.er)) L.length).2;rw [←hll];exact this⟩
 rw [if_neg (by omega)]
 rw [hll] at hk hf hfb hbd ⊢
 generalize pickT L n=b at hk hf hfb hbd ⊢
 have hX:∃ C1 L1,(if (gx L b.toNat).cl=true then (C,L,(0:Int)) else dstP C L b)=(C1,L1,0)∧PI g n C1 L1 O∧CI n (-1) C1 L1∧C1.ops≤C.ops+2∧C1.pl=[]∧L1=(if (gx L b.toNat).cl=true then L else chL b n eB L)∧(gx L1 b.toNat).cl=true∧(gx L1 b.toNat).ba=false:=by
  by_cases hc:(gx L b.toNat).cl=true
  ·rw [if_pos hc,if_pos hc]
   exact ⟨C,L,rfl,hp,h,by omega,hz,rfl,hc,hfb⟩
  ·rw [if_neg hc,if_neg hc]
   obtain ⟨q1,q2,q3⟩:=hp.dst b (by omega)
   obtain ⟨d1,-⟩:=h.dst hp (by omega) hbd (.inl rfl) hf
   obtain ⟨z1,z2,z3⟩:=dst_zf h hp hbd hz
   refine ⟨(dstP C L b).1,(dstP C L b).2.1,by rw [←z1],q1,d1,q2,z3,z2,?_,?_⟩
   ·rw [z2,gx_eq hll hbd];rfl
   ·rw [z2,gx_eq hll hbd];exact hfb
 obtain ⟨C1,L1,hq,p1,c1,o1,z1,e1,bc,bb⟩:=hX
 rw [hq,← e1]
 dsimp only
 rw [if_pos rfl]
 obtain ⟨y1,y2⟩:=beg0 z1 L1 O b ns o sl
 rcases beg_nc (ns:=ns) (o:=o) c1 p1 (by omega) hbd hn hr sl bc bb with ⟨x1,x2,x3,x4⟩ | ⟨x1,x2,x3⟩
 ·rw [if_pos x1]
  exact ⟨rfl,rfl,x3,y2⟩
 ·exact absurd x1 y1
structure ZI (n:Nat) (s:SD):Prop where
 pl:s.C.pl=[]
 ro:s.ro=false
 nb:∀ i,i<n→(gx s.L i).ba=false
theorem ZI.bads (h:ZI n s) (hl:s.L.length=n):bads s.L=0:=by
 have h1:∀ i,i≤n→manyT s.L (fun x=>x.ba) i=0:=fun i=>by
  induction i with
  | zero=>exact fun _=>rfl
  | succ i ih=>
   intro hi
   unfold manyT
   rw [h.nb i (by omega),ih (by omega)]
   rfl
 show manyT s.L (fun x=>x.ba) s.L.length=0
 rw [hl]
 exact h1 n (Nat.le_refl n)
theorem ZI.over (h:ZI n s) (hl:s.L.length=n) (hg:0≤s.C.g.sp):overP s=(s,0):=by
 unfold overP
 rw [if_neg (by rw [h.bads hl];omega),h.ro]
 rfl
theorem ZI.left (h:ZI n s) (hl:s.L.length=n) (hg:0≤s.C.g.sp):leftP s 0=(s,0):=by
 have e1:leftP s 0=if (overP s).2≠0 then overP s else ((overP s).1,0):=rfl
 rw [e1,h.over hl hg]
 rfl
theorem sp0 (h:PI g n C L O):0≤C.g.sp:=by
 have:=h.ok.g.1
 unfold Kept at this
 omega
def RM (n:Nat) (s:SD):Prop:=capS s 0+capS s 1+capS s 2+capS s 3+1≤(n:Int)
theorem RM.of (h:RM n s) (hi:SI g n s) (ht:SI g n t) (hz:∀ ns,(getX t.X ns).n=(getX s.X ns).n):RM n t:=by
 unfold RM at h ⊢
 have:=cap_eq hi ht hz
 rw [this,this,this,this]
 exact h
theorem own_dec {x:Blk} (m:Int) (h1:x.he=true) (h2:x.ba=false):ownB m x=decide (x.ow=m):=by
 unfold ownB
 rw [h1,h2]
 by_cases e:x.ow=m
 ·rw [decide_eq_true e];simp [e]
 ·rw [decide_eq_false e];simp [e]
theorem own_all {L:List Blk}:∀ i,(∀ j,j<i→(gx L j).he=true∧(gx L j).ba=false∧0≤(gx L j).ow∧(gx L j).ow<4)→(i:Int)≤manyT L (ownB 0) i+manyT L (ownB 1) i+manyT L (ownB 2) i+manyT L (ownB 3) i
 | 0,_=>by show (0:Int)≤0+0+0+0;decide
 | i+1,h=>by
  have ih:=own_all i fun j hj=>h j (by omega)
  obtain ⟨h1,h2,h3,h4⟩:=h i (Nat.lt_succ_self i)
  have ex:=fun m=>own_dec m h1 h2
  unfold manyT
  rw [ex,ex,ex,ex]
  push_cast
  generalize gx L i=x at h3 h4 ⊢
  have hc:x.ow=0∨x.ow=1∨x.ow=2∨x.ow=3:=by omega
  rcases hc with e | e | e | e <;> rw [e] <;> simp <;> omega
theorem pick_zf (h:NI g n s) (hz:ZI n s) (hG:GD n s) (hR:RM n s):0≤pickT s.L n:=by
 rcases bestT_least (L:=s.L) (m:=fun _ x=>freeB x) (key:=fun x=>x.er) (ah:=fun x y=>decide (x.er<y.er)) (fun _ _=>rfl) n with ⟨-,k⟩ | ⟨a,k,-⟩
 ·exfalso
  have hall:∀ j,j<n→(gx s.L j).he=true∧(gx s.L j).ba=false∧0≤(gx s.L j).ow∧(gx s.L j).ow<4:=fun j hj=>by
   have k1:=k j hj
   have nb:=hz.nb j hj
   have he:(gx s.L j).he=true:=by
    dsimp only at k1
    unfold freeB at k1
    rw [nb] at k1
    simpa using k1
   have:=h.i.l.ho j hj he
   exact ⟨he,nb,this.1,this.2⟩
  have h1:=own_all n hall
  have hc:=(hG hz.ro).2
  have c0:=hc 0
  have c1:=hc 1
  have c2:=hc 2
  have c3:=hc 3
  unfold RM at hR
  omega
 ·show 0≤bestT s.L (fun _ x=>freeB x) (fun x y=>decide (x.er<y.er)) n
  rw [k]
  omega
theorem opnS_zf (h:NI g n s) (hz:ZI n s) (hk:0≤pickT s.L n) (hn:0≤ns∧ns<4) (sl:Bool) (ho:s.C.ops+768≤1000000000000) :
  (opnS ns sl s).2.2=0∧(opnS ns sl s).2.1=pickT s.L n∧(opnS ns sl s).1.L=chL (pickT s.L n) n (hB ns) (if (gx s.L (pickT s.L n).toNat).cl=true then s.L else chL (pickT s.L n) n eB s.L)∧(opnS ns sl s).1.C.pl=[]∧ZI n (opnS ns sl s).1:=by
 have hr:(⟨0,0,0,0,s.ep,u64w (s.op+1)⟩:Hd).rng:=⟨⟨Int.le_refl _,by show (0:Int)<4294967296;decide⟩,h.i.ep,u64w_R _⟩
 have e:opC ns ⟨0,0,0,0,s.ep,u64w (s.op+1)⟩ sl s.C s.L s.O=opnP ns ⟨0,0,0,0,s.ep,u64w (s.op+1)⟩ sl (127+1) s.C s.L s.O:=if_pos hn
 obtain ⟨a1,a2,a3,a4⟩:=opn_zf (ns:=ns) (o:=⟨0,0,0,0,s.ep,u64w (s.op+1)⟩) hn hr sl 127 h.i.pi h.c (by omega) hz.pl hk
 unfold opnS
 rw [e]
 dsimp only
 refine ⟨a1,a2,a3,a4,a4,hz.ro,fun i hi=>?_⟩
 dsimp only
 rw [a3]
 have key:∀ i,i<n→(gx (if (gx s.L (pickT s.L n).toNat).cl=true then s.L else chL (pickT s.L n) n eB s.L) i).ba=false:=fun i hi=>by
  split
  ·exact hz.nb i hi
  ·rw [gx_ch h.i.ln]
   split
   ·exact hz.nb i hi
   ·exact hz.nb i hi
 rw [gx_ch (by split;exact h.i.ln;rw [chL_len];exact h.i.ln)]
 split
 ·exact key i hi
 ·exact key i hi
theorem cop0 (to:Int):∀ (l:List (Int×Int)) (i:Int) (s:SD),s.C.pl=[]→(copP to l i s).2≠5∧(copP to l i s).1.C.pl=[]
 | [],i,s,h=>by
  show (slC s.L.length s.C to).2≠5∧(slC s.L.length s.C to).1.pl=[]
  unfold slC selP
  split
  ·exact prog0 h _ _ _
  ·exact ⟨by show (2:Int)≠5;decide,h⟩
 | k::l,i,s,h=>by
  have hc:(cpyS s to i k).2≠5∧(cpyS s to i k).1.C.pl=[]:=by
   show (cpyC s.L.length s.C to i k.1 k.2).2≠5∧(cpyC s.L.length s.C to i k.1 k.2).1.pl=[]
   unfold cpyC
   split
   ·split
    ·exact prg0 h _ _ _
    ·refine ⟨?_,h⟩
     unfold readC
     split
     ·show (4:Int)≠5;decide
     ·split
      ·show (0:Int)≠5;decide
      ·show (2:Int)≠5;decide
   ·exact ⟨by show (2:Int)≠5;decide,h⟩
  rw [show copP to (k::l) i s=if (cpyS s to i k).2≠0 then cpyS s to i k else copP to l (i+1) (cpyS s to i k).1 from rfl]
  split
  ·exact hc
  ·exact cop0 to l (i+1) _ hc.2
theorem cop_er (to:Int):∀ (l:List (Int×Int)) (i:Int) (s:SD) (j:Nat),(gx (copP to l i s).1.L j).er=(gx s.L j).er∧(gx (copP to l i s).1.L j).cl=(gx s.L j).cl
 | [],i,s,j=>⟨rfl,rfl⟩
 | k::l,i,s,j=>by
  have hc:(gx (cpyS s to i k).1.L j).er=(gx s.L j).er∧(gx (cpyS s to i k).1.L j).cl=(gx s.L j).cl:=by
   show (gx (chL to s.L.length uB s.L) j).er=_∧(gx (chL to s.L.length uB s.L) j).cl=_
   rw [gx_ch rfl]
   split <;> exact ⟨rfl,rfl⟩
  rw [show copP to (k::l) i s=if (cpyS s to i k).2≠0 then cpyS s to i k else copP to l (i+1) (cpyS s to i k).1 from rfl]
  split
  ·exact hc
  ·have:=cop_er to l (i+1) (cpyS s to i k).1 j
   exact ⟨this.1.trans hc.1,this.2.trans hc.2⟩
structure EmZ (n:Nat) (s t:SD) (b ns:Int):Prop where
 z:ZI n t
 fr:frG s ns=-1→(frG t ns<0∧t.L=chL b n rB s.L)∨∃ to:Int,frG t ns=to∧0≤to∧(gx t.L to.toNat).us=(gx s.L b.toNat).li
 L:t.L=chL b n rB s.L∨∃ to:Nat,to<n∧(gx s.L to).he=false∧to≠b.toNat∧(to:Int)=pickT s.L n∧(∀ i,i≠b.toNat→i≠to→gx t.L i=gx s.L i)∧gx t.L b.toNat=rB (gx s.L b.toNat) ∧
  (gx t.L to).he=true∧(gx t.L to).ow=ns∧(gx t.L to).us=(gx t.L to).li∧(gx t.L to).li=(gx s.L b.toNat).li∧(gx t.L to).er=(gx s.L to).er+(if (gx s.L to).cl=true then 0 else 1)
theorem emp_zf (h:NI g n s) (hz:ZI n s) (hk:0≤pickT s.L n) (hn:0≤ns∧ns<4) (hb:0≤b∧b<(n:Int)) (ho:(gx s.L b.toNat).ow=ns) (hp:s.C.ops+215040≤1000000000000) :
  (empP s b ns).2=0∧EmZ n s (empP s b ns).1 b ns:=by
 obtain ⟨h1,h2,h3,h4,h5⟩:=h.i.fs0 hn (fun _=>ho)
 have hro:(Vc.fs0 s ns b).ro=s.ro:=by unfold Vc.fs0;split <;> rfl
 have hfs:frG s ns=-1→frG (Vc.fs0 s ns b) ns=-1:=fun e=>by unfold Vc.fs0;rw [if_neg (by omega)];exact e
 have N1:NI g n (Vc.fs0 s ns b):=⟨h1.i,h.c.of h5 h3⟩
 have Z1:ZI n (Vc.fs0 s ns b):=⟨by rw [h5];exact hz.pl,hro.trans hz.ro,fun i hi=>by rw [h3];exact hz.nb i hi⟩
 have e:empP s b ns=if inP s.X (4+b)=[] then (chS (Vc.fs0 s ns b) b rB,0) else Vc.empL b ns (inP s.X (4+b)) 256 (Vc.fs0 s ns b):=rfl
 have hll:(inP s.X (4+b)).length=((gx s.L b.toNat).li).toNat:=by
  rw [h.i.l.li _ (by omega),show 4+((b.toNat:Nat):Int)=4+b by omega];omega
 have hli0:0≤(gx s.L b.toNat).li:=by rw [h.i.l.li _ (by omega)];omega
 have hhe:(gx s.L b.toNat).li≠0→(gx s.L b.toNat).he=true:=h.i.l.he _ (by omega)
 suffices k:(empP s b ns).2=0∧EmZ n (Vc.fs0 s ns b) (empP s b ns).1 b ns from ⟨k.1,⟨k.2.z,fun e=>by rw [←h3];exact k.2.fr (hfs e),by rw [←h3];exact k.2.L⟩⟩
 rw [e]
 rw [←h3] at hk ho hli0 hhe hll
 rw [←h4] at hll ⊢
 clear e h3 h4 h
 generalize Vc.fs0 s ns b=s at h1 h2 h5 hro N1 Z1 hk ho hll hli0 hhe ⊢
 have h:=N1
 have hz:=Z1
 have hln:=h.i.ln
 rw [←h5] at hp
 by_cases hl:inP s.X (4+b)=[]
 ·rw [if_pos hl]
  refine ⟨rfl,⟨hz.pl,hz.ro,fun i hi=>?_⟩,fun e=>.inl ⟨by show frG s ns<0;omega,by show chL b s.L.length rB s.L=_;rw [hln]⟩,.inl (by show chL b s.L.length rB s.L=_;rw [hln])⟩
  rw [chS_gx h.i]
  split
  ·exact hz.nb i hi
  ·exact hz.nb i hi
 rw [if_neg hl]
 have hli:(gx s.L b.toNat).li≠0:=fun e=>hl (List.length_eq_zero_iff.1 (by rw [hll,e];rfl))
 have hE:EmI g n s b ns (inP s.X (4+b)):=⟨h.i,hn,hb,rfl,hhe hli,ho,h2⟩
 generalize hlq:inP s.X (4+b)=l at hl hll hE ⊢
 obtain ⟨b1,x1,f1,k1,B1⟩:=h.i.beg hn (sl:=false) (by omega)
 obtain ⟨NO,ee1,no1,ok1,ro1⟩:=h.opn hn false (by omega)
 obtain ⟨z1,z2,z3,z4,z5⟩:=opnS_zf h hz hk hn false (by omega)
 have zl:=z5.left NO.i.ln (sp0 NO.i.pi)
 show (Vc.empL b ns l (255+1) s).2=0∧EmZ n _ (Vc.empL b ns l (255+1) s).1 b ns
 unfold Vc.empL
 dsimp only
 rw [z1] at b1 x1 f1 k1 ⊢
 have hB:=B1 z1
 rw [z1] at hB
 rw [zl] at b1 x1 f1 k1 hB ⊢
 obtain ⟨G1,Bg⟩:=ok1 z1
 clear B1 ok1 no1 ee1
 generalize opnS ns false s=r at b1 x1 f1 k1 hB G1 Bg NO z1 z2 z3 z4 z5 zl ro1 ⊢
 obtain ⟨r1,to,re⟩:=r
 dsimp only at b1 x1 f1 k1 hB G1 Bg NO z1 z2 z3 z4 z5 zl ro1 ⊢
 rw [if_neg (fun k=>k rfl)]
 obtain ⟨y,hy,hyb⟩:=hB.y
 have ht:=hB.ht
 have hlen:=l32 h.i.l (4+b)
 rw [hlq] at hlen
 have hlen2:=h.i.l.len (4+b)
 rw [hlq] at hlen2
 obtain ⟨a1,hne,e1,nf1,l0,mv⟩:=hE.cop b1.i x1 f1 k1 hB (by have:=b1.o2;omega)
 obtain ⟨-,c2,c3,-,-,c5,c6,c7,c8,c9,c10,c11⟩:=SI.cop ht l 1 b1.i (by rw [hy];show (0:Int)+_≤_;omega) (by have:=b1.o2;omega)
 have hsrc:∀ q∈l,inC r1.C q.1 q.2∧q.1≠4+to:=fun q hq=>by
  rw [←hlq] at hq
  obtain ⟨q1,q2,q3⟩:=inP_mem.1 hq
  have q4:=(h.i.l.xb q q3).2
  have hnn:=h.i.pi.nn
  exact ⟨by unfold inC;rw [NO.i.pi.gg];omega,by omega⟩
 have K:=NI.cop ht l 1 NO (by rw [hy];rfl) (by rw [hy];exact hyb) (by rw [Bg.us 0];rfl) (by rw [hy];rfl) (by rw [hy];show (0:Int)+_≤_;omega) hsrc (by have:=b1.o2;omega)
 obtain ⟨w1,w2⟩:=cop0 to l 1 r1 z4
 have w3:=cop_er to l 1 r1
 have hc0:(copP to l 1 r1).2=0:=K.ee.resolve_right w1
 rw [if_pos hc0]
 have c11:=c11 hc0
 generalize copP to l 1 r1=c at a1 e1 nf1 l0 mv c2 c3 c5 c6 c7 c8 c9 c10 c11 K w1 w2 w3 hc0 ⊢
 obtain ⟨c1,ce⟩:=c
 dsimp only at a1 e1 nf1 l0 mv c2 c3 c5 c6 c7 c8 c9 c10 c11 K w1 w2 w3 ⊢
 obtain ⟨m1,m2,m3,m4⟩:=mov_fld c1 b to ns l
 have lc:c1.L.length=n:=e1.i.ln
 have eL:(movP c1 b to ns l).L=chL b n rB (chL to n (cB (l.length:Int)) c1.L):=by rw [m2,lc]
 have l1':(chL to n (cB (l.length:Int)) c1.L).length=n:=by rw [chL_len];exact lc
 have gi:∀ i,i≠b.toNat→i≠to.toNat→gx (movP c1 b to ns l).L i=gx c1.L i:=fun i h1 h2=>by rw [eL,gx_ne l1' h1,gx_ne lc h2]
 have gB:gx (movP c1 b to ns l).L b.toNat=rB (gx c1.L b.toNat):=by rw [eL,gx_eq l1' hb,gx_ne lc (by omega)]
 have gT:gx (movP c1 b to ns l).L to.toNat=cB (l.length:Int) (gx c1.L to.toNat):=by rw [eL,gx_ne l1' (by omega),gx_eq lc ht]
 have lr:r1.L.length=n:=NO.i.ln
 have gr:∀ i,i≠to.toNat→gx r1.L i=gx s.L i:=fun i hi=>by
  rw [z3,← z2,gx_ne (by split;exact hln;rw [chL_len];exact hln) hi]
  split
  ·rfl
  ·exact gx_ne hln hi
 have er:(gx r1.L to.toNat).er=(gx s.L to.toNat).er+(if (gx s.L to.toNat).cl=true then 0 else 1):=by
  rw [z3,← z2,gx_eq (by split;exact hln;rw [chL_len];exact hln) ht]
  split
  ·show (gx s.L to.toNat).er=_;omega
  ·show (gx (chL to n eB s.L) to.toNat).er=_
   rw [gx_eq hln ht];rfl
 have bar:∀ i,i<n→(gx c1.L i).ba=false:=fun i hi=>by
  by_cases e:i=to.toNat
  ·rw [e,c10];exact z5.nb _ (by omega)
  ·rw [c6 i e];exact z5.nb _ hi
 have usT:(gx (movP c1 b to ns l).L to.toNat).us=(l.length:Int):=by
  rw [gT]
  show (gx c1.L to.toNat).us=_
  rw [c11,hy]
  show (0:Int)+_=_
  omega
 have frT:frG s ns=-1→frG (movP c1 b to ns l) ns=to:=fun e=>by
  have e0:frG c1 ns=-1:=by
   show c1.fr.getD ns.toNat 0=-1
   rw [c3,f1];exact e
  unfold movP
  dsimp only
  rw [if_pos (by show frG c1 ns<0;omega)]
  show (c1.fr.set ns.toNat to).getD ns.toNat 0=to
  rw [List.getD_eq_getElem?_getD,List.getElem?_set_self (by rw [e1.i.fl];omega)]
  rfl
 refine ⟨rfl,⟨by rw [m1];exact w2,by rw [m4,c5];exact z5.ro,fun i hi=>?_⟩,fun e=>.inr ⟨to,frT e,ht.1,by rw [usT];omega⟩,.inr ⟨to.toNat,by omega,hB.h0,by omega,by omega,fun i h1 h2=>?_,?_,?_,?_,?_,?_,?_⟩⟩
 ·by_cases e2:i=b.toNat
  ·rw [e2,gB];exact bar _ (by omega)
  ·by_cases e3:i=to.toNat
   ·rw [e3,gT];exact bar _ (by omega)
   ·rw [gi i e2 e3];exact bar i hi
 ·rw [gi i h1 h2,c6 i h2];exact gr i h2
 ·rw [gB,c6 _ (by omega),gr _ (by omega)]
 ·rw [gT];show (gx c1.L to.toNat).he=true;rw [c7,hy];rfl
 ·rw [gT];show (gx c1.L to.toNat).ow=ns;rw [c8,hy];rfl
 ·rw [gT]
  have hl9:(gx c1.L to.toNat).li=0:=by rw [c9,hy];rfl
  show (gx c1.L to.toNat).us=(if (l.length:Int)<0-(gx c1.L to.toNat).li then 0 else (gx c1.L to.toNat).li+(l.length:Int))
  rw [hl9,if_neg (by omega),c11,hy]
  rfl
 ·rw [gT]
  have hl9:(gx c1.L to.toNat).li=0:=by rw [c9,hy];rfl
  show (if (l.length:Int)<0-(gx c1.L to.toNat).li then 0 else (gx c1.L to.toNat).li+(l.length:Int))=_
  rw [hl9,if_neg (by omega)]
  omega
 ·rw [gT];show (gx c1.L to.toNat).er=_;rw [(w3 _).1];exact er
end
end Go.Proofs.YtbaojfchlhlaeaaGreat.Vc
namespace Go.Proofs.YtbaojfchlhlaeaaGreat.Vc
open Go Go.Eng Go.RowKit
section
variable {g:Geo} {n:Nat} {s t:SD} {T:Hh→List Int} {b ns e u:Int}
theorem NI.emt (h:NI g n s) (hG:GD n s) (hb:0≤b∧b<(n:Int)) (ho:s.C.ops+215040≤1000000000000) :
  NI g n (emtS s b).1∧StN g n T s (emtS s b).1∧((emtS s b).2=0∨((emtS s b).2=15∧(emtS s b).1.ro=true))∧((emtS s b).2=0→(emtS s b).1.ro=s.ro)∧((emtS s b).2=0→(gx (emtS s b).1.L b.toNat).he=false):=by
 obtain ⟨hI,hh⟩:=h.i.emt (b:=b) ho
 suffices k:StN g n T s (emtS s b).1∧((emtS s b).2=0∨((emtS s b).2=15∧(emtS s b).1.ro=true))∧((emtS s b).2=0→(emtS s b).1.ro=s.ro) from ⟨⟨hI.i,k.1.ci⟩,k.1,k.2.1,k.2.2,fun e=>hh e hb⟩
 clear hh
 unfold emtS at hI ⊢
 rw [h.i.ln,if_neg (fun k=>k hb)] at hI ⊢
 dsimp only at hI ⊢
 by_cases hx:(gx s.L b.toNat).he=false∨(gx s.L b.toNat).ow<0∨4≤(gx s.L b.toNat).ow
 ·rw [if_pos hx]
  exact ⟨.refl h,.inl rfl,fun _=>rfl⟩
 rw [if_neg hx] at hI ⊢
 by_cases hc:0<(gx s.L b.toNat).li∧s.ro=true
 ·rw [if_pos hc]
  exact ⟨.refl h,.inr ⟨rfl,hc.2⟩,fun e=>by cases e⟩
 rw [if_neg hc] at hI ⊢
 have E:=h.emp (T:=T) (b:=b) (ns:=(gx s.L b.toNat).ow) (by omega) hb rfl ho
 exact ⟨E.st h.i hI.i hI.sz (fun hr=>(hG hr).1 _ (by omega) (by
  cases q:(gx s.L b.toNat).he
  ·exact absurd (.inl q) hx
  ·rfl)),E.ee,E.ro⟩
theorem NI.dstN (h:NI g n s) (hb:0≤b∧b<(n:Int)) (hh:(gx s.L b.toNat).he=false) (ho:s.C.ops+2≤1000000000000) :
  NI g n (dstS s b).1∧StN g n T s (dstS s b).1∧((dstS s b).2=0∨(dstS s b).2=5∨(dstS s b).2=17)∧(∀ i,i≠b.toNat→gx (dstS s b).1.L i=gx s.L i)∧(gx (dstS s b).1.L b.toNat).he=false:=by
 obtain ⟨d1,d2,d3,d4,d5,d6,d7⟩:=h.dst hb hh ho
 obtain ⟨sd,sdx,sdf⟩:=h.i.dst (b:=b) (fun _=>hh) ho
 refine ⟨d1,⟨d1.c,d3.ba,fun hT=>?_,fun m j=>by rw [sdx],fun hG=>hG.sub (cap_eq h.i d1.i sd.sz) d7 fun i hi hk=>?_,d7⟩,d2,d4,d5⟩
 ·refine hT.of sdx (by rw [d1.i.pi.gg,h.i.pi.gg]) (fun q hq=>?_) h.i.xo.four
  have hq2:=(h.i.l.xb q hq).1
  have hne:q.1≠4+b:=fun e=>h.i.l.none hb (h.i.l.free (by omega) hh) (k:=q) e hq
  have eC:(dstS s b).1.C=(dstP s.C s.L b).1:=by
   have e:dstS s b=((overP {s with C:=(dstP s.C s.L b).1,L:=(dstP s.C s.L b).2.1}).1,(dstP s.C s.L b).2.2):=by unfold dstS;rw [if_pos (by rw [h.i.ln];exact hb)]
   rw [e]
   exact (over_f {s with C:=(dstP s.C s.L b).1,L:=(dstP s.C s.L b).2.1}).1
  unfold pgC13
  rw [eC,dst_blk _ _ _ (by omega)]
 ·have hne:i≠b.toNat:=fun e=>by rw [e,d5] at hk;cases hk
  rw [d4 i hne] at hk ⊢
  exact ⟨hk,rfl,rfl⟩
theorem dstS_zf (h:NI g n s) (hz:ZI n s) (hb:0≤b∧b<(n:Int)):(dstS s b).2=0∧(dstS s b).1.L=chL b n eB s.L∧ZI n (dstS s b).1:=by
 obtain ⟨z1,z2,z3⟩:=dst_zf h.c h.i.pi hb hz.pl
 have Z:ZI n {s with C:=(dstP s.C s.L b).1,L:=(dstP s.C s.L b).2.1}:=⟨z3,hz.ro,fun i hi=>by
  show (gx (dstP s.C s.L b).2.1 i).ba=false
  rw [z2,gx_ch h.i.ln]
  split
  ·exact hz.nb i hi
  ·exact hz.nb i hi⟩
 have hg:(dstP s.C s.L b).1.g=s.C.g:=by
  have e:=(eraC_k s.C (4+b)).1
  unfold dstP
  split
  ·split
   ·exact (scrC_k _ _).1.trans e
   ·exact (scrC_k _ _).1.trans e
  ·exact e
 have e:dstS s b=((overP {s with C:=(dstP s.C s.L b).1,L:=(dstP s.C s.L b).2.1}).1,(dstP s.C s.L b).2.2):=by unfold dstS;rw [if_pos (by rw [h.i.ln];exact hb)]
 rw [e,Z.over (by show (dstP s.C s.L b).2.1.length=n;rw [z2,chL_len];exact h.i.ln) (by show 0≤(dstP s.C s.L b).1.g.sp;rw [hg];exact sp0 h.i.pi)]
 exact ⟨z1,z2,Z⟩
theorem emtS_zf (h:NI g n s) (hz:ZI n s) (hG:GD n s) (hR:RM n s) (hb:0≤b∧b<(n:Int)) (ho:s.C.ops+215040≤1000000000000) :
  (emtS s b).2=0∧(((gx s.L b.toNat).he=false∧(emtS s b).1=s)∨((gx s.L b.toNat).he=true∧EmZ n s (emtS s b).1 b (gx s.L b.toNat).ow)):=by
 unfold emtS
 rw [h.i.ln,if_neg (fun k=>k hb)]
 dsimp only
 have hho:=h.i.l.ho b.toNat (by omega)
 cases q:(gx s.L b.toNat).he
 ·rw [if_pos (.inl rfl)]
  exact ⟨rfl,.inl ⟨rfl,rfl⟩⟩
 ·rw [if_neg (by rintro (k | k | k);cases k;have:=hho q;omega;have:=hho q;omega),if_neg (by rw [hz.ro];rintro ⟨-,k⟩;cases k)]
  obtain ⟨e1,e2⟩:=emp_zf h hz (pick_zf h hz hG hR) (hho q) hb rfl ho
  exact ⟨e1,.inr ⟨rfl,e2⟩⟩
theorem emp_neg' (h:NI g n s) (hb:b<0):(empP s b ns).1.L=s.L∧(empP s b ns).1.C=s.C:=by
 have hl:inP s.X (4+b)=[]:=inP_nil fun k hk h1=>by
  have:=(h.i.l.xb k h1).1
  omega
 have e:empP s b ns=(chS (Vc.fs0 s ns b) b rB,0):=if_pos hl
 rw [e]
 have e2:∀ s:SD,chS s b rB=s:=fun s=>by
  have:chL b s.L.length rB s.L=s.L:=if_neg (fun k=>by have:0≤b:=k.1;omega)
  unfold chS
  rw [this]
 rw [e2]
 unfold Vc.fs0
 split <;> exact ⟨rfl,rfl⟩
theorem clos_zf (h:NI g n s) (hz:ZI n s) (ns:Int):ZI n (closP s ns):=by
 unfold closP
 split
 ·refine ⟨hz.pl,hz.ro,fun i hi=>?_⟩
  show (gx (chL (frG s ns) s.L.length rB s.L) i).ba=false
  rw [gx_ch rfl]
  split
  ·exact hz.nb i hi
  ·exact hz.nb i hi
 ·exact ⟨hz.pl,hz.ro,hz.nb⟩
theorem room_zf (h:NI g n s) (hz:ZI n s) (hG:GD n s) (hR:RM n s) (hn:0≤ns∧ns<4) (hp:s.C.ops+215040≤1000000000000):(roomP s ns).2=0∧ZI n (roomP s ns).1:=by
 obtain ⟨N1,S1⟩:=h.clos (T:=fun _=>[]) hn
 have hcl:=h.i.clos hn
 have hc:=clos_f s ns
 have Z1:=clos_zf h hz ns
 have hk:=pick_zf N1 Z1 (S1.gd hG) (hR.of h.i N1.i hcl.sz)
 unfold roomP
 split
 ·have e:s.L.length=(closP s ns).L.length:=by rw [N1.i.ln,h.i.ln]
  rw [e]
  have hv:=vict_bd (L:=(closP s ns).L) (ns:=ns) (bu:=-1)
  rw [N1.i.ln] at hv
  by_cases hb:0≤victT (closP s ns).L ns (-1) (closP s ns).L.length
  ·have hw:=own_is (vict_is N1.i.ln hb)
   rw [N1.i.ln] at hb hw ⊢
   obtain ⟨e1,e2⟩:=emp_zf N1 Z1 hk hn ⟨hb,hv.2⟩ hw.2.2 (by rw [hc.1];exact hp)
   exact ⟨e1,e2.z⟩
  ·obtain ⟨k1,-,k3⟩:=emp_neg (T:=fun _=>[]) N1 hn (b:=victT (closP s ns).L ns (-1) (closP s ns).L.length) (by omega)
   obtain ⟨k4,k5⟩:=emp_neg' (ns:=ns) N1 (b:=victT (closP s ns).L ns (-1) (closP s ns).L.length) (by omega)
   exact ⟨k1,by rw [k5];exact Z1.pl,k3.trans Z1.ro,fun i hi=>by rw [k4];exact Z1.nb i hi⟩
 ·obtain ⟨z1,z2,z3,z4,z5⟩:=opnS_zf N1 Z1 hk hn true (by rw [hc.1];omega)
  obtain ⟨N2,-⟩:=N1.opn hn true (by rw [hc.1];omega)
  dsimp only
  rw [if_pos z1,z1]
  have Z2:ZI n (frS (opnS ns true (closP s ns)).1 ns (opnS ns true (closP s ns)).2.1):=⟨z5.pl,z5.ro,z5.nb⟩
  rw [Z2.left N2.i.ln (sp0 N2.i.pi)]
  exact ⟨rfl,Z2⟩
theorem wrt0 {C:CD} (h:C.pl=[]) (m:Nat) (b pa:Int) (hd:Hd) (xs tg:List Int):(wrtT m C b pa hd xs tg).2≠5∧(wrtT m C b pa hd xs tg).1.pl=[]:=by
 unfold wrtT
 by_cases h1:0≤b∧b<(m:Int)
 ·rw [if_pos h1]
  by_cases h2:HRight hd
  ·rw [if_pos h2];exact prg0 h _ _ _
  ·rw [if_neg h2];exact ⟨by show (2:Int)≠5;decide,h⟩
 ·rw [if_neg h1];exact ⟨by show (2:Int)≠5;decide,h⟩
theorem wr_zf (hn:0≤ns∧ns<4) {hd:Hd} {xs tg:List Int} (hr:hd.rng) (hR:HRight hd) (bx:Byt xs) (bt:Byt tg) (lx:xs.length=0∨(xs.length:Int)=g.s) (lt:tg.length=0∨tg.length=32):∀ (k:Nat) {s:SD},NI g n s→ZI n s→GD n s→RM n s→1≤(getX s.X ns).n→s.C.ops+wC k≤1000000000000 →
  ZI n (wrP ns hd xs tg k s).1
 | 0,s,h,hz,_,_,_,_=>hz
 | k+1,s,h,hz,hG,hM,hsz,ho=>by
  have hwc:=wCs k
  unfold wrP
  dsimp only
  by_cases hf:fulP s ns
  ·rw [if_pos hf]
   obtain ⟨N1,S1,e1,r1⟩:=h.room (T:=fun _=>[]) hn hsz (by omega)
   have h1:=h.i.room hn (by omega)
   obtain ⟨z1,z2⟩:=room_zf h hz hG hM hn (by omega)
   have o1:=h1.o2
   rw [if_neg (by rw [z1];decide)]
   exact wr_zf hn hr hR bx bt lx lt k N1 z2 (S1.gd hG) (hM.of h.i N1.i h1.sz) (by rw [h1.sz];exact hsz) (by omega)
  ·rw [if_neg hf]
   obtain ⟨N1,S1,e1,r1,p1⟩:=h.wr1 (T:=fun _=>[]) hn hf hG hz.ro hr hR bx bt lx lt (by omega)
   obtain ⟨h1,x1,f1,l1⟩:=h.i.wr1 hn hf (hd:=hd) hr bx bt (xs:=xs) (tg:=tg) (by omega)
   have w0:(Vc.wr1 s ns hd xs tg).2≠5∧(Vc.wr1 s ns hd xs tg).1.C.pl=[]:=by
    exact wrt0 hz.pl _ _ _ _ _ _
   rw [if_pos (e1.resolve_right w0.1)]
   refine ⟨w0.2,r1.trans hz.ro,fun i hi=>?_⟩
   dsimp only
   rw [l1,gx_ch h.i.ln]
   split
   ·exact hz.nb i hi
   ·exact hz.nb i hi
theorem put_zf (h:NI g n s) (hz:ZI n s) (hG:GD n s) (hM:RM n s) {hd:Hd} {xs tg:List Int} (hr:hd.rng) (hR:mayP s hd→HRight hd) (bx:Byt xs) (bt:Byt tg) (lx:xs.length=0∨(xs.length:Int)=g.s) (lt:tg.length=0∨tg.length=32) (ho:s.C.ops+55051264≤1000000000000) :
  ZI n (putS s hd xs tg).1:=by
 unfold putS
 by_cases hm:mayP s hd
 case neg=>rw [if_pos hm];exact hz
 rw [if_neg (fun k=>k hm),if_neg (by rw [hz.ro];exact Bool.false_ne_true)]
 have hn:=may_ns hm
 have hwc:=wC256
 have W:=wr_zf (ns:=hd.n) hn hr (hR hm) bx bt lx lt 256 h hz hG hM (by have:=hm.2.1;have:=hm.2.2.1;omega) (by omega)
 obtain ⟨a1,a2⟩:=SI.wr hn hr bx bt (xs:=xs) (tg:=tg) 256 h.i (by omega)
 dsimp only
 split
 ·exact W
 ·rename_i he
  have he:(wrP hd.n hd xs tg 256 s).2.2=0:=Classical.byContradiction he
  have hA:=a2 he
  have hm2:mayP (wrP hd.n hd xs tg 256 s).1 hd:=(may_sz a1.sz).2 hm
  obtain ⟨b0,b1,b2,b3,b4,b5,b6,b7,b8⟩:=a1.i.lnd hA hm2 hr hn
  obtain ⟨l1,-⟩:=lnd_L (n:=n) (wrP hd.n hd xs tg 256 s).1 hd (wrP hd.n hd xs tg 256 s).2.1
  exact ⟨by dsimp only;rw [b1];exact W.pl,by dsimp only;rw [b8];exact W.ro,fun i hi=>by dsimp only;rw [l1.ba];exact W.nb i hi⟩
end
end Go.Proofs.YtbaojfchlhlaeaaGreat.Vc
namespace Go.Proofs.YtbaojfchlhlaeaaGreat.Vc
open Go Go.Eng Go.RowKit
abbrev HasF:=Int→Nat→Option (Hh×List Int)
def noF:HasF:=fun _ _=>none
def updF (F:HasF) (hd:Hd) (P:List Int):HasF:=fun m j=>if spk hd m j then some (hd.hh,P) else F m j
structure KE (F:HasF) (t:SD):Prop where
 ex:∃ T,PGI T t∧∀ m j,F m j=(hdX t.X m j).map fun h=>(h,T h)
 fr:∀ m j h,hdX t.X m j=some h→h.e=t.ep∧h.t≤t.ct
section
variable {g:Geo} {n:Nat} {s t:SD} {F:HasF} {e:Int}
theorem KE.st (h:KE F s) (k:∀ T,StN g n T s t) (he:t.ep=s.ep) (hc:t.ct=s.ct):KE F t:=by
 obtain ⟨T,h1,h2⟩:=h.ex
 have kT:=k T
 exact ⟨⟨T,kT.pg h1,fun m j=>by rw [kT.hx];exact h2 m j⟩,fun m j x hx=>by rw [he,hc];exact h.fr m j x (by rw [←kT.hx];exact hx)⟩
theorem KE.put (h:KE F s) {hd0:Hd} {P:List Int} (k:∀ T,PutN g n T (nxtS s hd0).1 t (nxtS s hd0).2 P e) (he:t.ep=s.ep) (hc:t.ct=s.ct+1) (hw:0≤s.ct∧s.ct+1<18446744073709551616):KE (if e=0 then updF F (nxtS s hd0).2 P else F) t:=by
 obtain ⟨T,h1,h2⟩:=h.ex
 have kT:=k T
 have hX:(nxtS s hd0).1.X=s.X:=rfl
 have hct:(nxtS s hd0).2.hh.t=s.ct+1:=by
  show u64w (s.ct+1)=_
  have:u64w (s.ct+1)=(s.ct+1) % 18446744073709551616:=by simp [u64w,IntKind.wrap,IntKind.signed,IntKind.bits]
  omega
 have hep:(nxtS s hd0).2.hh.e=s.ep:=rfl
 have hF:Fresh (nxtS s hd0).1 (nxtS s hd0).2:=fun m j x hx=>by
  have:=h.fr m j x hx
  exact .inr ⟨by rw [hep];exact this.1,by rw [hct];omega⟩
 refine ⟨⟨if e=0 then updT T (nxtS s hd0).2 P else T,kT.pg h1 hF,fun m j=>?_⟩,fun m j x hx=>?_⟩
 ·rw [kT.hx hF,hX]
  by_cases e0:e=0
  ·rw [if_pos e0,if_pos e0]
   unfold updF
   by_cases hs:spk (nxtS s hd0).2 m j
   ·rw [if_pos hs,if_pos ⟨e0,hs⟩]
    show some _=some (_,updT T (nxtS s hd0).2 P (nxtS s hd0).2.hh)
    unfold updT
    rw [if_pos rfl]
   ·rw [if_neg hs,if_neg (fun k=>hs k.2),h2]
    cases hq:hdX s.X m j with
    | none=>rfl
    | some x=>
     have hl:=hF m j x hq
     show some (x,T x)=some (x,updT T (nxtS s hd0).2 P x)
     unfold updT
     rw [if_neg (fun k=>by rw [k] at hl;exact lesH_irr _ hl)]
  ·rw [if_neg e0,if_neg e0,if_neg (fun k=>e0 k.1),h2]
 ·rw [he,hc]
  rcases kT.h0 m j x hx with k | k
  ·rw [k,hep,hct]
   exact ⟨rfl,Int.le_refl _⟩
  ·have:=h.fr m j x k
   exact ⟨this.1,by omega⟩
theorem KE.get (h:KE F t) (hX:XOk t.X) {m:Int} {j:Nat} (hm:0≤m∧m<4) (hj:j<(getX t.X m).n) :
  (F m j=none∧(getC t.X m (j:Int)).has=false)∨∃ c P,getC t.X m (j:Int)=c∧c.has=true∧F m j=some (c.s.h,P)∧pgC13 t.C c.s.b c.s.p=P∧1≤cntX t.X c.pl:=by
 obtain ⟨T,h1,h2⟩:=h.ex
 have hl:=(hX.get m).1
 have hs:=List.getElem?_eq_getElem (l:=(getX t.X m).l) (i:=j) (by omega)
 have hg:getC t.X m (j:Int)=(getX t.X m).l[j]:=by
  unfold getC
  rw [if_pos ⟨by omega,by omega⟩]
  show (getX t.X m).l.getD (Int.toNat (j:Int)) _=_
  rw [Int.toNat_natCast,List.getD_eq_getElem?_getD,hs]
  rfl
 have h2:=h2 m j
 unfold hdX at h2
 rw [hs] at h2
 dsimp only at h2
 cases hc:((getX t.X m).l[j]).has
 ·rw [hc] at h2
  exact .inl ⟨h2,by rw [hg];exact hc⟩
 ·rw [hc] at h2
  have:=h1 m j _ hm hs hc
  exact .inr ⟨_,_,hg,hc,h2,this.1,cntX_pos hX.four hm hs hc⟩
theorem KE.new {pl:List FD} {X:List (SlP Ce)} {z0 z1:Nat} (hX:New0 X z0 z1):KE noF (s00 g pl X):=by
 have e:∀ m j,hdX X m j=none:=fun m j=>by
  unfold hdX
  rw [hX.l]
  cases hq:(List.replicate (if m=0 then z0 else if m=1 then z1 else 0) Ce0)[j]? with
  | none=>rfl
  | some c=>
   rw [(List.mem_replicate.1 (List.mem_of_getElem? hq)).2]
   rfl
 refine ⟨⟨fun _=>[],fun m j c hm hj hc=>?_,fun m j=>?_⟩,fun m j h k=>?_⟩
 ·have:=e m j
  unfold hdX at this
  have hj:(getX X m).l[j]? = some c:=hj
  rw [hj] at this
  dsimp only at this
  rw [if_pos hc] at this
  cases this
 ·show none=(hdX X m j).map _
  rw [e];rfl
 ·have k:hdX X m j=some h:=k
  rw [e] at k;cases k
end
end Go.Proofs.YtbaojfchlhlaeaaGreat.Vc
