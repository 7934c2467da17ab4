/- Texts in one: The contracts of layer 27 (sanitise): what is done to each block; a drain; a namespace forgotten. The contracts of layer 27 (sanitise): a drain; what leaks; a namespace forgotten. The plans of functions as plain statements, printed by wip/tools/vcgen.py; the kernel holds each to the code. The contracts of the laws of layer 27: which cases are played; payloads, a new stream on an array, a step put. Plain laws of layer 25 (stream): a new stream takes a page. Plain laws of layer 27: a new stream takes a page, and is drained. The plans of functions as plain statements, printed by wip/tools/vcgen.py; the kernel holds each to the code. The law SanitiseForgets of layer 27: each call gives true, and what it read stays. The law HeadMarks of layer 14: each call gives true, and what it read stays. The law PageBack of layer 15: each call gives true, and what it read stays. Plain laws of layer 13: what a trace tells of programs. Plain laws of layer 13: what only clears. Plain laws of layer 24 (pool): what a block has that was destroyed, or opened. Plain laws of layer 25 (stream): without crashes, what of a block is programmed; what may fail. Plain laws of layer 25 (stream): without crashes, a block that is begun, opened, copied to, sealed: what may fail. Plain laws of layer 25 (stream): without crashes, a block that is opened; live places copied, a block sealed; a page written. Plain laws of layer 25 (stream): without crashes, what each operation answers; how many blocks are bad, or held. Plain laws of layer 25 (stream): without crashes, live places copied to a block that was begun, and the block sealed, or spoilt. Plain laws of layer 25 (stream): without crashes, live places copied, and a block sealed. Plain laws of layer 25 (stream): without crashes, a block that was begun and failed; what live pages have; places moved. Plain laws of layer 25 (stream): without crashes, places moved, and a block emptied. Plain laws of layer 25 (stream): without crashes, a block emptied, and room made: how many blocks a namespace holds. Plain laws of layer 25 (stream): without crashes, a block opened, and room made. Plain laws of layer 25 (stream): without crashes, a front that failed, and a page written. Plain laws of layer 25 (stream): without crashes, a page put; what a sector has then. Plain laws of layer 25 (stream): what a page has that was written; a copy has the same. The contracts of the laws of layer 25: which cases are played; is a ledger as the map says? The plans of functions as plain statements, printed by wip/tools/vcgen.py; the kernel holds each to the code. Plain laws of layer 25 (stream): without faults nothing fails, and there is always a block that is free. -/
import Derived.Test.YtbaojfchlhlaeaaGreatZSanitiseSomef
set_option linter.unusedVariables false
set_option linter.unusedSimpArgs false
namespace Go.Proofs.YtbaojfchlhlaeaaGreat.Vc
open Go Go.Eng Go.RowKit
section
variable {E:Nat→Prop} {w0 w:World} {Rs:List Asr} {sp pp pm p q n:Nat} {g:Geo} {s:SD} {L:List Blk}
theorem dirty21_c {x:Blk}:CallV Tryz.prog 147 #[x.val] w [.one .bool] fun r w'=>r.1=dirB x∧Ext w w':=by
 apply ledger_dirty.vc
 unfold ledger_dirty.P
 have S:=Sep.start NoB w
 refine S.newB (vs:=x.vs) fun b1 w1 S f1 _=>S.ld0 (j:=6) rfl rfl ?_
 unfold dirB
 refine cond_of (fun h6=>S.ld0 (j:=5) rfl rfl (cond_of (fun h5=>?_) (fun h5=>?_))) (fun h6=>S.ld0 (j:=4) rfl rfl (cond_of (fun h4=>?_) (fun h4=>?_)))
 ·refine S.ld0 (j:=7) rfl rfl ⟨?_,S.ext⟩
  rw [show x.ba=true from h6,show x.cl=false by simpa using h5];rfl
 ·refine ⟨?_,S.ext⟩
  rw [show x.ba=true from h6,show x.cl=true by simpa using h5];rfl
 ·refine S.ld0 (j:=1) rfl rfl (S.ld0 (j:=2) rfl rfl ⟨?_,S.ext⟩)
  rw [show x.ba=false from h6,show x.he=true from h4];rfl
 ·refine S.ld0 (j:=5) rfl rfl ⟨?_,S.ext⟩
  rw [show x.ba=false from h6,show x.he=false from h4];rfl
theorem Dirty_e {b:Int} (S:Sep E w0 w (ledE q L::Rs)) (hb:0≤b∧b<(L.length:Int)):CallV Tryz.prog 86 #[.pointer (some ⟨q,0,none⟩),.int .i64 b] w [.one .bool] fun r w'=>r.1=dirB (gx L b.toNat)∧Ext w w':=by
 obtain ⟨a,c,S⟩:=ledE_out S
 apply ledger_Ledger_Dirty.vc
 unfold ledger_Ledger_Dirty.P
 refine (has_c (b:=b) S).mono ?_
 rintro ⟨(r:Bool),⟨⟩⟩ w2 ⟨h2,rfl⟩
 dsimp only at h2 ⊢
 subst h2
 refine cond_t (decide_eq_true hb) ?_
 obtain ⟨q,hq,hc,-⟩:=nthB (i:=b) 1 S rfl hb.1 hb.2
 refine S.ld0 rfl rfl ⟨hb,q,hq,(gx L b.toNat).tup,hc,?_⟩
 exact dirty21_c
theorem each27_c {σ:Type} {f:σ→Nat→σ×Int} {sd:σ→SD} {rs:σ→List Asr} {P:Nat→σ→Prop} {x:σ} {g1:FuncId} {cap:Array Value} (hok:okf g1=true)
  (hP:∀ {i:Nat} {y:σ},P i y→SI g n (sd y)) (h0:P 0 x)
  (hs:∀ {i:Nat} {y:σ},P i y→i<n→(f y i).2=0→P (i+1) (f y i).1)
  (hc:∀ {i:Nat} {y:σ} {w:World},P i y→i<n→Sep E w0 w (stS sp pp pm p q g (sd y) (rs y)) →
   CallV Tryz.prog g1 ([]++((([.int .i64 (i:Int),(gx (sd y).L i).val]:List Value))++cap.toList)).toArray w [.one (.int .i64)] fun r w'=>r.1=(f y i).2∧Sep E w0 w' (stS sp pp pm p q g (sd (f y i).1) (rs (f y i).1)))
  (S:Sep E w0 w (stS sp pp pm p q g (sd x) (rs x))) :
  CallV Tryz.prog 84 #[.pointer (some ⟨sp,0,none⟩),.func (.func g1) #[] cap] w [.one (.int .i64)] fun r w'=>r.1=(eachF f n n x).2∧Sep E w0 w' (stS sp pp pm p q g (sd (eachF f n n x).1) (rs (eachF f n n x).1)):=by
 apply sanitise_each.vc
 unfold sanitise_each.P
 refine (Pool25_c S).mono ?_
 rintro ⟨r,⟨⟩⟩ w1 ⟨h1,rfl⟩
 dsimp only at h1 ⊢
 subst h1
 refine ldg0 S ((Len_e (S.fro [3] rfl)).mono ?_)
 rintro ⟨(r:Int),⟨⟩⟩ w2 ⟨h2,rfl⟩
 dsimp only at h2 ⊢
 rw [(hP h0).ln] at h2
 subst h2
 refine Loop1 (fun (v:Int×Unit) w'=>∃ (k:Nat) (y:σ),v.1=(n:Int)-(k:Int)∧k≤n∧P (n-k) y∧eachF f n k y=eachF f n n x∧Sep E w0 w' (stS sp pp pm p q g (sd y) (rs y))) (fun (v:Int×Unit) _=>(n-v.1).toNat) ⟨n,x,by show (0:Int)=_;omega,Nat.le_refl _,by rw [Nat.sub_self];exact h0,rfl,S⟩ ?_
 clear S
 rintro ⟨(v:Int),⟨⟩⟩ w3 ⟨k,y,hv,hk,hy,hX,S⟩
 dsimp only at hv
 subst hv
 refine cond_d (fun hlt=>?_) (fun hge=>?_)
 case refine_2=>
  have hk0:k=0:=by omega
  subst hk0
  rw [←hX]
  exact ⟨rfl,S⟩
 obtain ⟨m,rfl⟩:∃ m,k=m+1:=⟨k-1,by omega⟩
 have hI:=hP hy
 have ev:(n:Int)-((m+1:Nat):Int)=((n-(m+1):Nat):Int):=by omega
 have hi:n-(m+1)<n:=by omega
 have hX:(if (f y (n-(m+1))).2≠0 then f y (n-(m+1)) else eachF f n m (f y (n-(m+1))).1)=eachF f n n x:=hX
 have hrg:Rng .i64 ((n:Int)-((m+1:Nat):Int)+1):=by have:=hI.no;exact Rng.i64 (by omega) (by omega)
 have hend:(n:Int)-((m+1:Nat):Int)+1=(n:Int)-(m:Int):=by omega
 refine (Pool25_c S).mono ?_
 rintro ⟨r,⟨⟩⟩ w4 ⟨h4,rfl⟩
 dsimp only at h4 ⊢
 subst h4
 refine ldg0 S ((At_e (b:=(n:Int)-((m+1:Nat):Int)) (S.fro [3] rfl) ⟨by omega,by rw [hI.ln];omega⟩).mono ?_)
 rintro ⟨r,⟨⟩⟩ w5 ⟨h5,x5⟩
 dsimp only at h5 ⊢
 subst h5
 have S:=S.stepE x5
 refine cond_t hok ?_
 have hcc:=hc hy hi S
 rw [←ev] at hcc
 rw [show ((n:Int)-((m+1:Nat):Int)).toNat=n-(m+1) by omega]
 refine hcc.mono ?_
 clear hcc S
 rintro ⟨(r:Int),⟨⟩⟩ w6 ⟨h6,S⟩
 dsimp only at h6 ⊢
 subst h6
 refine cond_of (fun he=>?_) (fun he=>?_)
 ·have he:(f y (n-(m+1))).2≠0:=by simpa using he
  rw [if_pos he] at hX
  rw [←hX]
  exact ⟨rfl,S⟩
 ·have he:(f y (n-(m+1))).2=0:=by simpa using he
  rw [if_neg (fun k=>k he)] at hX
  refine ⟨hrg,⟨m,_,hend,by omega,?_,hX,S⟩,by omega⟩
  have:=hs hy hi he
  rw [show n-(m+1)+1=n-m by omega] at this
  exact this
theorem power27_c {e:Int}:CallV Tryz.prog 90 #[.int .i64 e] w [.one (.int .i64)] fun r w'=>r.1=powE e∧w'=w:=by
 apply sanitise_power.vc
 unfold sanitise_power.P powE
 refine cond_eq (fun h=>?_) (fun h=>?_)
 ·rw [if_pos h];exact ⟨h,rfl⟩
 ·rw [if_neg h];exact ⟨rfl,rfl⟩
theorem emptied27_c {b:Int} (h:SI g n s) (hb:0≤b∧b<(n:Int)) (ho:s.C.ops+215042≤1000000000000) (S:Sep E w0 w (stS sp pp pm p q g s Rs)) :
  CallV Tryz.prog 87 #[.pointer (some ⟨sp,0,none⟩),.int .i64 b,(gx s.L b.toNat).val] w [.one (.int .i64)] fun r w'=>r.1=(emdS s b).2∧Sep E w0 w' (stS sp pp pm p q g (emdS s b).1 Rs):=by
 apply sanitise_emptied.vc
 unfold sanitise_emptied.P emdS
 refine S.newB (vs:=(gx s.L b.toNat).vs) fun b1 w1 S f1 _=>S.ld0 (j:=4) rfl rfl (cond_of (fun hh=>?_) (fun hh=>?_))
 ·have hh:(gx s.L b.toNat).he=true:=hh
  rw [if_pos hh]
  obtain ⟨e1,e2⟩:=h.emt (b:=b) (by omega)
  refine (Empty25_c (b:=b) h (by omega) S.tail).mono ?_
  rintro ⟨(r:Int),⟨⟩⟩ w2 ⟨h2,S⟩
  dsimp only at h2 ⊢
  subst h2
  refine cond_of (fun he=>?_) (fun he=>?_)
  ·have he:(emtS s b).2≠0:=by simpa using he
   rw [if_pos he];exact ⟨rfl,S⟩
  ·have he:(emtS s b).2=0:=by simpa using he
   rw [if_neg (fun k=>k he)]
   have o2:=e1.o2
   refine (Destroy25_c (b:=b) e1.i (e2 he) (by omega) S).mono ?_
   rintro ⟨(r:Int),⟨⟩⟩ w3 ⟨h3,S⟩
   dsimp only at h3 ⊢
   subst h3
   refine power27_c.mono ?_
   rintro ⟨(r:Int),⟨⟩⟩ w4 ⟨h4,rfl⟩
   exact ⟨h4,S⟩
 ·have hh:(gx s.L b.toNat).he=false:=hh
  rw [if_neg (by rw [hh];exact Bool.false_ne_true)]
  refine (Destroy25_c (b:=b) h (fun _=>hh) (by omega) S.tail).mono ?_
  rintro ⟨(r:Int),⟨⟩⟩ w3 ⟨h3,S⟩
  dsimp only at h3 ⊢
  subst h3
  refine power27_c.mono ?_
  rintro ⟨(r:Int),⟨⟩⟩ w4 ⟨h4,rfl⟩
  exact ⟨h4,S⟩
theorem any_gx {f:Blk→Bool} {L:List Blk}:L.any f=true↔∃ i,i<L.length∧f (gx L i)=true:=by
 rw [List.any_eq_true]
 constructor
 ·rintro ⟨x,hx,h⟩
  obtain ⟨i,hi,rfl⟩:=List.mem_iff_getElem.1 hx
  refine ⟨i,hi,?_⟩
  rw [show gx L i=L[i] by show L.getD i default=_;rw [List.getD_eq_getElem?_getD,List.getElem?_eq_getElem hi];rfl]
  exact h
 ·rintro ⟨i,hi,h⟩
  exact ⟨_,gx_mem hi,h⟩
theorem Clean27_c (h:SI g n s) (S:Sep E w0 w (stS sp pp pm p q g s Rs)):CallV Tryz.prog 23 #[.pointer (some ⟨sp,0,none⟩)] w [.one .bool] fun r w'=>r.1=cln s.L∧Ext w w':=by
 apply sanitise_Clean.vc
 unfold sanitise_Clean.P
 refine (Pool25_c S).mono ?_
 rintro ⟨r,⟨⟩⟩ w1 ⟨h1,rfl⟩
 dsimp only at h1 ⊢
 subst h1
 refine ldg0 S ((Len_e (S.fro [3] rfl)).mono ?_)
 rintro ⟨(r:Int),⟨⟩⟩ w2 ⟨h2,rfl⟩
 dsimp only at h2 ⊢
 subst h2
 have hno:=h.no
 have hln:=h.ln
 refine Loop1 (fun (v:Int×Unit) w'=>∃ i:Nat,v.1=(i:Int)∧i≤s.L.length∧(∀ j,j<i→dirB (gx s.L j)=false)∧Ext w2 w') (fun (v:Int×Unit) _=>((s.L.length:Int)-v.1).toNat) ⟨0,rfl,Nat.zero_le _,fun _ hj=>absurd hj (Nat.not_lt_zero _),Ext.refl w2⟩ ?_
 rintro ⟨(v:Int),⟨⟩⟩ w3 ⟨i,hv,hi,hd,x3⟩
 dsimp only at hv
 subst hv
 have S:=S.stepE x3
 refine cond_d (fun hlt=>?_) (fun hge=>?_)
 ·refine (Dirty_e (b:=(i:Int)) (S.fro [3] rfl) ⟨by omega,hlt⟩).mono ?_
  rintro ⟨(r:Bool),⟨⟩⟩ w4 ⟨h4,x4⟩
  dsimp only at h4 ⊢
  subst h4
  rw [Int.toNat_natCast]
  refine cond_of (fun hb=>⟨?_,x3.trans x4⟩) (fun hb=>⟨Rng.i64 (by omega) (by omega),⟨i+1,by push_cast;rfl,by omega,fun j hj=>?_,x3.trans x4⟩,by omega⟩)
  ·unfold cln
   rw [any_gx.2 ⟨i,by omega,hb⟩];rfl
  ·by_cases e:j=i
   ·rw [e];exact hb
   ·exact hd j (by omega)
 ·refine ⟨?_,x3⟩
  unfold cln
  cases e:s.L.any dirB
  ·rfl
  ·obtain ⟨j,hj,hb⟩:=any_gx.1 e
   rw [hd j (by omega)] at hb
   cases hb
end
end Go.Proofs.YtbaojfchlhlaeaaGreat.Vc
namespace Go.Proofs.YtbaojfchlhlaeaaGreat.Vc
open Go Go.Eng Go.RowKit
section
variable {E:Nat→Prop} {w0 w:World} {Rs:List Asr} {sp pp pm p q n:Nat} {g:Geo} {s:SD} {L:List Blk}
def lkF (L:List Blk) (x:Bool) (i:Nat):Bool×Int:=(x || (gx L i).le,0)
theorem lk_each {L:List Blk} {n:Nat} (hL:L.length=n):∀ (k:Nat) (x:Bool),k≤n→eachF (lkF L) n k x=(x || (L.drop (n-k)).any fun x=>x.le,0)
 | 0,x,_=>by
  rw [List.drop_eq_nil_of_le (by omega)]
  show (x,(0:Int))=(x || false,0)
  rw [Bool.or_false]
 | k+1,x,hk=>by
  show (if (lkF L x (n-(k+1))).2≠0 then lkF L x (n-(k+1)) else eachF (lkF L) n k (lkF L x (n-(k+1))).1)=_
  rw [if_neg (fun e=>e rfl),lk_each hL k _ (by omega),List.drop_eq_getElem_cons (i:=n-(k+1)) (by omega),show n-(k+1)+1=n-k by omega,List.any_cons]
  show ((x || (gx L (n-(k+1))).le) || _,(0:Int))=_
  rw [Bool.or_assoc]
  have:gx L (n-(k+1))=L[n-(k+1)]'(by omega):=by
   show L.getD _ default=_
   rw [List.getD_eq_getElem?_getD,List.getElem?_eq_getElem (by omega)];rfl
  rw [this]
theorem okf_leaks:okf 148=true:=by kernel_rfl
theorem okf_drain:okf 85=true:=by kernel_rfl
theorem leaks1_c {b1:Nat} {e1:TypeId} {i:Nat} {x:Bool} {y:Blk} (S:Sep E w0 w (stS sp pp pm p q g s (BoxA b1 e1 [.bool x]::Rs))) :
  CallV Tryz.prog 148 #[.int .i64 (i:Int),y.val,.pointer (some ⟨b1,0,none⟩)] w [.one (.int .i64)] fun r w'=>r.1=(0:Int)∧Sep E w0 w' (stS sp pp pm p q g s (BoxA b1 e1 [.bool (x || y.le)]::Rs)):=by
 apply sanitise_leaks_1.vc
 unfold sanitise_leaks_1.P
 refine S.newB (vs:=y.vs) fun b2 w1 S f1 _=>S.ld6 (j:=0) rfl rfl (cond_of (fun hx=>?_) (fun hx=>?_))
 ·have hx:x=true:=hx
  subst hx
  refine (S.fro [6] rfl).st0 (by rfl) fun w2 S f2=>⟨rfl,?_⟩
  exact (S.fro [1] rfl).tail.fro [1,1,1,1,1] rfl
 ·have hx:x=false:=hx
  subst hx
  refine S.ld0 (j:=8) rfl rfl ((S.fro [6] rfl).st0 (by rfl) fun w2 S f2=>⟨rfl,?_⟩)
  exact (S.fro [1] rfl).tail.fro [1,1,1,1,1] rfl
theorem leaks27_c (h:SI g n s) (S:Sep E w0 w (stS sp pp pm p q g s Rs)):CallV Tryz.prog 88 #[.pointer (some ⟨sp,0,none⟩)] w [.one .bool] fun r w'=>r.1=lks s.L∧Sep E w0 w' (stS sp pp pm p q g s Rs):=by
 apply sanitise_leaks.vc
 unfold sanitise_leaks.P
 refine S.newB fun b1 w1 S f1 _=>S.st0 (by rfl) fun w2 S f2=>?_
 have S:Sep E w0 w2 (stS sp pp pm p q g s (BoxA b1 4 [.bool false]::Rs)):=S.fro [1,1,1,1,1] rfl
 refine (each27_c (σ:=Bool) (f:=lkF s.L) (sd:=fun _=>s) (rs:=fun x=>BoxA b1 4 [.bool x]::Rs) (P:=fun _ _=>True) (x:=false) (cap:=#[.pointer (some ⟨b1,0,none⟩)]) okf_leaks (fun _=>h) trivial (fun _ _ _=>trivial) (fun {i y w} _ hi S=>?_) S).mono ?_
 ·exact leaks1_c S
 rintro ⟨(r:Int),⟨⟩⟩ w3 ⟨-,S⟩
 dsimp only at S ⊢
 rw [lk_each h.ln n false (Nat.le_refl n),Nat.sub_self,List.drop_zero,Bool.false_or] at S
 refine (S.fro [5] rfl).ld0 (j:=0) rfl rfl ⟨rfl,?_⟩
 exact (S.fro [5] rfl).tail
theorem Drain1_c {b1:Nat} {e1:TypeId} {i:Nat} (h:SI g n s) (hi:i<n) (ho:s.C.ops+215042≤1000000000000) (S:Sep E w0 w (stS sp pp pm p q g s (BoxA b1 e1 [.pointer (some ⟨sp,0,none⟩)]::Rs))) :
  CallV Tryz.prog 85 #[.int .i64 (i:Int),(gx s.L i).val,.pointer (some ⟨b1,0,none⟩)] w [.one (.int .i64)] fun r w'=>r.1=(drn1 s i).2∧Sep E w0 w' (stS sp pp pm p q g (drn1 s i).1 (BoxA b1 e1 [.pointer (some ⟨sp,0,none⟩)]::Rs)):=by
 apply sanitise_Drain_1.vc
 unfold sanitise_Drain_1.P
 have hb:0≤(i:Int)∧(i:Int)<(s.L.length:Int):=by rw [h.ln];omega
 refine S.newB (vs:=(gx s.L i).vs) fun b2 w1 S f1 _=>S.ld6 (j:=0) rfl rfl ?_
 have S:=S.tail
 refine (Pool25_c S).mono ?_
 rintro ⟨r,⟨⟩⟩ w2 ⟨h2,rfl⟩
 dsimp only at h2 ⊢
 subst h2
 refine ldg0 S ((Dirty_e (b:=(i:Int)) (S.fro [3] rfl) hb).mono ?_)
 rintro ⟨(r:Bool),⟨⟩⟩ w3 ⟨h3,x3⟩
 dsimp only at h3 ⊢
 have S:=S.stepE x3
 rw [Int.toNat_natCast] at h3
 subst h3
 unfold Vc.drn1
 refine cond_of (fun hd=>?_) (fun hd=>?_)
 ·have hd:dirB (gx s.L i)=false:=by simpa using hd
  rw [if_neg (by rw [hd];exact Bool.false_ne_true)]
  exact ⟨rfl,S⟩
 ·have hd:dirB (gx s.L i)=true:=by simpa using hd
  rw [if_pos hd]
  have S:Sep E w0 w3 ([boxSt sp pp pm g s,mapE pm s.X,polE pp p q g s.O,ledE q s.L,chipE p s.C]++(BoxA b1 e1 [.pointer (some ⟨sp,0,none⟩)]::Rs)):=S
  refine Sep.regC [boxSt sp pp pm g s,mapE pm s.X,polE pp p q g s.O,ledE q s.L,chipE p s.C] S fun G D hG T S hDt hDo hkeep back=>?_
  have T:Sep G w3.drew w3.drew (stS sp pp pm p q g s []):=T
  refine ⟨hDt 0 _ _ _ rfl,S.ld5 (j:=0) rfl rfl ⟨hDt 0 _ _ _ rfl,S.ld5 (j:=0) rfl rfl ?_⟩⟩
  refine (Pool25_c T).mono ?_
  rintro ⟨r,⟨⟩⟩ w4 ⟨h4,rfl⟩
  dsimp only at h4 ⊢
  subst h4
  refine ⟨hkeep _ T.fr,ldg0 T ⟨hkeep _ T.fr,(At_e (b:=(i:Int)) (T.fro [3] rfl) hb).mono ?_⟩⟩
  rintro ⟨r,⟨⟩⟩ w5 ⟨h5,x5⟩
  dsimp only at h5 ⊢
  subst h5
  have T:=T.stepE x5
  refine ⟨hkeep _ T.fr,(emptied27_c (b:=(i:Int)) h ⟨by omega,by omega⟩ ho T).mono ?_⟩
  rintro ⟨(r:Int),⟨⟩⟩ w6 ⟨h6,T⟩
  exact ⟨hkeep _ T.fr,h6,back _ _ T⟩
theorem Drain27_c (h:SI g n s) (ho:s.C.ops+51610080≤1000000000000) (S:Sep E w0 w (stS sp pp pm p q g s Rs)) :
  CallV Tryz.prog 21 #[.pointer (some ⟨sp,0,none⟩)] w [.one (.int .i64)] fun r w'=>r.1=(drnP 4 s).2∧Sep E w0 w' (stS sp pp pm p q g (drnP 4 s).1 Rs):=by
 apply sanitise_Drain.vc
 unfold sanitise_Drain.P
 refine S.newB fun b1 w1 S f1 _=>S.ld0 (j:=0) rfl rfl (cond_f rfl ?_)
 have S:Sep E w0 w1 (stS sp pp pm p q g s (BoxA b1 32 [.pointer (some ⟨sp,0,none⟩)]::Rs)):=S.fro [1,1,1,1,1] rfl
 have fin:∀ {w':World} {t:SD},SI g n t→(t,drnE t)=drnP 4 s→Sep E w0 w' (stS sp pp pm p q g t (BoxA b1 32 [.pointer (some ⟨sp,0,none⟩)]::Rs)) →
   LoadS w' ⟨b1,0,none⟩ .ptr fun x=>CallV Tryz.prog 23 #[.pointer x] w' [.one .bool] fun (r:Bool×Unit) w2=>
    cond (!r.1) ((17:Int)=(drnP 4 s).2∧Sep E w0 w2 (stS sp pp pm p q g (drnP 4 s).1 Rs))
     (LoadS w2 ⟨b1,0,none⟩ .ptr fun x=>CallV Tryz.prog 88 #[.pointer x] w2 [.one .bool] fun (r:Bool×Unit) w3=>
      cond r.1 ((17:Int)=(drnP 4 s).2∧Sep E w0 w3 (stS sp pp pm p q g (drnP 4 s).1 Rs)) ((0:Int)=(drnP 4 s).2∧Sep E w0 w3 (stS sp pp pm p q g (drnP 4 s).1 Rs))):=@fun w' t ht et S=>by
  rw [←et]
  refine (S.fro [5] rfl).ld0 (j:=0) rfl rfl ?_
  refine (Clean27_c ht S).mono ?_
  rintro ⟨(r:Bool),⟨⟩⟩ w2 ⟨h2,x2⟩
  dsimp only at h2 ⊢
  have S:=S.stepE x2
  subst h2
  unfold drnE
  refine cond_of (fun hc=>?_) (fun hc=>?_)
  ·have hc:cln t.L=false:=by simpa using hc
   rw [if_neg (by rw [hc];exact Bool.false_ne_true)]
   exact ⟨rfl,(S.fro [5] rfl).tail⟩
  ·have hc:cln t.L=true:=by simpa using hc
   rw [if_pos hc]
   refine (S.fro [5] rfl).ld0 (j:=0) rfl rfl ?_
   refine (leaks27_c ht S).mono ?_
   rintro ⟨(r:Bool),⟨⟩⟩ w3 ⟨h3,S⟩
   dsimp only at h3 ⊢
   subst h3
   refine cond_of (fun hl=>?_) (fun hl=>?_)
   ·rw [if_pos hl];exact ⟨rfl,(S.fro [5] rfl).tail⟩
   ·rw [if_neg (by rw [hl];exact Bool.false_ne_true)];exact ⟨rfl,(S.fro [5] rfl).tail⟩
 refine Loop1 (fun (v:Int×Unit) w'=>∃ (k:Nat) (t:SD),v.1=4-(k:Int)∧k≤4∧SI g n t∧t.C.ops+drD k≤1000000000000∧drnP k t=drnP 4 s∧Sep E w0 w' (stS sp pp pm p q g t (BoxA b1 32 [.pointer (some ⟨sp,0,none⟩)]::Rs))) (fun (v:Int×Unit) _=>(4-v.1).toNat) ⟨4,s,rfl,Nat.le_refl _,h,ho,rfl,S⟩ ?_
 clear S
 rintro ⟨(v:Int),⟨⟩⟩ w3 ⟨k,t,hv,hk,ht,hop,hX,S⟩
 dsimp only at hv
 subst hv
 refine cond_d (fun hlt=>?_) (fun hge=>?_)
 case refine_2=>
  have hk0:k=0:=by omega
  subst hk0
  exact fin ht hX S
 obtain ⟨m,rfl⟩:∃ m,k=m+1:=⟨k-1,by omega⟩
 have ed:=drDs m
 have e60:=drC60 ht.no.1
 have hX:(if cln t.L=true then (t,drnE t) else if (eachF drn1 t.L.length t.L.length t).2≠0 then eachF drn1 t.L.length t.L.length t else drnP m (eachF drn1 t.L.length t.L.length t).1)=drnP 4 s:=hX
 rw [ht.ln] at hX
 refine (S.fro [5] rfl).ld0 (j:=0) rfl rfl ?_
 refine (Clean27_c ht S).mono ?_
 rintro ⟨(r:Bool),⟨⟩⟩ w4 ⟨h4,x4⟩
 dsimp only at h4 ⊢
 have S:=S.stepE x4
 subst h4
 refine cond_of (fun hc=>?_) (fun hc=>?_)
 ·rw [if_pos hc] at hX
  exact fin ht hX S
 rw [if_neg (by rw [hc];exact Bool.false_ne_true)] at hX
 refine (S.fro [5] rfl).ld0 (j:=0) rfl rfl ?_
 have hE:=SI.each (fun h hi ho=>SI.drn1 h hi ho) n (Nat.le_refl n) ht (by omega)
 refine (each27_c (n:=n) (σ:=SD) (f:=drn1) (sd:=fun t=>t) (rs:=fun _=>BoxA b1 32 [.pointer (some ⟨sp,0,none⟩)]::Rs) (P:=fun i y=>SI g n y∧y.C.ops+drC (n-i)≤1000000000000) (x:=t) (cap:=#[.pointer (some ⟨b1,0,none⟩)]) okf_drain (fun h=>h.1) ⟨ht,by rw [Nat.sub_zero];omega⟩ (fun {i y} hy hi _=>?_) (fun {i y w} hy hi S=>?_) S).mono ?_
 ·have e:drC (n-i)=drC (n-(i+1))+215042:=by rw [←drCs];congr 1;omega
  have h1:=hy.1.drn1 hi (by have:=hy.2;omega)
  have o2:=h1.o2
  exact ⟨h1.i,by have:=hy.2;omega⟩
 ·have e:drC (n-i)=drC (n-(i+1))+215042:=by rw [←drCs];congr 1;omega
  exact Drain1_c hy.1 hi (by have:=hy.2;omega) S
 rintro ⟨(r:Int),⟨⟩⟩ w5 ⟨h5,S⟩
 dsimp only at h5 S ⊢
 subst h5
 have o2:=hE.o2
 refine cond_of (fun he=>?_) (fun he=>?_)
 ·have he:(eachF drn1 n n t).2≠0:=by simpa using he
  rw [if_pos he] at hX
  rw [←hX]
  exact ⟨rfl,(S.fro [5] rfl).tail⟩
 ·have he:(eachF drn1 n n t).2=0:=by simpa using he
  rw [if_neg (fun k=>k he)] at hX
  exact ⟨Rng.i64 (by omega) (by omega),⟨m,_,by omega,by omega,hE.i,by omega,hX,S⟩,by omega⟩
end
end Go.Proofs.YtbaojfchlhlaeaaGreat.Vc
namespace Go.Proofs.YtbaojfchlhlaeaaGreat.Vc
open Go Go.Eng
def law27_light.A:Ann:=.two .no (.two (.two (.draw (.take 0 (.take 1 (.eff 2 (.take 3 (.take 4 (.take 5 (.take 6 (.eff 7 (.take 8 (.take 9 (.take 10 (.take 11 (.take 12 (.take 13 (.take 14 (.take 15 (.take 16 (.take 17 (.take 18 (.take 19 (.take 20 (.take 21 (.take 22 (.take 23 (.take 24 (.take 25 (.take 26 (.take 27 (.take 28 (.take 29 (.take 30 (.take 31 (.take 32 (.take 33 (.take 34 (.take 35 (.take 36 (.take 37 (.take 38 (.eff 39 (.take 40 (.take 41 (.done)))))))))))))))))))))))))))))))))))))))))))) .no) (.two (.two .no (.one (.loop [2,3,4,47,48,49,50,51,52,53,54,55,56,57,58,59,60,61,62,63,64,65,66,67,68,69,70,71,72,73,74,75,76,77,78,79,80,81,82,83,84,85,86,87,88,89,90,91,92,93,94,95,96,97,98,99] [(3,.one (.int .i64))] (.two .no (.two (.one (.two .no (.two (.draw (.take 0 (.take 1 (.take 2 (.take 3 (.take 4 (.take 5 (.take 6 (.take 7 (.take 8 (.take 9 (.take 10 (.take 11 (.take 12 (.take 13 (.take 14 (.take 15 (.take 16 (.take 17 (.take 18 (.take 19 (.take 20 (.take 21 (.take 22 (.take 23 (.take 24 (.take 25 (.take 26 (.take 27 (.take 28 (.take 29 (.take 30 (.take 31 (.take 32 (.take 33 (.take 34 (.take 35 (.take 36 (.take 37 (.take 38 (.take 39 (.take 40 (.done))))))))))))))))))))))))))))))))))))))))))) .no))) .no))))) .no))
def law27_light.P (p0_0 p0_1 p0_2 p0_3 p0_4 p0_5:Int) (a0_6:Option Addr) (n0_6 c0_6:Nat) (p0_7 p0_8:Int) (a0_9:Option Addr) (n0_9 c0_9:Nat) (w:World) (K:Bool×Unit→World→Prop):Prop:=
 NewV #[.int .i64 p0_0,.int .i64 p0_1,.int .i64 p0_2,.int .i64 p0_3,.int .i64 p0_4,.int .i64 p0_5,.slice a0_6 n0_6 c0_6,.int .i64 p0_7,.int .i64 p0_8,.slice a0_9 n0_9 c0_9] 28 w fun b1 w2=>
 DrawV fun D3=>
 (D3 b1∧LoadA w2.drew ⟨b1,0,none⟩ [.int .i64,.int .i64,.int .i64,.int .i64,.int .i64,.int .i64] fun (x4:Int×Int×Int×Int×Int×Int×Unit)=>
 CallV Tryz.prog 75 #[.agg #[.int .i64 x4.1,.int .i64 x4.2.1,.int .i64 x4.2.2.1,.int .i64 x4.2.2.2.1,.int .i64 x4.2.2.2.2.1,.int .i64 x4.2.2.2.2.2.1]] w2.drew [.one .bool] fun (r5:Bool×Unit) w6=>
 KeepOn D3 w2.drew w6 ∧
 cond (!r5.1)
 (K (false,()) w6)
 ((D3 b1∧LoadS w2.drew ⟨b1,6,none⟩ .sl fun (x7:SlV)=>
 CallV Tryz.prog 76 #[.slice x7.a x7.n x7.c] w6 [.one .bool] fun (r8:Bool×Unit) w9=>
 KeepOn D3 w2.drew w9 ∧
 cond (!r8.1)
 (K (false,()) w9)
 ((D3 b1∧LoadS w2.drew ⟨b1,0,none⟩ (.int .i64) fun (x10:Int)=>
 cond (decide (x10>16))
 (K (false,()) w9)
 ((D3 b1∧LoadS w2.drew ⟨b1,1,none⟩ (.int .i64) fun (x11:Int)=>
 cond (decide (x11>16))
 (K (false,()) w9)
 ((D3 b1∧LoadS w2.drew ⟨b1,2,none⟩ (.int .i64) fun (x12:Int)=>
 cond (decide (x12>128))
 (K (false,()) w9)
 ((D3 b1∧LoadS w2.drew ⟨b1,9,none⟩ .sl fun (x13:SlV)=>
 cond (decide (((x13.n:Nat):Int)>120))
 (K (false,()) w9)
 ((D3 b1∧LoadA w2.drew ⟨b1,0,none⟩ [.int .i64,.int .i64,.int .i64,.int .i64,.int .i64,.int .i64] fun (x14:Int×Int×Int×Int×Int×Int×Unit)=>
 SubK (some ⟨b1,7,none⟩) 0 2 1 fun a15=>
 CallV Tryz.prog 77 #[.agg #[.int .i64 x14.1,.int .i64 x14.2.1,.int .i64 x14.2.2.1,.int .i64 x14.2.2.2.1,.int .i64 x14.2.2.2.2.1,.int .i64 x14.2.2.2.2.2.1],.slice a15 (2-0) (2-0)] w9 [.one (.int .i64)] fun (r16:Int×Unit) w17=>
 KeepOn D3 w2.drew w17 ∧
 cond (r16.1 != 0)
 (K (false,()) w17)
 (LoopV [.one (.int .i64)] ((0:Int),()) w17 fun (z18:Int×Unit) w19 (K20:Int×Unit→World→Prop)=>
 LoadS w19 ⟨b1,9,none⟩ .sl fun (x21:SlV)=>
 cond (decide (z18.1<((x21.n:Nat):Int)))
 (LoadS w19 ⟨b1,9,none⟩ .sl fun (x22:SlV)=>
 (0≤z18.1∧z18.1<((x22.n:Nat):Int))∧∃ q23:Addr,x22.a=some q23 ∧
 LoadA w19 (q23.add (z18.1.toNat*5)) [.int .i64,.int .i64,.int .i64,.bool,.int .u8] fun (x24:Int×Int×Int×Bool×Int×Unit)=>
 NewV #[.int .i64 0,.int .i64 0,.int .i64 0,.bool false,.int .u8 0] 39 w19 fun b25 w26=>
 StoreV w26 ⟨b25,0,none⟩ [.int .i64 x24.1,.int .i64 x24.2.1,.int .i64 x24.2.2.1,.bool x24.2.2.2.1,.int .u8 x24.2.2.2.2.1] fun w27=>
 DrawV fun D28=>
 (D28 b25∧LoadS w27.drew ⟨b25,0,none⟩ (.int .i64) fun (x29:Int)=>
 cond (decide (x29<0))
 (K (false,()) w27.drew)
 ((D28 b25∧LoadS w27.drew ⟨b25,0,none⟩ (.int .i64) fun (x30:Int)=>
 cond (decide (x30>1))
 (K (false,()) w27.drew)
 ((D28 b25∧LoadS w27.drew ⟨b25,2,none⟩ (.int .i64) fun (x31:Int)=>
 cond (decide (x31<1))
 (K (false,()) w27.drew)
 ((D28 b25∧LoadS w27.drew ⟨b25,2,none⟩ (.int .i64) fun (x32:Int)=>
 (D28 b25∧LoadS w27.drew ⟨b25,0,none⟩ (.int .i64) fun (x33:Int)=>
 (0≤x33∧x33<(2:Int)) ∧
 (D28 ((⟨b1,7,none⟩:Addr).add (x33.toNat*1)).block∧LoadS w27.drew ((⟨b1,7,none⟩:Addr).add (x33.toNat*1)) (.int .i64) fun (x34:Int)=>
 cond (decide (x32>x34))
 (K (false,()) w27.drew)
 ((D28 b25∧LoadS w27.drew ⟨b25,1,none⟩ (.int .i64) fun (x35:Int)=>
 cond (decide (x35<0))
 (K (false,()) w27.drew)
 ((D28 b25∧LoadS w27.drew ⟨b25,1,none⟩ (.int .i64) fun (x36:Int)=>
 (D28 b25∧LoadS w27.drew ⟨b25,0,none⟩ (.int .i64) fun (x37:Int)=>
 (0≤x37∧x37<(2:Int)) ∧
 (D28 ((⟨b1,7,none⟩:Addr).add (x37.toNat*1)).block∧LoadS w27.drew ((⟨b1,7,none⟩:Addr).add (x37.toNat*1)) (.int .i64) fun (x38:Int)=>
 (D28 b25∧LoadS w27.drew ⟨b25,2,none⟩ (.int .i64) fun (x39:Int)=>
 Rng .i64 (x38-x39) ∧
 cond (decide (x36>(x38-x39)))
 (K (false,()) w27.drew)
 (Rng .i64 (z18.1+1) ∧
 K20 (z18.1+1,()) w27.drew))))))))))))))))))
 (K (true,()) w19)))))))))))))))
theorem law27_light.vc (p0_0 p0_1 p0_2 p0_3 p0_4 p0_5:Int) (a0_6:Option Addr) (n0_6 c0_6:Nat) (p0_7 p0_8:Int) (a0_9:Option Addr) (n0_9 c0_9:Nat) (w:World) (K:Bool×Unit→World→Prop) (h:law27_light.P p0_0 p0_1 p0_2 p0_3 p0_4 p0_5 a0_6 n0_6 c0_6 p0_7 p0_8 a0_9 n0_9 c0_9 w K):CallV Tryz.prog 15 #[.agg #[.int .i64 p0_0,.int .i64 p0_1,.int .i64 p0_2,.int .i64 p0_3,.int .i64 p0_4,.int .i64 p0_5,.slice a0_6 n0_6 c0_6,.int .i64 p0_7,.int .i64 p0_8,.slice a0_9 n0_9 c0_9]] w [.one .bool] K:=by
 refine vcFun.of (A:=law27_light.A) (wr:=false) okf_ok follows h Tryz.func15 ?_
 kernel_rfl
def law27_made.A:Ann:=.no
def law27_made.P (p0_0 p0_1 p0_2 p0_3 p0_4 p0_5:Int) (a0_6:Option Addr) (n0_6 c0_6:Nat) (p0_7 p0_8:Int) (a0_9:Option Addr) (n0_9 c0_9:Nat) (w:World) (K:(Option Addr)×(Option Addr)×Unit→World→Prop):Prop:=
 NewV #[.int .i64 p0_0,.int .i64 p0_1,.int .i64 p0_2,.int .i64 p0_3,.int .i64 p0_4,.int .i64 p0_5,.slice a0_6 n0_6 c0_6,.int .i64 p0_7,.int .i64 p0_8,.slice a0_9 n0_9 c0_9] 28 w fun b1 w2=>
 LoadA w2 ⟨b1,0,none⟩ [.int .i64,.int .i64,.int .i64,.int .i64,.int .i64,.int .i64] fun (x3:Int×Int×Int×Int×Int×Int×Unit)=>
 LoadS w2 ⟨b1,6,none⟩ .sl fun (x4:SlV)=>
 CallV Tryz.prog 78 #[.agg #[.int .i64 x3.1,.int .i64 x3.2.1,.int .i64 x3.2.2.1,.int .i64 x3.2.2.2.1,.int .i64 x3.2.2.2.2.1,.int .i64 x3.2.2.2.2.2.1],.slice x4.a x4.n x4.c] w2 [.one .ptr,.one (.int .i64)] fun (r5:(Option Addr)×Int×Unit) w6=>
 LoadA w6 ⟨b1,0,none⟩ [.int .i64,.int .i64,.int .i64,.int .i64,.int .i64,.int .i64] fun (x7:Int×Int×Int×Int×Int×Int×Unit)=>
 CallV Tryz.prog 80 #[.agg #[.int .i64 x7.1,.int .i64 x7.2.1,.int .i64 x7.2.2.1,.int .i64 x7.2.2.2.1,.int .i64 x7.2.2.2.2.1,.int .i64 x7.2.2.2.2.2.1]] w6 [.one (.int .i64)] fun (r8:Int×Unit) w9=>
 CallV Tryz.prog 79 #[.int .i64 r8.1] w9 [.one .ptr,.one (.int .i64)] fun (r10:(Option Addr)×Int×Unit) w11=>
 CallV Tryz.prog 43 #[] w11 [.one .ptr] fun (r12:(Option Addr)×Unit) w13=>
 (0≤(0:Int)∧0<(2:Int)) ∧
 LoadS w13 ⟨b1,7,none⟩ (.int .i64) fun (x14:Int)=>
 CallV Tryz.prog 81 #[.pointer r12.1,.int .i64 0,.int .i64 x14] w13 [.one (.int .i64)] fun (r15:Int×Unit) w16=>
 (0≤(1:Int)∧1<(2:Int)) ∧
 LoadS w16 ⟨b1,8,none⟩ (.int .i64) fun (x17:Int)=>
 CallV Tryz.prog 81 #[.pointer r12.1,.int .i64 1,.int .i64 x17] w16 [.one (.int .i64)] fun (r18:Int×Unit) w19=>
 CallV Tryz.prog 52 #[.pointer r10.1] w19 [.one (.int .i64)] fun (r20:Int×Unit) w21=>
 ((0:Int)≤(r20.1:Int)∧(r20.1:Int)≤(r20.1:Int)∧(r20.1:Int)≤9223372036854775807∧((48:Nat):Int)*(r20.1:Int)≤140737488355328) ∧
 NewV (List.replicate r20.1.toNat [.int .i64 0,.int .i64 0,.int .i64 0,.int .u32 0,.int .u64 0,.int .u64 0]).flatten.toArray 62 w21 fun b22 w23=>
 CallV Tryz.prog 82 #[.pointer r5.1,.pointer r10.1,.slice (some ⟨b22,0,none⟩) r20.1.toNat r20.1.toNat] w23 [.one .ptr,.one (.int .i64)] fun (r24:(Option Addr)×Int×Unit) w25=>
 LoadA w25 ⟨b1,0,none⟩ [.int .i64,.int .i64,.int .i64,.int .i64,.int .i64,.int .i64] fun (x26:Int×Int×Int×Int×Int×Int×Unit)=>
 CallV Tryz.prog 42 #[.pointer r24.1,.pointer r12.1,.agg #[.int .i64 x26.1,.int .i64 x26.2.1,.int .i64 x26.2.2.1,.int .i64 x26.2.2.2.1,.int .i64 x26.2.2.2.2.1,.int .i64 x26.2.2.2.2.2.1],.int .u64 1] w25 [.one .ptr,.one (.int .i64)] fun (r27:(Option Addr)×Int×Unit) w28=>
 K (r27.1,r5.1,()) w28
theorem law27_made.vc (p0_0 p0_1 p0_2 p0_3 p0_4 p0_5:Int) (a0_6:Option Addr) (n0_6 c0_6:Nat) (p0_7 p0_8:Int) (a0_9:Option Addr) (n0_9 c0_9:Nat) (w:World) (K:(Option Addr)×(Option Addr)×Unit→World→Prop) (h:law27_made.P p0_0 p0_1 p0_2 p0_3 p0_4 p0_5 a0_6 n0_6 c0_6 p0_7 p0_8 a0_9 n0_9 c0_9 w K):CallV Tryz.prog 18 #[.agg #[.int .i64 p0_0,.int .i64 p0_1,.int .i64 p0_2,.int .i64 p0_3,.int .i64 p0_4,.int .i64 p0_5,.slice a0_6 n0_6 c0_6,.int .i64 p0_7,.int .i64 p0_8,.slice a0_9 n0_9 c0_9]] w [.one .ptr,.one .ptr] K:=by
 refine vcFun.of (A:=law27_made.A) (wr:=false) okf_ok follows h Tryz.func18 ?_
 kernel_rfl
def law27_payload.A:Ann:=.two .no (.two .no (.two (.two .no (.one (.loop [5,6,8,9,10,11,12,13,14,15,16,17,18,19,20] [(5,.one .sl),(6,.one (.int .i64))] .no))) .no))
def law27_payload.P (p0 p1:Int) (w:World) (K:SlV×Unit→World→Prop):Prop:=
 NewV #[] 5 w fun b1 w2=>
 LoopV [.one .sl,.one (.int .i64)] ((⟨(some ⟨b1,0,none⟩),0,0⟩:SlV),(0:Int),()) w2 fun (z3:SlV×Int×Unit) w4 (K5:SlV×Int×Unit→World→Prop)=>
 cond (decide (z3.2.1<p0))
 (NewV #[.int .u8 (Go.bits .xor .u8 (IntKind.u8.wrap ((IntKind.u8.wrap z3.2.1)*11)) p1)] 5 w4 fun b6 w7=>
 AppS w7 (some ⟨b6,0,none⟩) 1 1 fun ns12=>
 AppV w7 5 1 1 z3.1.a z3.1.n z3.1.c ns12 1 fun a8 n9 c10 w11=>
 Rng .i64 (z3.2.1+1) ∧
 K5 ((⟨a8,n9,c10⟩:SlV),z3.2.1+1,()) w11)
 (K (z3.1,()) w4)
theorem law27_payload.vc (p0 p1:Int) (w:World) (K:SlV×Unit→World→Prop) (h:law27_payload.P p0 p1 w K):CallV Tryz.prog 83 #[.int .i64 p0,.int .u8 p1] w [.one .sl] K:=by
 refine vcFun.of (A:=law27_payload.A) (wr:=false) okf_ok follows h Tryz.func83 ?_
 kernel_rfl
def law27_put.A:Ann:=.two .no (.two .no (.two .no (.two (.draw (.take 0 (.take 1 (.take 2 (.take 3 (.take 4 (.take 6 (.take 7 (.eff 5 (.eff 8 (.eff 9 (.take 10 (.done))))))))))))) .no)))
def law27_put.P (p0:Addr) (p1_0 p1_1 p1_2 p1_3 p1_4 p1_5 p2_0 p2_1 p2_2:Int) (p2_3:Bool) (p2_4 p3:Int) (w:World) (K:Int×Unit→World→Prop):Prop:=
 NewV #[.int .i64 p1_0,.int .i64 p1_1,.int .i64 p1_2,.int .i64 p1_3,.int .i64 p1_4,.int .i64 p1_5] 23 w fun b1 w2=>
 NewV #[.int .i64 p2_0,.int .i64 p2_1,.int .i64 p2_2,.bool p2_3,.int .u8 p2_4] 39 w2 fun b3 w4=>
 LoadS w4 ⟨b3,3,none⟩ .bool fun (x5:Bool)=>
 cond x5
 (LoadS w4 ⟨b3,0,none⟩ (.int .i64) fun (x6:Int)=>
 LoadS w4 ⟨b3,2,none⟩ (.int .i64) fun (x7:Int)=>
 LoadS w4 ⟨b3,1,none⟩ (.int .i64) fun (x8:Int)=>
 CallV Tryz.prog 51 #[.pointer (some p0),.agg #[.int .i64 2,.int .i64 x6,.int .i64 x7,.int .u32 (IntKind.u32.wrap x8),.int .u64 0,.int .u64 0]] w4 [.agg [.int .i64,.int .i64,.int .i64,.int .u32,.int .u64,.int .u64]] fun (r9:(Int×Int×Int×Int×Int×Int×Unit)×Unit) w10=>
 CallV Tryz.prog 45 #[.pointer (some p0),.agg #[.int .i64 r9.1.1,.int .i64 r9.1.2.1,.int .i64 r9.1.2.2.1,.int .u32 r9.1.2.2.2.1,.int .u64 r9.1.2.2.2.2.1,.int .u64 r9.1.2.2.2.2.2.1],.slice none 0 0,.slice none 0 0] w10 [.one (.int .i64)] fun (r11:Int×Unit) w12=>
 K (r11.1,()) w12)
 (LoadS w4 ⟨b3,0,none⟩ (.int .i64) fun (x13:Int)=>
 LoadS w4 ⟨b3,1,none⟩ (.int .i64) fun (x14:Int)=>
 CallV Tryz.prog 51 #[.pointer (some p0),.agg #[.int .i64 1,.int .i64 x13,.int .i64 1,.int .u32 (IntKind.u32.wrap x14),.int .u64 0,.int .u64 0]] w4 [.agg [.int .i64,.int .i64,.int .i64,.int .u32,.int .u64,.int .u64]] fun (r15:(Int×Int×Int×Int×Int×Int×Unit)×Unit) w16=>
 NewV #[.int .i64 0,.int .i64 0,.int .i64 0,.int .u32 0,.int .u64 0,.int .u64 0] 62 w16 fun b17 w18=>
 StoreV w18 ⟨b17,0,none⟩ [.int .i64 r15.1.1,.int .i64 r15.1.2.1,.int .i64 r15.1.2.2.1,.int .u32 r15.1.2.2.2.1,.int .u64 r15.1.2.2.2.2.1,.int .u64 r15.1.2.2.2.2.2.1] fun w19=>
 DrawV fun D20=>
 (D20 b17∧LoadA w19.drew ⟨b17,0,none⟩ [.int .i64,.int .i64,.int .i64,.int .u32,.int .u64,.int .u64] fun (x21:Int×Int×Int×Int×Int×Int×Unit)=>
 (D20 b1∧LoadS w19.drew ⟨b1,2,none⟩ (.int .i64) fun (x22:Int)=>
 CallV Tryz.prog 83 #[.int .i64 x22,.int .u8 p3] w19.drew [.one .sl] fun (r23:SlV×Unit) w24=>
 KeepOn D20 w19.drew w24 ∧
 CallV Tryz.prog 83 #[.int .i64 32,.int .u8 (IntKind.u8.wrap (p3+1))] w24 [.one .sl] fun (r25:SlV×Unit) w26=>
 KeepOn D20 w19.drew w26 ∧
 CallV Tryz.prog 45 #[.pointer (some p0),.agg #[.int .i64 x21.1,.int .i64 x21.2.1,.int .i64 x21.2.2.1,.int .u32 x21.2.2.2.1,.int .u64 x21.2.2.2.2.1,.int .u64 x21.2.2.2.2.2.1],.slice r23.1.a r23.1.n r23.1.c,.slice r25.1.a r25.1.n r25.1.c] w26 [.one (.int .i64)] fun (r27:Int×Unit) w28=>
 KeepOn D20 w19.drew w28 ∧
 K (r27.1,()) w28)))
theorem law27_put.vc (p0:Addr) (p1_0 p1_1 p1_2 p1_3 p1_4 p1_5 p2_0 p2_1 p2_2:Int) (p2_3:Bool) (p2_4 p3:Int) (w:World) (K:Int×Unit→World→Prop) (h:law27_put.P p0 p1_0 p1_1 p1_2 p1_3 p1_4 p1_5 p2_0 p2_1 p2_2 p2_3 p2_4 p3 w K):CallV Tryz.prog 19 #[.pointer (some p0),.agg #[.int .i64 p1_0,.int .i64 p1_1,.int .i64 p1_2,.int .i64 p1_3,.int .i64 p1_4,.int .i64 p1_5],.agg #[.int .i64 p2_0,.int .i64 p2_1,.int .i64 p2_2,.bool p2_3,.int .u8 p2_4],.int .u8 p3] w [.one (.int .i64)] K:=by
 refine vcFun.of (A:=law27_put.A) (wr:=false) okf_ok follows h Tryz.func19 ?_
 kernel_rfl
def law27_awake.A:Ann:=.no
def law27_awake.P  (w:World) (K:Bool×Unit→World→Prop):Prop:=
 NewV #[.int .i64 0,.int .i64 0,.int .i64 0,.int .i64 0,.int .i64 0,.int .i64 0] 23 w fun b1 w2=>
 StoreV w2 ⟨b1,0,none⟩ [.int .i64 11,.int .i64 10,.int .i64 64,.int .i64 0,.int .i64 1,.int .i64 1] fun w3=>
 LoadA w3 ⟨b1,0,none⟩ [.int .i64,.int .i64,.int .i64,.int .i64,.int .i64,.int .i64] fun (x4:Int×Int×Int×Int×Int×Int×Unit)=>
 CallV Tryz.prog 18 #[.agg #[.int .i64 x4.1,.int .i64 x4.2.1,.int .i64 x4.2.2.1,.int .i64 x4.2.2.2.1,.int .i64 x4.2.2.2.2.1,.int .i64 x4.2.2.2.2.2.1,.slice none 0 0,.int .i64 5,.int .i64 5,.slice none 0 0]] w3 [.one .ptr,.one .ptr] fun (r5:(Option Addr)×(Option Addr)×Unit) w6=>
 LoadA w6 ⟨b1,0,none⟩ [.int .i64,.int .i64,.int .i64,.int .i64,.int .i64,.int .i64] fun (x7:Int×Int×Int×Int×Int×Int×Unit)=>
 CallV Tryz.prog 19 #[.pointer r5.1,.agg #[.int .i64 x7.1,.int .i64 x7.2.1,.int .i64 x7.2.2.1,.int .i64 x7.2.2.2.1,.int .i64 x7.2.2.2.2.1,.int .i64 x7.2.2.2.2.2.1],.agg #[.int .i64 0,.int .i64 0,.int .i64 1,.bool false,.int .u8 0],.int .u8 3] w6 [.one (.int .i64)] fun (r8:Int×Unit) w9=>
 cond (r8.1 == 0)
 (CallV Tryz.prog 23 #[.pointer r5.1] w9 [.one .bool] fun (r10:Bool×Unit) w11=>
 cond (!r10.1)
 (CallV Tryz.prog 21 #[.pointer r5.1] w11 [.one (.int .i64)] fun (r12:Int×Unit) w13=>
 cond (r12.1 == 0)
 (CallV Tryz.prog 23 #[.pointer r5.1] w13 [.one .bool] fun (r14:Bool×Unit) w15=>
 K (r14.1,()) w15)
 (K (false,()) w13))
 (K (false,()) w11))
 (K (false,()) w9)
theorem law27_awake.vc  (w:World) (K:Bool×Unit→World→Prop) (h:law27_awake.P  w K):CallV Tryz.prog 17 #[] w [.one .bool] K:=by
 refine vcFun.of (A:=law27_awake.A) (wr:=false) okf_ok follows h Tryz.func17 ?_
 kernel_rfl
end Go.Proofs.YtbaojfchlhlaeaaGreat.Vc
namespace Go.Proofs.YtbaojfchlhlaeaaGreat.Vc
open Go Go.Eng Go.RowKit
def stR (z0 z1:Int) (x:St25):Prop:=(x.ns=0∨x.ns=1)∧1≤x.c∧x.c≤szOf z0 z1 x.ns∧0≤x.lba∧x.lba≤szOf z0 z1 x.ns-x.c
structure Li27 (g:Geo) (f:SlP TF.T) (z0 z1:Int) (l:List TSt25.T):Prop where
 R:Right g
 F:FRight (fds f)
 b:g.b≤16
 p:g.p≤16
 s:g.s≤128
 n:l.length≤120
 z:fitE g [z0,z1]=0
 st:∀ y∈l,stR z0 z1 (stOf y)
section
variable {E:Nat→Prop} {w0 w:World} {Rs:List Asr} {sp pp pm p q n:Nat} {g:Geo} {s:SD}
theorem light27_c {f:SlP TF.T} {z0 z1:Int} {st:SlP TSt25.T} (hf:LF.rd w All f) (hs:LSt25.rd w All st) :
  CallV Tryz.prog 15 #[.agg (casV25 g f z0 z1 ⟨st.a,st.n,st.c⟩).toArray] w [.one .bool] fun r w'=>(r.1=true→Li27 g f z0 z1 st.l)∧Ext w w':=by
 apply law27_light.vc
 unfold law27_light.P
 have S:=Sep.start NoB w
 have no:∀ {w':World},Ext w w'→((false=true→Li27 g f z0 z1 st.l)∧Ext w w'):=fun e=>⟨fun h=>(by cases h),e⟩
 refine S.newB (vs:=casV25 g f z0 z1 ⟨st.a,st.n,st.c⟩) fun b1 w1 S f1 _=>S.reg fun D hD hkeep S T=>?_
 have hb:=hD _ S.bl0
 refine ⟨hb,S.lb0 (o:=0) rfl ?_⟩
 refine (Right_c (g:=g)).mono ?_
 rintro ⟨(r:Bool),⟨⟩⟩ w4 ⟨h4,x4⟩
 dsimp only at h4 ⊢
 subst h4
 have T:=T.stepE x4
 refine ⟨hkeep _ T.fr,cond_of (fun _=>no (S.ext.trans x4)) (fun h1=>?_)⟩
 have h1:Right g:=by simpa using h1
 refine ⟨hb,S.ld0 (j:=6) rfl rfl ?_⟩
 refine (rRight12_c (Ty.rd_ext (S.ext.trans x4) _ hf)).mono ?_
 rintro ⟨(r:Bool),⟨⟩⟩ w5 ⟨h5,rfl⟩
 dsimp only at h5 ⊢
 subst h5
 refine ⟨hkeep _ T.fr,cond_of (fun _=>no (S.ext.trans x4)) (fun h2=>?_)⟩
 have h2:FRight (fds f):=by simpa using h2
 refine ⟨hb,S.ld0 (j:=0) rfl rfl (cond_d (fun _=>no (S.ext.trans x4)) (fun h3=>?_))⟩
 refine ⟨hb,S.ld0 (j:=1) rfl rfl (cond_d (fun _=>no (S.ext.trans x4)) (fun h4=>?_))⟩
 refine ⟨hb,S.ld0 (j:=2) rfl rfl (cond_d (fun _=>no (S.ext.trans x4)) (fun h5=>?_))⟩
 refine ⟨hb,S.ld0 (j:=9) rfl rfl (cond_d (fun _=>no (S.ext.trans x4)) (fun h6=>?_))⟩
 refine ⟨hb,S.lb0 (o:=0) rfl ?_⟩
 intro a ha
 rw [if_neg (by decide)] at ha
 subst ha
 have hc:=((S.cells 0 rfl).drop 7).take 2
 have e7:(⟨b1,0,none⟩:Addr).add 7=(⟨b1,7,none⟩:Addr).add (0*1):=by rw [Addr.add_lit,Addr.add_lit]
 rw [e7] at hc
 refine (rFit_c (g:=g) (l:=[z0,z1]) h1 ⟨rfl,Nat.le_refl _,(by show (2:Nat)≤9223372036854775807;decide),.inr ⟨_,rfl,x4.cells hc⟩⟩).mono ?_
 rintro ⟨(r:Int),⟨⟩⟩ w6 ⟨h6',x6⟩
 dsimp only at h6' ⊢
 subst h6'
 have T:=T.stepE x6
 refine ⟨hkeep _ T.fr,cond_of (fun _=>no ((S.ext.trans x4).trans x6)) (fun h7=>?_)⟩
 have h7:fitE g [z0,z1]=0:=by simpa using h7
 have S:=S.stepE (x4.trans x6)
 have hl:st.l.length=st.n:=hs.1
 have hlim:st.n≤9223372036854775807:=by have h1:=hs.2.2.1;have h2:maxLen=9223372036854775807:=(by decide);omega
 refine Loop1 (fun (v:Int×Unit) w'=>∃ i:Nat,v.1=(i:Int)∧i≤st.n∧(∀ j y,j<i→st.l[j]? = some y→stR z0 z1 (stOf y))∧Sep NoB w w' [BoxA b1 28 (casV25 g f z0 z1 ⟨st.a,st.n,st.c⟩)]) (fun (v:Int×Unit) _=>((st.n:Int)-v.1).toNat)
  ⟨0,rfl,Nat.zero_le _,fun _ _ hj=>absurd hj (Nat.not_lt_zero _),S⟩ ?_
 clear S T hkeep hb hD D
 rintro ⟨(v:Int),⟨⟩⟩ w7 ⟨i,hv,hi,hst,S⟩
 dsimp only at hv
 subst hv
 refine S.ld0 (j:=9) rfl rfl (cond_d (fun hlt=>?_) (fun hge=>?_))
 case refine_2=>
  have hge:¬ ((i:Int)<((st.n:Nat):Int)):=hge
  refine ⟨fun _=>⟨h1,h2,by omega,by omega,by omega,?_,h7,fun y hy=>?_⟩,S.ext⟩
  ·have h6:¬ ((st.n:Nat):Int)>120:=h6;omega
  ·obtain ⟨j,hj,rfl⟩:=List.mem_iff_getElem.1 hy
   exact hst j _ (by omega) (List.getElem?_eq_getElem hj)
 have hlt:(i:Int)<((st.n:Nat):Int):=hlt
 refine S.ld0 (j:=9) rfl rfl ?_
 obtain ⟨qa,y,hq,hy,hc,hr,-,hqb⟩:=Ty.nth hs (i:=(i:Int)) (by omega) hlt (by decide)
 rw [Int.toNat_natCast] at hy
 obtain ⟨(ns:Int),(lba:Int),(ct:Int),(tr:Bool),(sd:Int),⟨⟩⟩:=y
 have nx:stR z0 z1 ⟨ns,lba,ct,tr,sd⟩→∀ j y,j<i+1→st.l[j]? = some y→stR z0 z1 (stOf y):=fun hn j y hj e=>by
  by_cases e2:j=i
  ·subst e2
   rw [hy] at e
   cases e
   exact hn
  ·exact hst j y (by omega) e
 refine ⟨⟨by omega,hlt⟩,qa,hq,(ns,lba,ct,tr,sd,()),S.ext.cells hc,?_⟩
 have X:=S.ext
 refine S.newB fun b2 w8 S f8 _=>S.st0 (by rfl) fun w9 S f9=>DrawV.any fun D hD=>?_
 have S:Sep NoB w w9.drew [BoxA b2 39 [.int .i64 ns,.int .i64 lba,.int .i64 ct,.bool tr,.int .u8 sd],BoxA b1 28 (casV25 g f z0 z1 ⟨st.a,st.n,st.c⟩)]:=S.drew
 refine ⟨hD _,S.ld0 (j:=0) rfl rfl (cond_d (fun _=>no S.ext) (fun g1=>?_))⟩
 refine ⟨hD _,S.ld0 (j:=0) rfl rfl (cond_d (fun _=>no S.ext) (fun g2=>?_))⟩
 refine ⟨hD _,S.ld0 (j:=2) rfl rfl (cond_d (fun _=>no S.ext) (fun g3=>?_))⟩
 refine ⟨hD _,S.ld0 (j:=2) rfl rfl ⟨hD _,S.ld0 (j:=0) rfl rfl ?_⟩⟩
 dsimp only at g1 g2 g3 ⊢
 have hns:ns=0∨ns=1:=by omega
 have hz:=(fitE_zero.1 h7).2.1
 have hz0:=hz z0 List.mem_cons_self
 have hz1:=hz z1 (List.mem_cons_of_mem _ List.mem_cons_self)
 rcases hns with e | e
 ·subst e
  have ea:=(add7 b1).1
  refine ⟨⟨by decide,by decide⟩,by rw [ea];exact hD _,?_⟩
  rw [ea]
  refine S.ld1 (j:=7) rfl rfl (cond_d (fun _=>no S.ext) (fun g4=>?_))
  refine ⟨hD _,S.ld0 (j:=1) rfl rfl (cond_d (fun _=>no S.ext) (fun g5=>?_))⟩
  refine ⟨hD _,S.ld0 (j:=1) rfl rfl ⟨hD _,S.ld0 (j:=0) rfl rfl ⟨⟨by decide,by decide⟩,?_⟩⟩⟩
  rw [ea]
  refine ⟨hD _,S.ld1 (j:=7) rfl rfl ⟨hD _,S.ld0 (j:=2) rfl rfl ⟨Rng.i64 (by omega) (by omega),cond_d (fun _=>no S.ext) (fun g6=>?_)⟩⟩⟩
  exact ⟨Rng.i64 (by omega) (by omega),⟨i+1,by push_cast;rfl,by omega,nx ⟨.inl rfl,by show 1≤ct;omega,by show ct≤z0;omega,by show 0≤lba;omega,by show lba≤z0-ct;omega⟩,S.tail⟩,by omega⟩
 ·subst e
  have ea:=(add7 b1).2
  refine ⟨⟨by decide,by decide⟩,by rw [ea];exact hD _,?_⟩
  rw [ea]
  refine S.ld1 (j:=8) rfl rfl (cond_d (fun _=>no S.ext) (fun g4=>?_))
  refine ⟨hD _,S.ld0 (j:=1) rfl rfl (cond_d (fun _=>no S.ext) (fun g5=>?_))⟩
  refine ⟨hD _,S.ld0 (j:=1) rfl rfl ⟨hD _,S.ld0 (j:=0) rfl rfl ⟨⟨by decide,by decide⟩,?_⟩⟩⟩
  rw [ea]
  refine ⟨hD _,S.ld1 (j:=8) rfl rfl ⟨hD _,S.ld0 (j:=2) rfl rfl ⟨Rng.i64 (by omega) (by omega),cond_d (fun _=>no S.ext) (fun g6=>?_)⟩⟩⟩
  exact ⟨Rng.i64 (by omega) (by omega),⟨i+1,by push_cast;rfl,by omega,nx ⟨.inr rfl,by show 1≤ct;omega,by show ct≤z1;omega,by show 0≤lba;omega,by show lba≤z1-ct;omega⟩,S.tail⟩,by omega⟩
theorem payload27_c {n sd:Int} (hn:0≤n∧n≤1000):CallV Tryz.prog 83 #[.int .i64 n,.int .u8 sd] w [.one .sl] fun r w'=>Res w w' r.1 (payM 11 n.toNat sd):=by
 apply law27_payload.vc
 unfold law27_payload.P
 have S:=Sep.start NoB w
 refine S.newB fun b1 w1 S f1 _=>?_
 have S:=S.asOwn (sz:=1) (n:=0) rfl (by omega) oneAll.nil
 refine Loop1 (fun (v:SlV×Int×Unit) w'=>∃ i:Nat,v.2.1=(i:Int)∧(i:Int)≤n∧v.1.n=i∧Sep NoB w w' [OwnA 5 1 v.1.a v.1.n v.1.c ((payM 11 i sd).map (Value.int .u8))]) (fun (v:SlV×Int×Unit) _=>(n-v.2.1).toNat) ⟨0,rfl,by omega,rfl,S⟩ ?_
 rintro ⟨⟨a,m,c⟩,(v:Int),⟨⟩⟩ w4 ⟨i,hv,hi,hm,S⟩
 dsimp only at hv hm S ⊢
 subst hv
 subst hm
 refine cond_d (fun hlt=>?_) (fun hge=>?_)
 ·refine S.newB fun b6 w5 S f5 _=>?_
  refine AppS.of (news:=[.int .u8 (Go.bits .xor .u8 (IntKind.u8.wrap (IntKind.u8.wrap (m:Int)*11)) sd)]) rfl (.inr ⟨_,rfl,S.cells 0 rfl⟩) ?_
  refine S.ap1 rfl (fun u hu=>by rw [List.mem_singleton.1 hu];rfl) (by omega) (by omega) fun a' c' w6 S f6=>⟨Rng.i64 (by omega) (by omega),⟨m+1,by push_cast;rfl,by omega,rfl,?_⟩,by omega⟩
  have e:(payM 11 (m+1) sd).map (Value.int .u8)=(payM 11 m sd).map (Value.int .u8)++[.int .u8 (Go.bits .xor .u8 (IntKind.u8.wrap (IntKind.u8.wrap (m:Int)*11)) sd)]:=by
   unfold payM
   rw [List.range_succ,List.map_append,List.map_append]
   rfl
  rw [e]
  exact S.sel [1] rfl
 ·have:n.toNat=m:=by omega
  rw [this]
  exact S.out
theorem made27_c {f:SlP TF.T} {z0 z1:Int} {st:SlV} (hf:LF.rd w All f) (hR:Right g) (hFR:FRight (fds f)) (hg:LG g) (hz0:1≤z0∧z0≤65535) (hz1:1≤z1∧z1≤65535) :
  CallV Tryz.prog 18 #[.agg (casV25 g f z0 z1 st).toArray] w [.one .ptr,.one .ptr] fun r w'=>∃ (sp pp pm p q:Nat) (X:List (SlP Ce)),r.1=some (⟨sp,0,none⟩:Addr)∧r.2.1=some (⟨p,0,none⟩:Addr)∧New0 X z0.toNat z1.toNat∧Sep NoB w w' (stS sp pp pm p q g (s00 g (fds f) X) []):=by
 apply law27_made.vc
 unfold law27_made.P
 have S:=Sep.start NoB w
 have hk:=hR.1
 unfold Kept at hk
 have hpF:∀ F∈fds f,Byt F.2.2.1∧F.2.2.1.length≤140737488351232:=fun F hF=>⟨fds_byt hf F hF,hFR.fit F hF⟩
 have hC0:COk (newC g (fds f)):=newC_ok hR hg hpF
 refine S.newB (vs:=casV25 g f z0 z1 st) fun b1 w1 S f1 _=>?_
 refine S.lb0 (o:=0) rfl (S.ld0 (j:=6) rfl rfl ?_)
 refine (New13_c (g:=g) (x:=f) (Ty.rd_ext S.ext _ hf) hFR.fit).mono ?_
 rintro ⟨pv,(e:Int),⟨⟩⟩ w2 ⟨x2,-,hgood⟩
 obtain ⟨-,p,y,hp,hyF,S2⟩:=hgood ⟨hR,hFR⟩
 dsimp only at hp
 subst hp
 have S:=chip_new (w:=w) hyF (S.frame0 S2)
 clear S2
 refine S.lb1 (o:=0) rfl ?_
 refine (Data_c (g:=g)).mono ?_
 rintro ⟨(d:Int),⟨⟩⟩ w3 ⟨h3,x3⟩
 dsimp only at h3 ⊢
 rw [if_pos hR] at h3
 subst h3
 have S:=S.stepE x3
 refine (New21_c (n:=g.b-4) (by omega)).mono ?_
 rintro ⟨qv,(e:Int),⟨⟩⟩ w4 ⟨-,q,a6,c6,hq,S4⟩
 dsimp only at hq
 subst hq
 have S:=ledE_in (q:=q) (L:=List.replicate (nG g) Blk.new) (S.frame0 S4)
 clear S4
 refine (New_m S).mono ?_
 rintro ⟨mv,⟨⟩⟩ w5 ⟨pm,hm,S⟩
 dsimp only at hm
 subst hm
 refine ⟨⟨by decide,by decide⟩,S.ld3 (j:=7) rfl rfl ?_⟩
 refine (Add_m (ns:=0) (size:=z0) X0_ok (by decide) (New0.zero.n 0) hz0 S).mono ?_
 rintro ⟨(r:Int),⟨⟩⟩ w6 ⟨-,x0,hx1,hx2,S⟩
 have hN1:=New0.zero.add0 hx1 hx2 (by omega)
 refine ⟨⟨by decide,by decide⟩,S.ld3 (j:=8) rfl rfl ?_⟩
 refine (Add_m (ns:=1) (size:=z1) hN1.ok (by decide) (hN1.n 1) hz1 S).mono ?_
 rintro ⟨(r:Int),⟨⟩⟩ w7 ⟨-,x1,hy1,hy2,S⟩
 have hN2:=hN1.add1 hy1 hy2 (by omega)
 refine (Len_e (S.fro [1] rfl)).mono ?_
 rintro ⟨(r:Int),⟨⟩⟩ w8 ⟨h8,rfl⟩
 dsimp only at h8 ⊢
 rw [List.length_replicate] at h8
 subst h8
 have hnG:((nG g:Nat):Int)=g.b-4:=by unfold nG;omega
 refine ⟨⟨by omega,by omega,by omega,by push_cast;omega⟩,?_⟩
 rw [Int.toNat_natCast]
 refine S.newB fun b22 w9 S f9 _=>?_
 rw [zHd_rep'] at S
 refine (New24_c (y:=⟨some ⟨b22,0,none⟩,nG g,nG g⟩) (O:=List.replicate (nG g) zHd) hC0 (by rw [List.length_replicate];omega) (by show nG g≤1000;omega) (.inr ⟨_,rfl,S.cells 0 rfl⟩) List.length_replicate (S.fro [3,2] rfl)).mono ?_
 rintro ⟨pv2,(e:Int),⟨⟩⟩ w10 ⟨-,h8⟩
 obtain ⟨-,pp,t,hpp,x8,S⟩:=h8 ⟨by rw [List.length_replicate];exact hnG,hnG⟩
 dsimp only at hpp
 subst hpp
 have S:=polE_in S
 refine (S.fro [5] rfl).lb0 (o:=0) rfl ?_
 have hgC:(newC g (fds f)).g=g:=rfl
 rw [hgC] at S
 refine (New25_c (pl:=fds f) hR hg hpF hN2 (S.fro [4,0,0,0] rfl)).mono ?_
 rintro ⟨sv,(e:Int),⟨⟩⟩ w11 ⟨sp,hsp,-,S⟩
 exact ⟨sp,pp,pm,p,q,_,hsp,rfl,hN2,S.take (Rs:=stS sp pp pm p q g (s00 g (fds f) _) [])⟩
def pl27 (g:Geo) (x:St25) (sd:Int):List Int:=if x.t=true then [] else payM 11 g.s.toNat sd
def tg27 (x:St25) (sd:Int):List Int:=if x.t=true then [] else payM 11 32 (IntKind.u8.wrap (sd+1))
def do27 (g:Geo) (s:SD) (x:St25) (sd:Int):SD×Int:=putS (nxtS s (hd25 x)).1 (nxtS s (hd25 x)).2 (pl27 g x sd) (tg27 x sd)
theorem pl27_byt (g:Geo) (x:St25) (sd:Int):Byt (pl27 g x sd):=by unfold pl27;split;exact Byt.nil;exact payM_byt _ _ _
theorem tg27_byt (x:St25) (sd:Int):Byt (tg27 x sd):=by unfold tg27;split;exact Byt.nil;exact payM_byt _ _ _
theorem SI.do27 (h:SI g n s) (x:St25) (sd:Int) (ho:s.C.ops+55051264≤1000000000000):St g n 55051264 (nxtS s (hd25 x)).1 (do27 g s x sd).1:=by
 have h1:=(h.nxt (hd25 x)).2
 have a:=h1.put (xs:=pl27 g x sd) (tg:=tg27 x sd) (nxt_rng h (hd25_rng x)) (pl27_byt g x sd) (tg27_byt x sd) ho
 exact a
theorem put27_c {x:St25} {sd:Int} (h:SI g n s) (ho:s.C.ops+55051264≤1000000000000) (S:Sep E w0 w (stS sp pp pm p q g s Rs)) :
  CallV Tryz.prog 19 #[.pointer (some ⟨sp,0,none⟩),g.val,x.val,.int .u8 sd] w [.one (.int .i64)] fun r w'=>r.1=(do27 g s x sd).2∧Sep E w0 w' (stS sp pp pm p q g (do27 g s x sd).1 Rs):=by
 apply law27_put.vc
 unfold law27_put.P
 have hwc:=wC256
 have hR:=h.pi.R
 have hs:=hR.sec
 have h1:=(h.nxt (hd25 x)).2
 have hr:=nxt_rng h (hd25_rng x)
 have hln:g.s≤1000:=by have:=h.pi.ok.lg;rw [h.pi.gg] at this;unfold LG at this;omega
 refine S.newB (vs:=g.vs) fun b1 w1 S f1 _=>S.newB fun b3 w2 S f2 _=>S.ld0 (j:=3) rfl rfl (cond_of (fun ht=>?_) (fun ht=>?_))
 ·have ht:x.t=true:=ht
  refine S.ld0 (j:=0) rfl rfl (S.ld0 (j:=2) rfl rfl (S.ld0 (j:=1) rfl rfl ?_))
  have S:=S.tail.tail
  have eh:(⟨2,x.ns,x.c,IntKind.u32.wrap x.lba,0,0⟩:Hd)=hd25 x:=by unfold hd25;rw [if_pos ht]
  refine (Next25_c (hd:=⟨2,x.ns,x.c,IntKind.u32.wrap x.lba,0,0⟩) h S).mono ?_
  rw [eh]
  rintro ⟨r,⟨⟩⟩ w3 ⟨h3,S⟩
  dsimp only at h3 ⊢
  subst h3
  have S:=rd_two (S.rdNil.rdNil)
  have S:Sep E w0 w3 (stS sp pp pm p q g (nxtS s (hd25 x)).1 (RdL [⟨none,0,0,[]⟩,⟨none,0,0,[]⟩]::Rs)):=S.fro [1,1,1,1,1] rfl
  refine (Put25_c (hd:=(nxtS s (hd25 x)).2) (dd:=⟨none,0,0,[]⟩) (tt:=⟨none,0,0,[]⟩) h1 hr (.inl rfl) (.inl rfl) Byt.nil Byt.nil (by rw [hwc];exact ho) S).mono ?_
  rintro ⟨(r:Int),⟨⟩⟩ w4 ⟨h4,S⟩
  dsimp only at h4 S ⊢
  unfold Vc.do27 pl27 tg27
  rw [if_pos ht,if_pos ht]
  exact ⟨h4,(S.fro [5] rfl).tail⟩
 ·have ht:x.t=false:=ht
  refine S.ld0 (j:=0) rfl rfl (S.ld0 (j:=1) rfl rfl ?_)
  have eh:(⟨1,x.ns,1,IntKind.u32.wrap x.lba,0,0⟩:Hd)=hd25 x:=by unfold hd25;rw [if_neg (by rw [ht];exact Bool.false_ne_true)]
  have S:Sep E w0 w2 (stS sp pp pm p q g s (BoxA b1 23 g.vs::Rs)):=S.tail.fro [1,1,1,1,1] rfl
  refine (Next25_c (hd:=⟨1,x.ns,1,IntKind.u32.wrap x.lba,0,0⟩) h S).mono ?_
  rw [eh]
  rintro ⟨r,⟨⟩⟩ w3 ⟨h3,S⟩
  dsimp only at h3 ⊢
  subst h3
  refine S.newB fun b17 w4 S f4 _=>S.st0 (by rfl) fun w5 S f5=>?_
  have S:Sep E w0 w5 ([boxSt sp pp pm g (nxtS s (hd25 x)).1,mapE pm (nxtS s (hd25 x)).1.X,polE pp p q g (nxtS s (hd25 x)).1.O,ledE q (nxtS s (hd25 x)).1.L,chipE p (nxtS s (hd25 x)).1.C]++(BoxA b17 62 (nxtS s (hd25 x)).2.vs::BoxA b1 23 g.vs::Rs)):=S.fro [1,1,1,1,1] rfl
  refine Sep.regC [boxSt sp pp pm g (nxtS s (hd25 x)).1,mapE pm (nxtS s (hd25 x)).1.X,polE pp p q g (nxtS s (hd25 x)).1.O,ledE q (nxtS s (hd25 x)).1.L,chipE p (nxtS s (hd25 x)).1.C] S fun G D hG T S hDt hDo hkeep back=>?_
  have T:Sep G w5.drew w5.drew (stS sp pp pm p q g (nxtS s (hd25 x)).1 []):=T
  refine ⟨hDt 0 _ _ _ rfl,S.la5 rfl ⟨hDt 1 _ _ _ rfl,S.ld6 (j:=2) rfl rfl ?_⟩⟩
  refine (payload27_c (n:=g.s) (sd:=sd) (by omega)).mono ?_
  rintro ⟨⟨va,vn,vc⟩,⟨⟩⟩ w6 R6
  have T:=res_rdL T R6 (payM_byt _ _ _)
  have hvn:(vn:Int)=g.s:=by have:=R6.own.ints.len;dsimp only at this;rw [payM_len] at this;omega
  clear R6
  refine ⟨hkeep _ T.fr,(payload27_c (n:=32) (sd:=IntKind.u8.wrap (sd+1)) (by decide)).mono ?_⟩
  rintro ⟨⟨ta,tn,tc⟩,⟨⟩⟩ w7 R7
  have T:=res_rdL T R7 (payM_byt _ _ _)
  have htn:tn=32:=by have:=R7.own.ints.len;dsimp only at this;rw [payM_len] at this;exact this.symm
  clear R7
  have T:=rd_two (T.fro [1,0] rfl)
  have T:Sep G w5.drew w7 (stS sp pp pm p q g (nxtS s (hd25 x)).1 (RdL [⟨va,vn,vc,payM 11 g.s.toNat sd⟩,⟨ta,tn,tc,payM 11 32 (IntKind.u8.wrap (sd+1))⟩]::[])):=T.fro [1,1,1,1,1] rfl
  refine ⟨hkeep _ T.fr,(Put25_c (hd:=(nxtS s (hd25 x)).2) (dd:=⟨va,vn,vc,payM 11 g.s.toNat sd⟩) (tt:=⟨ta,tn,tc,payM 11 32 (IntKind.u8.wrap (sd+1))⟩) h1 hr (.inr hvn) (.inr htn) (payM_byt _ _ _) (payM_byt _ _ _) (by rw [hwc];exact ho) T).mono ?_⟩
  rintro ⟨(r:Int),⟨⟩⟩ w8 ⟨h8,T⟩
  dsimp only at h8 T ⊢
  refine ⟨hkeep _ T.fr,?_⟩
  unfold Vc.do27 pl27 tg27
  rw [if_neg (by rw [ht];exact Bool.false_ne_true),if_neg (by rw [ht];exact Bool.false_ne_true)]
  exact ⟨h8,((back _ _ T).fro [5,5,5] rfl).tail.tail.tail⟩
end
end Go.Proofs.YtbaojfchlhlaeaaGreat.Vc
namespace Go.Proofs.YtbaojfchlhlaeaaGreat.Vc
open Go Go.Eng Go.RowKit
abbrev gA25:Geo:=⟨11,10,64,0,1,1⟩
structure Aw25 (R:(CD×List Blk×List Hd)×Int×Int):Prop where
 o:opC 0 ⟨0,0,0,0,1,u64w (0+1)⟩ true (newC gA25 []) (List.replicate (nG gA25) Blk.new) (List.replicate (nG gA25) zHd)=R
 b:R.2.1=0
 e:R.2.2=0
 sp:R.1.1.g.sp=0
 p:R.1.1.g.p=10
 ba:bads R.1.2.1=0
 us:(gx R.1.2.1 0).us=0
 l:R.1.2.1.length=7
abbrev sR (X:List (SlP Ce)) (ct:Int) (R:(CD×List Blk×List Hd)×Int×Int) (C:CD) (L:List Blk):SD:=⟨C,L,R.1.2.2,X,[0,-1,-1,-1],1,u64w (0+1),ct,false⟩
abbrev sN (X:List (SlP Ce)) (ct:Int):SD:=⟨newC gA25 [],List.replicate (nG gA25) Blk.new,List.replicate (nG gA25) zHd,X,[-1,-1,-1,-1],1,0,ct,false⟩
section
variable {X:List (SlP Ce)} {ct:Int} {R:(CD×List Blk×List Hd)×Int×Int}
theorem aw_room (hX:New0 X 5 5) (h:Aw25 R):roomP (sN X ct) 0=(sR X ct R R.1.1 R.1.2.1,0):=by
 have hc:closP (sN X ct) 0=sN X ct:=if_neg (fun e=>absurd (show (0:Int)≤-1 from e.1) (by decide))
 have hq:quoS (sN X ct) 0=3:=by
  unfold quoS
  show quo gA25 (((getX X 0).n:Nat):Int)=3
  rw [hX.n]
  decide
 have hh:heldS (sN X ct) 0=0:=by
  show manyT (List.replicate (nG gA25) Blk.new) (ownB 0) (List.replicate (nG gA25) Blk.new).length=0
  decide
 unfold roomP
 rw [hc,hq,hh,if_neg (by decide)]
 have ho:opnS 0 true (sN X ct)=(⟨R.1.1,R.1.2.1,R.1.2.2,X,[-1,-1,-1,-1],1,u64w (0+1),ct,false⟩,R.2.1,R.2.2):=by
  unfold opnS
  dsimp only
  rw [h.o]
 dsimp only
 rw [ho]
 dsimp only
 rw [h.b,h.e,if_pos rfl]
 have hf:frS ⟨R.1.1,R.1.2.1,R.1.2.2,X,[-1,-1,-1,-1],1,u64w (0+1),ct,false⟩ 0 0=sR X ct R R.1.1 R.1.2.1:=rfl
 rw [hf]
 unfold leftP
 rw [if_neg (by decide)]
 have hr:roS (sR X ct R R.1.1 R.1.2.1) 0=sR X ct R R.1.1 R.1.2.1:=if_neg (by decide)
 rw [hr]
 have hov:overP (sR X ct R R.1.1 R.1.2.1)=(sR X ct R R.1.1 R.1.2.1,0):=by
  unfold overP
  dsimp only
  rw [h.sp,h.ba,if_neg (by decide),if_neg (by decide)]
 rw [hov,if_neg (fun k=>k rfl)]
theorem aw_wr (hX:New0 X 5 5) (h:Aw25 R) {hd:Hd} {xs tg:List Int} (hw:(wrtT 7 R.1.1 0 1 hd xs tg).2=0) :
  wrP 0 hd xs tg 256 (sN X ct)=(sR X ct R (wrtT 7 R.1.1 0 1 hd xs tg).1 (chL 0 7 uB R.1.2.1),(4,1),0):=by
 have h1:fulP (sN X ct) 0:=.inl (show (-1:Int)<0 by decide)
 show (if fulP (sN X ct) 0 then (if (roomP (sN X ct) 0).2≠0 then ((roomP (sN X ct) 0).1,(0,0),(roomP (sN X ct) 0).2) else wrP 0 hd xs tg 255 (roomP (sN X ct) 0).1) else _)=_
 rw [if_pos h1,aw_room hX h,if_neg (fun k=>k rfl)]
 dsimp only
 have h2:¬ fulP (sR X ct R R.1.1 R.1.2.1) 0:=by
  unfold fulP
  dsimp only
  rw [h.p]
  intro k
  rcases k with k | k
  ·exact absurd (show (0:Int)<0 from k) (by decide)
  ·have k:(10:Int)-1≤(gx R.1.2.1 0).us:=k
   rw [h.us] at k
   exact absurd k (by decide)
 have e2:(gx (chL 0 7 uB R.1.2.1) 0).us=1:=by
  rw [gx_ch h.l,if_pos ⟨by decide,rfl⟩]
  show (gx R.1.2.1 0).us+1=1
  rw [h.us];rfl
 have e1:wr1 (sR X ct R R.1.1 R.1.2.1) 0 hd xs tg=(sR X ct R (wrtT 7 R.1.1 0 1 hd xs tg).1 (chL 0 7 uB R.1.2.1),(wrtT 7 R.1.1 0 1 hd xs tg).2):=by
  show (sR X ct R (wrtT R.1.2.1.length R.1.1 0 (gx (chL 0 R.1.2.1.length uB R.1.2.1) 0).us hd xs tg).1 (chL 0 R.1.2.1.length uB R.1.2.1),(wrtT R.1.2.1.length R.1.1 0 (gx (chL 0 R.1.2.1.length uB R.1.2.1) 0).us hd xs tg).2)=_
  rw [h.l,e2]
 show (if fulP (sR X ct R R.1.1 R.1.2.1) 0 then (if (roomP (sR X ct R R.1.1 R.1.2.1) 0).2≠0 then ((roomP (sR X ct R R.1.1 R.1.2.1) 0).1,(0,0),(roomP (sR X ct R R.1.1 R.1.2.1) 0).2) else wrP 0 hd xs tg 254 (roomP (sR X ct R R.1.1 R.1.2.1) 0).1) else if (wr1 (sR X ct R R.1.1 R.1.2.1) 0 hd xs tg).2=0 then ((wr1 (sR X ct R R.1.1 R.1.2.1) 0 hd xs tg).1,plc (sR X ct R R.1.1 R.1.2.1) 0,0) else _)=_
 rw [if_neg h2,e1]
 dsimp only
 rw [if_pos hw]
 have e3:plc (sR X ct R R.1.1 R.1.2.1) 0=(4,1):=by
  show ((4:Int)+0,(gx R.1.2.1 0).us+1)=(4,1)
  rw [h.us];rfl
 rw [e3]
theorem aw_put (hX:New0 X 5 5) (h:Aw25 R) {xs tg:List Int} (hw:(wrtT 7 R.1.1 0 1 ⟨1,0,1,IntKind.u32.wrap 0,1,u64w (0+1)⟩ xs tg).2=0) :
  putS (sN X ct) ⟨1,0,1,IntKind.u32.wrap 0,1,u64w (0+1)⟩ xs tg=(lndP (sR X ct R (wrtT 7 R.1.1 0 1 ⟨1,0,1,IntKind.u32.wrap 0,1,u64w (0+1)⟩ xs tg).1 (chL 0 7 uB R.1.2.1)) ⟨1,0,1,IntKind.u32.wrap 0,1,u64w (0+1)⟩ (4,1),0):=by
 have hm:mayP (sN X ct) ⟨1,0,1,IntKind.u32.wrap 0,1,u64w (0+1)⟩:=by
  unfold mayP
  have:(getX X 0).n=5:=hX.n 0
  dsimp only
  rw [this]
  refine ⟨.inl rfl,by decide,by decide,by decide⟩
 unfold putS
 rw [if_neg (fun k=>k hm),if_neg (fun k=>by cases k)]
 dsimp only
 rw [aw_wr hX h hw]
 dsimp only
 rw [if_neg (fun k=>k rfl)]
end
def R25:(CD×List Blk×List Hd)×Int×Int:=opC 0 ⟨0,0,0,0,1,u64w (0+1)⟩ true (newC gA25 []) (List.replicate (nG gA25) Blk.new) (List.replicate (nG gA25) zHd)
theorem R25_e:R25.2.1=0∧R25.2.2=0∧R25.1.1.g.sp=0∧R25.1.1.g.p=10∧bads R25.1.2.1=0∧(gx R25.1.2.1 0).us=0∧R25.1.2.1.length=7:=by decide +kernel
theorem R25_A:Aw25 R25:=⟨rfl,R25_e.1,R25_e.2.1,R25_e.2.2.1,R25_e.2.2.2.1,R25_e.2.2.2.2.1,R25_e.2.2.2.2.2.1,R25_e.2.2.2.2.2.2⟩
end Go.Proofs.YtbaojfchlhlaeaaGreat.Vc
namespace Go.Proofs.YtbaojfchlhlaeaaGreat.Vc
open Go Go.Eng Go.RowKit
theorem aw_lnd {X:List (SlP Ce)} (hX:New0 X 5 5) {s:SD} (hs:s.X=X) {e t:Int} :
  lndP s ⟨1,0,1,IntKind.u32.wrap 0,e,t⟩ (4,1)=chS {s with X:=lndX s ⟨1,0,1,IntKind.u32.wrap 0,e,t⟩ (4,1)} 0 (cB 1):=by
 have hw:IntKind.u32.wrap 0=0:=by decide
 have h1:lndX s ⟨1,0,1,IntKind.u32.wrap 0,e,t⟩ (4,1)=setX X 0 0 ⟨true,sptS s ⟨1,0,1,IntKind.u32.wrap 0,e,t⟩ (4,1)⟩:=by
  show (stepP (sptS s ⟨1,0,1,IntKind.u32.wrap 0,e,t⟩ (4,1)) ((IntKind.u32.wrap 0).toNat+0) (s.X,[])).1=_
  rw [hs,hw]
  unfold stepP
  have hc:(getX X 0).l.getD 0 Ce0=Ce0:=by rw [hX.l];rfl
  have hc2:(getX X (sptS s ⟨1,0,1,0,e,t⟩ (4,1)).h.n).l.getD ((0:Int).toNat+0) Ce0=Ce0:=hc
  dsimp only
  rw [hc2,if_neg (fun k=>by cases k.1)]
  rfl
 have h2:0<cntX (lndX s ⟨1,0,1,IntKind.u32.wrap 0,e,t⟩ (4,1)) (4,1):=by
  rw [h1]
  refine cntX_pos (ns:=0) (j:=0) (c:=⟨true,sptS s ⟨1,0,1,IntKind.u32.wrap 0,e,t⟩ (4,1)⟩) hX.ok.set.four (by decide) ?_ rfl
  unfold setX
  have h3:=getX_put hX.ok.four (ns:=0) (by decide) (x:=⟨(getX X 0).a,(getX X 0).n,(getX X 0).c,(getX X 0).l.set 0 ⟨true,sptS s ⟨1,0,1,IntKind.u32.wrap 0,e,t⟩ (4,1)⟩⟩) 0
  rw [if_pos rfl] at h3
  rw [h3,hX.l]
  rfl
 have h3:gonP s.X (lndX s ⟨1,0,1,IntKind.u32.wrap 0,e,t⟩ (4,1))=[]:=by
  unfold gonP
  rw [List.filter_eq_nil_iff]
  intro k _ hk
  exact hX.cnt k (by rw [←hs];exact (of_decide_eq_true hk).1)
 unfold lndP
 rw [h3]
 show lnd1 s _ _=_
 unfold lnd1
 rw [if_pos h2]
 rfl
def dqs:Nat→CD×List Blk→CD×List Blk
 | 0,x=>x
 | i+1,x=>if dirB (gx (dqs i x).2 i)=true then ((dstP (dqs i x).1 (dqs i x).2 (i:Int)).1,(dstP (dqs i x).1 (dqs i x).2 (i:Int)).2.1) else dqs i x
def dqo (y:CD×List Blk) (i:Nat):Prop:=y.2.length=7∧(dirB (gx y.2 i)=true→(gx y.2 i).he=false∧powE (dstP y.1 y.2 (i:Int)).2.2=0∧bads (dstP y.1 y.2 (i:Int)).2.1=0∧(dstP y.1 y.2 (i:Int)).1.g.sp=0)
instance (y:CD×List Blk) (i:Nat):Decidable (dqo y i):=by unfold dqo;infer_instance
abbrev sCL (s:SD) (x:CD×List Blk):SD:={s with C:=x.1,L:=x.2}
theorem drn1_q {s:SD} {x:CD×List Blk} {i:Nat} (hro:s.ro=false) (hi:i<7) (h:dqo (dqs i x) i):drn1 (sCL s (dqs i x)) i=(sCL s (dqs (i+1) x),0):=by
 obtain ⟨h1,h2⟩:=h
 unfold drn1
 have e:dqs (i+1) x=if dirB (gx (dqs i x).2 i)=true then ((dstP (dqs i x).1 (dqs i x).2 (i:Int)).1,(dstP (dqs i x).1 (dqs i x).2 (i:Int)).2.1) else dqs i x:=rfl
 rw [e]
 clear e
 generalize dqs i x=y at h1 h2 ⊢
 show (if dirB (gx y.2 i)=true then _ else _)=_
 by_cases hd:dirB (gx y.2 i)=true
 ·obtain ⟨k1,k2,k3,k4⟩:=h2 hd
  rw [if_pos hd,if_pos hd]
  unfold emdS
  have k1':(gx (sCL s y).L ((i:Int)).toNat).he=false:=k1
  rw [if_neg (by rw [k1'];exact Bool.false_ne_true)]
  have e1:dstS (sCL s y) (i:Int)=(sCL s ((dstP y.1 y.2 (i:Int)).1,(dstP y.1 y.2 (i:Int)).2.1),(dstP y.1 y.2 (i:Int)).2.2):=by
   unfold dstS
   rw [if_pos ⟨by omega,by show (i:Int)<((y.2.length:Nat):Int);omega⟩]
   unfold overP
   show ((if (dstP y.1 y.2 (i:Int)).1.g.sp<bads (dstP y.1 y.2 (i:Int)).2.1 then _ else _:SD×Int).1,_)=_
   rw [k3,k4,if_neg (by decide)]
  rw [e1]
  dsimp only
  rw [k2]
 ·rw [if_neg hd,if_neg hd]
theorem each_q {s:SD} {x:CD×List Blk} (hro:s.ro=false) (h:∀ i,i<7→dqo (dqs i x) i):∀ k:Nat,k≤7→eachF drn1 7 k (sCL s (dqs (7-k) x))=(sCL s (dqs 7 x),0)
 | 0,_=>rfl
 | k+1,hk=>by
  unfold eachF
  have e:=drn1_q (s:=s) (x:=x) hro (i:=7-(k+1)) (by omega) (h _ (by omega))
  rw [e,if_neg (fun k=>k rfl)]
  dsimp only
  rw [show 7-(k+1)+1=7-k by omega]
  exact each_q hro h k (by omega)
def W27:CD×Int:=wrtT 7 R25.1.1 0 1 ⟨1,0,1,IntKind.u32.wrap 0,1,u64w (0+1)⟩ (payM 11 64 3) (payM 11 32 (IntKind.u8.wrap (3+1)))
def D27:CD×List Blk:=(W27.1,chL 0 7 (cB 1) (chL 0 7 uB R25.1.2.1))
theorem aw_w27:W27.2=0:=by decide +kernel
theorem D27_e:cln D27.2=false∧(∀ i,i<7→dqo (dqs i D27) i)∧cln (dqs 7 D27).2=true∧lks (dqs 7 D27).2=false∧D27.2.length=7:=by decide +kernel
abbrev x027:St25:=⟨0,0,1,false,0⟩
theorem aw_do27 {X:List (SlP Ce)} (hX:New0 X 5 5):(do27 gA25 (s00 gA25 [] X) x027 3).2=0∧cln (do27 gA25 (s00 gA25 [] X) x027 3).1.L=false∧(drnP 4 (do27 gA25 (s00 gA25 [] X) x027 3).1).2=0∧cln (drnP 4 (do27 gA25 (s00 gA25 [] X) x027 3).1).1.L=true:=by
 have w1:=aw_w27
 have e0:do27 gA25 (s00 gA25 [] X) x027 3=putS (sN X (u64w (0+1))) ⟨1,0,1,IntKind.u32.wrap 0,1,u64w (0+1)⟩ (payM 11 64 3) (payM 11 32 (IntKind.u8.wrap (3+1))):=by
  unfold do27 nxtS pl27 tg27 hd25
  rw [if_neg (by decide),if_neg (by decide),if_neg (by decide)]
  rfl
 have hl7:R25.1.2.1.length=7:=R25_e.2.2.2.2.2.2
 rw [e0,aw_put hX R25_A w1,aw_lnd hX rfl]
 clear e0
 obtain ⟨d1,d2,d3,d4,d5⟩:=D27_e
 have hW:wrtT 7 R25.1.1 0 1 ⟨1,0,1,IntKind.u32.wrap 0,1,u64w (0+1)⟩ (payM 11 64 3) (payM 11 32 (IntKind.u8.wrap (3+1)))=W27:=rfl
 rw [hW]
 have hs:∃ t:SD,t.ro=false∧chS {sR X (u64w (0+1)) R25 W27.1 (chL 0 7 uB R25.1.2.1) with X:=lndX (sR X (u64w (0+1)) R25 W27.1 (chL 0 7 uB R25.1.2.1)) ⟨1,0,1,IntKind.u32.wrap 0,1,u64w (0+1)⟩ (4,1)} 0 (cB 1)=sCL t D27:=by
  refine ⟨{sR X (u64w (0+1)) R25 W27.1 (chL 0 7 uB R25.1.2.1) with X:=lndX (sR X (u64w (0+1)) R25 W27.1 (chL 0 7 uB R25.1.2.1)) ⟨1,0,1,IntKind.u32.wrap 0,1,u64w (0+1)⟩ (4,1)},rfl,?_⟩
  unfold chS D27
  have:(chL 0 7 uB R25.1.2.1).length=7:=by rw [chL_len];exact hl7
  show (_:SD)=_
  dsimp only
  rw [this]
 obtain ⟨t,ht,et⟩:=hs
 rw [et]
 clear et hW w1
 generalize D27=x at d1 d2 d3 d4 d5 ⊢
 refine ⟨rfl,d1,?_⟩
 have hE:=each_q ht d2 7 (Nat.le_refl 7)
 rw [Nat.sub_self] at hE
 have hE:eachF drn1 7 7 (sCL t x)=(sCL t (dqs 7 x),0):=hE
 have h1:drnP 4 (sCL t x)=(sCL t (dqs 7 x),0):=by
  show (if cln x.2=true then _ else if (eachF drn1 x.2.length x.2.length (sCL t x)).2≠0 then eachF drn1 x.2.length x.2.length (sCL t x) else drnP 3 (eachF drn1 x.2.length x.2.length (sCL t x)).1)=_
  rw [d1,if_neg Bool.false_ne_true,d5,hE,if_neg (fun k=>k rfl)]
  dsimp only
  show (if cln (dqs 7 x).2=true then (sCL t (dqs 7 x),drnE (sCL t (dqs 7 x))) else _)=_
  rw [if_pos d3]
  unfold drnE
  show (_,if cln (dqs 7 x).2=true then (if lks (dqs 7 x).2=true then (17:Int) else 0) else 17)=_
  rw [d3,d4]
  rfl
 rw [h1]
 exact ⟨rfl,d3⟩
end Go.Proofs.YtbaojfchlhlaeaaGreat.Vc
namespace Go.Proofs.YtbaojfchlhlaeaaGreat.Vc
open Go Go.Eng
def sanitise_Some_nil.A:Ann:=.no
def sanitise_Some_nil.P (p1:Int) (w:World) (K:Int×Int×Unit→World→Prop):Prop:=
 NewV #[.pointer none] 32 w fun b1 w2=>
 NewV #[.int .i64 p1] 3 w2 fun b3 w4=>
 LoadS w4 ⟨b1,0,none⟩ .ptr fun (x5:Option Addr)=>
 cond x5.isNone
 (K ((0:Int),(2:Int),()) w4)
 (LoadS w4 ⟨b3,0,none⟩ (.int .i64) fun (x6:Int)=>
 cond (decide (x6<0))
 (K ((0:Int),(2:Int),()) w4)
 (NewV #[.int .i64 0] 3 w4 fun b7 w8=>
 StoreV w8 ⟨b7,0,none⟩ [.int .i64 0] fun w9=>
 LoadS w9 ⟨b1,0,none⟩ .ptr fun (x10:Option Addr)=>
 CallV Tryz.prog 84 #[.pointer x10,.func (.func 139) #[] #[.pointer (some ⟨b7,0,none⟩),.pointer (some ⟨b3,0,none⟩),.pointer (some ⟨b1,0,none⟩)]] w9 [.one (.int .i64)] fun (r11:Int×Unit) w12=>
 cond (r11.1 == 0)
 (LoadS w12 ⟨b1,0,none⟩ .ptr fun (x13:Option Addr)=>
 CallV Tryz.prog 88 #[.pointer x13] w12 [.one .bool] fun (r14:Bool×Unit) w15=>
 cond r14.1
 (LoadS w15 ⟨b7,0,none⟩ (.int .i64) fun (x16:Int)=>
 K (x16,(17:Int),()) w15)
 (LoadS w15 ⟨b7,0,none⟩ (.int .i64) fun (x17:Int)=>
 K (x17,r11.1,()) w15))
 (LoadS w12 ⟨b7,0,none⟩ (.int .i64) fun (x18:Int)=>
 K (x18,r11.1,()) w12)))
theorem sanitise_Some_nil.vc (p1:Int) (w:World) (K:Int×Int×Unit→World→Prop) (h:sanitise_Some_nil.P p1 w K):CallV Tryz.prog 74 #[.pointer none,.int .i64 p1] w [.one (.int .i64),.one (.int .i64)] K:=by
 refine vcFun.of (A:=sanitise_Some_nil.A) (wr:=false) okf_ok follows h Tryz.func74 ?_
 kernel_rfl
end Go.Proofs.YtbaojfchlhlaeaaGreat.Vc
namespace Go.Proofs.YtbaojfchlhlaeaaGreat.Vc
open Go Go.Eng Go.RowKit
abbrev fA25:SlP TF.T:=⟨none,0,0,[]⟩
theorem LF_nil25 {w:World} {G:Nat→Prop}:LF.rd w G fA25:=⟨rfl,Nat.le_refl _,by show 0≤maxLen;exact Nat.zero_le _,.inl ⟨rfl,rfl⟩,fun y hy=>(List.not_mem_nil hy).elim⟩
theorem awake27_c {w:World}:CallV Tryz.prog 17 #[] w [.one .bool] fun r w'=>r.1=true∧Ext w w':=by
 apply law27_awake.vc
 unfold law27_awake.P
 have S0:=Sep.start NoB w
 have hR:Right gA25:=by decide
 have hFR:FRight (fds fA25):=⟨fun f hf=>(List.not_mem_nil hf).elim,by decide⟩
 refine S0.newB fun b1 w1 S f1 _=>S.st0 (by rfl) fun w2 S f2=>S.la0 rfl ?_
 refine (made27_c (g:=gA25) (f:=fA25) (z0:=5) (z1:=5) (st:=⟨none,0,0⟩) LF_nil25 hR hFR (by decide) (by decide) (by decide)).mono ?_
 rintro ⟨sv,cv,⟨⟩⟩ w3 ⟨sp,pp,pm,p,q,X,h1,h2,hX,S3⟩
 dsimp only at h1 h2 ⊢
 subst h1;subst h2
 have hX:New0 X 5 5:=hX
 have S:=S.frame0 S3
 clear S3
 have S:Sep NoB w w3 (BoxA b1 23 gA25.vs::stS sp pp pm p q gA25 (s00 gA25 [] X) []):=S.fro [5] rfl
 have hI:SI gA25 7 (s00 gA25 [] X):=s00_I hR (by decide) (fun f hf=>(List.not_mem_nil hf).elim) hX
 refine S.la0 rfl ?_
 refine (put27_c (x:=x027) (sd:=3) hI (by show 0+55051264≤1000000000000;decide) (S.fro [1,1,1,1,1] rfl)).mono ?_
 rintro ⟨(r:Int),⟨⟩⟩ w4 ⟨h4,S⟩
 dsimp only at h4 S ⊢
 subst h4
 obtain ⟨a1,a2,a3,a4⟩:=aw_do27 hX
 have hI2:=hI.do27 x027 3 (by show 0+55051264≤1000000000000;decide)
 have o2:=hI2.o2
 have o3:(nxtS (s00 gA25 [] X) (hd25 x027)).1.C.ops=0:=rfl
 generalize do27 gA25 (s00 gA25 [] X) x027 3=D at S a1 a2 a3 a4 hI2 o2 ⊢
 rw [a1]
 refine cond_t rfl ?_
 refine (Clean27_c hI2.i S).mono ?_
 rintro ⟨(r:Bool),⟨⟩⟩ w5 ⟨h5,x5⟩
 dsimp only at h5 ⊢
 rw [a2] at h5
 subst h5
 have S:=S.stepE x5
 refine cond_t rfl ?_
 have h4:=SI.drnP 4 hI2.i (by show D.1.C.ops+51610080≤_;omega)
 refine (Drain27_c hI2.i (by omega) S).mono ?_
 rintro ⟨(r:Int),⟨⟩⟩ w6 ⟨h6,S⟩
 dsimp only at h6 S ⊢
 rw [a3] at h6
 subst h6
 refine cond_t rfl ?_
 refine (Clean27_c h4.i S).mono ?_
 rintro ⟨(r:Bool),⟨⟩⟩ w7 ⟨h7,x7⟩
 dsimp only at h7 ⊢
 exact ⟨h7.trans a4,(S.stepE x7).ext⟩
def opC27 (i:Nat):Nat:=55051264*i
theorem opC27s (i:Nat):opC27 (i+1)=opC27 i+55051264:=Nat.mul_succ _ _
theorem opC27_le {i:Nat} (h:i≤120):opC27 i≤6606151680:=Nat.mul_le_mul (Nat.le_refl 55051264) h
abbrev TCs27:Ty:=.cons TGeo (.cons LF (.cons (.cons (.int .i64) (.cons (.int .i64) .nil)) (.cons LSt25 .nil)))
end Go.Proofs.YtbaojfchlhlaeaaGreat.Vc
namespace Go.Proofs.YtbaojfchlhlaeaaGreat.Vc
open Go Go.Eng Go.RowKit
def core (h:Hd) (tg:List Int):List Int:=(hdL h++invL (hdL h))++tagL tg
def markL (h:Hd) (tg:List Int):List Int:=core h tg++List.replicate 8 0
theorem core_length (h:Hd) {tg:List Int} (hl:tg.length=0∨tg.length=32):(core h tg).length=80:=by
 unfold core
 rw [List.length_append,List.length_append,invL_length,hdL_length,tagL_length hl]
theorem core_byt {h:Hd} (hR:HRight h) {tg:List Int} (bt:Byt tg):Byt (core h tg):=by
 unfold core
 refine ((hdL_byt hR).append (invL_byt _)).append ?_
 unfold tagL
 split
 ·exact Byt.replicate (by omega) (by omega) _
 ·exact bt
theorem markL_length (h:Hd) {tg:List Int} (hl:tg.length=0∨tg.length=32):(markL h tg).length=88:=by
 unfold markL
 rw [List.length_append,core_length h hl,List.length_replicate]
theorem and255:∀ x:Fin 256,Go.bits .and .u8 ((x.val:Nat):Int) 255=((x.val:Nat):Int):=by decide +kernel
theorem getD_left {xs ys:List Int} {i:Nat} (h:i<xs.length):(xs++ys).getD i 0=xs.getD i 0:=by
 rw [List.getD_eq_getElem?_getD,List.getElem?_append_left h,← List.getD_eq_getElem?_getD]
theorem getD_right {xs ys:List Int} {i:Nat} (h:xs.length≤i):(xs++ys).getD i 0=ys.getD (i-xs.length) 0:=by
 rw [List.getD_eq_getElem?_getD,List.getElem?_append_right h,← List.getD_eq_getElem?_getD]
theorem and_mark {h:Hd} (hR:HRight h) {tg:List Int} (bt:Byt tg) (hl:tg.length=0∨tg.length=32):andL (endL h tg) (List.replicate 80 255++List.replicate 8 0)=markL h tg:=by
 refine List.ext_getElem (by rw [andL_length,endL_length h hl,markL_length h hl]) fun i h1 h2=>?_
 have hc:=core_length h hl
 rw [←getD_get h2]
 rw [markL_length h hl] at h2
 rw [show (andL (endL h tg) (List.replicate 80 255++List.replicate 8 0))[i]=Go.bits .and .u8 ((endL h tg).getD i 0) ((List.replicate 80 255++List.replicate 8 0:List Int).getD i 0) by simp [andL]]
 unfold endL markL
 rw [show ((hdL h++invL (hdL h))++tagL tg)=core h tg from rfl]
 by_cases hi:i<80
 ·rw [getD_left (xs:=core h tg) (by omega),getD_left (xs:=List.replicate 80 255) (by simpa using hi),getD_left (xs:=core h tg) (by omega),getD_get (xs:=List.replicate 80 255) (by simpa using hi),List.getElem_replicate,getD_get (xs:=core h tg) (by omega)]
  obtain ⟨x,hx⟩:=byte_nat ((core_byt hR bt) _ (List.getElem_mem (by omega:i<(core h tg).length)))
  rw [hx]
  exact and255 x
 ·rw [getD_right (xs:=core h tg) (by omega),getD_right (xs:=List.replicate 80 255) (by simp;omega),getD_right (xs:=core h tg) (by omega),hc,List.length_replicate,
   getD_get (xs:=List.replicate 8 (255:Int)) (by simp;omega),List.getElem_replicate,getD_get (xs:=List.replicate 8 (0:Int)) (by simp;omega),List.getElem_replicate]
  decide +kernel
end Go.Proofs.YtbaojfchlhlaeaaGreat.Vc
namespace Go.Proofs.YtbaojfchlhlaeaaGreat.Vc
open Go Go.Eng Go.RowKit
theorem payL_length {g:Geo} {xs:List Int} (hs:32≤g.s∧g.s≤4096) (h:xs.length=0∨(xs.length:Int)=g.s):(payL g xs).length=g.s.toNat:=by
 unfold payL
 split
 ·rw [List.length_replicate]
 ·omega
theorem and_full {x:Int} (h:0≤x∧x<256):Go.bits .and .u8 x 255=x:=by
 obtain ⟨y,rfl⟩:=byte_nat h
 exact and255 y
theorem andL_append {xs ys zs us:List Int} (h:xs.length=zs.length):andL (xs++ys) (zs++us)=andL xs zs++andL ys us:=by
 refine List.ext_getElem (by simp [andL]) fun i h1 h2=>?_
 simp only [andL,List.getElem_map,List.getElem_range,List.getElem_append,List.length_map,List.length_range]
 split
 ·rename_i hi
  rw [getD_left hi,getD_left (by omega)]
 ·rename_i hi
  rw [getD_right (by omega),getD_right (by omega),h]
theorem andL_ones {xs:List Int} (bx:Byt xs) {n:Nat} (h:xs.length=n):andL xs (List.replicate n 255)=xs:=by
 refine List.ext_getElem (by simp [andL]) fun i h1 h2=>?_
 simp only [andL,List.getElem_map,List.getElem_range]
 rw [getD_get (xs:=List.replicate n 255) (by simp;omega),List.getElem_replicate,and_full (bx.getD i),getD_get h2]
theorem and_mk {g:Geo} {h:Hd} {xs ts:List Int} (hs:32≤g.s∧g.s≤4096) (hx:xs.length=0∨(xs.length:Int)=g.s) (hR:HRight h) (bx:Byt xs) (bt:Byt ts) (ht:ts.length=0∨ts.length=32):andL (mkL g h xs ts) (comL g)=payL g xs++markL h ts:=by
 unfold mkL comL
 rw [show (g.s+80).toNat=g.s.toNat+80 by omega,← List.replicate_append_replicate,List.append_assoc,andL_append (by rw [payL_length hs hx,List.length_replicate]),and_mark hR bt ht,andL_ones _ (payL_length hs hx)]
 unfold payL
 split
 ·exact Byt.replicate (by omega) (by omega) _
 ·exact bx
end Go.Proofs.YtbaojfchlhlaeaaGreat.Vc
namespace Go.Proofs.YtbaojfchlhlaeaaGreat.Vc
open Go Go.Eng Go.RowKit
theorem ref_in {C:CD} {bl pa:Int} {n:Nat} (h:refC C bl pa n=0):inC C bl pa∧n=szP C.g∧usC C bl pa≤1:=by
 unfold refC at h
 split at h
 ·cases h
 split at h
 ·cases h
 rename_i h2
 have h2:=Classical.not_not.1 h2
 split at h
 ·cases h
 rename_i h3
 exact ⟨h2.1,h2.2,by omega⟩
end Go.Proofs.YtbaojfchlhlaeaaGreat.Vc
namespace Go.Proofs.YtbaojfchlhlaeaaGreat.Vc
open Go Go.Eng Go.RowKit
theorem cl_of {xs ys:List Int} (bx:Byt xs) (by':Byt ys) (hl:ys.length=xs.length) (h:∀ i,i<8*xs.length→hasL ys i=true→hasL xs i=true):andL xs ys=ys:=by
 refine bits_ext (andL_byt _ _) by' (by rw [andL_length,hl]) fun i hi=>?_
 rw [andL_length] at hi
 rw [hasL_and bx by' hi]
 cases hy:hasL ys i
 ·exact Bool.and_false _
 ·rw [h i hi hy];rfl
end Go.Proofs.YtbaojfchlhlaeaaGreat.Vc
namespace Go.Proofs.YtbaojfchlhlaeaaGreat.Vc
open Go Go.Eng Go.RowKit
theorem blk_set {C C':CD} {n:Int} {x:BD} (hC:COk C) (hn:0≤n∧n<C.g.b) (hb:C'.bs=C.bs.set n.toNat x):blkC C' n=x:=by
 unfold blkC
 rw [hb,List.getD_eq_getElem?_getD,List.getElem?_set_self (by rw [hC.bl];omega)]
 rfl
theorem blk_oth {C C':CD} {n m:Int} {x:BD} (hb:C'.bs=C.bs.set n.toNat x) (hne:m.toNat≠n.toNat):blkC C' m=blkC C m:=by
 unfold blkC
 rw [hb,List.getD_eq_getElem?_getD,List.getD_eq_getElem?_getD,List.getElem?_set_ne (fun h=>hne h.symm)]
theorem era_zero {C:CD} (hC:COk C) {n:Int} (hn:0≤n∧n<C.g.b) (h:(eraC C n).2=0):blkC (eraC C n).1 n={blankB C.g with er:=(blkC C n).er+1}:=by
 unfold eraC at h ⊢
 by_cases hm:mayC C n=0
 ·rw [if_pos hm] at h ⊢
  have h:(codeC C).1=0:=h
  refine blk_set hC hn (x:={blankB C.g with er:=(blkC C n).er+1}) ?_
  show C.bs.set n.toNat (if (codeC C).1=0 then _ else _)=_
  rw [if_pos h]
 ·rw [if_neg hm] at h
  exact absurd h hm
theorem scr_zero {C:CD} (hC:COk C) {n:Int} (hn:0≤n∧n<C.g.b) (h:(scrC C n).2=0):allC (scrC C n).1 n=List.replicate (bszC C) 0:=by
 unfold scrC at h ⊢
 by_cases hm:mayC C n=0
 ·rw [if_pos hm] at h ⊢
  have h:(codeC C).1=0:=h
  obtain ⟨-,⟨n3,n4⟩,-,n7,n8⟩:=hC.num
  have hall:=(hC.blk hn).2.all
  have hb:(scrX C n).bs=C.bs.set n.toNat {blkC C n with sc:=true,pg:=cutL (if (codeC C).1=0 then List.replicate (blkC C n).pg.flatten.length 0 else progL (blkC C n).pg.flatten (List.replicate (blkC C n).pg.flatten.length 0) (codeC C).2.1 false) C.g.p.toNat}:=rfl
  have h2:=blk_set hC hn hb
  show (blkC (scrX C n) n).pg.flatten=_
  rw [h2,if_pos h]
  dsimp only
  rw [(cutL_flat (z:=szP C.g) (by omega) (by rw [List.length_replicate];exact hall.1)).1,hall.1]
 ·rw [if_neg hm] at h
  exact absurd h hm
def BIn (C:CD):Prop:=∀ x∈C.bs,x.sc=false→∀ (i:Nat) (q:List Int),x.la<(i:Int)→x.pg[i]? = some q→q=List.replicate (szP C.g) 255
theorem BIn.upd {C C':CD} {n:Int} {x:BD} (h:BIn C) (hg:C'.g=C.g) (hb:C'.bs=C.bs.set n.toNat x) (hx:x.sc=false→∀ (i:Nat) (q:List Int),x.la<(i:Int)→x.pg[i]? = some q→q=List.replicate (szP C.g) 255):BIn C':=fun y hy=>by
 rw [hb] at hy
 rw [hg]
 rcases List.mem_or_eq_of_mem_set hy with k | k
 ·exact h y k
 ·rw [k];exact hx
theorem BIn.new (g:Geo) (pl:List FD):BIn (newC g pl):=fun x hx _ i q _ hq=>by
 rw [(List.mem_replicate.1 hx).2] at hq
 exact (List.mem_replicate.1 (List.mem_of_getElem? hq)).2
theorem BIn.off {C:CD} (h:BIn C) (b:Bool):BIn {C with off:=b}:=h
theorem BIn.prog {C:CD} (hC:COk C) (h:BIn C) (bl pa:Int) (xs:List Int):BIn (progC C bl pa xs).1:=by
 unfold progC
 split
 case isFalse=>exact h
 rename_i hr
 obtain ⟨hi,-,-⟩:=ref_in hr
 obtain ⟨hbk,-⟩:=hC.blk hi.1
 refine h.upd (C':=progX C bl pa xs) (n:=bl) rfl rfl fun hs i q hla hq=>?_
 have hla:max (blkC C bl).la pa<(i:Int):=hla
 have hne:pa.toNat≠i:=by have:=hi.2.1;omega
 have hq:((blkC C bl).pg.set pa.toNat _)[i]? = some q:=hq
 rw [List.getElem?_set_ne hne] at hq
 exact h _ (List.mem_of_getElem? hbk) hs i q (by omega) hq
theorem BIn.scr {C:CD} (h:BIn C) (n:Int):BIn (scrC C n).1:=by
 unfold scrC
 split
 ·exact h.upd (C':=scrX C n) (n:=n) rfl rfl fun hs=>by cases hs
 ·exact h
theorem turn_at {xs:List Int} {f:Nat→Bool} {k:Nat} (hf:∀ i,i / 8=k→f i=false):∀ m,(turn xs f m)[k]? = xs[k]?
 | 0=>rfl
 | m+1=>by
  unfold turn
  split
  ·rename_i hm
   unfold flip1
   rw [List.getElem?_set_ne (fun e=>by rw [hf m e] at hm;cases hm)]
   exact turn_at hf m
  ·exact turn_at hf m
theorem bit255:∀ j:Fin 8,bitB 255 j.val=true:=by decide
theorem era_at {xs ms:List Int} {k:Nat} (h:xs[k]? = some 255):(eraL xs ms)[k]? = some 255:=by
 unfold eraL
 rw [turn_at (fun i hi=>?_)]
 ·exact h
 ·unfold erF hasL
  subst hi
  rw [List.getD_eq_getElem?_getD,h]
  show (!bitB 255 (i % 8) && _)=false
  rw [bit255 ⟨i % 8,Nat.mod_lt _ (by decide)⟩]
  rfl
theorem BIn.era {C:CD} (hC:COk C) (h:BIn C) (n:Int):BIn (eraC C n).1:=by
 unfold eraC
 split
 case isFalse=>exact h
 rename_i hm
 obtain ⟨-,hn⟩:=may_zero hm
 obtain ⟨hbk,hbo⟩:=hC.blk hn
 obtain ⟨-,⟨n3,n4⟩,-,n7,n8⟩:=hC.num
 by_cases hc:(codeC C).1=0
 ·refine h.upd (C':=eraX C n) (n:=n) (x:={blankB C.g with er:=(blkC C n).er+1}) rfl (by show C.bs.set n.toNat (if (codeC C).1=0 then _ else _)=_;rw [if_pos hc]) fun _ i q _ hq=>?_
  exact (List.mem_replicate.1 (List.mem_of_getElem? hq)).2
 ·refine h.upd (C':=eraX C n) (n:=n) (x:={blkC C n with pg:=cutL (eraL (blkC C n).pg.flatten (codeC C).2.1) C.g.p.toNat,er:=(blkC C n).er+1}) rfl (by show C.bs.set n.toNat (if (codeC C).1=0 then _ else _)=_;rw [if_neg hc]) fun hs i q hla hq=>?_
  have hla:(blkC C n).la<(i:Int):=hla
  have hq:(cutL (eraL (blkC C n).pg.flatten (codeC C).2.1) C.g.p.toNat)[i]? = some q:=hq
  have hlen:(eraL (blkC C n).pg.flatten (codeC C).2.1).length=C.g.p.toNat*szP C.g:=by unfold eraL;rw [turn_len];exact hbo.all.1
  have hz:C.g.p.toNat*szP C.g / C.g.p.toNat=szP C.g:=Nat.mul_div_cancel_left _ (by omega)
  have hip:i<C.g.p.toNat:=by
   have:=(List.getElem?_eq_some_iff.1 hq).1
   rwa [(cutL_flat (z:=szP C.g) (by omega) hlen).2.1] at this
  have hpi:i<(blkC C n).pg.length:=by rw [hbo.pl];exact hip
  have hold:=h _ (List.mem_of_getElem? hbk) hs i _ hla (List.getElem?_eq_getElem hpi)
  have hql:=(cutL_flat (z:=szP C.g) (by omega) hlen).2.2 q (List.mem_of_getElem? hq)
  have hqe:q=((eraL (blkC C n).pg.flatten (codeC C).2.1).drop (i*szP C.g)).take (szP C.g):=by
   unfold cutL at hq
   rw [List.getElem?_map,List.getElem?_range hip,hlen,hz] at hq
   exact (Option.some.inj hq).symm
  refine List.ext_getElem? fun j=>?_
  by_cases hj:j<szP C.g
  ·rw [hqe,List.getElem?_take_of_lt hj,List.getElem?_drop,List.getElem?_replicate,if_pos hj]
   refine era_at ?_
   have hf:=fl_get (f:=id) (m:=szP C.g) (l:=(blkC C n).pg) (fun x hx=>(hbo.pb x hx).1) (List.getElem?_eq_getElem hpi) hj
   rw [List.flatMap_id] at hf
   rw [hf,hold]
   show (List.replicate (szP C.g) (255:Int))[j]? = _
   rw [List.getElem?_replicate,if_pos hj]
  ·rw [List.getElem?_eq_none (by omega),List.getElem?_eq_none (by rw [List.length_replicate];omega)]
theorem BIn.fst {C:CD} (hC:COk C) (ho:C.ops+2≤1000000000000) (h:BIn C) (b:Int) {hd:Hd} (hr:hd.rng) (hR:HRight hd) (sl:Bool):BIn (fstP C b hd sl).1:=by
 obtain ⟨o1,-,-⟩:=progC_ok hC (4+b) 0 (mkL_byt (g:=C.g) hr hR Byt.nil Byt.nil) (by omega)
 have h1:=h.prog hC (4+b) 0 (mkL C.g hd [] [])
 unfold fstP
 split
 ·exact h1.prog o1 _ _ _
 ·exact h1
end Go.Proofs.YtbaojfchlhlaeaaGreat.Vc
namespace Go.Proofs.YtbaojfchlhlaeaaGreat.Vc
open Go Go.Eng Go.RowKit
def NF (C:CD):Prop:=C.off=false∧∀ f∈C.pl,f.2.1=false
theorem code_nc {C:CD} (h:NF C):((codeC C).1=0∨(codeC C).1=5)∧(codeC C).2.2=false:=by
 unfold codeC
 split
 ·exact ⟨.inl rfl,rfl⟩
 ·rename_i f hf
  have:f.2.1=false:=h.2 f (List.mem_of_find?_eq_some hf)
  rw [this]
  exact ⟨.inr rfl,rfl⟩
structure BkI (x:Blk) (y:BD):Prop where
 cl:x.cl=true→x.he=false∧y.sc=false∧y.la=-1∧∀ j:Nat,y.us.getD j 0=0
 he:x.he=true→x.ba=false→x.cl=false∧y.sc=false∧y.la≤x.us∧∀ j:Nat,x.us<(j:Int)→y.us.getD j 0=0
 go:x.go=true→x.ba=true∧x.he=false∧∀ q∈y.pg,∀ v∈q,v=0
 le:x.le=true→x.ba=true
theorem BkI.r {x:Blk} {y:BD} (h:BkI x y):BkI (rB x) y:=⟨fun k=>⟨rfl,(h.cl k).2⟩,fun k=>(by cases k),fun k=>⟨(h.go k).1,rfl,(h.go k).2.2⟩,h.le⟩
theorem BkI.f {x:Blk} {y:BD} (h:BkI x y):BkI (fB x) y:=⟨h.cl,fun _ k=>(by cases k),fun k=>⟨rfl,(h.go k).2⟩,fun _=>rfl⟩
theorem BkI.c {x:Blk} {y:BD} (h:BkI x y) (m:Int):BkI (cB m x) y:=⟨h.cl,h.he,h.go,h.le⟩
structure CI (n:Nat) (u:Int) (C:CD) (L:List Blk):Prop where
 nf:NF C
 bi:BIn C
 bk:∀ i,i<n→(i:Int)≠u→BkI (gx L i) (blkC C (4+(i:Int)))
section
variable {g:Geo} {n:Nat} {u b:Int} {C:CD} {L:List Blk} {O:List Hd}
theorem CI.ch (h:CI n u C L) (hl:L.length=n) (b:Int) {φ:Blk→Blk} (k:∀ x y,BkI x y→BkI (φ x) y):CI n u C (chL b n φ L):=⟨h.nf,h.bi,fun i hi hu=>by
 rw [gx_ch hl]
 split
 ·exact k _ _ (h.bk i hi hu)
 ·exact h.bk i hi hu⟩
theorem prog_nc (hC:COk C) (h:NF C) {bl pa:Int} {xs:List Int} (hi:inC C bl pa) (hx:xs.length=szP C.g) (hs:(blkC C bl).sc=false) (hu:usC C bl pa<2) (hl:usC C bl pa=0→(blkC C bl).la<pa) :
  (progC C bl pa xs).1=progX C bl pa xs∧(progC C bl pa xs).2=(codeC C).1∧((progC C bl pa xs).2=0∨(progC C bl pa xs).2=5)∧NF (progC C bl pa xs).1:=by
 have hr:refC C bl pa xs.length=0:=by
  unfold refC
  rw [h.1,if_neg Bool.false_ne_true,if_neg (fun k=>k ⟨hi,hx⟩),if_neg,if_neg]
  ·rintro ⟨h0,h1⟩
   have:=hl h0
   omega
  ·rintro (k | k)
   ·rw [hs] at k;cases k
   ·omega
 have e:progC C bl pa xs=(progX C bl pa xs,(codeC C).1):=if_pos hr
 rw [e]
 exact ⟨rfl,rfl,(code_nc h).1,(code_nc h).2,h.2⟩
theorem prog_oth (C:CD) (bl pa:Int) (xs:List Int) {m:Int} (hm:m.toNat≠bl.toNat):blkC (progC C bl pa xs).1 m=blkC C m:=by
 unfold progC
 split
 ·exact blk_oth (C':=progX C bl pa xs) rfl hm
 ·rfl
theorem era_NF (h:NF C) (n:Int):NF (eraC C n).1:=by
 unfold eraC
 split
 ·exact ⟨(code_nc h).2,h.2⟩
 ·exact h
theorem scr_NF (h:NF C) (n:Int):NF (scrC C n).1:=by
 unfold scrC
 split
 ·exact ⟨(code_nc h).2,h.2⟩
 ·exact h
theorem era_oth (C:CD) (bl:Int) {m:Int} (hm:m.toNat≠bl.toNat):blkC (eraC C bl).1 m=blkC C m:=by
 unfold eraC
 split
 ·exact blk_oth (C':=eraX C bl) rfl hm
 ·rfl
theorem scr_oth (C:CD) (bl:Int) {m:Int} (hm:m.toNat≠bl.toNat):blkC (scrC C bl).1 m=blkC C m:=by
 unfold scrC
 split
 ·exact blk_oth (C':=scrX C bl) rfl hm
 ·rfl
theorem may_nc (h:NF C) {m:Int} (hm:0≤m∧m<C.g.b):mayC C m=0:=by
 unfold mayC
 rw [h.1,if_neg Bool.false_ne_true,if_neg (fun k=>k hm)]
theorem CI.dst (h:CI n u C L) (hp:PI g n C L O) (ho:C.ops+2≤1000000000000) (hb:0≤b∧b<(n:Int)) (hu:u=-1∨u=b) (hh:(gx L b.toNat).he=false) :
  CI n (-1) (dstP C L b).1 (dstP C L b).2.1∧((dstP C L b).2.2=0∨(dstP C L b).2.2=5∨(dstP C L b).2.2=17)∧((dstP C L b).2.2=0→(dstP C L b).2.1=chL b n eB L) ∧
  ((dstP C L b).2.2≠0→∃ m,(dstP C L b).2.1=chL b n (sB m) (chL b n fB L)):=by
 have hnn:=hp.nn
 have hgg:=hp.gg
 have hll:=hp.ll
 have hin:0≤4+b∧4+b<C.g.b:=by rw [hgg];omega
 have hm:=may_nc h.nf hin
 have hc:=(code_nc h.nf).1
 obtain ⟨o1,-,-⟩:=eraC_ok hp.ok (4+b) (by omega)
 have he:eraC C (4+b)=(eraX C (4+b),(codeC C).1):=if_pos hm
 have n1:=era_NF h.nf (4+b)
 have bi1:=h.bi.era hp.ok (4+b)
 have k1:=(eraC_k C (4+b)).1
 have oth1:∀ i,i<n→(i:Int)≠b→blkC (eraC C (4+b)).1 (4+(i:Int))=blkC C (4+(i:Int)):=fun i hi hne=>era_oth C _ (by omega)
 have old:∀ i,i<n→(i:Int)≠b→BkI (gx L i) (blkC C (4+(i:Int))):=fun i hi hne=>h.bk i hi (by omega)
 unfold dstP
 by_cases h5:(eraC C (4+b)).2=5
 ·rw [if_pos h5]
  have hin1:0≤4+b∧4+b<(eraC C (4+b)).1.g.b:=by rw [k1];exact hin
  have hm1:=may_nc n1 hin1
  have hc1:=(code_nc n1).1
  have es:scrC (eraC C (4+b)).1 (4+b)=(scrX (eraC C (4+b)).1 (4+b),(codeC (eraC C (4+b)).1).1):=if_pos hm1
  have n2:=scr_NF n1 (4+b)
  have bi2:=bi1.scr (4+b)
  rw [if_neg (by rw [es];show ¬ (codeC _).1=4;omega)]
  dsimp only
  rw [hll]
  refine ⟨⟨n2,bi2,fun i hi _=>?_⟩,?_,?_,fun _=>⟨_,rfl⟩⟩
  ·rw [gx_ch (by rw [chL_len];exact hll),gx_ch hll]
   by_cases e:(i:Int)=b
   ·rw [if_pos ⟨hb,by omega⟩,if_pos ⟨hb,by omega⟩]
    refine ⟨fun k=>(by cases k),fun k=>(by cases k),fun k=>⟨rfl,rfl,?_⟩,fun _=>rfl⟩
    have k:((scrC (eraC C (4+b)).1 (4+b)).2 == 0)=true:=k
    have k0:(scrC (eraC C (4+b)).1 (4+b)).2=0:=by simpa using k
    have hz:=scr_zero o1 hin1 k0
    intro q hq v hv
    have:v∈allC (scrC (eraC C (4+b)).1 (4+b)).1 (4+b):=by
     rw [show 4+b=4+(i:Int) by omega] at *
     exact List.mem_flatten.2 ⟨q,hq,hv⟩
    rw [hz] at this
    exact (List.mem_replicate.1 this).2
   ·rw [if_neg (by omega),if_neg (by omega),scr_oth _ _ (by omega),oth1 i hi e]
    exact old i hi e
  ·split <;> omega
  ·intro k
   split at k <;> omega
 ·rw [if_neg h5]
  dsimp only
  have h0:(eraC C (4+b)).2=0:=by rw [he] at h5⊢;exact hc.resolve_right h5
  rw [if_pos h0,hll]
  refine ⟨⟨n1,bi1,fun i hi _=>?_⟩,.inl h0,fun _=>rfl,fun k=>absurd h0 k⟩
  rw [gx_ch hll]
  by_cases e:(i:Int)=b
  ·rw [if_pos ⟨hb,by omega⟩,show 4+(i:Int)=4+b by omega,era_zero hp.ok hin h0]
   refine ⟨fun _=>⟨rfl,rfl,rfl,fun j=>?_⟩,fun k=>(by cases k),fun k=>(by cases k),fun k=>(by cases k)⟩
   show (List.replicate C.g.p.toNat (0:Int)).getD j 0=0
   rw [List.getD_eq_getElem?_getD,List.getElem?_replicate]
   split <;> rfl
  ·rw [if_neg (by omega),oth1 i hi e]
   exact old i hi e
end
end Go.Proofs.YtbaojfchlhlaeaaGreat.Vc
namespace Go.Proofs.YtbaojfchlhlaeaaGreat.Vc
open Go Go.Eng Go.RowKit
section
variable {g:Geo} {n:Nat} {u b:Int} {C:CD} {L:List Blk} {O:List Hd}
theorem ul_set (l:List Int) (i j:Nat) (x:Int) (hj:j<l.length):(l.set j x).getD i 0=if i=j then x else l.getD i 0:=by
 rw [List.getD_eq_getElem?_getD,List.getElem?_set]
 by_cases e:i=j
 ·subst e
  rw [if_pos rfl,if_pos hj,if_pos rfl]
  rfl
 ·rw [if_neg (fun k=>e k.symm),if_neg e,List.getD_eq_getElem?_getD]
theorem pgl_set (l:List (List Int)) (i j:Nat) (x:List Int) (hj:j<l.length):(l.set j x).getD i []=if i=j then x else l.getD i []:=by
 rw [List.getD_eq_getElem?_getD,List.getElem?_set]
 by_cases e:i=j
 ·subst e
  rw [if_pos rfl,if_pos hj,if_pos rfl]
  rfl
 ·rw [if_neg (fun k=>e k.symm),if_neg e,List.getD_eq_getElem?_getD]
theorem progX_v (hC:COk C) {bl pa:Int} (hi:inC C bl pa) (xs:List Int) :
  (blkC (progX C bl pa xs) bl).sc=(blkC C bl).sc∧(blkC (progX C bl pa xs) bl).la=max (blkC C bl).la pa∧(∀ j:Nat,(blkC (progX C bl pa xs) bl).us.getD j 0=if j=pa.toNat then usC C bl pa+1 else (blkC C bl).us.getD j 0) ∧
  (∀ j:Nat,(blkC (progX C bl pa xs) bl).pg.getD j []=if j=pa.toNat then (if (codeC C).1=0 then andL (pgC13 C bl pa) xs else progL (pgC13 C bl pa) xs (codeC C).2.1 (!(codeC C).2.2)) else (blkC C bl).pg.getD j []):=by
 have hb:=blk_set (C':=progX C bl pa xs) hC hi.1 rfl
 obtain ⟨-,hbo⟩:=hC.blk hi.1
 have h2:=hi.2
 rw [hb]
 refine ⟨rfl,rfl,fun j=>ul_set _ _ _ _ (by rw [hbo.ul];omega),fun j=>pgl_set _ _ _ _ (by rw [hbo.pl];omega)⟩
theorem fst_nc (hp:PI g n C L O) (h:NF C) (ho:C.ops+2≤1000000000000) (hb:0≤b∧b<(n:Int)) {hd:Hd} (hr:hd.rng) (hR:HRight hd) (sl:Bool) (h1:(blkC C (4+b)).sc=false) (h2:(blkC C (4+b)).la=-1) (h3:∀ j:Nat,(blkC C (4+b)).us.getD j 0=0) :
  ((fstP C b hd sl).2=0∨(fstP C b hd sl).2=5)∧NF (fstP C b hd sl).1∧(∀ m:Int,m.toNat≠(4+b).toNat→blkC (fstP C b hd sl).1 m=blkC C m) ∧
  ((fstP C b hd sl).2=0→(blkC (fstP C b hd sl).1 (4+b)).sc=false∧(blkC (fstP C b hd sl).1 (4+b)).la=0∧∀ j:Nat,(blkC (fstP C b hd sl).1 (4+b)).us.getD j 0=if j=0 then (if sl=true then 2 else 1) else 0):=by
 have hnn:=hp.nn
 have hgg:=hp.gg
 have hnum:=hp.ok.num
 have hin:inC C (4+b) 0:=⟨by rw [hgg];omega,by omega⟩
 have bm:Byt (mkL C.g hd [] []):=mkL_byt hr hR Byt.nil Byt.nil
 have hlm:(mkL C.g hd [] []).length=szP C.g:=by have:=mkL_len13 C.g hd;omega
 have hu0:usC C (4+b) 0=0:=h3 0
 obtain ⟨a1,a2,a3,a4⟩:=prog_nc (xs:=mkL C.g hd [] []) hp.ok h hin hlm h1 (by omega) (fun _=>by omega)
 obtain ⟨o1,-,-⟩:=progC_ok hp.ok (4+b) 0 bm (by omega)
 obtain ⟨v1,v2,v3,-⟩:=progX_v hp.ok hin (mkL C.g hd [] [])
 have oth:=fun m hm=>prog_oth C (4+b) 0 (mkL C.g hd [] []) (m:=m) hm
 rw [←a1] at v1 v2 v3
 have kg:=(progC_k C (4+b) 0 (mkL C.g hd [] [])).1
 unfold fstP
 by_cases hc:(progC C (4+b) 0 (mkL C.g hd [] [])).2=0∧sl=true
 ·rw [if_pos hc]
  unfold selP
  generalize (progC C (4+b) 0 (mkL C.g hd [] [])).1=D at a1 a4 o1 v1 v2 v3 oth kg ⊢
  have hin2:inC D (4+b) 0:=by unfold inC;rw [kg];exact hin
  have hl2:(comL D.g).length=szP D.g:=by rw [comL_len,kg];omega
  have hu1:usC D (4+b) 0=1:=by
   have:=v3 0
   rw [if_pos (by rfl),hu0] at this
   exact this
  obtain ⟨b1,b2,b3,b4⟩:=prog_nc (xs:=comL D.g) o1 a4 hin2 hl2 (v1.trans h1) (by omega) (fun k=>by omega)
  obtain ⟨w1,w2,w3,-⟩:=progX_v o1 hin2 (comL D.g)
  rw [←b1] at w1 w2 w3
  refine ⟨b3,b4,fun m hm=>(prog_oth D (4+b) 0 (comL D.g) hm).trans (oth m hm),fun _=>⟨w1.trans (v1.trans h1),by rw [w2,v2,h2];decide,fun j=>?_⟩⟩
  rw [w3,v3]
  by_cases e:j=0
  ·rw [if_pos (by rw [e];rfl),if_pos e,hu1,if_pos hc.2];rfl
  ·rw [if_neg (by intro k;exact e k),if_neg (by intro k;exact e k),if_neg e];exact h3 j
 ·rw [if_neg hc]
  refine ⟨a3,a4,oth,fun h0=>⟨v1.trans h1,by rw [v2,h2];decide,fun j=>?_⟩⟩
  have hs:¬ sl=true:=fun k=>hc ⟨h0,k⟩
  rw [v3]
  by_cases e:j=0
  ·rw [if_pos (by rw [e];rfl),if_pos e,hu0,if_neg hs];rfl
  ·rw [if_neg (by intro k;exact e k),if_neg e];exact h3 j
structure Bgn (C:CD) (b:Int) (sl:Bool):Prop where
 sc:(blkC C (4+b)).sc=false
 la:(blkC C (4+b)).la=0
 us:∀ j:Nat,(blkC C (4+b)).us.getD j 0=if j=0 then (if sl=true then 2 else 1) else 0
theorem beg_nc {ns:Int} {o:Hd} (h:CI n (-1) C L) (hp:PI g n C L O) (ho:C.ops+2≤1000000000000) (hb:0≤b∧b<(n:Int)) (hn:0≤ns∧ns<4) (hr:o.rng) (sl:Bool) (hcl:(gx L b.toNat).cl=true) (hba:(gx L b.toNat).ba=false) :
  ((begP C L O b ns o sl).2.2.2=0∧CI n (-1) (begP C L O b ns o sl).1 (begP C L O b ns o sl).2.1∧(begP C L O b ns o sl).2.1=chL b n (hB ns) L∧Bgn (begP C L O b ns o sl).1 b sl) ∨
  ((begP C L O b ns o sl).2.2.2=5∧CI n b (begP C L O b ns o sl).1 L∧(begP C L O b ns o sl).2.1=L):=by
 have hbi:b.toNat<n:=by omega
 have eb:4+((b.toNat:Nat):Int)=4+b:=by omega
 have hK:=h.bk b.toNat hbi (by omega)
 rw [eb] at hK
 obtain ⟨-,k1,k2,k3⟩:=hK.cl hcl
 obtain ⟨f1,f2,f3,f4⟩:=fst_nc hp h.nf ho hb (begH_rng L b hn hr) (begH_right L b (o:=o) hn) sl k1 k2 k3
 have bi:=h.bi.fst hp.ok ho b (begH_rng L b hn hr) (begH_right L b (o:=o) hn) sl
 have hll:=hp.ll
 unfold begP
 rcases f1 with h0 | h5
 ·rw [if_pos h0]
  obtain ⟨q1,q2,q3⟩:=f4 h0
  refine .inl ⟨rfl,⟨f2,bi,fun i hi _=>?_⟩,by rw [hll],⟨q1,q2,q3⟩⟩
  dsimp only
  rw [hll,gx_ch hll]
  by_cases e:(i:Int)=b
  ·rw [if_pos ⟨hb,by omega⟩,show 4+(i:Int)=4+b by omega]
   refine ⟨fun k=>(by cases k),fun _ _=>⟨rfl,q1,by show _≤(0:Int);omega,fun j hj=>?_⟩,fun k=>?_,fun k=>by rw [show i=b.toNat by omega] at k⊢;exact hK.le k⟩
   ·have hj:(0:Int)<(j:Int):=hj
    rw [q3,if_neg (by omega)]
   ·have k:(gx L i).go=true:=k
    rw [show i=b.toNat by omega] at k
    have:=(hK.go k).1
    rw [hba] at this
    cases this
  ·rw [if_neg (by omega),f3 _ (by omega)]
   exact h.bk i hi (by omega)
 ·rw [if_neg (by omega)]
  refine .inr ⟨h5,⟨f2,bi,fun i hi hne=>?_⟩,rfl⟩
  dsimp only
  rw [f3 _ (by omega)]
  exact h.bk i hi (by omega)
structure Gro (n:Nat) (b:Int) (L L':List Blk):Prop where
 ba:∀ i,i<n→(gx L i).ba=true→(gx L' i).ba=true
 he:∀ i,i<n→(i:Int)≠b→(gx L' i).he=true→(gx L i).he=true
theorem Gro.refl (b:Int) (L:List Blk):Gro n b L L:=⟨fun _ _ h=>h,fun _ _ _ h=>h⟩
theorem Gro.trans {L1 L2:List Blk} (h:Gro n (-1) L L1) (k:Gro n b L1 L2):Gro n b L L2:=⟨fun i hi a=>k.ba i hi (h.ba i hi a),fun i hi hne a=>h.he i hi (by omega) (k.he i hi hne a)⟩
theorem Gro.ch (hl:L.length=n) (b:Int) {φ:Blk→Blk} (h1:∀ x,x.ba=true→(φ x).ba=true) (h2:∀ x,(φ x).he=true→x.he=true):Gro n (-1) L (chL b n φ L):=⟨fun i hi a=>by
 rw [gx_ch hl];split
 ·exact h1 _ a
 ·exact a,fun i hi _ a=>by
 rw [gx_ch hl] at a;split at a
 ·exact h2 _ a
 ·exact a⟩
end
end Go.Proofs.YtbaojfchlhlaeaaGreat.Vc
namespace Go.Proofs.YtbaojfchlhlaeaaGreat.Vc
open Go Go.Eng Go.RowKit
section
variable {g:Geo} {n:Nat} {u b:Int} {C:CD} {L:List Blk} {O:List Hd}
structure OpN (n:Nat) (sl:Bool) (L:List Blk) (R:(CD×List Blk×List Hd)×Int×Int):Prop where
 ci:CI n (-1) R.1.1 R.1.2.1
 e:R.2.2=0∨R.2.2=19
 no:R.2.2≠0→R.2.1=0∧Gro n (-1) L R.1.2.1
 ok:R.2.2=0→Gro n R.2.1 L R.1.2.1∧Bgn R.1.1 R.2.1 sl
theorem opn_nc {ns:Int} {o:Hd} (hn:0≤ns∧ns<4) (hr:o.rng) (sl:Bool):∀ (k:Nat) {C:CD} {L:List Blk} {O:List Hd},PI g n C L O→CI n (-1) C L→C.ops+6*k≤1000000000000→OpN n sl L (opnP ns o sl k C L O)
 | 0,C,L,O,hp,h,ho=>⟨h,.inr rfl,fun _=>⟨rfl,.refl _ _⟩,fun k=>(by cases k)⟩
 | k+1,C,L,O,hp,h,ho=>by
  have hll:=hp.ll
  unfold opnP
  by_cases hlt:pickT L L.length<0
  ·rw [if_pos hlt]
   exact ⟨h,.inr rfl,fun _=>⟨rfl,.refl _ _⟩,fun k=>(by cases k)⟩
  rw [if_neg hlt]
  obtain ⟨hf,hfb⟩:=pick_free (L:=L) (by omega)
  have hbd:0≤pickT L L.length∧pickT L L.length<(n:Int):=⟨by omega,by have:=(bestT_bd (L:=L) (m:=fun _ x=>freeB x) (ah:=fun x y=>decide (x.er<y.er)) L.length).2;rw [←hll];exact this⟩
  generalize pickT L L.length=b at hlt hf hfb hbd ⊢
  rw [hll]
  have eb:4+((b.toNat:Nat):Int)=4+b:=by omega
  have hX:∃ C1 L1 e1,(if (gx L b.toNat).cl=true then (C,L,(0:Int)) else dstP C L b)=(C1,L1,e1)∧PI g n C1 L1 O∧CI n (-1) C1 L1∧C1.ops≤C.ops+2∧Gro n (-1) L L1∧(e1=0∨e1=5∨e1=17)∧(e1=0→(gx L1 b.toNat).cl=true∧(gx L1 b.toNat).ba=false):=by
   split
   ·rename_i hc
    exact ⟨_,_,_,rfl,hp,h,by omega,.refl _ _,.inl rfl,fun _=>⟨hc,hfb⟩⟩
   ·obtain ⟨q1,q2,q3⟩:=hp.dst b (by omega)
    obtain ⟨d1,d2,d3,d4⟩:=h.dst hp (by omega) hbd (.inl rfl) hf
    refine ⟨(dstP C L b).1,(dstP C L b).2.1,(dstP C L b).2.2,rfl,q1,d1,q2,?_,d2,fun e=>?_⟩
    ·by_cases e:(dstP C L b).2.2=0
     ·rw [d3 e];exact Gro.ch hll b (fun _ k=>k) (fun _ k=>(by cases k))
     ·obtain ⟨m,e2⟩:=d4 e
      rw [e2]
      exact (Gro.ch hll b (φ:=fB) (fun _ _=>rfl) (fun _ k=>k)).trans (Gro.ch ((chL_len ..).trans hll) b (φ:=sB m) (fun _ _=>rfl) (fun _ k=>(by cases k)))
    ·rw [d3 e,gx_ch hll,if_pos ⟨hbd,rfl⟩];exact ⟨rfl,hfb⟩
  obtain ⟨C1,L1,e1,hq,p1,c1,o1,g1,r1,b1⟩:=hX
  rw [hq]
  dsimp only
  by_cases he1:e1=0
  case neg=>
   rw [if_neg he1,if_neg (by omega)]
   have ih:=opn_nc hn hr sl k (O:=O) p1 c1 (by omega)
   exact ⟨ih.ci,ih.e,fun e=>⟨(ih.no e).1,g1.trans (ih.no e).2⟩,fun e=>⟨g1.trans (ih.ok e).1,(ih.ok e).2⟩⟩
  rw [if_pos he1]
  obtain ⟨bc,bb⟩:=b1 he1
  obtain ⟨s1,s2,s3⟩:=p1.beg b (o:=o) hn hr sl (by omega)
  have hl1:=p1.ll
  rcases beg_nc (ns:=ns) (o:=o) c1 p1 (by omega) hbd hn hr sl bc bb with ⟨x1,x2,x3,x4⟩ | ⟨x1,x2,x3⟩
  ·rw [if_pos x1]
   refine ⟨x2,.inl rfl,fun k=>absurd rfl k,fun _=>⟨?_,x4⟩⟩
   dsimp only
   rw [x3]
   refine g1.trans ⟨fun i hi a=>?_,fun i hi hne a=>?_⟩
   ·rw [gx_ch hl1];split
    ·exact a
    ·exact a
   ·rw [gx_ch hl1,if_neg (by omega)] at a;exact a
  ·rw [if_neg (by omega),if_neg (by omega)]
   have p2:=s1.chL b (φ:=fB) (fun _=>rfl)
   rw [s1.ll] at p2
   have c2:CI n b (begP C1 L1 O b ns o sl).1 (chL b n fB (begP C1 L1 O b ns o sl).2.1):=by
    rw [x3];exact x2.ch hl1 b fun _ _ k=>k.f
   have hf1:(gx L1 b.toNat).he=false:=by
    cases e:(gx L1 b.toNat).he
    ·rfl
    ·have:=g1.he b.toNat (by omega) (by omega) e
     rw [hf] at this;cases this
   have hf2:(gx (chL b n fB (begP C1 L1 O b ns o sl).2.1) b.toNat).he=false:=by
    rw [x3,gx_ch hl1,if_pos ⟨hbd,rfl⟩];exact hf1
   obtain ⟨d1,d2,d3,d4⟩:=c2.dst p2 (by omega) hbd (.inr rfl) hf2
   obtain ⟨q1,q2,q3⟩:=p2.dst b (by omega)
   rw [if_neg (by omega)]
   have g2:Gro n (-1) L1 (chL b n fB (begP C1 L1 O b ns o sl).2.1):=by rw [x3];exact Gro.ch hl1 b (fun _ _=>rfl) (fun _ k=>k)
   have hl2:(chL b n fB (begP C1 L1 O b ns o sl).2.1).length=n:=p2.ll
   have g3:Gro n (-1) (chL b n fB (begP C1 L1 O b ns o sl).2.1) (dstP (begP C1 L1 O b ns o sl).1 (chL b n fB (begP C1 L1 O b ns o sl).2.1) b).2.1:=by
    by_cases e:(dstP (begP C1 L1 O b ns o sl).1 (chL b n fB (begP C1 L1 O b ns o sl).2.1) b).2.2=0
    ·rw [d3 e];exact Gro.ch hl2 b (fun _ k=>k) (fun _ k=>(by cases k))
    ·obtain ⟨m,e2⟩:=d4 e
     rw [e2]
     exact (Gro.ch hl2 b (φ:=fB) (fun _ _=>rfl) (fun _ k=>k)).trans (Gro.ch ((chL_len ..).trans hl2) b (φ:=sB m) (fun _ _=>rfl) (fun _ k=>(by cases k)))
   have ih:=opn_nc hn hr sl k q1 d1 (by omega)
   have gg:=(g1.trans g2).trans g3
   exact ⟨ih.ci,ih.e,fun e=>⟨(ih.no e).1,gg.trans (ih.no e).2⟩,fun e=>⟨gg.trans (ih.ok e).1,(ih.ok e).2⟩⟩
structure PrN (C C':CD) (bl pa:Int) (xs:List Int) (e:Int):Prop where
 ee:e=0∨e=5
 nf:NF C'
 bi:BIn C'
 oth:∀ m:Int,m.toNat≠bl.toNat→blkC C' m=blkC C m
 sc:(blkC C' bl).sc=false
 la:(blkC C' bl).la=pa
 us:∀ j:Nat,j≠pa.toNat→(blkC C' bl).us.getD j 0=(blkC C bl).us.getD j 0
 pg:∀ j:Nat,j≠pa.toNat→(blkC C' bl).pg.getD j []=(blkC C bl).pg.getD j []
 ok:e=0→pgC13 C' bl pa=andL (andL (pgC13 C bl pa) xs) (comL C.g)
theorem prg_nc (hC:COk C) (h:NF C) (hB:BIn C) (ho:C.ops+2≤1000000000000) {bl pa:Int} {xs:List Int} (bx:Byt xs) (hi:inC C bl pa) (hx:xs.length=szP C.g) (hs:(blkC C bl).sc=false) (hu:usC C bl pa=0) (hl:(blkC C bl).la<pa) :
  PrN C (prgP C bl pa xs).1 bl pa xs (prgP C bl pa xs).2:=by
 have hnum:=hC.num
 obtain ⟨a1,a2,a3,a4⟩:=prog_nc (xs:=xs) hC h hi hx hs (by omega) (fun _=>hl)
 obtain ⟨o1,-,-⟩:=progC_ok hC bl pa bx (by omega)
 obtain ⟨v1,v2,v3,v4⟩:=progX_v hC hi xs
 have oth:=fun m hm=>prog_oth C bl pa xs (m:=m) hm
 have b1:=hB.prog hC bl pa xs
 rw [←a1] at v1 v2 v3 v4
 have kg:=(progC_k C bl pa xs).1
 unfold prgP
 by_cases hc:(progC C bl pa xs).2=0
 ·rw [if_pos hc]
  have hc0:(codeC C).1=0:=by rw [←a2];exact hc
  have e1:pgC13 (progC C bl pa xs).1 bl pa=andL (pgC13 C bl pa) xs:=by
   have:=v4 pa.toNat
   rw [if_pos rfl,if_pos hc0] at this
   exact this
  generalize (progC C bl pa xs).1=D at a1 a4 o1 v1 v2 v3 v4 oth kg b1 e1 ⊢
  have hin2:inC D bl pa:=by unfold inC;rw [kg];exact hi
  have hl2:(comL C.g).length=szP D.g:=by rw [comL_len,kg];omega
  have hu1:usC D bl pa=1:=by
   have:=v3 pa.toNat
   rw [if_pos rfl,hu] at this
   exact this
  obtain ⟨c1,c2,c3,c4⟩:=prog_nc (xs:=comL C.g) o1 a4 hin2 hl2 (v1.trans hs) (by omega) (fun k=>by omega)
  obtain ⟨w1,w2,w3,w4⟩:=progX_v o1 hin2 (comL C.g)
  have oth2:=fun m hm=>prog_oth D bl pa (comL C.g) (m:=m) hm
  have b2:=b1.prog o1 bl pa (comL C.g)
  rw [←c1] at w1 w2 w3 w4
  refine ⟨c3,c4,b2,fun m hm=>(oth2 m hm).trans (oth m hm),w1.trans (v1.trans hs),by rw [w2,v2];omega,fun j hj=>by rw [w3,if_neg hj,v3,if_neg hj],fun j hj=>by rw [w4,if_neg hj,v4,if_neg hj],fun k=>?_⟩
  have k0:(codeC D).1=0:=by rw [←c2];exact k
  have:=w4 pa.toNat
  rw [if_pos rfl,if_pos k0,e1] at this
  exact this
 ·rw [if_neg hc]
  exact ⟨a3,a4,b1,oth,v1.trans hs,by rw [v2];omega,fun j hj=>by rw [v3,if_neg hj],fun j hj=>by rw [v4,if_neg hj],fun k=>absurd k hc⟩
end
end Go.Proofs.YtbaojfchlhlaeaaGreat.Vc
namespace Go.Proofs.YtbaojfchlhlaeaaGreat.Vc
open Go Go.Eng Go.RowKit
theorem manyT_le {L L':List Blk} {m m':Blk→Bool}:∀ i,(∀ j,j<i→m' (gx L' j)=true→m (gx L j)=true)→manyT L' m' i≤manyT L m i
 | 0,_=>Int.le_refl _
 | i+1,h=>by
  have ih:=manyT_le (L:=L) (L':=L') (m:=m) (m':=m') i fun j hj=>h j (by omega)
  have h1:=h i (Nat.lt_succ_self i)
  unfold manyT
  by_cases e:m' (gx L' i)=true
  ·rw [if_pos e,if_pos (h1 e)];omega
  ·rw [if_neg e];split <;> omega
theorem manyT_up {L L':List Blk} {m:Blk→Bool} {b:Nat}:∀ i,(∀ j,j<i→j≠b→m (gx L' j)=true→m (gx L j)=true)→manyT L' m i≤manyT L m i+1
 | 0,_=>by show (0:Int)≤0+1;decide
 | i+1,h=>by
  by_cases e:i=b
  ·have h2:=manyT_le (L:=L) (L':=L') (m:=m) (m':=m) i fun j hj=>h j (by omega) (by omega)
   unfold manyT
   split <;> split <;> omega
  ·have ih:=manyT_up (L:=L) (L':=L') (m:=m) (b:=b) i fun j hj=>h j (by omega)
   have h1:=h i (Nat.lt_succ_self i) e
   unfold manyT
   by_cases e2:m (gx L' i)=true
   ·rw [if_pos e2,if_pos (h1 e2)];omega
   ·rw [if_neg e2];split <;> omega
theorem manyT_lt {L L':List Blk} {m:Blk→Bool} {b:Nat}:∀ i,b<i→(∀ j,j<i→m (gx L j)=true→m (gx L' j)=true)→m (gx L b)=false→m (gx L' b)=true→manyT L m i+1≤manyT L' m i
 | 0,hb,_,_,_=>by omega
 | i+1,hb,h,h0,h1=>by
  by_cases e:b=i
  ·subst e
   have h2:=manyT_le (L:=L') (L':=L) (m:=m) (m':=m) b fun j hj=>h j (by omega)
   unfold manyT
   rw [if_pos h1,if_neg (by rw [h0];exact Bool.false_ne_true)]
   omega
  ·have ih:=manyT_lt (L:=L) (L':=L') (m:=m) (b:=b) i (by omega) (fun j hj=>h j (by omega)) h0 h1
   have h3:=h i (Nat.lt_succ_self i)
   unfold manyT
   by_cases e2:m (gx L i)=true
   ·rw [if_pos e2,if_pos (h3 e2)];omega
   ·rw [if_neg e2];split <;> omega
section
variable {g:Geo} {n:Nat} {s t:SD}
structure NI (g:Geo) (n:Nat) (s:SD):Prop where
 i:SI g n s
 c:CI n (-1) s.C s.L
theorem over_e (s:SD):((overP s).2=0∧(overP s).1=s∧s.ro=false∧bads s.L≤s.C.g.sp)∨((overP s).2=15∧(overP s).1.ro=true):=by
 unfold overP
 split
 ·exact .inr ⟨rfl,rfl⟩
 ·cases h:s.ro
  ·exact .inl ⟨rfl,rfl,rfl,by omega⟩
  ·exact .inr ⟨rfl,by first | exact h | rfl⟩
theorem left_e (s:SD) {e:Int} (h:e=0∨e=19):((leftP s e).2=0∧e=0∧(leftP s e).1=s∧s.ro=false∧bads s.L≤s.C.g.sp)∨((leftP s e).2=15∧(leftP s e).1.ro=true):=by
 rcases h with rfl | rfl
 ·have e1:leftP s 0=if (overP s).2≠0 then overP s else ((overP s).1,0):=rfl
  rw [e1]
  rcases over_e s with ⟨a1,a2,a3,a4⟩ | ⟨a1,a2⟩
  ·rw [if_neg (fun k=>k a1)];exact .inl ⟨rfl,rfl,a2,a3,a4⟩
  ·rw [if_pos (by omega)];exact .inr ⟨a1,a2⟩
 ·have e1:leftP s 19=if (overP {s with ro:=true}).2≠0 then overP {s with ro:=true} else ((overP {s with ro:=true}).1,19):=rfl
  rw [e1]
  rcases over_e {s with ro:=true} with ⟨a1,a2,a3,a4⟩ | ⟨a1,a2⟩
  ·cases a3
  ·rw [if_pos (by omega)];exact .inr ⟨a1,a2⟩
theorem CI.of {C C':CD} {L L':List Blk} {u:Int} (h:CI n u C L) (e1:C'=C) (e2:L'=L):CI n u C' L':=by rw [e1,e2];exact h
theorem NI.over (h:NI g n s):NI g n (overP s).1:=⟨h.i.over.i,h.c.of (over_f s).1 (over_f s).2.1⟩
theorem NI.left (h:NI g n s) (e:Int):NI g n (leftP s e).1:=⟨(h.i.left e).i,h.c.of (left_f s e).1 (left_f s e).2.1⟩
theorem NI.dst (h:NI g n s) {b:Int} (hb:0≤b∧b<(n:Int)) (hh:(gx s.L b.toNat).he=false) (ho:s.C.ops+2≤1000000000000) :
  NI g n (dstS s b).1∧((dstS s b).2=0∨(dstS s b).2=5∨(dstS s b).2=17)∧Gro n (-1) s.L (dstS s b).1.L∧(∀ i,i≠b.toNat→gx (dstS s b).1.L i=gx s.L i)∧(gx (dstS s b).1.L b.toNat).he=false∧((dstS s b).2=0→(dstS s b).1.L=chL b n eB s.L)∧((dstS s b).1.ro=false→s.ro=false):=by
 have hln:=h.i.ln
 obtain ⟨d1,d2,d3,d4⟩:=h.c.dst h.i.pi ho hb (.inl rfl) hh
 obtain ⟨q1,-⟩:=h.i.dst (b:=b) (fun _=>hh) ho
 have e:dstS s b=((overP {s with C:=(dstP s.C s.L b).1,L:=(dstP s.C s.L b).2.1}).1,(dstP s.C s.L b).2.2):=by unfold dstS;rw [if_pos (by rw [hln];exact hb)]
 have k:=over_f {s with C:=(dstP s.C s.L b).1,L:=(dstP s.C s.L b).2.1}
 have hro:(overP {s with C:=(dstP s.C s.L b).1,L:=(dstP s.C s.L b).2.1}).1.ro=false→s.ro=false:=fun hr=>by
  unfold overP at hr
  split at hr
  ·cases hr
  ·exact hr
 rw [e] at q1 ⊢
 dsimp only at q1 ⊢
 have kL:(overP {s with C:=(dstP s.C s.L b).1,L:=(dstP s.C s.L b).2.1}).1.L=(dstP s.C s.L b).2.1:=k.2.1
 rw [kL]
 refine ⟨⟨q1.i,d1.of k.1 k.2.1⟩,d2,?_,fun i hi=>dst_oth s.C hln b hi,?_,fun h0=>d3 h0,hro⟩
 ·by_cases h0:(dstP s.C s.L b).2.2=0
  ·rw [d3 h0];exact Gro.ch hln b (fun _ k=>k) (fun _ k=>(by cases k))
  ·obtain ⟨m,e2⟩:=d4 h0
   rw [e2]
   exact (Gro.ch hln b (φ:=fB) (fun _ _=>rfl) (fun _ k=>k)).trans (Gro.ch ((chL_len ..).trans hln) b (φ:=sB m) (fun _ _=>rfl) (fun _ k=>(by cases k)))
 ·by_cases h0:(dstP s.C s.L b).2.2=0
  ·rw [d3 h0,gx_ch hln,if_pos ⟨hb,rfl⟩];rfl
  ·obtain ⟨m,e2⟩:=d4 h0
   rw [e2,gx_ch ((chL_len ..).trans hln),if_pos ⟨hb,rfl⟩];rfl
theorem NI.opn (h:NI g n s) {ns:Int} (hn:0≤ns∧ns<4) (sl:Bool) (ho:s.C.ops+768≤1000000000000) :
  NI g n (opnS ns sl s).1∧((opnS ns sl s).2.2=0∨(opnS ns sl s).2.2=19)∧((opnS ns sl s).2.2≠0→Gro n (-1) s.L (opnS ns sl s).1.L)∧((opnS ns sl s).2.2=0→Gro n (opnS ns sl s).2.1 s.L (opnS ns sl s).1.L∧Bgn (opnS ns sl s).1.C (opnS ns sl s).2.1 sl)∧(opnS ns sl s).1.ro=s.ro:=by
 have hr:(⟨0,0,0,0,s.ep,u64w (s.op+1)⟩:Hd).rng:=⟨⟨Int.le_refl _,by show (0:Int)<4294967296;decide⟩,h.i.ep,u64w_R _⟩
 have e:opC ns ⟨0,0,0,0,s.ep,u64w (s.op+1)⟩ sl s.C s.L s.O=opnP ns ⟨0,0,0,0,s.ep,u64w (s.op+1)⟩ sl 128 s.C s.L s.O:=if_pos hn
 obtain ⟨k1,-⟩:=h.i.opn hn (sl:=sl) ho
 have q:=opn_nc (ns:=ns) (o:=⟨0,0,0,0,s.ep,u64w (s.op+1)⟩) hn hr sl 128 h.i.pi h.c (by omega)
 unfold opnS at k1 ⊢
 rw [e] at k1 ⊢
 dsimp only at k1 ⊢
 exact ⟨⟨k1.i,q.ci⟩,q.e,fun k=>(q.no k).2,q.ok,rfl⟩
end
end Go.Proofs.YtbaojfchlhlaeaaGreat.Vc
namespace Go.Proofs.YtbaojfchlhlaeaaGreat.Vc
open Go Go.Eng Go.RowKit
section
variable {g:Geo} {n:Nat} {s t:SD} {C:CD}
theorem blank_pg (hC:COk C) (hB:BIn C) {bl pa:Int} (hi:inC C bl pa) (hs:(blkC C bl).sc=false) (hl:(blkC C bl).la<pa):pgC13 C bl pa=List.replicate (szP C.g) 255:=by
 obtain ⟨hbk,hbo⟩:=hC.blk hi.1
 have h2:=hi.2
 have hp:pa.toNat<(blkC C bl).pg.length:=by rw [hbo.pl];omega
 refine hB _ (List.mem_of_getElem? hbk) hs pa.toNat _ (by omega) ?_
 show (blkC C bl).pg[pa.toNat]? = some ((blkC C bl).pg.getD pa.toNat [])
 rw [List.getD_eq_getElem?_getD,List.getElem?_eq_getElem hp]
 rfl
theorem pg_len (hC:COk C) {bl pa:Int} (hi:inC C bl pa):(pgC13 C bl pa).length=szP C.g∧Byt (pgC13 C bl pa):=by
 obtain ⟨hbk,hbo⟩:=hC.blk hi.1
 have h2:=hi.2
 have hp:pa.toNat<(blkC C bl).pg.length:=by rw [hbo.pl];omega
 refine hbo.pb _ ?_
 show (blkC C bl).pg.getD pa.toNat []∈_
 rw [List.getD_eq_getElem?_getD,List.getElem?_eq_getElem hp]
 exact List.getElem_mem hp
theorem cpyL_len {xs:List Int} (h:8≤xs.length):(cpyL xs).length=xs.length:=by
 unfold cpyL
 rw [List.length_append,List.length_take,List.length_replicate]
 omega
def cpB (g:Geo) (xs:List Int):List Int:=andL (andL (List.replicate (szP g) 255) (cpyL xs)) (comL g)
theorem NI.bk (h:NI g n s) {b:Int} (hb:0≤b∧b<(n:Int)):BkI (gx s.L b.toNat) (blkC s.C (4+b)):=by
 have:=h.c.bk b.toNat (by omega) (by omega)
 rwa [show 4+((b.toNat:Nat):Int)=4+b by omega] at this
structure UsN (g:Geo) (n:Nat) (s t:SD) (b:Int) (xs:List Int) (e:Int):Prop where
 ni:CI n (-1) t.C t.L
 ee:e=0∨e=5
 L:t.L=chL b n uB s.L
 oth:∀ m:Int,m.toNat≠(4+b).toNat→blkC t.C m=blkC s.C m
 u0:(blkC t.C (4+b)).us.getD 0 0=(blkC s.C (4+b)).us.getD 0 0
 pg:∀ j:Nat,(j:Int)≠(gx s.L b.toNat).us+1→(blkC t.C (4+b)).pg.getD j []=(blkC s.C (4+b)).pg.getD j []
 ok:e=0→pgC13 t.C (4+b) ((gx s.L b.toNat).us+1)=andL (andL (List.replicate (szP g) 255) xs) (comL g)
theorem NI.use (h:NI g n s) {b:Int} (hb:0≤b∧b<(n:Int)) (he:(gx s.L b.toNat).he=true) (hba:(gx s.L b.toNat).ba=false) (hu:(gx s.L b.toNat).us+1≤g.p-1) {xs:List Int} (bx:Byt xs) (hx:xs.length=szP g) (ho:s.C.ops+2≤1000000000000) {t:SD}
  (eC:t.C=(prgP s.C (4+b) ((gx s.L b.toNat).us+1) xs).1) (eL:t.L=chL b n uB s.L):UsN g n s t b xs (prgP s.C (4+b) ((gx s.L b.toNat).us+1) xs).2:=by
 have hgg:=h.i.pi.gg
 have hnn:=h.i.pi.nn
 have hln:=h.i.ln
 obtain ⟨k1,k2,k3,k4⟩:=(h.bk hb).he he hba
 have hus:=(h.i.l.us b.toNat (by omega)).1
 have hin:inC s.C (4+b) ((gx s.L b.toNat).us+1):=⟨by rw [hgg];omega,by rw [hgg];omega⟩
 have hu0:usC s.C (4+b) ((gx s.L b.toNat).us+1)=0:=k4 _ (by omega)
 have p:=prg_nc h.i.pi.ok h.c.nf h.c.bi ho bx hin (by rw [hgg];exact hx) k2 hu0 (by omega)
 have bl:=blank_pg h.i.pi.ok h.c.bi hin k2 (by omega)
 refine ⟨⟨by rw [eC];exact p.nf,by rw [eC];exact p.bi,fun i hi _=>?_⟩,p.ee,eL,by rw [eC];exact p.oth,by rw [eC];exact p.us 0 (by omega),fun j hj=>by rw [eC];exact p.pg j (by omega),fun k=>by rw [eC,p.ok k,bl,hgg]⟩
 rw [eC,eL,gx_ch hln]
 by_cases e:(i:Int)=b
 ·rw [if_pos ⟨hb,by omega⟩,show i=b.toNat by omega,show 4+((b.toNat:Nat):Int)=4+b by omega]
  refine ⟨fun k=>?_,fun _ _=>⟨k1,p.sc,by rw [p.la];exact Int.le_refl _,fun j hj=>?_⟩,fun k=>?_,(h.bk hb).le⟩
  ·have k:(gx s.L b.toNat).cl=true:=k
   rw [k1] at k;cases k
  ·have hj:(gx s.L b.toNat).us+1<(j:Int):=hj
   rw [p.us j (by omega)]
   exact k4 j (by omega)
  ·have:=((h.bk hb).go k).1
   rw [hba] at this;cases this
 ·rw [if_neg (by omega),p.oth _ (by omega)]
  exact h.c.bk i hi (by omega)
end
end Go.Proofs.YtbaojfchlhlaeaaGreat.Vc
namespace Go.Proofs.YtbaojfchlhlaeaaGreat.Vc
open Go Go.Eng Go.RowKit
section
variable {g:Geo} {n:Nat} {s t:SD} {C:CD}
theorem NI.slN (h:NI g n s) {b:Int} (hb:0≤b∧b<(n:Int)) (he:(gx s.L b.toNat).he=true) (hba:(gx s.L b.toNat).ba=false) (hu:(blkC s.C (4+b)).us.getD 0 0=1) (ho:s.C.ops+1≤1000000000000) :
  ((slC s.L.length s.C b).2=0∨(slC s.L.length s.C b).2=5)∧CI n (-1) (slC s.L.length s.C b).1 s.L∧(∀ m:Int,m.toNat≠(4+b).toNat→blkC (slC s.L.length s.C b).1 m=blkC s.C m)∧(∀ j:Nat,j≠0→(blkC (slC s.L.length s.C b).1 (4+b)).pg.getD j []=(blkC s.C (4+b)).pg.getD j []):=by
 have hgg:=h.i.pi.gg
 have hnn:=h.i.pi.nn
 have hln:=h.i.ln
 have hnum:=h.i.pi.ok.num
 obtain ⟨k1,k2,k3,k4⟩:=(h.bk hb).he he hba
 have e:slC s.L.length s.C b=progC s.C (4+b) 0 (comL s.C.g):=if_pos (by rw [hln];exact hb)
 rw [e]
 have hin:inC s.C (4+b) 0:=⟨by rw [hgg];omega,by omega⟩
 have hl2:(comL s.C.g).length=szP s.C.g:=by rw [comL_len];omega
 have hu1:usC s.C (4+b) 0=1:=hu
 obtain ⟨a1,a2,a3,a4⟩:=prog_nc (xs:=comL s.C.g) h.i.pi.ok h.c.nf hin hl2 k2 (by omega) (fun k=>by omega)
 obtain ⟨v1,v2,v3,v4⟩:=progX_v h.i.pi.ok hin (comL s.C.g)
 have oth:=fun m hm=>prog_oth s.C (4+b) 0 (comL s.C.g) (m:=m) hm
 have b1:=h.c.bi.prog h.i.pi.ok (4+b) 0 (comL s.C.g)
 have hus:=(h.i.l.us b.toNat (by omega)).1
 rw [←a1] at v1 v2 v3 v4
 refine ⟨a3,⟨a4,b1,fun i hi _=>?_⟩,oth,fun j hj=>by rw [v4,if_neg (by intro k;exact hj k)]⟩
 by_cases e:(i:Int)=b
 ·rw [show i=b.toNat by omega,show 4+((b.toNat:Nat):Int)=4+b by omega]
  refine ⟨fun k=>(by rw [k1] at k;cases k),fun _ _=>⟨k1,v1.trans k2,by rw [v2];omega,fun j hj=>?_⟩,fun k=>?_,(h.bk hb).le⟩
  ·rw [v3,if_neg (by intro k;have k:j=0:=k;omega)]
   exact k4 j hj
  ·have:=((h.bk hb).go k).1
   rw [hba] at this;cases this
 ·rw [oth _ (by omega)]
  exact h.c.bk i hi (by omega)
structure CoN (g:Geo) (n:Nat) (s t:SD) (to i:Int) (l:List (Int×Int)) (e:Int):Prop where
 ci:CI n (-1) t.C t.L
 ee:e=0∨e=5
 oth:∀ m:Int,m.toNat≠(4+to).toNat→blkC t.C m=blkC s.C m
 lo:∀ j:Nat,1≤j→(j:Int)<i→(blkC t.C (4+to)).pg.getD j []=(blkC s.C (4+to)).pg.getD j []
 ok:e=0→∀ (j:Nat) (k:Int×Int),l[j]? = some k→pgC13 t.C (4+to) (i+(j:Int))=cpB g (pgC13 s.C k.1 k.2)
theorem NI.cop {to:Int} (ht:0≤to∧to<(n:Int)):∀ (l:List (Int×Int)) (i:Int) {s:SD},NI g n s→(gx s.L to.toNat).he=true→(gx s.L to.toNat).ba=false→(blkC s.C (4+to)).us.getD 0 0=1→i=(gx s.L to.toNat).us+1 →
  (gx s.L to.toNat).us+(l.length:Int)≤g.p-1→(∀ k∈l,inC s.C k.1 k.2∧k.1≠4+to)→s.C.ops+(2*l.length+1)≤1000000000000→CoN g n s (copP to l i s).1 to i l (copP to l i s).2
 | [],i,s,h,he,hba,hu0,hi,hu,hl,ho=>by
  obtain ⟨a1,a2,a3,a4⟩:=h.slN ht he hba hu0 (by omega)
  exact ⟨a2,a1,a3,fun j h1 _=>a4 j (by omega),fun _ j k hk=>by cases hk⟩
 | k::l,i,s,h,he,hba,hu0,hi,hu,hl,ho=>by
  rw [List.length_cons] at hu ho
  push_cast at hu
  have hln:=h.i.ln
  have hgg:=h.i.pi.gg
  have hnum:=h.i.pi.ok.num
  obtain ⟨hk1,hk2⟩:=hl k List.mem_cons_self
  have hrd:readC s.C k.1 k.2=0:=by unfold readC;rw [h.c.nf.1,if_neg Bool.false_ne_true,if_pos hk1]
  have hpl:=pg_len h.i.pi.ok hk1
  have ec:cpyC s.L.length s.C to i k.1 k.2=prgP s.C (4+to) i (cpyL (pgC13 s.C k.1 k.2)):=by
   unfold cpyC
   rw [if_pos (by rw [hln];exact ht),if_pos hrd]
  have eC:(cpyS s to i k).1.C=(prgP s.C (4+to) ((gx s.L to.toNat).us+1) (cpyL (pgC13 s.C k.1 k.2))).1:=by
   show (cpyC s.L.length s.C to i k.1 k.2).1=_
   rw [ec,hi]
  have eL:(cpyS s to i k).1.L=chL to n uB s.L:=by show chL to s.L.length uB s.L=_;rw [hln]
  have eE:(cpyS s to i k).2=(prgP s.C (4+to) ((gx s.L to.toNat).us+1) (cpyL (pgC13 s.C k.1 k.2))).2:=by
   show (cpyC s.L.length s.C to i k.1 k.2).2=_
   rw [ec,hi]
  have U:=h.use ht he hba (by omega) (cpyL_byt hpl.2) (by rw [cpyL_len (by rw [hpl.1];omega),hpl.1,hgg]) (by omega) eC eL
  rw [←eE] at U
  have h1:=h.i.cpy (to:=to) (pa:=i) (k:=k) (fun _=>by omega) (by omega)
  have gt:gx (cpyS s to i k).1.L to.toNat=uB (gx s.L to.toNat):=by rw [eL,gx_ch hln,if_pos ⟨ht,rfl⟩]
  have top:=U.ok
  rw [←hi] at top
  rw [show copP to (k::l) i s=if (cpyS s to i k).2≠0 then cpyS s to i k else copP to l (i+1) (cpyS s to i k).1 from rfl]
  split
  ·rename_i hne
   exact ⟨U.ni,U.ee,U.oth,fun j h1 h2=>U.pg j (by omega),fun e=>absurd e hne⟩
  ·rename_i h0
   have h0:(cpyS s to i k).2=0:=by omega
   have top:=top h0
   have hg1:(cpyS s to i k).1.C.g=s.C.g:=by have:=h1.i.pi.gg;rw [this,hgg]
   have R:=NI.cop ht l (i+1) (s:=(cpyS s to i k).1) ⟨h1.i,U.ni⟩ (by rw [gt];exact he) (by rw [gt];exact hba) (by rw [U.u0];exact hu0) (by rw [gt];show i+1=(gx s.L to.toNat).us+1+1;omega)
    (by rw [gt];show (gx s.L to.toNat).us+1+(l.length:Int)≤_;omega) (fun q hq=>⟨by unfold inC;rw [hg1];exact (hl q (List.mem_cons_of_mem _ hq)).1,(hl q (List.mem_cons_of_mem _ hq)).2⟩) (by have:=h1.o2;omega)
   have hus:=(h.i.l.us to.toNat (by omega)).1
   refine ⟨R.ci,R.ee,fun m hm=>(R.oth m hm).trans (U.oth m hm),fun j j1 j2=>(R.lo j j1 (by omega)).trans (U.pg j (by omega)),fun e j q hq=>?_⟩
   cases j with
   | zero=>
    cases hq
    have a:=R.lo i.toNat (by omega) (by omega)
    show (blkC _ (4+to)).pg.getD (i+((0:Nat):Int)).toNat []=_
    rw [show (i+((0:Nat):Int)).toNat=i.toNat by omega,a]
    exact top
   | succ j=>
    have hq:l[j]? = some q:=hq
    have a:=R.ok e j q hq
    rw [show i+1+(j:Int)=i+((j+1:Nat):Int) by push_cast;omega] at a
    rw [a]
    have hq2:=hl q (List.mem_cons_of_mem _ (List.mem_of_getElem? hq))
    have hq3:=hq2.1.1
    have:pgC13 (cpyS s to i k).1.C q.1 q.2=pgC13 s.C q.1 q.2:=by unfold pgC13;rw [U.oth q.1 (by have:=hq2.2;omega)]
    rw [this]
end
end Go.Proofs.YtbaojfchlhlaeaaGreat.Vc
namespace Go.Proofs.YtbaojfchlhlaeaaGreat.Vc
open Go Go.Eng Go.RowKit
def hdX (X:List (SlP Ce)) (m:Int) (j:Nat):Option Hh:=match (getX X m).l[j]? with | some c=>if c.has=true then some c.s.h else none | none=>none
def PGI (T:Hh→List Int) (s:SD):Prop:=∀ (m:Int) (j:Nat) (c:Ce),(0≤m∧m<4)→(getX s.X m).l[j]? = some c→c.has=true→pgC13 s.C c.s.b c.s.p=T c.s.h∧cpB s.C.g (T c.s.h)=T c.s.h
section
variable {g:Geo} {n:Nat} {s t:SD} {T:Hh→List Int}
theorem PGI.of (h:PGI T s) (hX:t.X=s.X) (hg:t.C.g=s.C.g) (hp:∀ k,1≤cntX s.X k→pgC13 t.C k.1 k.2=pgC13 s.C k.1 k.2) (h4:s.X.length=4):PGI T t:=fun m j c hm hj hc=>by
 rw [hX] at hj
 obtain ⟨a,b⟩:=h m j c hm hj hc
 rw [hg]
 exact ⟨(hp c.pl (cntX_pos h4 hm hj hc)).trans a,b⟩
theorem NI.spo (h:NI g n s) {b:Int} (hb:0≤b∧b<(n:Int)) (h0:(gx s.L b.toNat).li=0) (hf:nfr s b) (hba:(gx s.L b.toNat).ba=false) (ho:s.C.ops+2≤1000000000000) :
  NI g n (spoP s b).1∧((spoP s b).2=0∨((spoP s b).2=15∧(spoP s b).1.ro=true))∧Gro n (-1) s.L (spoP s b).1.L∧(gx (spoP s b).1.L b.toNat).ba=true∧(gx (spoP s b).1.L b.toNat).he=false∧((spoP s b).2=0→(spoP s b).1.ro=false∧s.ro=false∧bads (spoP s b).1.L≤(spoP s b).1.C.g.sp) ∧
  (∀ m:Int,m.toNat≠(4+b).toNat→blkC (spoP s b).1.C m=blkC s.C m):=by
 have hln:=h.i.ln
 have h1:=h.i.f b
 have g1:=chS_gx h.i b fB
 have h2:=h1.i.r b (fun _=>by rw [g1,if_pos ⟨hb,rfl⟩];exact h0) hf
 have g2:=chS_gx h1.i b rB
 have c1:CI n (-1) s.C (chL b n fB s.L):=h.c.ch hln b fun _ _ k=>k.f
 have c2:CI n (-1) s.C (chL b n rB (chL b n fB s.L)):=c1.ch ((chL_len ..).trans hln) b fun _ _ k=>k.r
 have eL:(chS (chS s b fB) b rB).L=chL b n rB (chL b n fB s.L):=by
  show chL b (chL b s.L.length fB s.L).length rB (chL b s.L.length fB s.L)=_
  rw [chL_len,hln]
 have N2:NI g n (chS (chS s b fB) b rB):=⟨h2.i,c2.of rfl eL⟩
 have gb:gx (chS (chS s b fB) b rB).L b.toNat=rB (fB (gx s.L b.toNat)):=by rw [g2,if_pos ⟨hb,rfl⟩,g1,if_pos ⟨hb,rfl⟩]
 have G:Gro n (-1) s.L (chS (chS s b fB) b rB).L:=by
  rw [eL]
  exact (Gro.ch hln b (φ:=fB) (fun _ _=>rfl) (fun _ k=>k)).trans (Gro.ch ((chL_len ..).trans hln) b (φ:=rB) (fun _ k=>k) (fun _ k=>(by cases k)))
 obtain ⟨d1,d2,d3,d4,d5,d6,d7⟩:=N2.dst hb (by rw [gb];rfl) ho
 have bab:(gx (dstS (chS (chS s b fB) b rB) b).1.L b.toNat).ba=true:=d3.ba b.toNat (by omega) (by rw [gb];rfl)
 have oth:∀ m:Int,m.toNat≠(4+b).toNat→blkC (dstS (chS (chS s b fB) b rB) b).1.C m=blkC s.C m:=fun m hm=>by
  have e:dstS (chS (chS s b fB) b rB) b=((overP {chS (chS s b fB) b rB with C:=(dstP s.C (chS (chS s b fB) b rB).L b).1,L:=(dstP s.C (chS (chS s b fB) b rB).L b).2.1}).1,(dstP s.C (chS (chS s b fB) b rB).L b).2.2):=by unfold dstS;rw [if_pos (by rw [h2.i.ln];exact hb)];rfl
  rw [e]
  have k:=(over_f {chS (chS s b fB) b rB with C:=(dstP s.C (chS (chS s b fB) b rB).L b).1,L:=(dstP s.C (chS (chS s b fB) b rB).L b).2.1}).1
  show blkC (overP {chS (chS s b fB) b rB with C:=(dstP s.C (chS (chS s b fB) b rB).L b).1,L:=(dstP s.C (chS (chS s b fB) b rB).L b).2.1}).1.C m=_
  rw [k]
  show blkC (dstP s.C _ b).1 m=_
  unfold dstP
  split
  ·split
   ·exact (scr_oth _ _ hm).trans (era_oth _ _ hm)
   ·exact (scr_oth _ _ hm).trans (era_oth _ _ hm)
  ·exact era_oth _ _ hm
 have e:spoP s b=overP (dstS (chS (chS s b fB) b rB) b).1:=by
  unfold spoP
  rw [if_neg (by omega)]
 rw [e]
 have k:=over_f (dstS (chS (chS s b fB) b rB) b).1
 refine ⟨d1.over,?_,by rw [k.2.1];exact G.trans d3,by rw [k.2.1];exact bab,by rw [k.2.1];exact d5,fun e0=>?_,fun m hm=>by rw [k.1];exact oth m hm⟩
 ·rcases over_e (dstS (chS (chS s b fB) b rB) b).1 with ⟨a1,-⟩ | a
  ·exact .inl a1
  ·exact .inr a
 ·rcases over_e (dstS (chS (chS s b fB) b rB) b).1 with ⟨a1,a2,a3,a4⟩ | ⟨a1,-⟩
  ·rw [a2];exact ⟨a3,d7 a3,a4⟩
  ·omega
end
end Go.Proofs.YtbaojfchlhlaeaaGreat.Vc
namespace Go.Proofs.YtbaojfchlhlaeaaGreat.Vc
open Go Go.Eng Go.RowKit
section
variable {g:Geo} {n:Nat} {s t:SD} {T:Hh→List Int}
theorem dst_blk (C:CD) (L:List Blk) (b:Int) {m:Int} (hm:m.toNat≠(4+b).toNat):blkC (dstP C L b).1 m=blkC C m:=by
 unfold dstP
 split
 ·split
  ·exact (scr_oth _ _ hm).trans (era_oth _ _ hm)
  ·exact (scr_oth _ _ hm).trans (era_oth _ _ hm)
 ·exact era_oth _ _ hm
theorem fst_blk (C:CD) (b:Int) (h:Hd) (sl:Bool) {m:Int} (hm:m.toNat≠(4+b).toNat):blkC (fstP C b h sl).1 m=blkC C m:=by
 unfold fstP selP
 split
 ·exact (prog_oth _ _ _ _ hm).trans (prog_oth _ _ _ _ hm)
 ·exact prog_oth _ _ _ _ hm
theorem opn_fr {ns:Int} {o:Hd} {sl:Bool}:∀ (k:Nat) {C:CD} {L:List Blk} {O:List Hd},L.length=n→∀ i,i<n→(gx L i).he=true→blkC (opnP ns o sl k C L O).1.1 (4+(i:Int))=blkC C (4+(i:Int))
 | 0,C,L,O,_,i,_,_=>rfl
 | k+1,C,L,O,hl,i,hi,he=>by
  unfold opnP
  by_cases hlt:pickT L L.length<0
  ·rw [if_pos hlt]
  rw [if_neg hlt]
  obtain ⟨hf,-⟩:=pick_free (L:=L) (by omega)
  generalize pickT L L.length=b at hlt hf ⊢
  have hne:i≠b.toNat:=fun e=>by rw [e,hf] at he;cases he
  have hm:(4+(i:Int)).toNat≠(4+b).toNat:=by omega
  rw [hl]
  have hX:∃ C1 L1 e1,(if (gx L b.toNat).cl=true then (C,L,(0:Int)) else dstP C L b)=(C1,L1,e1)∧L1.length=n∧gx L1 i=gx L i∧blkC C1 (4+(i:Int))=blkC C (4+(i:Int)):=by
   split
   ·exact ⟨C,L,0,rfl,hl,rfl,rfl⟩
   ·refine ⟨(dstP C L b).1,(dstP C L b).2.1,(dstP C L b).2.2,rfl,?_,dst_oth C hl b hne,dst_blk C L b hm⟩
    rcases dst_L C hl b with e | e | e | ⟨m,e⟩ <;> rw [e]
    ·exact hl
    ·rw [chL_len];exact hl
    ·rw [chL_len];exact hl
    ·rw [chL_len,chL_len];exact hl
  obtain ⟨C1,L1,e1,hq,l1,g1,b1⟩:=hX
  rw [hq]
  dsimp only
  split
  ·have hB:∃ C2 L2 O2 e2,begP C1 L1 O b ns o sl=(C2,L2,O2,e2)∧L2.length=n∧gx L2 i=gx L i∧blkC C2 (4+(i:Int))=blkC C (4+(i:Int)):=by
    unfold begP
    split
    ·exact ⟨_,_,_,_,rfl,by rw [chL_len];exact l1,(ch_oth rfl _ hne).trans g1,(fst_blk C1 b _ sl hm).trans b1⟩
    ·exact ⟨_,_,_,_,rfl,l1,g1,(fst_blk C1 b _ sl hm).trans b1⟩
   obtain ⟨C2,L2,O2,e2,hq2,l2,g2,b2⟩:=hB
   rw [hq2]
   dsimp only
   split
   ·exact b2
   ·split
    ·exact b2
    ·have l3:(chL b n fB L2).length=n:=by rw [chL_len];exact l2
     have g3:gx (chL b n fB L2) i=gx L i:=(ch_oth l2 _ hne).trans g2
     have l4:(dstP C2 (chL b n fB L2) b).2.1.length=n:=by
      rcases dst_L C2 l3 b with e | e | e | ⟨m,e⟩ <;> rw [e]
      ·exact l3
      ·rw [chL_len];exact l3
      ·rw [chL_len];exact l3
      ·rw [chL_len,chL_len];exact l3
     have g4:=(dst_oth C2 l3 b hne).trans g3
     have b4:=(dst_blk C2 (chL b n fB L2) b hm).trans b2
     split
     ·exact b4
     ·exact (opn_fr k l4 i hi (by rw [g4];exact he)).trans b4
  ·split
   ·exact b1
   ·exact (opn_fr k l1 i hi (by rw [g1];exact he)).trans b1
theorem mov_fld (s:SD) (b to ns:Int) (l:List (Int×Int)):(movP s b to ns l).C=s.C∧(movP s b to ns l).L=chL b s.L.length rB (chL to s.L.length (cB (l.length:Int)) s.L)∧(movP s b to ns l).X=movL to (ordO s.O to).hh l 1 s.X∧(movP s b to ns l).ro=s.ro:=by
 have e:(chL to s.L.length (cB (l.length:Int)) s.L).length=s.L.length:=chL_len ..
 unfold movP
 dsimp only
 split
 ·refine ⟨rfl,?_,rfl,rfl⟩
  show chL b (chL to s.L.length (cB (l.length:Int)) s.L).length rB _=_
  rw [e]
  rfl
 ·refine ⟨rfl,?_,rfl,rfl⟩
  show chL b (chL to s.L.length (cB (l.length:Int)) s.L).length rB _=_
  rw [e]
  rfl
theorem mov_hd (h:SI g n s) {b to ns:Int} (ht:0≤to∧to<(n:Int)) (hne:b≠to) (hl0:(gx s.L to.toNat).li=0) (hcp:∀ (j:Nat) (k:Int×Int),(inP s.X (4+b))[j]? = some k→pgC13 s.C (4+to) (1+(j:Int))=cpB s.C.g (pgC13 s.C k.1 k.2)) :
  (PGI T s→PGI T (movP s b to ns (inP s.X (4+b))))∧∀ m j,hdX (movP s b to ns (inP s.X (4+b))).X m j=hdX s.X m j:=by
 have hnd:=so_nd (inP_so s.X (4+b))
 have hmem:=fun k=>inP_mem (X:=s.X) (bl:=4+b) (k:=k)
 obtain ⟨e1,-,e3,-⟩:=mov_fld s b to ns (inP s.X (4+b))
 generalize inP s.X (4+b)=l at hcp hnd hmem e1 e3 ⊢
 have hto:∀ k∈l,k.1≠4+to:=fun k hk e=>by have:=((hmem k).1 hk).1;omega
 have hz:∀ j,1≤j→cntX s.X (4+to,j)=0:=fun j hj=>by
  have:=h.l.none ht hl0 (k:=(4+to,j)) rfl
  have:=(cntX_le h.xo (4+to,j)).1
  omega
 obtain ⟨-,a2,-⟩:=movL_all to (ordO s.O to).hh l 1 h.xo hnd hto hz
 refine ⟨fun hT m j c hm hj hc=>?_,fun m j=>?_⟩
 ·rw [e3,a2] at hj
  rw [e1]
  dsimp only at hj
  rw [List.getElem?_map] at hj
  cases hq:(getX s.X m).l[j]? with
  | none=>rw [hq] at hj;cases hj
  | some c0=>
   rw [hq] at hj
   have hj:movF to (ordO s.O to).hh l 1 c0=c:=Option.some.inj hj
   rcases movF_is to (ordO s.O to).hh l 1 c0 hnd hto with ⟨k1,k2,mm,k3,k4⟩ | ⟨k1,k2⟩
   ·rw [k4] at hj
    obtain ⟨t1,t2⟩:=hT m j c0 hm hq k1
    have:=hcp mm c0.pl k3
    subst hj
    dsimp only
    refine ⟨?_,t2⟩
    rw [this]
    show cpB s.C.g (pgC13 s.C c0.s.b c0.s.p)=_
    rw [t1]
    exact t2
   ·rw [k2] at hj
    subst hj
    exact hT m j c0 hm hq hc
 ·unfold hdX
  rw [e3,a2]
  dsimp only
  rw [List.getElem?_map]
  cases hq:(getX s.X m).l[j]? with
  | none=>rfl
  | some c0=>
   show (if (movF to (ordO s.O to).hh l 1 c0).has=true then some (movF to (ordO s.O to).hh l 1 c0).s.h else none)=(if c0.has=true then some c0.s.h else none)
   rcases movF_is to (ordO s.O to).hh l 1 c0 hnd hto with ⟨k1,k2,mm,k3,k4⟩ | ⟨k1,k2⟩
   ·rw [k4,if_pos k1,if_pos rfl]
   ·rw [k2]
structure EmN (g:Geo) (n:Nat) (T:Hh→List Int) (s t:SD) (b ns e:Int):Prop where
 ci:CI n (-1) t.C t.L
 ee:e=0∨(e=15∧t.ro=true)
 ba:∀ i,i<n→(gx s.L i).ba=true→(gx t.L i).ba=true
 hd:e=0→∀ m,manyT t.L (ownB m) n≤manyT s.L (ownB m) n+(if m=ns∧(gx s.L b.toNat).ba=true then 1 else 0)
 pg:PGI T s→PGI T t
 hx:∀ m j,hdX t.X m j=hdX s.X m j
 ro:e=0→t.ro=s.ro
 hb:e=0→∀ i,i<n→(gx t.L i).he=true→(gx t.L i).ba=true→(gx s.L i).he=true∧(gx s.L i).ba=true∧i≠b.toNat
theorem NI.empL {b ns:Int} {l:List (Int×Int)}:∀ (k:Nat) {s:SD},EmI g n s b ns l→CI n (-1) s.C s.L→l≠[]→(61:Int)≤(k:Int)+bads s.L→s.C.ops+eC k≤1000000000000→EmN g n T s (empL b ns l k s).1 b ns (empL b ns l k s).2
 | 0,s,h,hc,hl,hk,_=>by
  exfalso
  have h1:=(manyT_bd (L:=s.L) (m:=fun x=>x.ba) s.L.length).2
  have h2:=h.i.ln
  have h3:=h.i.no.1
  have:bads s.L=manyT s.L (fun x=>x.ba) s.L.length:=rfl
  omega
 | k+1,s,h,hc,hl,hk,ho=>by
  have hec:=eCs k
  have hN:NI g n s:=⟨h.i,hc⟩
  have hln:=h.i.ln
  obtain ⟨h1,x1,f1,k1,b1⟩:=h.i.beg h.hn (sl:=false) (by omega)
  obtain ⟨N1,ee1,no1,ok1,ro1⟩:=hN.opn h.hn false (by omega)
  have fr1:∀ i,i<n→(gx s.L i).he=true→blkC (opnS ns false s).1.C (4+(i:Int))=blkC s.C (4+(i:Int)):=fun i hi hh=>by
   have e:opC ns ⟨0,0,0,0,s.ep,u64w (s.op+1)⟩ false s.C s.L s.O=opnP ns ⟨0,0,0,0,s.ep,u64w (s.op+1)⟩ false 128 s.C s.L s.O:=if_pos h.hn
   show blkC (opC ns ⟨0,0,0,0,s.ep,u64w (s.op+1)⟩ false s.C s.L s.O).1.1 _=_
   rw [e]
   exact opn_fr 128 hln i hi hh
  have lf:=left_f (opnS ns false s).1 (opnS ns false s).2.2
  have le:=left_e (opnS ns false s).1 ee1
  have N2:=N1.left (opnS ns false s).2.2
  have live:∀ q,1≤cntX s.X q→((q.1-4).toNat<n∧4+(((q.1-4).toNat:Nat):Int)=q.1)∧(gx s.L (q.1-4).toNat).he=true:=fun q hq=>by
   have hb:=(h.i.l.xb q hq).1
   refine ⟨⟨by omega,by omega⟩,h.i.l.he _ (by omega) fun h0=>?_⟩
   exact h.i.l.none (b:=q.1-4) (by omega) h0 (k:=q) (by omega) hq
  have pg1:PGI T s→PGI T (leftP (opnS ns false s).1 (opnS ns false s).2.2).1:=fun hT=>by
   refine hT.of x1 (by rw [N2.i.pi.gg,h.i.pi.gg]) (fun q hq=>?_) h.i.xo.four
   obtain ⟨⟨q1,q2⟩,q3⟩:=live q hq
   have:=fr1 _ q1 q3
   rw [q2] at this
   unfold pgC13
   rw [lf.1,this]
  unfold Vc.empL
  dsimp only
  generalize opnS ns false s=r at h1 x1 f1 k1 b1 N1 ee1 no1 ok1 ro1 lf le N2 pg1 ⊢
  obtain ⟨r1,to,e⟩:=r
  dsimp only at h1 x1 f1 k1 b1 N1 ee1 no1 ok1 ro1 lf le N2 pg1 ⊢
  have o1:=h1.o2
  rcases le with ⟨le1,le2,le3,le4,le5⟩ | ⟨le1,le2⟩
  case inr=>
   rw [if_pos (by omega)]
   dsimp only
   have baf:∀ i,i<n→(gx s.L i).ba=true→(gx (leftP r1 e).1.L i).ba=true:=fun i hi a=>by
    rw [lf.2.1]
    rcases ee1 with e0 | e19
    ·exact (ok1 e0).1.ba i hi a
    ·exact (no1 (by omega)).ba i hi a
   split
   ·refine ⟨?_,.inr ⟨le1,le2⟩,fun i hi a=>?_,fun k=>by omega,fun hT=>(pg1 hT).of rfl rfl (fun _ _=>rfl) N2.i.xo.four,fun m j=>by show hdX (leftP r1 e).1.X m j=_;rw [x1],fun k=>by omega,fun k=>by omega⟩
    ·have:=N2.c.ch N2.i.ln to (φ:=rB) fun _ _ k=>k.r
     refine this.of rfl ?_
     show chL to (leftP r1 e).1.L.length rB _=_
     rw [N2.i.ln]
    ·show (gx (chL to (leftP r1 e).1.L.length rB (leftP r1 e).1.L) i).ba=true
     rw [gx_ch rfl]
     split
     ·exact baf i hi a
     ·exact baf i hi a
   ·exact ⟨N2.c,.inr ⟨le1,le2⟩,baf,fun k=>by omega,pg1,fun m j=>by rw [x1],fun k=>by omega,fun k=>by omega⟩
  rw [if_neg (by omega)]
  rw [le3] at h1 x1 f1 k1 b1 N2 pg1 o1 ⊢
  subst le2
  have hB:=b1 rfl
  obtain ⟨y,hy,hyb⟩:=hB.y
  obtain ⟨G1,Bg⟩:=ok1 rfl
  have ht:=hB.ht
  have hb:=h.hb
  have hlen2:=h.i.l.len (4+b)
  rw [h.l] at hlen2
  have hlen:=l32 h.i.l (4+b)
  rw [h.l] at hlen
  obtain ⟨a1,hne,e1,nf1,l0,mv⟩:=h.cop h1.i x1 f1 k1 hB (by omega)
  obtain ⟨-,c2,c3,-,-,c5,c6,c7,c8,-,c10,c11⟩:=SI.cop ht l 1 h1.i (by rw [hy];show (0:Int)+_≤_;omega) (by omega)
  have hsrc:∀ q∈l,inC r1.C q.1 q.2∧q.1≠4+to:=fun q hq=>by
   rw [←h.l] at hq
   obtain ⟨q1,q2,q3⟩:=inP_mem.1 hq
   have q4:=(h.i.l.xb q q3).2
   have hnn:=h.i.pi.nn
   exact ⟨by unfold inC;rw [N2.i.pi.gg];omega,by omega⟩
  have K:=NI.cop ht l 1 N2 (by rw [hy];rfl) (by rw [hy];exact hyb) (by rw [Bg.us 0];rfl) (by rw [hy];rfl) (by rw [hy];show (0:Int)+_≤_;omega) hsrc (by omega)
  have pg2:PGI T s→PGI T (copP to l 1 r1).1:=fun hT=>by
   refine (pg1 hT).of c2 (by rw [e1.i.pi.gg,N2.i.pi.gg]) (fun q hq=>?_) N2.i.xo.four
   have hq2:=(N2.i.l.xb q hq).1
   have hne2:q.1≠4+to:=fun e=>N2.i.l.none ht (by rw [hy];rfl) (k:=q) e hq
   unfold pgC13
   rw [K.oth q.1 (by omega)]
  have ow:∀ i,i<n→i≠to.toNat→(gx (copP to l 1 r1).1.L i).he=true→gx (copP to l 1 r1).1.L i=gx s.L i:=fun i hi hne2 hh=>by
   rw [c6 i hne2] at hh ⊢
   exact k1 i hi (G1.he i hi (by omega) hh)
  have bac:∀ i,i<n→(gx s.L i).ba=true→(gx (copP to l 1 r1).1.L i).ba=true:=fun i hi a=>by
   by_cases e2:i=to.toNat
   ·subst e2;rw [c10];exact G1.ba _ hi a
   ·rw [c6 i e2];exact G1.ba i hi a
  have bat:(gx s.L to.toNat).ba=false:=by
   cases e2:(gx s.L to.toNat).ba
   ·rfl
   ·have:=G1.ba to.toNat (by omega) e2
    rw [hy] at this
    rw [show (Vc.hB ns y).ba=y.ba from rfl,hyb] at this
    cases this
  generalize copP to l 1 r1=c at a1 e1 nf1 l0 mv c2 c3 c5 c6 c7 c8 c10 c11 K pg2 ow bac ⊢
  obtain ⟨c1,ce⟩:=c
  dsimp only at a1 e1 nf1 l0 mv c2 c3 c5 c6 c7 c8 c10 c11 K pg2 ow bac ⊢
  have o2:=a1.o2
  have gb:gx c1.L b.toNat=gx s.L b.toNat:=ow b.toNat (by omega) (by omega) e1.he
  have lc:c1.L.length=n:=e1.i.ln
  have hro:s.ro=false:=ro1.symm.trans le4
  by_cases hc0:ce=0
  ·rw [if_pos hc0]
   dsimp only
   obtain ⟨m1,m2,m3,m4⟩:=mov_fld c1 b to ns l
   have hcp:∀ (j:Nat) (q:Int×Int),(inP c1.X (4+b))[j]? = some q→pgC13 c1.C (4+to) (1+(j:Int))=cpB c1.C.g (pgC13 c1.C q.1 q.2):=fun j q hq=>by
    rw [e1.l] at hq
    have hs:=hsrc q (List.mem_of_getElem? hq)
    rw [K.ok hc0 j q hq,e1.i.pi.gg]
    congr 1
    unfold pgC13
    rw [K.oth q.1 (by have:=hs.1.1;omega)]
   obtain ⟨p1,p2⟩:=mov_hd (T:=T) (ns:=ns) e1.i ht (fun e=>hne e.symm) l0 hcp
   rw [e1.l] at p1 p2
   have eL:(movP c1 b to ns l).L=chL b n rB (chL to n (cB (l.length:Int)) c1.L):=by rw [m2,lc]
   have l1':(chL to n (cB (l.length:Int)) c1.L).length=n:=by rw [chL_len];exact lc
   have gi:∀ i,i≠b.toNat→i≠to.toNat→gx (movP c1 b to ns l).L i=gx c1.L i:=fun i h1 h2=>by rw [eL,gx_ne l1' h1,gx_ne lc h2]
   have gB:gx (movP c1 b to ns l).L b.toNat=rB (gx c1.L b.toNat):=by rw [eL,gx_eq l1' hb,gx_ne lc (by omega)]
   have gT:gx (movP c1 b to ns l).L to.toNat=cB (l.length:Int) (gx c1.L to.toNat):=by rw [eL,gx_ne l1' (by omega),gx_eq lc ht]
   refine ⟨?_,.inl rfl,fun i hi a=>?_,fun _ m=>?_,fun hT=>p1 (pg2 hT),fun m j=>by rw [p2,c2,x1],fun _=>by rw [m4,c5,hro];exact le4,fun _ i hi h1 h2=>?_⟩
   ·refine ((K.ci.ch lc to (φ:=cB (l.length:Int)) fun _ _ k=>k.c _).ch l1' b (φ:=rB) fun _ _ k=>k.r).of m1 eL
   ·by_cases e2:i=b.toNat
    ·rw [e2,gB];show (gx c1.L b.toNat).ba=true;rw [←e2];exact bac i hi a
    ·by_cases e3:i=to.toNat
     ·rw [e3,gT];show (gx c1.L to.toNat).ba=true;rw [←e3];exact bac i hi a
     ·rw [gi i e2 e3];exact bac i hi a
   ·have g0:gx (chL b n rB s.L) b.toNat=rB (gx s.L b.toNat):=gx_eq hln hb
    have pt:∀ i,i<n→i≠to.toNat→ownB m (gx (movP c1 b to ns l).L i)=true→ownB m (gx (chL b n rB s.L) i)=true:=fun i hi h2 h3=>by
     by_cases e2:i=b.toNat
     ·rw [e2,gB] at h3;cases h3
     ·rw [gi i e2 h2] at h3
      have hh:(gx c1.L i).he=true:=by
       unfold ownB at h3
       rw [Bool.and_eq_true,Bool.and_eq_true] at h3
       exact h3.1.1
      rw [gx_ne hln e2,← ow i hi h2 hh]
      exact h3
    have lt0:manyT (chL b n rB s.L) (ownB m) n≤manyT s.L (ownB m) n:=manyT_le n fun i hi h3=>by
     by_cases e2:i=b.toNat
     ·rw [e2,g0] at h3;cases h3
     ·rw [gx_ne hln e2] at h3;exact h3
    by_cases em:m=ns
    ·have up:=manyT_up (L:=chL b n rB s.L) (L':=(movP c1 b to ns l).L) (m:=ownB m) (b:=to.toNat) n fun i hi h2 h3=>pt i hi h2 h3
     cases hbb:(gx s.L b.toNat).ba
     ·rw [if_neg (fun k=>by cases k.2)]
      have:=manyT_lt (L:=chL b n rB s.L) (L':=s.L) (m:=ownB m) (b:=b.toNat) n (by omega) (fun i hi h3=>by
       by_cases e2:i=b.toNat
       ·rw [e2,g0] at h3;cases h3
       ·rw [gx_ne hln e2] at h3;exact h3) (by rw [g0];rfl) (by unfold ownB;rw [h.he,hbb,h.ow,em];simp)
      omega
     ·rw [if_pos ⟨em,rfl⟩];omega
    ·rw [if_neg (fun k=>em k.1)]
     have:=manyT_le (L:=chL b n rB s.L) (L':=(movP c1 b to ns l).L) (m:=ownB m) (m':=ownB m) n fun i hi h3=>by
      by_cases e2:i=to.toNat
      ·exfalso
       rw [e2,gT] at h3
       unfold ownB at h3
       rw [Bool.and_eq_true] at h3
       have h4:(gx c1.L to.toNat).ow=m:=eq_of_beq h3.2
       rw [c8,hy] at h4
       exact em h4.symm
      ·exact pt i hi e2 h3
     omega
   ·by_cases e2:i=b.toNat
    ·rw [e2,gB] at h1;cases h1
    ·by_cases e3:i=to.toNat
     ·rw [e3,gT] at h2
      have h2:(gx c1.L to.toNat).ba=true:=h2
      rw [c10,hy] at h2
      rw [show (Vc.hB ns y).ba=y.ba from rfl,hyb] at h2
      cases h2
     ·rw [gi i e2 e3] at h1 h2
      rw [←ow i hi e3 h1]
      exact ⟨h1,h2,e2⟩
  rw [if_neg hc0]
  have hc5:ce=5:=K.ee.resolve_left hc0
  rw [if_pos hc5]
  have N3:NI g n c1:=⟨e1.i,K.ci⟩
  obtain ⟨s1,sx,sf,sg⟩:=e1.i.spo ht l0 nf1 (by omega)
  obtain ⟨u1,u2,u3,u4,u5,u6,u7⟩:=N3.spo ht l0 nf1 (by rw [c10,hy];exact hyb) (by omega)
  have pg3:PGI T s→PGI T (spoP c1 to).1:=fun hT=>by
   refine (pg2 hT).of sx (by rw [u1.i.pi.gg,e1.i.pi.gg]) (fun q hq=>?_) e1.i.xo.four
   have hq2:=(e1.i.l.xb q hq).1
   have hne2:q.1≠4+to:=fun e=>e1.i.l.none ht l0 (k:=q) e hq
   unfold pgC13
   rw [u7 q.1 (by omega)]
  have ba3:∀ i,i<n→(gx s.L i).ba=true→(gx (spoP c1 to).1.L i).ba=true:=fun i hi a=>u3.ba i hi (bac i hi a)
  by_cases hs:(spoP c1 to).2≠0
  ·rw [if_pos hs]
   exact ⟨u1.c,.inr (u2.resolve_left hs),ba3,fun k=>absurd k hs,pg3,fun m j=>by rw [sx,c2,x1],fun k=>absurd k hs,fun k=>absurd k hs⟩
  rw [if_neg hs]
  have hs0:(spoP c1 to).2=0:=by omega
  have hbt:b.toNat≠to.toNat:=by omega
  have e2:EmI g n (spoP c1 to).1 b ns l:=⟨s1.i,h.hn,h.hb,by rw [sx];exact e1.l,by rw [sg _ hbt];exact e1.he,by rw [sg _ hbt];exact e1.ow,nfr_fr e1.nf sf⟩
  have o3:=s1.o2
  have hbd:bads s.L+1≤bads (spoP c1 to).1.L:=by
   show manyT s.L (fun x=>x.ba) s.L.length+1≤manyT (spoP c1 to).1.L (fun x=>x.ba) (spoP c1 to).1.L.length
   rw [hln,s1.i.ln]
   exact manyT_lt (b:=to.toNat) n (by omega) (fun i hi a=>ba3 i hi a) bat u4
  have R:=NI.empL k e2 u1.c hl (by push_cast at hk;omega) (by omega)
  have gb3:gx (spoP c1 to).1.L b.toNat=gx s.L b.toNat:=by rw [sg _ hbt,gb]
  refine ⟨R.ci,R.ee,fun i hi a=>R.ba i hi (ba3 i hi a),fun k m=>?_,fun hT=>R.pg (pg3 hT),fun m j=>by rw [R.hx,sx,c2,x1],fun k=>(R.ro k).trans ((u6 hs0).1.trans hro.symm),fun k i hi h1 h2=>?_⟩
  rotate_left
  ·obtain ⟨v1,v2,v3⟩:=R.hb k i hi h1 h2
   by_cases e3:i=to.toNat
   ·rw [e3,u5] at v1;cases v1
   ·rw [sg i e3] at v1 v2
    rw [←ow i hi e3 v1]
    exact ⟨v1,v2,v3⟩
  have hd:=R.hd k m
  rw [gb3] at hd
  have le3:manyT (spoP c1 to).1.L (ownB m) n≤manyT s.L (ownB m) n:=manyT_le n fun i hi h3=>by
   by_cases e3:i=to.toNat
   ·exfalso
    subst e3
    unfold ownB at h3
    rw [u5] at h3
    cases h3
   ·rw [sg i e3] at h3
    have hh:(gx c1.L i).he=true:=by
     unfold ownB at h3
     rw [Bool.and_eq_true,Bool.and_eq_true] at h3
     exact h3.1.1
    rw [←ow i hi e3 hh]
    exact h3
  omega
end
end Go.Proofs.YtbaojfchlhlaeaaGreat.Vc
namespace Go.Proofs.YtbaojfchlhlaeaaGreat.Vc
open Go Go.Eng Go.RowKit
def capS (s:SD) (m:Int):Int:=if (getX s.X m).n=0 then 0 else quoS s m-1
def GD (n:Nat) (s:SD):Prop:=s.ro=false→(∀ i,i<n→(gx s.L i).he=true→(gx s.L i).ba=false)∧∀ m,manyT s.L (ownB m) n≤capS s m
section
variable {g:Geo} {n:Nat} {s t u:SD} {T:Hh→List Int} {b ns e:Int}
structure StN (g:Geo) (n:Nat) (T:Hh→List Int) (s t:SD):Prop where
 ci:CI n (-1) t.C t.L
 ba:∀ i,i<n→(gx s.L i).ba=true→(gx t.L i).ba=true
 pg:PGI T s→PGI T t
 hx:∀ m j,hdX t.X m j=hdX s.X m j
 gd:GD n s→GD n t
 ro:t.ro=false→s.ro=false
theorem StN.refl (h:NI g n s):StN g n T s s:=⟨h.c,fun _ _ h=>h,fun h=>h,fun _ _=>rfl,fun h=>h,fun h=>h⟩
theorem StN.trans (h:StN g n T s t) (k:StN g n T t u):StN g n T s u:=⟨k.ci,fun i hi a=>k.ba i hi (h.ba i hi a),fun a=>k.pg (h.pg a),fun m j=>(k.hx m j).trans (h.hx m j),fun a=>k.gd (h.gd a),fun a=>h.ro (k.ro a)⟩
theorem cap_eq (h:SI g n s) (k:SI g n t) (hz:∀ ns,(getX t.X ns).n=(getX s.X ns).n) (m:Int):capS t m=capS s m:=by
 unfold capS quoS
 rw [hz,h.pi.gg,k.pi.gg]
theorem own_mk {x y:Blk} {m:Int} (h:ownB m x=true) (h1:y.he=x.he) (h2:y.ba=x.ba) (h3:y.ow=x.ow):ownB m y=true:=by
 unfold ownB at h ⊢
 rw [h1,h2,h3]
 exact h
theorem own_he {x:Blk} {m:Int} (h:ownB m x=true):x.he=true:=(own_is h).1
theorem GD.sub (h:GD n s) (hc:∀ m,capS t m=capS s m) (hr:t.ro=false→s.ro=false) (hk:∀ i,i<n→(gx t.L i).he=true→(gx s.L i).he=true∧(gx t.L i).ba=(gx s.L i).ba∧(gx t.L i).ow=(gx s.L i).ow):GD n t:=fun h0=>by
 obtain ⟨a,c⟩:=h (hr h0)
 refine ⟨fun i hi hh=>?_,fun m=>?_⟩
 ·obtain ⟨k1,k2,-⟩:=hk i hi hh
  rw [k2];exact a i hi k1
 ·rw [hc]
  refine Int.le_trans (manyT_le n fun i hi ho=>?_) (c m)
  obtain ⟨k1,k2,k3⟩:=hk i hi (own_he ho)
  exact own_mk ho (k1.trans (own_he ho).symm) k2.symm k3.symm
theorem EmN.fs0 (k:EmN g n T (Vc.fs0 s ns b) t b ns e):EmN g n T s t b ns e:=by
 unfold Vc.fs0 at k
 split at k
 ·exact ⟨k.ci,k.ee,k.ba,k.hd,k.pg,k.hx,k.ro,k.hb⟩
 ·exact k
theorem rel_sub (h:SI g n s) (b:Int):∀ i,i<n→(gx (chS s b rB).L i).he=true→(gx s.L i).he=true∧(gx (chS s b rB).L i).ba=(gx s.L i).ba∧(gx (chS s b rB).L i).ow=(gx s.L i).ow∧(0≤b∧b<(n:Int)→i≠b.toNat):=fun i hi hh=>by
 have gg:=chS_gx h b rB
 rw [gg] at hh ⊢
 split at hh
 ·cases hh
 ·rename_i e
  rw [if_neg e]
  exact ⟨hh,rfl,rfl,fun h0 k=>e ⟨h0,k⟩⟩
theorem NI.rel0 (h:NI g n s) (b:Int):StN g n T s (chS s b rB):=by
 have hln:=h.i.ln
 have gg:=chS_gx h.i b rB
 refine ⟨(h.c.ch hln b fun _ _ k=>k.r).of rfl (by show chL b s.L.length rB s.L=_;rw [hln]),fun i hi a=>?_,fun k=>k,fun _ _=>rfl,fun hG=>hG.sub (fun _=>rfl) (fun k=>k) fun i hi hh=>?_,fun k=>k⟩
 ·rw [gg];split
  ·exact a
  ·exact a
 ·obtain ⟨k1,k2,k3,-⟩:=rel_sub h.i b i hi hh
  exact ⟨k1,k2,k3⟩
theorem NI.rel (h:NI g n s) (b ns:Int) (hb:0≤b∧b<(n:Int)):EmN g n T s (chS s b rB) b ns 0:=by
 have k:=h.rel0 (T:=T) b
 refine ⟨k.ci,.inl rfl,k.ba,fun _ m=>?_,fun k=>k,fun _ _=>rfl,fun _=>rfl,fun _ i hi h1 h2=>?_⟩
 ·have:=manyT_le (L:=s.L) (L':=(chS s b rB).L) (m:=ownB m) (m':=ownB m) n fun i hi ho=>by
   obtain ⟨k1,k2,k3,-⟩:=rel_sub h.i b i hi (own_he ho)
   exact own_mk ho (k1.trans (own_he ho).symm) k2.symm k3.symm
  split <;> omega
 ·obtain ⟨k1,k2,k3,k4⟩:=rel_sub h.i b i hi h1
  rw [k2] at h2
  exact ⟨k1,h2,k4 hb⟩
theorem NI.emp (h:NI g n s) (hn:0≤ns∧ns<4) (hb:0≤b∧b<(n:Int)) (ho:(gx s.L b.toNat).ow=ns) (hp:s.C.ops+215040≤1000000000000):EmN g n T s (empP s b ns).1 b ns (empP s b ns).2:=by
 obtain ⟨h1,h2,h3,h4,h5⟩:=h.i.fs0 hn (fun _=>ho)
 have N1:NI g n (Vc.fs0 s ns b):=⟨h1.i,h.c.of h5 h3⟩
 have e:empP s b ns=if inP s.X (4+b)=[] then (chS (Vc.fs0 s ns b) b rB,0) else Vc.empL b ns (inP s.X (4+b)) 256 (Vc.fs0 s ns b):=rfl
 rw [e]
 refine EmN.fs0 ?_
 by_cases hl:inP s.X (4+b)=[]
 ·rw [if_pos hl]
  exact N1.rel b ns hb
 ·rw [if_neg hl]
  have hli:(gx s.L b.toNat).li≠0:=by
   rw [h.i.l.li _ (by omega),show 4+((b.toNat:Nat):Int)=4+b by omega]
   intro e
   exact hl (List.length_eq_zero_iff.1 (by omega))
  have E:EmI g n (Vc.fs0 s ns b) b ns (inP s.X (4+b)):=⟨h1.i,hn,hb,by rw [h4],by rw [h3];exact h.i.l.he _ (by omega) hli,by rw [h3];exact ho,h2⟩
  have hec:=eC256
  have hbd:=(manyT_bd (L:=(Vc.fs0 s ns b).L) (m:=fun x=>x.ba) (Vc.fs0 s ns b).L.length).1
  exact NI.empL 256 E N1.c hl (by show _≤_+manyT _ _ _;omega) (by rw [h5];omega)
theorem EmN.st (k:EmN g n T s t b ns e) (hi:SI g n s) (kt:SI g n t) (hz:∀ ns,(getX t.X ns).n=(getX s.X ns).n) (hb:s.ro=false→(gx s.L b.toNat).ba=false):StN g n T s t:=by
 have hr:t.ro=false→e=0:=fun h0=>k.ee.resolve_right fun h1=>by rw [h0] at h1;cases h1.2
 refine ⟨k.ci,k.ba,k.pg,k.hx,fun hG h0=>?_,fun h0=>by rw [←k.ro (hr h0)];exact h0⟩
 have e0:=hr h0
 have r0:s.ro=false:=by rw [←k.ro e0];exact h0
 obtain ⟨a,c⟩:=hG r0
 refine ⟨fun i hi hh=>?_,fun m=>?_⟩
 ·cases hq:(gx t.L i).ba
  ·rfl
  ·obtain ⟨v1,v2,-⟩:=k.hb e0 i hi hh hq
   rw [a i hi v1] at v2;cases v2
 ·have:=k.hd e0 m
  rw [if_neg (fun q=>by rw [hb r0] at q;cases q.2)] at this
  rw [cap_eq hi kt hz]
  have:=c m
  omega
end
end Go.Proofs.YtbaojfchlhlaeaaGreat.Vc
namespace Go.Proofs.YtbaojfchlhlaeaaGreat.Vc
open Go Go.Eng Go.RowKit
section
variable {g:Geo} {n:Nat} {s t u:SD} {T:Hh→List Int} {b ns e:Int}
theorem StN.fr (h:NI g n s) (ns v:Int):StN g n T s (frS s ns v):=⟨h.c,fun _ _ h=>h,fun h=>h,fun _ _=>rfl,fun h=>h,fun h=>h⟩
theorem NI.clos (h:NI g n s) (hn:0≤ns∧ns<4):NI g n (closP s ns)∧StN g n T s (closP s ns):=by
 have N1:NI g n (frS s ns (-1)):=⟨(h.i.frm hn).i,h.c⟩
 have k0:StN g n T s (frS s ns (-1)):=.fr h ns (-1)
 have q:StN g n T s (closP s ns):=by
  unfold closP
  split
  ·exact k0.trans (N1.rel0 (frG s ns))
  ·exact k0
 exact ⟨⟨(h.i.clos hn).i,q.ci⟩,q⟩
theorem over_ro (s:SD) (h:(overP s).1.ro=false):s.ro=false:=by
 unfold overP at h
 split at h
 ·cases h
 ·exact h
theorem roS_ro (s:SD) (e:Int) (h:(roS s e).ro=false):s.ro=false:=by
 unfold roS at h
 split at h
 ·cases h
 ·exact h
theorem StN.ro' (h:NI g n s) (hC:t.C=s.C) (hL:t.L=s.L) (hX:t.X=s.X) (hr:t.ro=false→s.ro=false):StN g n T s t:=by
 refine ⟨h.c.of hC hL,fun i hi a=>by rw [hL];exact a,fun k=>k.of hX (by rw [hC]) (fun _ _=>by unfold pgC13;rw [hC]) h.i.xo.four,fun m j=>by rw [hX],fun hG=>hG.sub (fun m=>by unfold capS quoS;rw [hC,hX]) hr fun i hi hh=>?_,hr⟩
 rw [hL] at hh ⊢
 exact ⟨hh,rfl,rfl⟩
theorem NI.overN (h:NI g n s):StN g n T s (overP s).1:=by
 have k:=over_f s
 exact .ro' h k.1 k.2.1 k.2.2.2.1 (over_ro s)
theorem left_ro (s:SD) (e:Int) (h:(leftP s e).1.ro=false):s.ro=false:=by
 rcases left_is s e with k | k
 ·rw [k] at h;exact h
 ·rw [k] at h;exact roS_ro s e (over_ro _ h)
theorem NI.leftN (h:NI g n s) (e:Int):StN g n T s (leftP s e).1:=by
 have k:=left_f s e
 exact .ro' h k.1 k.2.1 k.2.2.2.1 (left_ro s e)
theorem NI.live (h:NI g n s) {q:Int×Int} (hq:1≤cntX s.X q):((q.1-4).toNat<n∧4+(((q.1-4).toNat:Nat):Int)=q.1)∧(gx s.L (q.1-4).toNat).he=true:=by
 have hb:=(h.i.l.xb q hq).1
 refine ⟨⟨by omega,by omega⟩,h.i.l.he _ (by omega) fun h0=>?_⟩
 exact h.i.l.none (b:=q.1-4) (by omega) h0 (k:=q) (by omega) hq
theorem NI.opnN (h:NI g n s) (hn:0≤ns∧ns<4) (sl:Bool) (ho:s.C.ops+768≤1000000000000) (hq:s.ro=false→manyT s.L (ownB ns) n+1≤capS s ns) :
  NI g n (opnS ns sl s).1∧StN g n T s (opnS ns sl s).1:=by
 obtain ⟨N1,ee1,no1,ok1,ro1⟩:=h.opn hn sl ho
 obtain ⟨h1,q,x1,f1⟩:=h.i.opn hn (sl:=sl) ho
 refine ⟨N1,N1.c,fun i hi a=>?_,fun hT=>?_,fun m j=>by rw [x1],fun hG h0=>?_,fun k=>by rw [←ro1];exact k⟩
 ·rcases ee1 with e0 | e19
  ·exact (ok1 e0).1.ba i hi a
  ·exact (no1 (by omega)).ba i hi a
 ·refine hT.of x1 (by rw [N1.i.pi.gg,h.i.pi.gg]) (fun q hq=>?_) h.i.xo.four
  obtain ⟨⟨q1,q2⟩,q3⟩:=h.live hq
  have e:opC ns ⟨0,0,0,0,s.ep,u64w (s.op+1)⟩ sl s.C s.L s.O=opnP ns ⟨0,0,0,0,s.ep,u64w (s.op+1)⟩ sl 128 s.C s.L s.O:=if_pos hn
  have e2:(opnS ns sl s).1.C=(opnP ns ⟨0,0,0,0,s.ep,u64w (s.op+1)⟩ sl 128 s.C s.L s.O).1.1:=by rw [←e];rfl
  have:=opn_fr (ns:=ns) (o:=⟨0,0,0,0,s.ep,u64w (s.op+1)⟩) (sl:=sl) 128 (C:=s.C) (O:=s.O) h.i.ln _ q1 q3
  rw [q2,← e2] at this
  unfold pgC13
  rw [this]
 ·have r0:s.ro=false:=by rw [←ro1];exact h0
  obtain ⟨a,c⟩:=hG r0
  have hcap:=cap_eq h.i N1.i h1.sz
  rcases ee1 with e0 | e19
  ·obtain ⟨b1,b2,y,b3,b4⟩:=q.ok e0
   have hk:∀ i,i<n→i≠(opnS ns sl s).2.1.toNat→(gx (opnS ns sl s).1.L i).he=true→(gx s.L i).he=true∧gx (opnS ns sl s).1.L i=gx s.L i:=fun i hi hne hh=>by
    have:=(ok1 e0).1.he i hi (by omega) hh
    exact ⟨this,q.kp i hi this⟩
   refine ⟨fun i hi hh=>?_,fun m=>?_⟩
   ·by_cases e:i=(opnS ns sl s).2.1.toNat
    ·rw [e,b3];exact b4
    ·obtain ⟨k1,k2⟩:=hk i hi e hh
     rw [k2];exact a i hi k1
   ·rw [hcap]
    by_cases em:m=ns
    ·rw [em]
     refine Int.le_trans (manyT_up (L:=s.L) (b:=(opnS ns sl s).2.1.toNat) n fun i hi hne ho=>?_) (hq r0)
     rw [←(hk i hi hne (own_he ho)).2];exact ho
    ·refine Int.le_trans (manyT_le (L:=s.L) (m:=ownB m) n fun i hi ho=>?_) (c m)
     by_cases e:i=(opnS ns sl s).2.1.toNat
     ·exfalso
      rw [e,b3] at ho
      exact em (own_is ho).2.2.symm
     ·rw [←(hk i hi e (own_he ho)).2];exact ho
  ·refine (hG.sub (t:=(opnS ns sl s).1) hcap (fun _=>r0) fun i hi hh=>?_) h0
   have:=(no1 (by omega)).he i hi (by omega) hh
   rw [q.kp i hi this]
   exact ⟨this,rfl,rfl⟩
theorem emp_neg (h:NI g n s) (hn:0≤ns∧ns<4) (hb:b<0):(empP s b ns).2=0∧StN g n T s (empP s b ns).1∧(empP s b ns).1.ro=s.ro:=by
 have hl:inP s.X (4+b)=[]:=inP_nil fun k hk h1=>by
  have:=(h.i.l.xb k h1).1
  omega
 have e:empP s b ns=(chS (Vc.fs0 s ns b) b rB,0):=if_pos hl
 rw [e]
 have e2:∀ s:SD,chS s b rB=s:=fun s=>by
  have:chL b s.L.length rB s.L=s.L:=if_neg (fun k=>by have:0≤b:=k.1;omega)
  unfold chS
  rw [this]
 rw [e2]
 unfold Vc.fs0
 split
 ·exact ⟨rfl,.fr h ns (-1),rfl⟩
 ·exact ⟨rfl,.refl h,rfl⟩
theorem NI.room (h:NI g n s) (hn:0≤ns∧ns<4) (hz:1≤(getX s.X ns).n) (ho:s.C.ops+215040≤1000000000000) :
  NI g n (roomP s ns).1∧StN g n T s (roomP s ns).1∧((roomP s ns).2=0∨((roomP s ns).2=15∧(roomP s ns).1.ro=true))∧((roomP s ns).2=0→(roomP s ns).1.ro=s.ro):=by
 obtain ⟨N1,S1⟩:=h.clos (T:=T) hn
 have hI:=h.i.room hn ho
 have hcl:=h.i.clos hn
 have hc:=clos_f s ns
 have hro:(closP s ns).ro=s.ro:=by unfold closP;split <;> rfl
 suffices k:StN g n T (closP s ns) (roomP s ns).1∧((roomP s ns).2=0∨((roomP s ns).2=15∧(roomP s ns).1.ro=true))∧((roomP s ns).2=0→(roomP s ns).1.ro=s.ro) from ⟨⟨hI.i,k.1.ci⟩,S1.trans k.1,k.2.1,k.2.2⟩
 unfold roomP
 split
 ·have e:s.L.length=(closP s ns).L.length:=by rw [N1.i.ln,h.i.ln]
  rw [e]
  have hv:=vict_bd (L:=(closP s ns).L) (ns:=ns) (bu:=-1)
  rw [N1.i.ln] at hv
  by_cases hb:0≤victT (closP s ns).L ns (-1) (closP s ns).L.length
  ·have hw:=own_is (vict_is N1.i.ln hb)
   rw [N1.i.ln] at hb hw ⊢
   have E:=N1.emp (T:=T) hn ⟨hb,hv.2⟩ hw.2.2 (by rw [hc.1];exact ho)
   have EI:=(N1.i.emp (b:=victT (closP s ns).L ns (-1) n) hn hv.2 (fun _=>hw.2.2) (by rw [hc.1];exact ho)).1
   exact ⟨E.st N1.i EI.i EI.sz (fun _=>hw.2.1),E.ee,fun k=>(E.ro k).trans hro⟩
  ·obtain ⟨k1,k2,k3⟩:=emp_neg (T:=T) N1 hn (b:=victT (closP s ns).L ns (-1) (closP s ns).L.length) (by omega)
   exact ⟨k2,.inl k1,fun _=>k3.trans hro⟩
 ·rename_i hlt
  have hcap:capS (closP s ns) ns=quoS s ns-1:=by
   rw [cap_eq h.i N1.i hcl.sz]
   unfold capS
   rw [if_neg (by omega)]
  have hh:heldS (closP s ns) ns=manyT (closP s ns).L (ownB ns) n:=by unfold heldS;rw [N1.i.ln]
  obtain ⟨N2,S2⟩:=N1.opnN (T:=T) hn true (by rw [hc.1];omega) fun _=>by rw [hcap,← hh];omega
  obtain ⟨-,ee,-⟩:=N1.opn hn true (by rw [hc.1];omega)
  have ro2:(opnS ns true (closP s ns)).1.ro=s.ro:=hro
  obtain ⟨a1,q,x1,f1⟩:=N1.i.opn hn (sl:=true) (by rw [hc.1];omega)
  dsimp only
  have a2:St g n 0 (opnS ns true (closP s ns)).1 (if (opnS ns true (closP s ns)).2.2=0 then frS (opnS ns true (closP s ns)).1 ns (opnS ns true (closP s ns)).2.1 else (opnS ns true (closP s ns)).1):=by
   split
   ·rename_i he
    obtain ⟨b1,b2,y,b3,b4⟩:=q.ok he
    exact a1.i.fr hn (.inr ⟨b1,by rw [b3];rfl,by rw [b3];show ns=_;omega⟩)
   ·exact .refl a1.i
  have S3:StN g n T (opnS ns true (closP s ns)).1 (if (opnS ns true (closP s ns)).2.2=0 then frS (opnS ns true (closP s ns)).1 ns (opnS ns true (closP s ns)).2.1 else (opnS ns true (closP s ns)).1):=by
   split
   ·exact .fr N2 _ _
   ·exact .refl N2
  have ro3:(if (opnS ns true (closP s ns)).2.2=0 then frS (opnS ns true (closP s ns)).1 ns (opnS ns true (closP s ns)).2.1 else (opnS ns true (closP s ns)).1).ro=s.ro:=by
   split <;> exact ro2
  generalize (if (opnS ns true (closP s ns)).2.2=0 then frS (opnS ns true (closP s ns)).1 ns (opnS ns true (closP s ns)).2.1 else (opnS ns true (closP s ns)).1)=f at a2 S3 ro3 ⊢
  have N3:NI g n f:=⟨a2.i,S3.ci⟩
  refine ⟨(S2.trans S3).trans (N3.leftN _),?_,fun k=>?_⟩
  ·rcases left_e f ee with ⟨k,-⟩ | k
   ·exact .inl k
   ·exact .inr k
  ·rcases left_e f ee with ⟨k1,k2,k3,k4,k5⟩ | ⟨k1,k2⟩
   ·rw [k3];exact ro3
   ·rw [k] at k1;cases k1
end
end Go.Proofs.YtbaojfchlhlaeaaGreat.Vc
namespace Go.Proofs.YtbaojfchlhlaeaaGreat.Vc
open Go Go.Eng Go.RowKit
section
variable {g:Geo} {n:Nat} {s t u:SD} {T:Hh→List Int} {b ns e:Int}
theorem NI.fai (h:NI g n s) (hn:0≤ns∧ns<4) (h0:0≤frG s ns) (hp:s.C.ops+215042≤1000000000000) :
  NI g n (faiP s ns).1∧StN g n T s (faiP s ns).1∧((faiP s ns).2=0∨((faiP s ns).2=15∧(faiP s ns).1.ro=true))∧((faiP s ns).2=0→(faiP s ns).1.ro=false):=by
 have hb:=(h.i.fG hn).resolve_left (by omega)
 have hI:=h.i.fai hn h0 hp
 have h1:=h.i.frm hn
 have N1:NI g n (frS s ns (-1)):=⟨h1.i,h.c⟩
 have h2:=h1.i.f (frG s ns)
 unfold faiP at hI ⊢
 dsimp only at hI ⊢
 generalize frG s ns=b at hb h0 h2 hI ⊢
 have hln:=h.i.ln
 have N2:NI g n (chS (frS s ns (-1)) b fB):=⟨h2.i,(h.c.ch hln b fun _ _ k=>k.f).of rfl (by show chL b s.L.length fB s.L=_;rw [hln])⟩
 have k3:=over_f (chS (frS s ns (-1)) b fB)
 have r3:=over_ro (chS (frS s ns (-1)) b fB)
 have N3:=N2.over
 have h3:=h2.i.over
 have L3:(overP (chS (frS s ns (-1)) b fB)).1.L=chL b n fB s.L:=by rw [k3.2.1];show chL b s.L.length fB s.L=_;rw [hln]
 have ov:=over_e (chS (frS s ns (-1)) b fB)
 have S3:=N2.overN (T:=T)
 have z3:=((h1.trans h2).trans h3)
 generalize overP (chS (frS s ns (-1)) b fB)=o at hI k3 r3 N3 h3 L3 ov S3 z3 ⊢
 have g3:∀ i,gx o.1.L i=if (0≤b∧b<(n:Int))∧i=b.toNat then fB (gx s.L i) else gx s.L i:=fun i=>by rw [L3,gx_ch hln]
 have g3b:gx o.1.L b.toNat=fB (gx s.L b.toNat):=by rw [g3,if_pos ⟨hb.1,rfl⟩]
 have ba3:∀ i,i<n→(gx s.L i).ba=true→(gx o.1.L i).ba=true:=fun i hi a=>by
  rw [g3];split
  ·rfl
  ·exact a
 have pg3:PGI T s→PGI T o.1:=fun k=>S3.pg k
 have hx3:∀ m j,hdX o.1.X m j=hdX s.X m j:=fun m j=>S3.hx m j
 have bad:∀ {t:SD},t.ro=true→GD n s→GD n t:=fun hr _ h0=>by rw [hr] at h0;cases h0
 split
 ·rename_i ho
  rcases ov with ⟨k,-⟩ | ⟨k1,k2⟩
  ·exact absurd k ho
  ·rw [if_pos ho] at hI
   exact ⟨⟨hI.i,N3.c⟩,⟨N3.c,ba3,pg3,hx3,bad k2,r3⟩,.inr ⟨k1,k2⟩,fun k=>absurd k ho⟩
 rename_i ho
 have ho:o.2=0:=Classical.byContradiction ho
 rw [if_neg (by rw [ho];decide)] at hI
 have hop:=z3.o2
 have E:=N3.emp (T:=T) hn hb.1 (by rw [g3b];exact hb.2.2) (by omega)
 obtain ⟨e1,e2⟩:=N3.i.emp (b:=b) hn hb.1.2 (fun _=>by rw [g3b];exact hb.2.2) (by omega)
 generalize empP o.1 b ns=ee at hI E e1 e2 ⊢
 have baE:∀ i,i<n→(gx s.L i).ba=true→(gx ee.1.L i).ba=true:=fun i hi a=>E.ba i hi (ba3 i hi a)
 split
 ·rename_i he
  rw [if_pos he] at hI
  have k:=E.ee.resolve_left he
  exact ⟨⟨hI.i,E.ci⟩,⟨E.ci,baE,fun a=>E.pg (pg3 a),fun m j=>(E.hx m j).trans (hx3 m j),bad k.2,fun k2=>by rw [k.2] at k2;cases k2⟩,.inr k,fun k=>absurd k he⟩
 rename_i he
 have he:ee.2=0:=Classical.byContradiction he
 rw [if_neg (by rw [he];decide)] at hI
 have hoe:=e1.o2
 have NE:NI g n ee.1:=⟨e1.i,E.ci⟩
 have hhe:=e2 he hb.1.1
 obtain ⟨d1,d2,d3,d4,d5,d6,d7⟩:=NE.dst hb.1 hhe (by omega)
 obtain ⟨sd,sdx,sdf⟩:=e1.i.dst (b:=b) (fun _=>hhe) (by omega)
 have pgD:PGI T ee.1→PGI T (dstS ee.1 b).1:=fun hT=>by
  refine hT.of sdx (by rw [d1.i.pi.gg,NE.i.pi.gg]) (fun q hq=>?_) NE.i.xo.four
  have hq2:=(NE.i.l.xb q hq).1
  have hne:q.1≠4+b:=fun e=>NE.i.l.none hb.1 (NE.i.l.free (by omega) hhe) (k:=q) e hq
  have eC:(dstS ee.1 b).1.C=(dstP ee.1.C ee.1.L b).1:=by
   have e:dstS ee.1 b=((overP {ee.1 with C:=(dstP ee.1.C ee.1.L b).1,L:=(dstP ee.1.C ee.1.L b).2.1}).1,(dstP ee.1.C ee.1.L b).2.2):=by unfold dstS;rw [if_pos (by rw [e1.i.ln];exact hb.1)]
   rw [e]
   exact (over_f {ee.1 with C:=(dstP ee.1.C ee.1.L b).1,L:=(dstP ee.1.C ee.1.L b).2.1}).1
  unfold pgC13
  rw [eC,dst_blk _ _ _ (by omega)]
 generalize dstS ee.1 b=d at hI d1 d2 d3 d4 d5 d6 d7 sd sdx sdf pgD ⊢
 have hd4:¬ d.2=4:=by omega
 rw [if_neg hd4] at hI ⊢
 have kf:=over_f d.1
 have S5:=d1.overN (T:=T)
 have o5:=over_e d.1
 have r5:=over_ro d.1
 generalize overP d.1=f at hI kf S5 o5 r5 ⊢
 have hr:f.1.ro=false→s.ro=false:=fun k=>r3 (by rw [←E.ro he];exact d7 (r5 k))
 refine ⟨⟨hI.i,S5.ci⟩,⟨S5.ci,fun i hi a=>S5.ba i hi (d3.ba i hi (baE i hi a)),fun a=>S5.pg (pgD (E.pg (pg3 a))),fun m j=>(S5.hx m j).trans (by rw [sdx];exact (E.hx m j).trans (hx3 m j)),fun hG k=>?_,hr⟩,?_,fun k=>?_⟩
 ·obtain ⟨a,c⟩:=hG (hr k)
  have hba:=a b.toNat (by omega) hb.2.1
  have sub:∀ i,i<n→(gx f.1.L i).he=true→gx f.1.L i=gx ee.1.L i∧i≠b.toNat:=fun i hi hh=>by
   rw [kf.2.1] at hh ⊢
   have hne:i≠b.toNat:=fun e=>by rw [e,d5] at hh;cases hh
   exact ⟨d4 i hne,hne⟩
  refine ⟨fun i hi hh=>?_,fun m=>?_⟩
  ·obtain ⟨k1,k2⟩:=sub i hi hh
   cases hq:(gx f.1.L i).ba
   ·rfl
   ·rw [k1] at hh hq
    obtain ⟨v1,v2,v3⟩:=E.hb he i hi hh hq
    rw [g3,if_neg (fun k=>v3 k.2)] at v1 v2
    rw [a i hi v1] at v2
    cases v2
  ·rw [cap_eq h.i hI.i hI.sz]
   have l1:=manyT_le (L:=ee.1.L) (L':=f.1.L) (m:=ownB m) (m':=ownB m) n fun i hi ho=>by
    rw [←(sub i hi (own_he ho)).1];exact ho
   have l2:=E.hd he m
   have c2:=c m
   by_cases em:m=ns
   ·have l3:=manyT_lt (L:=o.1.L) (L':=s.L) (m:=ownB m) (b:=b.toNat) n (by omega) (fun i hi ho=>by
     rw [g3] at ho
     split at ho
     ·have:=(own_is ho).2.1
      cases this
     ·exact ho) (by rw [g3b];unfold ownB fB;simp) (by unfold ownB;rw [hb.2.1,hba,hb.2.2,em];simp)
    split at l2 <;> omega
   ·have l3:=manyT_le (L:=s.L) (L':=o.1.L) (m:=ownB m) (m':=ownB m) n fun i hi ho=>by
     rw [g3] at ho
     split at ho
     ·have:=(own_is ho).2.1
      cases this
     ·exact ho
    rw [if_neg (fun k=>em k.1)] at l2
    omega
 ·rcases o5 with ⟨k,-⟩ | k
  ·exact .inl k
  ·exact .inr k
 ·rcases o5 with ⟨-,k2,k3,-⟩ | ⟨k1,-⟩
  ·rw [k2];exact k3
  ·rw [k] at k1;cases k1
def pgW (g:Geo) (hd:Hd) (xs tg:List Int):List Int:=andL (andL (List.replicate (szP g) 255) (mkL g hd xs tg)) (comL g)
theorem mkL_lenA {g:Geo} (hg:0≤g.s) {hd:Hd} {xs tg:List Int} (lx:xs.length=0∨(xs.length:Int)=g.s) (lt:tg.length=0∨tg.length=32):(mkL g hd xs tg).length=g.s.toNat+88:=by
 unfold mkL payL
 rw [List.length_append,endL_length _ lt]
 split
 ·rw [List.length_replicate]
 ·omega
theorem NI.wr1 (h:NI g n s) (hn:0≤ns∧ns<4) (hf:¬ fulP s ns) (hG:GD n s) (h0:s.ro=false) {hd:Hd} {xs tg:List Int} (hr:hd.rng) (hR:HRight hd) (bx:Byt xs) (bt:Byt tg) (lx:xs.length=0∨(xs.length:Int)=g.s) (lt:tg.length=0∨tg.length=32) (hp:s.C.ops+2≤1000000000000) :
  NI g n (wr1 s ns hd xs tg).1∧StN g n T s (wr1 s ns hd xs tg).1∧((wr1 s ns hd xs tg).2=0∨(wr1 s ns hd xs tg).2=5)∧(wr1 s ns hd xs tg).1.ro=s.ro∧((wr1 s ns hd xs tg).2=0→pgC13 (wr1 s ns hd xs tg).1.C (plc s ns).1 (plc s ns).2=pgW g hd xs tg):=by
 obtain ⟨h1,x1,f1,l1⟩:=h.i.wr1 hn hf (hd:=hd) hr bx bt hp
 have hb:=ful_not h.i hn hf
 have hba:=(hG h0).1 _ (by omega) hb.2.1
 have hln:=h.i.ln
 have hgg:=h.i.pi.gg
 have hnum:=h.i.pi.ok.num
 have eu:(gx (chS s (frG s ns) uB).L (frG s ns).toNat).us=(gx s.L (frG s ns).toNat).us+1:=by rw [chS_gx h.i,if_pos ⟨hb.1,rfl⟩];rfl
 have eW:wrtT s.L.length s.C (frG s ns) (gx (chS s (frG s ns) uB).L (frG s ns).toNat).us hd xs tg=prgP s.C (4+frG s ns) ((gx s.L (frG s ns).toNat).us+1) (mkL s.C.g hd xs tg):=by
  unfold wrtT
  rw [if_pos (by rw [hln];exact hb.1),if_pos hR,eu]
 have eC:(Vc.wr1 s ns hd xs tg).1.C=(prgP s.C (4+frG s ns) ((gx s.L (frG s ns).toNat).us+1) (mkL g hd xs tg)).1:=by
  rw [←hgg,← eW];rfl
 have eE:(Vc.wr1 s ns hd xs tg).2=(prgP s.C (4+frG s ns) ((gx s.L (frG s ns).toNat).us+1) (mkL g hd xs tg)).2:=by
  rw [←hgg,← eW];rfl
 have U:=h.use hb.1 hb.2.1 hba hb.2.2.2 (mkL_byt (g:=g) hr hR bx bt) (by rw [mkL_lenA (by rw [←hgg];omega) lx lt];unfold szP;rw [hgg] at hnum;omega) hp eC l1
 rw [←eE] at U
 have hro:(Vc.wr1 s ns hd xs tg).1.ro=s.ro:=rfl
 generalize Vc.wr1 s ns hd xs tg=R at h1 x1 f1 l1 eC eE U hro ⊢
 have gi:∀ i,gx R.1.L i=if (0≤frG s ns∧frG s ns<(n:Int))∧i=(frG s ns).toNat then uB (gx s.L i) else gx s.L i:=fun i=>by rw [l1,gx_ch hln]
 refine ⟨⟨h1.i,U.ni⟩,⟨U.ni,fun i hi a=>?_,fun hT=>?_,fun m j=>by rw [x1],fun hG2=>hG2.sub (cap_eq h.i h1.i h1.sz) (fun k=>by rw [←hro];exact k) fun i hi hh=>?_,fun k=>by rw [←hro];exact k⟩,U.ee,hro,fun k=>?_⟩
 ·rw [gi];split
  ·exact a
  ·exact a
 ·refine hT.of x1 (by rw [h1.i.pi.gg,hgg]) (fun q hq=>?_) h.i.xo.four
  have hq2:=(h.i.l.xb q hq).1
  have hq3:=(h.i.l.xb q hq).2
  by_cases e:q.1=4+frG s ns
  ·have:=h.i.l.pu q hq
   rw [show (q.1-4).toNat=(frG s ns).toNat by omega] at this
   unfold pgC13
   rw [e]
   exact U.pg _ (by omega)
  ·unfold pgC13
   rw [U.oth q.1 (by omega)]
 ·rw [gi] at hh ⊢
  split at hh
  ·rename_i e
   rw [if_pos e]
   exact ⟨hh,rfl,rfl⟩
  ·rename_i e
   rw [if_neg e]
   exact ⟨hh,rfl,rfl⟩
 ·exact U.ok k
structure WrN (g:Geo) (n:Nat) (T:Hh→List Int) (s t:SD) (at_:Int×Int) (P:List Int) (e:Int):Prop where
 st:StN g n T s t
 ok:e=0→t.ro=false∧pgC13 t.C at_.1 at_.2=P
theorem NI.wr (hn:0≤ns∧ns<4) {hd:Hd} {xs tg:List Int} (hr:hd.rng) (hR:HRight hd) (bx:Byt xs) (bt:Byt tg) (lx:xs.length=0∨(xs.length:Int)=g.s) (lt:tg.length=0∨tg.length=32):∀ (k:Nat) {s:SD},NI g n s→GD n s→s.ro=false→1≤(getX s.X ns).n→s.C.ops+wC k≤1000000000000 →
  WrN g n T s (wrP ns hd xs tg k s).1 (wrP ns hd xs tg k s).2.1 (pgW g hd xs tg) (wrP ns hd xs tg k s).2.2
 | 0,s,h,_,_,_,_=>⟨.refl h,fun e=>by cases e⟩
 | k+1,s,h,hG,h0,hz,ho=>by
  have hwc:=wCs k
  unfold wrP
  dsimp only
  by_cases hf:fulP s ns
  ·rw [if_pos hf]
   obtain ⟨N1,S1,e1,r1⟩:=h.room (T:=T) hn hz (by omega)
   have h1:=h.i.room hn (by omega)
   have o1:=h1.o2
   split
   ·rename_i he
    exact ⟨S1,fun e=>absurd e he⟩
   ·rename_i he
    have he:(roomP s ns).2=0:=Classical.byContradiction he
    have R:=NI.wr hn hr hR bx bt lx lt k N1 (S1.gd hG) (by rw [r1 he];exact h0) (by rw [h1.sz];exact hz) (by omega)
    exact ⟨S1.trans R.st,R.ok⟩
  ·rw [if_neg hf]
   obtain ⟨N1,S1,e1,r1,p1⟩:=h.wr1 (T:=T) hn hf hG h0 hr hR bx bt lx lt (by omega)
   obtain ⟨h1,x1,f1,l1⟩:=h.i.wr1 hn hf (hd:=hd) hr bx bt (xs:=xs) (tg:=tg) (by omega)
   have hb:=ful_not h.i hn hf
   have fG:frG (Vc.wr1 s ns hd xs tg).1 ns=frG s ns:=by show (Vc.wr1 s ns hd xs tg).1.fr.getD _ _=_;rw [f1];rfl
   have o1:=h1.o2
   split
   ·rename_i he
    exact ⟨S1,fun _=>⟨r1.trans h0,p1 he⟩⟩
   ·rename_i hne
    split
    ·obtain ⟨N2,S2,e2,r2⟩:=N1.fai (T:=T) hn (by rw [fG];exact hb.1.1) (by omega)
     have a1:=h1.i.fai hn (by rw [fG];exact hb.1.1) (by omega)
     have o2:=a1.o2
     split
     ·rename_i he
      exact ⟨S1.trans S2,fun e=>absurd e he⟩
     ·rename_i he
      have he:(faiP (Vc.wr1 s ns hd xs tg).1 ns).2=0:=Classical.byContradiction he
      have R:=NI.wr hn hr hR bx bt lx lt k N2 (S2.gd (S1.gd hG)) (r2 he) (by rw [a1.sz,h1.sz];exact hz) (by omega)
      exact ⟨(S1.trans S2).trans R.st,R.ok⟩
    ·exact ⟨S1,fun e=>absurd e hne⟩
end
end Go.Proofs.YtbaojfchlhlaeaaGreat.Vc
namespace Go.Proofs.YtbaojfchlhlaeaaGreat.Vc
open Go Go.Eng Go.RowKit
structure LeL (L L':List Blk):Prop where
 len:L'.length=L.length
 ba:∀ i,(gx L' i).ba=(gx L i).ba
 ow:∀ i,(gx L' i).ow=(gx L i).ow
 he:∀ i,(gx L' i).he=true→(gx L i).he=true
theorem LeL.refl (L:List Blk):LeL L L:=⟨rfl,fun _=>rfl,fun _=>rfl,fun _ h=>h⟩
theorem LeL.trans {L1 L2 L3:List Blk} (h:LeL L1 L2) (k:LeL L2 L3):LeL L1 L3:=⟨k.len.trans h.len,fun i=>(k.ba i).trans (h.ba i),fun i=>(k.ow i).trans (h.ow i),fun i a=>h.he i (k.he i a)⟩
theorem LeL.ch (L:List Blk) (b:Int) {φ:Blk→Blk} (h1:∀ x,(φ x).ba=x.ba) (h2:∀ x,(φ x).ow=x.ow) (h3:∀ x,(φ x).he=true→x.he=true):LeL L (chL b L.length φ L):=by
 refine ⟨chL_len ..,fun i=>?_,fun i=>?_,fun i=>?_⟩ <;> rw [gx_ch rfl] <;> split
 ·exact h1 _
 ·rfl
 ·exact h2 _
 ·rfl
 ·exact h3 _
 ·exact fun h=>h
section
variable {g:Geo} {n:Nat} {s t u:SD} {T:Hh→List Int} {b ns e:Int}
theorem ded1_L (s:SD) (k:Int×Int):LeL s.L (ded1 s k).L∧(CI n (-1) s.C s.L→s.L.length=n→CI n (-1) s.C (ded1 s k).L):=by
 have a:=LeL.ch s.L (k.1-4) (φ:=cB (-1)) (fun _=>rfl) (fun _=>rfl) (fun _ h=>h)
 have c:CI n (-1) s.C s.L→s.L.length=n→CI n (-1) s.C (chL (k.1-4) s.L.length (cB (-1)) s.L):=fun h hl=>by
  rw [hl];exact h.ch hl _ fun _ _ k=>k.c _
 unfold ded1
 dsimp only
 split
 ·have a2:=LeL.ch (chL (k.1-4) s.L.length (cB (-1)) s.L) (k.1-4) (φ:=rB) (fun _=>rfl) (fun _=>rfl) (fun _ h=>by cases h)
  refine ⟨a.trans a2,fun h hl=>?_⟩
  have c1:=c h hl
  have l1:(chL (k.1-4) s.L.length (cB (-1)) s.L).length=n:=by rw [chL_len];exact hl
  show CI n (-1) s.C (chL (k.1-4) (chL (k.1-4) s.L.length (cB (-1)) s.L).length rB _)
  rw [l1]
  exact c1.ch l1 _ fun _ _ k=>k.r
 ·exact ⟨a,c⟩
theorem ded_L:∀ (l:List (Int×Int)) (s:SD),LeL s.L (dedP l s).L∧(CI n (-1) s.C s.L→s.L.length=n→CI n (-1) s.C (dedP l s).L)
 | [],s=>⟨.refl _,fun h _=>h⟩
 | k::l,s=>by
  have h1:=ded1_L (n:=n) s k
  have hC:(ded1 s k).C=s.C:=by unfold ded1;dsimp only;split <;> rfl
  have h2:=ded_L l (ded1 s k)
  refine ⟨h1.1.trans h2.1,fun h hl=>?_⟩
  have:=h2.2 (by rw [hC];exact h1.2 h hl) (h1.1.len.trans hl)
  rw [hC] at this
  exact this
theorem lnd_L (s:SD) (hd:Hd) (at_:Int×Int):LeL s.L (lndP s hd at_).L∧(CI n (-1) s.C s.L→s.L.length=n→CI n (-1) s.C (lndP s hd at_).L):=by
 have k1:LeL s.L (lnd1 s hd at_).L∧(CI n (-1) s.C s.L→s.L.length=n→CI n (-1) s.C (lnd1 s hd at_).L):=by
  unfold lnd1
  split
  ·refine ⟨LeL.ch s.L (at_.1-4) (φ:=cB 1) (fun _=>rfl) (fun _=>rfl) (fun _ h=>h),fun h hl=>?_⟩
   show CI n (-1) s.C (chL (at_.1-4) s.L.length (cB 1) s.L)
   rw [hl];exact h.ch hl _ fun _ _ k=>k.c _
  ·exact ⟨.refl _,fun h _=>h⟩
 have k2:=ded_L (n:=n) (gonP s.X (lndX s hd at_)) (lnd1 s hd at_)
 have hC:=(lnd1_f s hd at_).1
 refine ⟨k1.1.trans k2.1,fun h hl=>?_⟩
 have:=k2.2 (by rw [hC];exact k1.2 h hl) (k1.1.len.trans hl)
 rw [hC] at this
 exact this
def Fresh (s:SD) (hd:Hd):Prop:=∀ m j h,hdX s.X m j=some h→lesH h hd.hh
def spk (hd:Hd) (m:Int) (j:Nat):Prop:=m=hd.n∧hd.l≤(j:Int)∧(j:Int)<hd.l+hd.c
instance (hd:Hd) (m:Int) (j:Nat):Decidable (spk hd m j):=by unfold spk;infer_instance
instance:DecidableEq Hh:=fun a b=>by
 cases a;cases b
 simp only [Hh.mk.injEq]
 infer_instance
def updT (T:Hh→List Int) (hd:Hd) (P:List Int):Hh→List Int:=fun h=>if h=hd.hh then P else T h
theorem hdX_fresh {hd:Hd} (hF:Fresh s hd) {m:Int} {j:Nat} {c:Ce} (hj:(getX s.X m).l[j]? = some c) (hc:c.has=true):lesH c.s.h hd.hh:=by
 refine hF m j c.s.h ?_
 unfold hdX
 rw [hj]
 exact if_pos hc
structure PutN (g:Geo) (n:Nat) (T:Hh→List Int) (s t:SD) (hd:Hd) (P:List Int) (e:Int):Prop where
 ni:NI g n t
 gd:GD n s→GD n t
 pg:PGI T s→Fresh s hd→PGI (if e=0 then updT T hd P else T) t
 hx:Fresh s hd→∀ m j,hdX t.X m j=if e=0∧spk hd m j then some hd.hh else hdX s.X m j
 h0:∀ m j h,hdX t.X m j=some h→h=hd.hh∨hdX s.X m j=some h
 ro:t.ro=false→s.ro=false
theorem lesH_irr (a:Hh):¬ lesH a a:=fun h=>by unfold lesH at h;omega
theorem NI.put (h:NI g n s) (hG:GD n s) {hd:Hd} {xs tg:List Int} (hr:hd.rng) (hR:mayP s hd→HRight hd) (bx:Byt xs) (bt:Byt tg) (lx:xs.length=0∨(xs.length:Int)=g.s) (lt:tg.length=0∨tg.length=32) (hP:mayP s hd→cpB g (pgW g hd xs tg)=pgW g hd xs tg) (ho:s.C.ops+55051264≤1000000000000) :
  PutN g n T s (putS s hd xs tg).1 hd (pgW g hd xs tg) (putS s hd xs tg).2:=by
 have hI:=h.i.put hr bx bt (xs:=xs) (tg:=tg) ho
 have same:∀ e:Int,e≠0→PutN g n T s s hd (pgW g hd xs tg) e:=fun e he=>⟨h,fun k=>k,fun k _=>by rw [if_neg he];exact k,fun _ m j=>by rw [if_neg (fun k=>he k.1)],fun m j h k=>.inr k,fun k=>k⟩
 unfold putS at hI ⊢
 by_cases hm:mayP s hd
 case neg=>rw [if_pos hm];exact same 2 (by decide)
 rw [if_neg (fun k=>k hm)] at hI ⊢
 by_cases hro:s.ro=true
 ·rw [if_pos hro];exact same 15 (by decide)
 rw [if_neg hro] at hI ⊢
 have hro:s.ro=false:=Bool.eq_false_iff.2 hro
 have hn:=may_ns hm
 have hwc:=wC256
 obtain ⟨a1,a2⟩:=SI.wr hn hr bx bt (xs:=xs) (tg:=tg) 256 h.i (by omega)
 have W:=NI.wr (T:=T) (ns:=hd.n) hn hr (hR hm) bx bt lx lt 256 h hG hro (by have:=hm.2.1;have:=hm.2.2.1;omega) (by omega)
 dsimp only at hI ⊢
 by_cases he:(wrP hd.n hd xs tg 256 s).2.2≠0
 ·rw [if_pos he] at hI ⊢
  exact ⟨⟨hI.i,W.st.ci⟩,W.st.gd,fun k _=>by rw [if_neg he];exact W.st.pg k,fun _ m j=>by rw [if_neg (fun k=>he k.1)];exact W.st.hx m j,fun m j h k=>.inr (by rw [←W.st.hx];exact k),W.st.ro⟩
 rw [if_neg he] at hI ⊢
 have he:(wrP hd.n hd xs tg 256 s).2.2=0:=Classical.byContradiction he
 have hA:=a2 he
 obtain ⟨w1,w2⟩:=W.ok he
 have N1:NI g n (wrP hd.n hd xs tg 256 s).1:=⟨a1.i,W.st.ci⟩
 have hm2:mayP (wrP hd.n hd xs tg 256 s).1 hd:=(may_sz a1.sz).2 hm
 have WS:=W.st
 generalize (wrP hd.n hd xs tg 256 s).2.1=at_ at hI hA w2 ⊢
 generalize (wrP hd.n hd xs tg 256 s).1=r at hI a1 hA w1 w2 N1 hm2 WS ⊢
 obtain ⟨b0,b1,b2,b3,b4,b5,b6,b7,b8⟩:=a1.i.lnd hA hm2 hr hn
 obtain ⟨l1,l2⟩:=lnd_L (n:=n) r hd at_
 have P:PuX r hd at_ (lndX r hd at_):=a1.i.pux hm2 hr hn at_
 dsimp only at hI ⊢
 have NI':NI g n (lndP r hd at_):=⟨b0,by rw [b1];exact l2 N1.c N1.i.ln⟩
 have lo:0≤hd.l:=hr.1.1
 have nc:1≤hd.c:=hm.2.1
 have fr':Fresh s hd→Fresh r hd:=fun hF m j h k=>hF m j h (by rw [←WS.hx];exact k)
 refine ⟨NI',fun hG2=>(WS.gd hG2).sub (cap_eq a1.i b0 fun ns=>by rw [b2];exact P.sz ns) (fun k=>by rw [←b8];exact k) fun i hi hh=>⟨l1.he i hh,l1.ba i,l1.ow i⟩,fun hT hF=>?_,fun hF m j=>?_,fun m j h k=>?_,fun k=>WS.ro (by rw [←b8];exact k)⟩
 ·rw [if_pos rfl]
  have hF:=fr' hF
  have hT:=WS.pg hT
  intro m j c hmm hj hc
  rw [b2] at hj
  rw [b1]
  unfold updT
  rcases P.cl m j c hj with e | ⟨-,e⟩
  ·have hl:=hdX_fresh hF e hc
   rw [if_neg (fun k=>by rw [k] at hl;exact lesH_irr _ hl)]
   exact hT m j c hmm e hc
  ·subst e
   show pgC13 r.C at_.1 at_.2=(if hd.hh=hd.hh then _ else _)∧cpB r.C.g (if hd.hh=hd.hh then _ else _)=(if hd.hh=hd.hh then _ else _)
   rw [if_pos rfl,a1.i.pi.gg]
   exact ⟨w2,hP hm⟩
 ·have hF:=fr' hF
  have hI:(getX (lndX r hd at_) m).l[j]? = if m=hd.n∧hd.l.toNat≤j∧j<hd.l.toNat+hd.c.toNat then ((getX r.X m).l[j]?).map (putC (sptS r hd at_)) else (getX r.X m).l[j]?:=P.I.cell m j
  rw [←WS.hx]
  unfold hdX
  rw [b2,hI]
  by_cases hs:spk hd m j
  ·rw [if_pos (show (0:Int)=0∧spk hd m j from ⟨rfl,hs⟩),if_pos (show m=hd.n∧hd.l.toNat≤j∧j<hd.l.toNat+hd.c.toNat from ⟨hs.1,by have:=hs.2;omega,by have:=hs.2;omega⟩)]
   have hsz:j<(getX r.X m).l.length:=by
    have:=hm2.2.2.2
    have:=hs.2
    have hlen:=(a1.i.xo.get m).1
    rw [hs.1] at *
    omega
   rw [List.getElem?_eq_getElem hsz]
   show (if (putC (sptS r hd at_) (getX r.X m).l[j]).has=true then some (putC (sptS r hd at_) (getX r.X m).l[j]).s.h else none)=some hd.hh
   unfold putC
   split
   ·rename_i k
    exfalso
    have:=hdX_fresh hF (List.getElem?_eq_getElem hsz) k.1
    exact k.2 (.inl this)
   ·rfl
  ·rw [if_neg (fun k=>hs ⟨k.1,by omega,by omega⟩),if_neg (fun k=>hs k.2)]
 ·rw [b2] at k
  unfold hdX at k
  cases hq:(getX (lndX r hd at_) m).l[j]? with
  | none=>rw [hq] at k;cases k
  | some c=>
   rw [hq] at k
   dsimp only at k
   split at k
   ·rename_i hc
    rcases P.cl m j c hq with e | ⟨-,e⟩
    ·refine .inr ?_
     rw [←WS.hx]
     unfold hdX
     rw [e]
     dsimp only
     rw [if_pos hc]
     exact k
    ·subst e
     exact .inl (Option.some.inj k).symm
   ·cases k
end
end Go.Proofs.YtbaojfchlhlaeaaGreat.Vc
namespace Go.Proofs.YtbaojfchlhlaeaaGreat.Vc
open Go Go.Eng Go.RowKit
theorem bit255v:∀ i:Fin 8,bitB 255 i.val=true:=by decide
theorem and_ffs {n:Nat} {b:List Int} (bb:Byt b) (hl:b.length=n):andL (List.replicate n 255) b=b:=by
 refine cl_of (Byt.replicate (by decide) (by decide) _) bb (by rw [List.length_replicate,hl]) fun i hi' _=>?_
 rw [List.length_replicate] at hi'
 unfold hasL
 rw [List.getD_eq_getElem?_getD,List.getElem?_replicate,if_pos (by omega)]
 exact bit255v ⟨i % 8,Nat.mod_lt _ (by decide)⟩
section
variable {g:Geo} {hd:Hd} {xs tg:List Int}
theorem pgW_is (hs:32≤g.s∧g.s≤4096) (hr:hd.rng) (hR:HRight hd) (bx:Byt xs) (bt:Byt tg) (lx:xs.length=0∨(xs.length:Int)=g.s) (lt:tg.length=0∨tg.length=32):pgW g hd xs tg=payL g xs++markL hd tg:=by
 unfold pgW
 rw [and_ffs (mkL_byt hr hR bx bt) (by rw [mkL_lenA (by omega) lx lt];unfold szP;omega)]
 exact and_mk hs lx hR bx bt lt
theorem pgW_cp (hs:32≤g.s∧g.s≤4096) (hr:hd.rng) (hR:HRight hd) (bx:Byt xs) (bt:Byt tg) (lx:xs.length=0∨(xs.length:Int)=g.s) (lt:tg.length=0∨tg.length=32):cpB g (pgW g hd xs tg)=pgW g hd xs tg:=by
 have e:cpyL (pgW g hd xs tg)=mkL g hd xs tg:=by
  rw [pgW_is hs hr hR bx bt lx lt]
  unfold cpyL markL mkL
  rw [←List.append_assoc,show endL hd tg=core hd tg++List.replicate 8 255 from rfl,← List.append_assoc]
  congr 1
  have h1:(payL g xs++core hd tg++List.replicate 8 (0:Int)).length-8=(payL g xs++core hd tg).length:=by rw [List.length_append,List.length_replicate];omega
  rw [h1,List.take_left' rfl]
 unfold cpB
 rw [e]
 rfl
end
end Go.Proofs.YtbaojfchlhlaeaaGreat.Vc
namespace Go.Proofs.YtbaojfchlhlaeaaGreat.Vc
open Go Go.Eng Go.RowKit
section
variable {E:Nat→Prop} {w0 w:World} {Rs:List Asr} {sp pp pm p q n:Nat} {g:Geo} {s:SD}
theorem cei_up {u m:Int} (hu:0<u):m≤cei m u*u:=by
 unfold cei
 have h:=Int.emod_add_mul_ediv (m+u-1) u
 have h2:=Int.emod_lt_of_pos (m+u-1) hu
 rw [Int.mul_comm]
 omega
theorem fit_small {z0 z1:Int} (hb:g.b≤16) (hp:g.p≤16) (h:fitE g [z0,z1]=0):(1≤z0∧z0≤150)∧(1≤z1∧z1≤150):=by
 obtain ⟨hR,hz,-,hs⟩:=fitE_zero.1 h
 have hk:=hR.1
 unfold Kept at hk
 have a:=hz z0 List.mem_cons_self
 have b:=hz z1 (List.mem_cons_of_mem _ List.mem_cons_self)
 unfold qs qs qs quo at hs
 have c0:=cei_bd (u:=g.p-1) (m:=z0) (by omega) (by omega)
 have c1:=cei_bd (u:=g.p-1) (m:=z1) (by omega) (by omega)
 have d0:=cei_up (u:=g.p-1) (m:=z0) (by omega)
 have d1:=cei_up (u:=g.p-1) (m:=z1) (by omega)
 have e0:cei z0 (g.p-1)*(g.p-1)≤10*15:=Int.mul_le_mul (by omega) (by omega) (by omega) (by omega)
 have e1:cei z1 (g.p-1)*(g.p-1)≤10*15:=Int.mul_le_mul (by omega) (by omega) (by omega) (by omega)
 omega
theorem s00_N {pl:List FD} {X:List (SlP Ce)} {z0 z1:Nat} (hR:Right g) (hg:LG g) (hp:∀ f∈pl,Byt f.2.2.1∧f.2.2.1.length≤140737488351232) (hX:New0 X z0 z1) (hc:∀ f∈pl,f.2.1=false):NI g (nG g) (s00 g pl X)∧GD (nG g) (s00 g pl X):=by
 have e:∀ i,i<nG g→gx (s00 g pl X).L i=Blk.new:=fun i hi=>rep_gx (nG g) hi
 refine ⟨⟨s00_I hR hg hp hX,⟨⟨rfl,hc⟩,BIn.new g pl,fun i hi _=>?_⟩⟩,fun _=>⟨fun i hi k=>?_,fun m=>?_⟩⟩
 ·rw [e i hi]
  exact ⟨fun k=>(by cases k),fun k=>(by cases k),fun k=>(by cases k),fun k=>(by cases k)⟩
 ·rw [e i hi] at k;cases k
 ·have h0:manyT (s00 g pl X).L (ownB m) (nG g)≤manyT (s00 g pl X).L (fun _=>false) (nG g):=manyT_le (nG g) fun j hj k=>by
   rw [e j hj] at k;cases k
  have h1:∀ i,manyT (s00 g pl X).L (fun _=>false) i=0:=fun i=>by
   induction i with
   | zero=>rfl
   | succ i ih=>unfold manyT;rw [ih];rfl
  rw [h1] at h0
  refine Int.le_trans h0 ?_
  unfold capS quoS
  split
  ·exact Int.le_refl _
  ·have hk:=hR.1
   unfold Kept at hk
   have hz:=(hX.ok.get m).2
   have:=quo_bd (g:=g) hR (m:=((getX X m).n:Int)) (by rename_i k;have k:¬ (getX X m).n=0:=k;omega)
   show 0≤quo g ((getX X m).n:Int)-1
   omega
end
end Go.Proofs.YtbaojfchlhlaeaaGreat.Vc
namespace Go.Proofs.YtbaojfchlhlaeaaGreat.Vc
open Go Go.Eng
def law27_last.A:Ann:=.two .no (.two .no (.two (.two .no (.one (.loop [7,8,9,10,11,12,13,14,15,16,17,18,19,20,21,22,23,24,25,26,27,28,29,30,31,32,33,34,35,36,37,38,39,40,41,42,43,44,45,46,47,48,49,50,51,52,53,54,55,56,57,58,59,60,61,62,63,64,65,66,67,68,69,70,71] [(7,.one (.int .i64)),(8,.one (.int .i64))] (.two .no (.two (.one (.two .no (.two (.two (.draw (.take 0 (.take 1 (.take 2 (.take 3 (.take 4 (.take 5 (.take 6 (.take 7 (.take 8 (.take 9 (.take 10 (.take 11 (.take 12 (.take 13 (.take 14 (.take 15 (.take 16 (.take 17 (.take 18 (.take 19 (.done)))))))))))))))))))))) .no) .no))) .no))))) .no))
def law27_last.P (a0:Option Addr) (n0 c0:Nat) (p1 p2:Int) (w:World) (K:Int×Unit→World→Prop):Prop:=
 LoopV [.one (.int .i64),.one (.int .i64)] (((-1):Int),(0:Int),()) w fun (z1:Int×Int×Unit) w2 (K3:Int×Int×Unit→World→Prop)=>
 cond (decide (z1.2.1<((n0:Nat):Int)))
 ((0≤z1.2.1∧z1.2.1<((n0:Nat):Int))∧∃ q4:Addr,a0=some q4 ∧
 LoadS w2 (q4.add (z1.2.1.toNat*5)) (.int .i64) fun (x5:Int)=>
 cond (x5 != p1)
 (Rng .i64 (z1.2.1+1) ∧
 K3 (z1.1,z1.2.1+1,()) w2)
 ((0≤z1.2.1∧z1.2.1<((n0:Nat):Int))∧∃ q6:Addr,a0=some q6 ∧
 LoadS w2 ((q6.add (z1.2.1.toNat*5)).add 1) (.int .i64) fun (x7:Int)=>
 cond (decide (p2<x7))
 (Rng .i64 (z1.2.1+1) ∧
 K3 (z1.1,z1.2.1+1,()) w2)
 (DrawV fun D8=>
 (0≤z1.2.1∧z1.2.1<((n0:Nat):Int))∧∃ q9:Addr,a0=some q9 ∧
 (D8 ((q9.add (z1.2.1.toNat*5)).add 3).block∧LoadS w2.drew ((q9.add (z1.2.1.toNat*5)).add 3) .bool fun (x10:Bool)=>
 cond x10
 ((0≤z1.2.1∧z1.2.1<((n0:Nat):Int))∧∃ q11:Addr,a0=some q11 ∧
 (D8 ((q11.add (z1.2.1.toNat*5)).add 1).block∧LoadS w2.drew ((q11.add (z1.2.1.toNat*5)).add 1) (.int .i64) fun (x12:Int)=>
 (0≤z1.2.1∧z1.2.1<((n0:Nat):Int))∧∃ q13:Addr,a0=some q13 ∧
 (D8 ((q13.add (z1.2.1.toNat*5)).add 2).block∧LoadS w2.drew ((q13.add (z1.2.1.toNat*5)).add 2) (.int .i64) fun (x14:Int)=>
 Rng .i64 (x12+x14) ∧
 cond (decide (p2<(x12+x14)))
 ((0≤z1.2.1∧z1.2.1<((n0:Nat):Int))∧∃ q15:Addr,a0=some q15 ∧
 LoadS w2.drew ((q15.add (z1.2.1.toNat*5)).add 3) .bool fun (x16:Bool)=>
 cond (!x16)
 ((0≤z1.2.1∧z1.2.1<((n0:Nat):Int))∧∃ q17:Addr,a0=some q17 ∧
 LoadS w2.drew ((q17.add (z1.2.1.toNat*5)).add 1) (.int .i64) fun (x18:Int)=>
 cond (p2 == x18)
 ((0≤z1.2.1∧z1.2.1<((n0:Nat):Int))∧∃ q19:Addr,a0=some q19 ∧
 LoadS w2.drew ((q19.add (z1.2.1.toNat*5)).add 4) (.int .u8) fun (x20:Int)=>
 Rng .i64 (z1.2.1+1) ∧
 K3 (IntKind.i64.wrap x20,z1.2.1+1,()) w2.drew)
 (Rng .i64 (z1.2.1+1) ∧
 K3 (((-1):Int),z1.2.1+1,()) w2.drew))
 (Rng .i64 (z1.2.1+1) ∧
 K3 (((-1):Int),z1.2.1+1,()) w2.drew))
 ((0≤z1.2.1∧z1.2.1<((n0:Nat):Int))∧∃ q21:Addr,a0=some q21 ∧
 LoadS w2.drew ((q21.add (z1.2.1.toNat*5)).add 3) .bool fun (x22:Bool)=>
 cond (!x22)
 ((0≤z1.2.1∧z1.2.1<((n0:Nat):Int))∧∃ q23:Addr,a0=some q23 ∧
 LoadS w2.drew ((q23.add (z1.2.1.toNat*5)).add 1) (.int .i64) fun (x24:Int)=>
 cond (p2 == x24)
 ((0≤z1.2.1∧z1.2.1<((n0:Nat):Int))∧∃ q25:Addr,a0=some q25 ∧
 LoadS w2.drew ((q25.add (z1.2.1.toNat*5)).add 4) (.int .u8) fun (x26:Int)=>
 Rng .i64 (z1.2.1+1) ∧
 K3 (IntKind.i64.wrap x26,z1.2.1+1,()) w2.drew)
 (Rng .i64 (z1.2.1+1) ∧
 K3 (z1.1,z1.2.1+1,()) w2.drew))
 (Rng .i64 (z1.2.1+1) ∧
 K3 (z1.1,z1.2.1+1,()) w2.drew)))))
 ((0≤z1.2.1∧z1.2.1<((n0:Nat):Int))∧∃ q27:Addr,a0=some q27 ∧
 LoadS w2.drew ((q27.add (z1.2.1.toNat*5)).add 3) .bool fun (x28:Bool)=>
 cond (!x28)
 ((0≤z1.2.1∧z1.2.1<((n0:Nat):Int))∧∃ q29:Addr,a0=some q29 ∧
 LoadS w2.drew ((q29.add (z1.2.1.toNat*5)).add 1) (.int .i64) fun (x30:Int)=>
 cond (p2 == x30)
 ((0≤z1.2.1∧z1.2.1<((n0:Nat):Int))∧∃ q31:Addr,a0=some q31 ∧
 LoadS w2.drew ((q31.add (z1.2.1.toNat*5)).add 4) (.int .u8) fun (x32:Int)=>
 Rng .i64 (z1.2.1+1) ∧
 K3 (IntKind.i64.wrap x32,z1.2.1+1,()) w2.drew)
 (Rng .i64 (z1.2.1+1) ∧
 K3 (z1.1,z1.2.1+1,()) w2.drew))
 (Rng .i64 (z1.2.1+1) ∧
 K3 (z1.1,z1.2.1+1,()) w2.drew))))))
 (K (z1.1,()) w2)
theorem law27_last.vc (a0:Option Addr) (n0 c0:Nat) (p1 p2:Int) (w:World) (K:Int×Unit→World→Prop) (h:law27_last.P a0 n0 c0 p1 p2 w K):CallV Tryz.prog 136 #[.slice a0 n0 c0,.int .i64 p1,.int .i64 p2] w [.one (.int .i64)] K:=by
 refine vcFun.of (A:=law27_last.A) (wr:=false) okf_ok follows h Tryz.func136 ?_
 kernel_rfl
def law27_kept.A:Ann:=.two .no (.two (.two .no (.one (.loop [10,11,12,13,14,15,16,17,18,19,20,21,22,23,24,25,26,27,28,29,30,31,32,33,34,35,36,37,38,39,40,41,42,43,44,45,46,47,48,49,50,51,52,53,54,55,56,57,58,59,60,61,62,63,64,65,66,67,68,69,70,71,72,73,74,75,76,77,78,79,80,81,82] [(11,.one (.int .i64))] (.two .no (.two (.one (.two .no (.two .no (.two .no (.two .no (.two (.draw (.take 0 (.take 1 (.take 2 (.take 3 (.take 4 (.take 5 (.take 6 (.take 7 (.take 8 (.take 9 (.take 10 (.take 11 (.take 12 (.take 13 (.take 14 (.take 15 (.take 16 (.take 17 (.take 18 (.take 19 (.take 20 (.take 21 (.take 22 (.take 23 (.take 24 (.take 25 (.eff 26 (.eff 27 (.take 28 (.take 29 (.done)))))))))))))))))))))))))))))))) .no)))))) .no))))) .no)
def law27_kept.P (p0 p1:Addr) (p2_0 p2_1 p2_2 p2_3 p2_4 p2_5:Int) (a2_6:Option Addr) (n2_6 c2_6:Nat) (p2_7 p2_8:Int) (a2_9:Option Addr) (n2_9 c2_9:Nat) (a3:Option Addr) (n3 c3:Nat) (p4:Int) (w:World) (K:Bool×Unit→World→Prop):Prop:=
 NewV #[.int .i64 p2_0,.int .i64 p2_1,.int .i64 p2_2,.int .i64 p2_3,.int .i64 p2_4,.int .i64 p2_5,.slice a2_6 n2_6 c2_6,.int .i64 p2_7,.int .i64 p2_8,.slice a2_9 n2_9 c2_9] 28 w fun b1 w2=>
 LoopV [.one (.int .i64)] ((0:Int),()) w2 fun (z3:Int×Unit) w4 (K5:Int×Unit→World→Prop)=>
 (0≤p4∧p4<(2:Int)) ∧
 LoadS w4 ((⟨b1,7,none⟩:Addr).add (p4.toNat*1)) (.int .i64) fun (x6:Int)=>
 cond (decide (z3.1<x6))
 (CallV Tryz.prog 136 #[.slice a3 n3 c3,.int .i64 p4,.int .i64 z3.1] w4 [.one (.int .i64)] fun (r7:Int×Unit) w8=>
 CallV Tryz.prog 24 #[.pointer (some p0)] w8 [.one .ptr] fun (r9:(Option Addr)×Unit) w10=>
 CallV Tryz.prog 39 #[.pointer r9.1,.int .i64 p4,.int .i64 z3.1] w10 [.agg [.int .i64,.int .i64,.int .i64,.int .i64,.int .i64,.int .u32,.int .u64,.int .u64,.int .i64,.int .i64,.int .i64,.int .u32,.int .u64,.int .u64],.one .bool] fun (r11:(Int×Int×Int×Int×Int×Int×Int×Int×Int×Int×Int×Int×Int×Int×Unit)×Bool×Unit) w12=>
 NewV #[.int .i64 0,.int .i64 0,.int .i64 0,.int .i64 0,.int .i64 0,.int .u32 0,.int .u64 0,.int .u64 0,.int .i64 0,.int .i64 0,.int .i64 0,.int .u32 0,.int .u64 0,.int .u64 0] 83 w12 fun b13 w14=>
 StoreV w14 ⟨b13,0,none⟩ [.int .i64 r11.1.1,.int .i64 r11.1.2.1,.int .i64 r11.1.2.2.1,.int .i64 r11.1.2.2.2.1,.int .i64 r11.1.2.2.2.2.1,.int .u32 r11.1.2.2.2.2.2.1,.int .u64 r11.1.2.2.2.2.2.2.1,.int .u64 r11.1.2.2.2.2.2.2.2.1,.int .i64 r11.1.2.2.2.2.2.2.2.2.1,.int .i64 r11.1.2.2.2.2.2.2.2.2.2.1,.int .i64 r11.1.2.2.2.2.2.2.2.2.2.2.1,.int .u32 r11.1.2.2.2.2.2.2.2.2.2.2.2.1,.int .u64 r11.1.2.2.2.2.2.2.2.2.2.2.2.2.1,.int .u64 r11.1.2.2.2.2.2.2.2.2.2.2.2.2.2.1] fun w15=>
 cond (decide (r7.1<0))
 (cond r11.2.1
 (LoadS w15 ⟨b13,2,none⟩ (.int .i64) fun (x16:Int)=>
 cond (x16 == 1)
 (K (false,()) w15)
 (Rng .i64 (z3.1+1) ∧
 K5 (z3.1+1,()) w15))
 (Rng .i64 (z3.1+1) ∧
 K5 (z3.1+1,()) w15))
 (LoadA w15 ⟨b13,0,none⟩ [.int .i64,.int .i64] fun (x17:Int×Int×Unit)=>
 CallV Tryz.prog 130 #[.pointer (some p1),.agg #[.int .i64 x17.1,.int .i64 x17.2.1]] w15 [.one .sl,.one (.int .i64)] fun (r18:SlV×Int×Unit) w19=>
 DrawV fun D20=>
 cond (!r11.2.1)
 (K (false,()) w19.drew)
 (cond (r18.2.1 != 0)
 (K (false,()) w19.drew)
 ((D20 b1∧LoadS w19.drew ⟨b1,2,none⟩ (.int .i64) fun (x21:Int)=>
 Rng .i64 (x21+88) ∧
 cond (((r18.1.n:Nat):Int) != (x21+88))
 (K (false,()) w19.drew)
 ((D20 b1∧LoadS w19.drew ⟨b1,2,none⟩ (.int .i64) fun (x22:Int)=>
 ((0:Int)≤x22∧x22≤((r18.1.c:Nat):Int)) ∧
 SubK r18.1.a 0 r18.1.c 1 fun a23=>
 (D20 b1∧LoadS w19.drew ⟨b1,2,none⟩ (.int .i64) fun (x24:Int)=>
 CallV Tryz.prog 83 #[.int .i64 x24,.int .u8 (IntKind.u8.wrap r7.1)] w19.drew [.one .sl] fun (r25:SlV×Unit) w26=>
 KeepOn D20 w19.drew w26 ∧
 CallV Tryz.prog 70 #[.slice a23 (x22.toNat-0) (r18.1.c-0),.slice r25.1.a r25.1.n r25.1.c] w26 [.one .bool] fun (r27:Bool×Unit) w28=>
 KeepOn D20 w19.drew w28 ∧
 cond (!r27.1)
 (K (false,()) w28)
 (Rng .i64 (z3.1+1) ∧
 K5 (z3.1+1,()) w28)))))))))
 (K (true,()) w4)
theorem law27_kept.vc (p0 p1:Addr) (p2_0 p2_1 p2_2 p2_3 p2_4 p2_5:Int) (a2_6:Option Addr) (n2_6 c2_6:Nat) (p2_7 p2_8:Int) (a2_9:Option Addr) (n2_9 c2_9:Nat) (a3:Option Addr) (n3 c3:Nat) (p4:Int) (w:World) (K:Bool×Unit→World→Prop) (h:law27_kept.P p0 p1 p2_0 p2_1 p2_2 p2_3 p2_4 p2_5 a2_6 n2_6 c2_6 p2_7 p2_8 a2_9 n2_9 c2_9 a3 n3 c3 p4 w K):CallV Tryz.prog 72 #[.pointer (some p0),.pointer (some p1),.agg #[.int .i64 p2_0,.int .i64 p2_1,.int .i64 p2_2,.int .i64 p2_3,.int .i64 p2_4,.int .i64 p2_5,.slice a2_6 n2_6 c2_6,.int .i64 p2_7,.int .i64 p2_8,.slice a2_9 n2_9 c2_9],.slice a3 n3 c3,.int .i64 p4] w [.one .bool] K:=by
 refine vcFun.of (A:=law27_kept.A) (wr:=false) okf_ok follows h Tryz.func72 ?_
 kernel_rfl
end Go.Proofs.YtbaojfchlhlaeaaGreat.Vc
namespace Go.Proofs.YtbaojfchlhlaeaaGreat.Vc
open Go Go.Eng Go.RowKit
section
variable {g:Geo} {n:Nat} {s t:SD} {b ns e u:Int} {C:CD} {L:List Blk} {O:List Hd}
theorem code0 (h:C.pl=[]):codeC C=(0,[],false):=by
 unfold codeC atF
 rw [h]
 rfl
theorem ref5 (C:CD) (bl pa:Int) (m:Nat):refC C bl pa m≠5:=by
 unfold refC
 split
 ·decide
 ·split
  ·decide
  ·split
   ·decide
   ·split <;> decide
theorem prog0 (h:C.pl=[]) (bl pa:Int) (xs:List Int):(progC C bl pa xs).2≠5∧(progC C bl pa xs).1.pl=[]:=by
 unfold progC
 split
 ·exact ⟨by rw [code0 h];show (0:Int)≠5;decide,h⟩
 ·exact ⟨ref5 _ _ _ _,h⟩
theorem era0 (h:NF C) (hz:C.pl=[]) {m:Int} (hm:0≤m∧m<C.g.b):(eraC C m).2=0∧(eraC C m).1.pl=[]:=by
 have e:eraC C m=(eraX C m,(codeC C).1):=if_pos (may_nc h hm)
 rw [e,code0 hz]
 exact ⟨rfl,hz⟩
theorem fst0 (h:C.pl=[]) (b:Int) (hd:Hd) (sl:Bool):(fstP C b hd sl).2≠5∧(fstP C b hd sl).1.pl=[]:=by
 unfold fstP selP
 split
 ·exact prog0 (prog0 h _ _ _).2 _ _ _
 ·exact prog0 h _ _ _
theorem prg0 (h:C.pl=[]) (bl pa:Int) (xs:List Int):(prgP C bl pa xs).2≠5∧(prgP C bl pa xs).1.pl=[]:=by
 unfold prgP
 split
 ·exact prog0 (prog0 h _ _ _).2 _ _ _
 ·exact prog0 h _ _ _
theorem dst_zf (h:CI n u C L) (hp:PI g n C L O) (hb:0≤b∧b<(n:Int)) (hz:C.pl=[]):(dstP C L b).2.2=0∧(dstP C L b).2.1=chL b n eB L∧(dstP C L b).1.pl=[]:=by
 have hnn:=hp.nn
 obtain ⟨e0,e1⟩:=era0 h.nf hz (m:=4+b) ⟨by omega,by rw [hp.gg];omega⟩
 unfold dstP
 rw [if_neg (by rw [e0];decide),if_pos e0,hp.ll]
 exact ⟨e0,rfl,e1⟩
theorem beg0 (h:C.pl=[]) (L:List Blk) (O:List Hd) (b ns:Int) (o:Hd) (sl:Bool):(begP C L O b ns o sl).2.2.2≠5∧(begP C L O b ns o sl).1.pl=[]:=by
 unfold begP
 split
 ·exact ⟨by show (0:Int)≠5;decide,(fst0 h _ _ _).2⟩
 ·exact ⟨(fst0 h _ _ _).1,(fst0 h _ _ _).2⟩
theorem opn_zf {o:Hd} (hn:0≤ns∧ns<4) (hr:o.rng) (sl:Bool) (k:Nat) (hp:PI g n C L O) (h:CI n (-1) C L) (ho:C.ops+6≤1000000000000) (hz:C.pl=[]) (hk:0≤pickT L n) :
  (opnP ns o sl (k+1) C L O).2.2=0∧(opnP ns o sl (k+1) C L O).2.1=pickT L n∧(opnP ns o sl (k+1) C L O).1.2.1=chL (pickT L n) n (hB ns) (if (gx L (pickT L n).toNat).cl=true then L else chL (pickT L n) n eB L)∧(opnP ns o sl (k+1) C L O).1.1.pl=[]:=by
 have hll:=hp.ll
 unfold opnP
 rw [←hll] at hk
 obtain ⟨hf,hfb⟩:=pick_free hk
 have hbd:0≤pickT L L.length∧pickT L L.length<(n:Int):=⟨hk,by have:=(bestT_bd (L:=L) (m:=fun _ x=>freeB x) (ah:=fun x y=>decide (x.er<y.er)) L.length).2;rw [←hll];exact this⟩
 rw [if_neg (by omega)]
 rw [hll] at hk hf hfb hbd ⊢
 generalize pickT L n=b at hk hf hfb hbd ⊢
 have hX:∃ C1 L1,(if (gx L b.toNat).cl=true then (C,L,(0:Int)) else dstP C L b)=(C1,L1,0)∧PI g n C1 L1 O∧CI n (-1) C1 L1∧C1.ops≤C.ops+2∧C1.pl=[]∧L1=(if (gx L b.toNat).cl=true then L else chL b n eB L)∧(gx L1 b.toNat).cl=true∧(gx L1 b.toNat).ba=false:=by
  by_cases hc:(gx L b.toNat).cl=true
  ·rw [if_pos hc,if_pos hc]
   exact ⟨C,L,rfl,hp,h,by omega,hz,rfl,hc,hfb⟩
  ·rw [if_neg hc,if_neg hc]
   obtain ⟨q1,q2,q3⟩:=hp.dst b (by omega)
   obtain ⟨d1,-⟩:=h.dst hp (by omega) hbd (.inl rfl) hf
   obtain ⟨z1,z2,z3⟩:=dst_zf h hp hbd hz
   refine ⟨(dstP C L b).1,(dstP C L b).2.1,by rw [←z1],q1,d1,q2,z3,z2,?_,?_⟩
   ·rw [z2,gx_eq hll hbd];rfl
   ·rw [z2,gx_eq hll hbd];exact hfb
 obtain ⟨C1,L1,hq,p1,c1,o1,z1,e1,bc,bb⟩:=hX
 rw [hq,← e1]
 dsimp only
 rw [if_pos rfl]
 obtain ⟨y1,y2⟩:=beg0 z1 L1 O b ns o sl
 rcases beg_nc (ns:=ns) (o:=o) c1 p1 (by omega) hbd hn hr sl bc bb with ⟨x1,x2,x3,x4⟩ | ⟨x1,x2,x3⟩
 ·rw [if_pos x1]
  exact ⟨rfl,rfl,x3,y2⟩
 ·exact absurd x1 y1
structure ZI (n:Nat) (s:SD):Prop where
 pl:s.C.pl=[]
 ro:s.ro=false
 nb:∀ i,i<n→(gx s.L i).ba=false
theorem ZI.bads (h:ZI n s) (hl:s.L.length=n):bads s.L=0:=by
 have h1:∀ i,i≤n→manyT s.L (fun x=>x.ba) i=0:=fun i=>by
  induction i with
  | zero=>exact fun _=>rfl
  | succ i ih=>
   intro hi
   unfold manyT
   rw [h.nb i (by omega),ih (by omega)]
   rfl
 show manyT s.L (fun x=>x.ba) s.L.length=0
 rw [hl]
 exact h1 n (Nat.le_refl n)
theorem ZI.over (h:ZI n s) (hl:s.L.length=n) (hg:0≤s.C.g.sp):overP s=(s,0):=by
 unfold overP
 rw [if_neg (by rw [h.bads hl];omega),h.ro]
 rfl
theorem ZI.left (h:ZI n s) (hl:s.L.length=n) (hg:0≤s.C.g.sp):leftP s 0=(s,0):=by
 have e1:leftP s 0=if (overP s).2≠0 then overP s else ((overP s).1,0):=rfl
 rw [e1,h.over hl hg]
 rfl
theorem sp0 (h:PI g n C L O):0≤C.g.sp:=by
 have:=h.ok.g.1
 unfold Kept at this
 omega
def RM (n:Nat) (s:SD):Prop:=capS s 0+capS s 1+capS s 2+capS s 3+1≤(n:Int)
theorem RM.of (h:RM n s) (hi:SI g n s) (ht:SI g n t) (hz:∀ ns,(getX t.X ns).n=(getX s.X ns).n):RM n t:=by
 unfold RM at h ⊢
 have:=cap_eq hi ht hz
 rw [this,this,this,this]
 exact h
theorem own_dec {x:Blk} (m:Int) (h1:x.he=true) (h2:x.ba=false):ownB m x=decide (x.ow=m):=by
 unfold ownB
 rw [h1,h2]
 by_cases e:x.ow=m
 ·rw [decide_eq_true e];simp [e]
 ·rw [decide_eq_false e];simp [e]
theorem own_all {L:List Blk}:∀ i,(∀ j,j<i→(gx L j).he=true∧(gx L j).ba=false∧0≤(gx L j).ow∧(gx L j).ow<4)→(i:Int)≤manyT L (ownB 0) i+manyT L (ownB 1) i+manyT L (ownB 2) i+manyT L (ownB 3) i
 | 0,_=>by show (0:Int)≤0+0+0+0;decide
 | i+1,h=>by
  have ih:=own_all i fun j hj=>h j (by omega)
  obtain ⟨h1,h2,h3,h4⟩:=h i (Nat.lt_succ_self i)
  have ex:=fun m=>own_dec m h1 h2
  unfold manyT
  rw [ex,ex,ex,ex]
  push_cast
  generalize gx L i=x at h3 h4 ⊢
  have hc:x.ow=0∨x.ow=1∨x.ow=2∨x.ow=3:=by omega
  rcases hc with e | e | e | e <;> rw [e] <;> simp <;> omega
theorem pick_zf (h:NI g n s) (hz:ZI n s) (hG:GD n s) (hR:RM n s):0≤pickT s.L n:=by
 rcases bestT_least (L:=s.L) (m:=fun _ x=>freeB x) (key:=fun x=>x.er) (ah:=fun x y=>decide (x.er<y.er)) (fun _ _=>rfl) n with ⟨-,k⟩ | ⟨a,k,-⟩
 ·exfalso
  have hall:∀ j,j<n→(gx s.L j).he=true∧(gx s.L j).ba=false∧0≤(gx s.L j).ow∧(gx s.L j).ow<4:=fun j hj=>by
   have k1:=k j hj
   have nb:=hz.nb j hj
   have he:(gx s.L j).he=true:=by
    dsimp only at k1
    unfold freeB at k1
    rw [nb] at k1
    simpa using k1
   have:=h.i.l.ho j hj he
   exact ⟨he,nb,this.1,this.2⟩
  have h1:=own_all n hall
  have hc:=(hG hz.ro).2
  have c0:=hc 0
  have c1:=hc 1
  have c2:=hc 2
  have c3:=hc 3
  unfold RM at hR
  omega
 ·show 0≤bestT s.L (fun _ x=>freeB x) (fun x y=>decide (x.er<y.er)) n
  rw [k]
  omega
theorem opnS_zf (h:NI g n s) (hz:ZI n s) (hk:0≤pickT s.L n) (hn:0≤ns∧ns<4) (sl:Bool) (ho:s.C.ops+768≤1000000000000) :
  (opnS ns sl s).2.2=0∧(opnS ns sl s).2.1=pickT s.L n∧(opnS ns sl s).1.L=chL (pickT s.L n) n (hB ns) (if (gx s.L (pickT s.L n).toNat).cl=true then s.L else chL (pickT s.L n) n eB s.L)∧(opnS ns sl s).1.C.pl=[]∧ZI n (opnS ns sl s).1:=by
 have hr:(⟨0,0,0,0,s.ep,u64w (s.op+1)⟩:Hd).rng:=⟨⟨Int.le_refl _,by show (0:Int)<4294967296;decide⟩,h.i.ep,u64w_R _⟩
 have e:opC ns ⟨0,0,0,0,s.ep,u64w (s.op+1)⟩ sl s.C s.L s.O=opnP ns ⟨0,0,0,0,s.ep,u64w (s.op+1)⟩ sl (127+1) s.C s.L s.O:=if_pos hn
 obtain ⟨a1,a2,a3,a4⟩:=opn_zf (ns:=ns) (o:=⟨0,0,0,0,s.ep,u64w (s.op+1)⟩) hn hr sl 127 h.i.pi h.c (by omega) hz.pl hk
 unfold opnS
 rw [e]
 dsimp only
 refine ⟨a1,a2,a3,a4,a4,hz.ro,fun i hi=>?_⟩
 dsimp only
 rw [a3]
 have key:∀ i,i<n→(gx (if (gx s.L (pickT s.L n).toNat).cl=true then s.L else chL (pickT s.L n) n eB s.L) i).ba=false:=fun i hi=>by
  split
  ·exact hz.nb i hi
  ·rw [gx_ch h.i.ln]
   split
   ·exact hz.nb i hi
   ·exact hz.nb i hi
 rw [gx_ch (by split;exact h.i.ln;rw [chL_len];exact h.i.ln)]
 split
 ·exact key i hi
 ·exact key i hi
theorem cop0 (to:Int):∀ (l:List (Int×Int)) (i:Int) (s:SD),s.C.pl=[]→(copP to l i s).2≠5∧(copP to l i s).1.C.pl=[]
 | [],i,s,h=>by
  show (slC s.L.length s.C to).2≠5∧(slC s.L.length s.C to).1.pl=[]
  unfold slC selP
  split
  ·exact prog0 h _ _ _
  ·exact ⟨by show (2:Int)≠5;decide,h⟩
 | k::l,i,s,h=>by
  have hc:(cpyS s to i k).2≠5∧(cpyS s to i k).1.C.pl=[]:=by
   show (cpyC s.L.length s.C to i k.1 k.2).2≠5∧(cpyC s.L.length s.C to i k.1 k.2).1.pl=[]
   unfold cpyC
   split
   ·split
    ·exact prg0 h _ _ _
    ·refine ⟨?_,h⟩
     unfold readC
     split
     ·show (4:Int)≠5;decide
     ·split
      ·show (0:Int)≠5;decide
      ·show (2:Int)≠5;decide
   ·exact ⟨by show (2:Int)≠5;decide,h⟩
  rw [show copP to (k::l) i s=if (cpyS s to i k).2≠0 then cpyS s to i k else copP to l (i+1) (cpyS s to i k).1 from rfl]
  split
  ·exact hc
  ·exact cop0 to l (i+1) _ hc.2
theorem cop_er (to:Int):∀ (l:List (Int×Int)) (i:Int) (s:SD) (j:Nat),(gx (copP to l i s).1.L j).er=(gx s.L j).er∧(gx (copP to l i s).1.L j).cl=(gx s.L j).cl
 | [],i,s,j=>⟨rfl,rfl⟩
 | k::l,i,s,j=>by
  have hc:(gx (cpyS s to i k).1.L j).er=(gx s.L j).er∧(gx (cpyS s to i k).1.L j).cl=(gx s.L j).cl:=by
   show (gx (chL to s.L.length uB s.L) j).er=_∧(gx (chL to s.L.length uB s.L) j).cl=_
   rw [gx_ch rfl]
   split <;> exact ⟨rfl,rfl⟩
  rw [show copP to (k::l) i s=if (cpyS s to i k).2≠0 then cpyS s to i k else copP to l (i+1) (cpyS s to i k).1 from rfl]
  split
  ·exact hc
  ·have:=cop_er to l (i+1) (cpyS s to i k).1 j
   exact ⟨this.1.trans hc.1,this.2.trans hc.2⟩
structure EmZ (n:Nat) (s t:SD) (b ns:Int):Prop where
 z:ZI n t
 L:t.L=chL b n rB s.L∨∃ to:Nat,to<n∧(gx s.L to).he=false∧to≠b.toNat∧(to:Int)=pickT s.L n∧(∀ i,i≠b.toNat→i≠to→gx t.L i=gx s.L i)∧gx t.L b.toNat=rB (gx s.L b.toNat) ∧
  (gx t.L to).he=true∧(gx t.L to).ow=ns∧(gx t.L to).us=(gx t.L to).li∧(gx t.L to).li=(gx s.L b.toNat).li∧(gx t.L to).er=(gx s.L to).er+(if (gx s.L to).cl=true then 0 else 1)
theorem emp_zf (h:NI g n s) (hz:ZI n s) (hk:0≤pickT s.L n) (hn:0≤ns∧ns<4) (hb:0≤b∧b<(n:Int)) (ho:(gx s.L b.toNat).ow=ns) (hp:s.C.ops+215040≤1000000000000) :
  (empP s b ns).2=0∧EmZ n s (empP s b ns).1 b ns:=by
 obtain ⟨h1,h2,h3,h4,h5⟩:=h.i.fs0 hn (fun _=>ho)
 have hro:(Vc.fs0 s ns b).ro=s.ro:=by unfold Vc.fs0;split <;> rfl
 have N1:NI g n (Vc.fs0 s ns b):=⟨h1.i,h.c.of h5 h3⟩
 have Z1:ZI n (Vc.fs0 s ns b):=⟨by rw [h5];exact hz.pl,hro.trans hz.ro,fun i hi=>by rw [h3];exact hz.nb i hi⟩
 have e:empP s b ns=if inP s.X (4+b)=[] then (chS (Vc.fs0 s ns b) b rB,0) else Vc.empL b ns (inP s.X (4+b)) 256 (Vc.fs0 s ns b):=rfl
 have hll:(inP s.X (4+b)).length=((gx s.L b.toNat).li).toNat:=by
  rw [h.i.l.li _ (by omega),show 4+((b.toNat:Nat):Int)=4+b by omega];omega
 have hli0:0≤(gx s.L b.toNat).li:=by rw [h.i.l.li _ (by omega)];omega
 have hhe:(gx s.L b.toNat).li≠0→(gx s.L b.toNat).he=true:=h.i.l.he _ (by omega)
 suffices k:(empP s b ns).2=0∧EmZ n (Vc.fs0 s ns b) (empP s b ns).1 b ns from ⟨k.1,⟨k.2.z,by rw [←h3];exact k.2.L⟩⟩
 rw [e]
 rw [←h3] at hk ho hli0 hhe hll
 rw [←h4] at hll ⊢
 clear e h3 h4 h
 generalize Vc.fs0 s ns b=s at h1 h2 h5 hro N1 Z1 hk ho hll hli0 hhe ⊢
 have h:=N1
 have hz:=Z1
 have hln:=h.i.ln
 rw [←h5] at hp
 by_cases hl:inP s.X (4+b)=[]
 ·rw [if_pos hl]
  refine ⟨rfl,⟨hz.pl,hz.ro,fun i hi=>?_⟩,.inl (by show chL b s.L.length rB s.L=_;rw [hln])⟩
  rw [chS_gx h.i]
  split
  ·exact hz.nb i hi
  ·exact hz.nb i hi
 rw [if_neg hl]
 have hli:(gx s.L b.toNat).li≠0:=fun e=>hl (List.length_eq_zero_iff.1 (by rw [hll,e];rfl))
 have hE:EmI g n s b ns (inP s.X (4+b)):=⟨h.i,hn,hb,rfl,hhe hli,ho,h2⟩
 generalize hlq:inP s.X (4+b)=l at hl hll hE ⊢
 obtain ⟨b1,x1,f1,k1,B1⟩:=h.i.beg hn (sl:=false) (by omega)
 obtain ⟨NO,ee1,no1,ok1,ro1⟩:=h.opn hn false (by omega)
 obtain ⟨z1,z2,z3,z4,z5⟩:=opnS_zf h hz hk hn false (by omega)
 have zl:=z5.left NO.i.ln (sp0 NO.i.pi)
 show (Vc.empL b ns l (255+1) s).2=0∧EmZ n _ (Vc.empL b ns l (255+1) s).1 b ns
 unfold Vc.empL
 dsimp only
 rw [z1] at b1 x1 f1 k1 ⊢
 have hB:=B1 z1
 rw [z1] at hB
 rw [zl] at b1 x1 f1 k1 hB ⊢
 obtain ⟨G1,Bg⟩:=ok1 z1
 clear B1 ok1 no1 ee1
 generalize opnS ns false s=r at b1 x1 f1 k1 hB G1 Bg NO z1 z2 z3 z4 z5 zl ro1 ⊢
 obtain ⟨r1,to,re⟩:=r
 dsimp only at b1 x1 f1 k1 hB G1 Bg NO z1 z2 z3 z4 z5 zl ro1 ⊢
 rw [if_neg (fun k=>k rfl)]
 obtain ⟨y,hy,hyb⟩:=hB.y
 have ht:=hB.ht
 have hlen:=l32 h.i.l (4+b)
 rw [hlq] at hlen
 have hlen2:=h.i.l.len (4+b)
 rw [hlq] at hlen2
 obtain ⟨a1,hne,e1,nf1,l0,mv⟩:=hE.cop b1.i x1 f1 k1 hB (by have:=b1.o2;omega)
 obtain ⟨-,c2,c3,-,-,c5,c6,c7,c8,c9,c10,c11⟩:=SI.cop ht l 1 b1.i (by rw [hy];show (0:Int)+_≤_;omega) (by have:=b1.o2;omega)
 have hsrc:∀ q∈l,inC r1.C q.1 q.2∧q.1≠4+to:=fun q hq=>by
  rw [←hlq] at hq
  obtain ⟨q1,q2,q3⟩:=inP_mem.1 hq
  have q4:=(h.i.l.xb q q3).2
  have hnn:=h.i.pi.nn
  exact ⟨by unfold inC;rw [NO.i.pi.gg];omega,by omega⟩
 have K:=NI.cop ht l 1 NO (by rw [hy];rfl) (by rw [hy];exact hyb) (by rw [Bg.us 0];rfl) (by rw [hy];rfl) (by rw [hy];show (0:Int)+_≤_;omega) hsrc (by have:=b1.o2;omega)
 obtain ⟨w1,w2⟩:=cop0 to l 1 r1 z4
 have w3:=cop_er to l 1 r1
 have hc0:(copP to l 1 r1).2=0:=K.ee.resolve_right w1
 rw [if_pos hc0]
 have c11:=c11 hc0
 generalize copP to l 1 r1=c at a1 e1 nf1 l0 mv c2 c3 c5 c6 c7 c8 c9 c10 c11 K w1 w2 w3 hc0 ⊢
 obtain ⟨c1,ce⟩:=c
 dsimp only at a1 e1 nf1 l0 mv c2 c3 c5 c6 c7 c8 c9 c10 c11 K w1 w2 w3 ⊢
 obtain ⟨m1,m2,m3,m4⟩:=mov_fld c1 b to ns l
 have lc:c1.L.length=n:=e1.i.ln
 have eL:(movP c1 b to ns l).L=chL b n rB (chL to n (cB (l.length:Int)) c1.L):=by rw [m2,lc]
 have l1':(chL to n (cB (l.length:Int)) c1.L).length=n:=by rw [chL_len];exact lc
 have gi:∀ i,i≠b.toNat→i≠to.toNat→gx (movP c1 b to ns l).L i=gx c1.L i:=fun i h1 h2=>by rw [eL,gx_ne l1' h1,gx_ne lc h2]
 have gB:gx (movP c1 b to ns l).L b.toNat=rB (gx c1.L b.toNat):=by rw [eL,gx_eq l1' hb,gx_ne lc (by omega)]
 have gT:gx (movP c1 b to ns l).L to.toNat=cB (l.length:Int) (gx c1.L to.toNat):=by rw [eL,gx_ne l1' (by omega),gx_eq lc ht]
 have lr:r1.L.length=n:=NO.i.ln
 have gr:∀ i,i≠to.toNat→gx r1.L i=gx s.L i:=fun i hi=>by
  rw [z3,← z2,gx_ne (by split;exact hln;rw [chL_len];exact hln) hi]
  split
  ·rfl
  ·exact gx_ne hln hi
 have er:(gx r1.L to.toNat).er=(gx s.L to.toNat).er+(if (gx s.L to.toNat).cl=true then 0 else 1):=by
  rw [z3,← z2,gx_eq (by split;exact hln;rw [chL_len];exact hln) ht]
  split
  ·show (gx s.L to.toNat).er=_;omega
  ·show (gx (chL to n eB s.L) to.toNat).er=_
   rw [gx_eq hln ht];rfl
 have bar:∀ i,i<n→(gx c1.L i).ba=false:=fun i hi=>by
  by_cases e:i=to.toNat
  ·rw [e,c10];exact z5.nb _ (by omega)
  ·rw [c6 i e];exact z5.nb _ hi
 refine ⟨rfl,⟨by rw [m1];exact w2,by rw [m4,c5];exact z5.ro,fun i hi=>?_⟩,.inr ⟨to.toNat,by omega,hB.h0,by omega,by omega,fun i h1 h2=>?_,?_,?_,?_,?_,?_,?_⟩⟩
 ·by_cases e2:i=b.toNat
  ·rw [e2,gB];exact bar _ (by omega)
  ·by_cases e3:i=to.toNat
   ·rw [e3,gT];exact bar _ (by omega)
   ·rw [gi i e2 e3];exact bar i hi
 ·rw [gi i h1 h2,c6 i h2];exact gr i h2
 ·rw [gB,c6 _ (by omega),gr _ (by omega)]
 ·rw [gT];show (gx c1.L to.toNat).he=true;rw [c7,hy];rfl
 ·rw [gT];show (gx c1.L to.toNat).ow=ns;rw [c8,hy];rfl
 ·rw [gT]
  have hl9:(gx c1.L to.toNat).li=0:=by rw [c9,hy];rfl
  show (gx c1.L to.toNat).us=(if (l.length:Int)<0-(gx c1.L to.toNat).li then 0 else (gx c1.L to.toNat).li+(l.length:Int))
  rw [hl9,if_neg (by omega),c11,hy]
  rfl
 ·rw [gT]
  have hl9:(gx c1.L to.toNat).li=0:=by rw [c9,hy];rfl
  show (if (l.length:Int)<0-(gx c1.L to.toNat).li then 0 else (gx c1.L to.toNat).li+(l.length:Int))=_
  rw [hl9,if_neg (by omega)]
  omega
 ·rw [gT];show (gx c1.L to.toNat).er=_;rw [(w3 _).1];exact er
end
end Go.Proofs.YtbaojfchlhlaeaaGreat.Vc
