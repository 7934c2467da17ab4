/- Texts in one: Plain laws of layer 25 (stream): without faults nothing fails, and there is always a block that is free. Plain laws of layer 25 (stream): a block emptied from outside, and destroyed; without faults room is made, and a page put. Plain laws of layer 25 (stream): what each sector has, head and page, is kept; a put changes what it speaks of. The contracts of the laws of layer 27: a step put, without crashes; has each sector what it should have? The plans of functions as plain statements, printed by wip/tools/vcgen.py; the kernel holds each to the code. Plain laws of layer 27 (sanitise): without crashes, what Drain comes to; without faults it is done. The contracts of the laws of layer 27: what is on an array; is there no page but live ones, their blocks' first, and blank ones? The plans of functions as plain statements, printed by wip/tools/vcgen.py; the kernel holds each to the code. The law SanitiseDrains of layer 27: each call gives true, and what it read stays. -/
import Derived.Test.YtbaojfchlhlaeaaGreatZSanitiseDrainsg
set_option linter.unusedVariables false
set_option linter.unusedSimpArgs false
namespace Go.Proofs.YtbaojfchlhlaeaaGreat.Vc
open Go Go.Eng Go.RowKit
section
variable {g:Geo} {n:Nat} {s t:SD} {b ns e u:Int} {C:CD} {L:List Blk} {O:List Hd}
theorem code0 (h:C.pl=[]):codeC C=(0,[],false):=by
 unfold codeC atF
 rw [h]
 rfl
theorem ref5 (C:CD) (bl pa:Int) (m:Nat):refC C bl pa m≠5:=by
 unfold refC
 split
 ·decide
 ·split
  ·decide
  ·split
   ·decide
   ·split <;> decide
theorem prog0 (h:C.pl=[]) (bl pa:Int) (xs:List Int):(progC C bl pa xs).2≠5∧(progC C bl pa xs).1.pl=[]:=by
 unfold progC
 split
 ·exact ⟨by rw [code0 h];show (0:Int)≠5;decide,h⟩
 ·exact ⟨ref5 _ _ _ _,h⟩
theorem era0 (h:NF C) (hz:C.pl=[]) {m:Int} (hm:0≤m∧m<C.g.b):(eraC C m).2=0∧(eraC C m).1.pl=[]:=by
 have e:eraC C m=(eraX C m,(codeC C).1):=if_pos (may_nc h hm)
 rw [e,code0 hz]
 exact ⟨rfl,hz⟩
theorem fst0 (h:C.pl=[]) (b:Int) (hd:Hd) (sl:Bool):(fstP C b hd sl).2≠5∧(fstP C b hd sl).1.pl=[]:=by
 unfold fstP selP
 split
 ·exact prog0 (prog0 h _ _ _).2 _ _ _
 ·exact prog0 h _ _ _
theorem prg0 (h:C.pl=[]) (bl pa:Int) (xs:List Int):(prgP C bl pa xs).2≠5∧(prgP C bl pa xs).1.pl=[]:=by
 unfold prgP
 split
 ·exact prog0 (prog0 h _ _ _).2 _ _ _
 ·exact prog0 h _ _ _
theorem dst_zf (h:CI n u C L) (hp:PI g n C L O) (hb:0≤b∧b<(n:Int)) (hz:C.pl=[]):(dstP C L b).2.2=0∧(dstP C L b).2.1=chL b n eB L∧(dstP C L b).1.pl=[]:=by
 have hnn:=hp.nn
 obtain ⟨e0,e1⟩:=era0 h.nf hz (m:=4+b) ⟨by omega,by rw [hp.gg];omega⟩
 unfold dstP
 rw [if_neg (by rw [e0];decide),if_pos e0,hp.ll]
 exact ⟨e0,rfl,e1⟩
theorem beg0 (h:C.pl=[]) (L:List Blk) (O:List Hd) (b ns:Int) (o:Hd) (sl:Bool):(begP C L O b ns o sl).2.2.2≠5∧(begP C L O b ns o sl).1.pl=[]:=by
 unfold begP
 split
 ·exact ⟨by show (0:Int)≠5;decide,(fst0 h _ _ _).2⟩
 ·exact ⟨(fst0 h _ _ _).1,(fst0 h _ _ _).2⟩
theorem opn_zf {o:Hd} (hn:0≤ns∧ns<4) (hr:o.rng) (sl:Bool) (k:Nat) (hp:PI g n C L O) (h:CI n (-1) C L) (ho:C.ops+6≤1000000000000) (hz:C.pl=[]) (hk:0≤pickT L n) :
  (opnP ns o sl (k+1) C L O).2.2=0∧(opnP ns o sl (k+1) C L O).2.1=pickT L n∧(opnP ns o sl (k+1) C L O).1.2.1=chL (pickT L n) n (hB ns) (if (gx L (pickT L n).toNat).cl=true then L else chL (pickT L n) n eB L)∧(opnP ns o sl (k+1) C L O).1.1.pl=[]:=by
 have hll:=hp.ll
 unfold opnP
 rw [←hll] at hk
 obtain ⟨hf,hfb⟩:=pick_free hk
 have hbd:0≤pickT L L.length∧pickT L L.length<(n:Int):=⟨hk,by have:=(bestT_bd (L:=L) (m:=fun _ x=>freeB x) (ah:=fun x y=>decide (x.er<y.er)) L.length).2;rw [←hll];exact this⟩
 rw [if_neg (by omega)]
 rw [hll] at hk hf hfb hbd ⊢
 generalize pickT L n=b at hk hf hfb hbd ⊢
 have hX:∃ C1 L1,(if (gx L b.toNat).cl=true then (C,L,(0:Int)) else dstP C L b)=(C1,L1,0)∧PI g n C1 L1 O∧CI n (-1) C1 L1∧C1.ops≤C.ops+2∧C1.pl=[]∧L1=(if (gx L b.toNat).cl=true then L else chL b n eB L)∧(gx L1 b.toNat).cl=true∧(gx L1 b.toNat).ba=false:=by
  by_cases hc:(gx L b.toNat).cl=true
  ·rw [if_pos hc,if_pos hc]
   exact ⟨C,L,rfl,hp,h,by omega,hz,rfl,hc,hfb⟩
  ·rw [if_neg hc,if_neg hc]
   obtain ⟨q1,q2,q3⟩:=hp.dst b (by omega)
   obtain ⟨d1,-⟩:=h.dst hp (by omega) hbd (.inl rfl) hf
   obtain ⟨z1,z2,z3⟩:=dst_zf h hp hbd hz
   refine ⟨(dstP C L b).1,(dstP C L b).2.1,by rw [←z1],q1,d1,q2,z3,z2,?_,?_⟩
   ·rw [z2,gx_eq hll hbd];rfl
   ·rw [z2,gx_eq hll hbd];exact hfb
 obtain ⟨C1,L1,hq,p1,c1,o1,z1,e1,bc,bb⟩:=hX
 rw [hq,← e1]
 dsimp only
 rw [if_pos rfl]
 obtain ⟨y1,y2⟩:=beg0 z1 L1 O b ns o sl
 rcases beg_nc (ns:=ns) (o:=o) c1 p1 (by omega) hbd hn hr sl bc bb with ⟨x1,x2,x3,x4⟩ | ⟨x1,x2,x3⟩
 ·rw [if_pos x1]
  exact ⟨rfl,rfl,x3,y2⟩
 ·exact absurd x1 y1
structure ZI (n:Nat) (s:SD):Prop where
 pl:s.C.pl=[]
 ro:s.ro=false
 nb:∀ i,i<n→(gx s.L i).ba=false
theorem ZI.bads (h:ZI n s) (hl:s.L.length=n):bads s.L=0:=by
 have h1:∀ i,i≤n→manyT s.L (fun x=>x.ba) i=0:=fun i=>by
  induction i with
  | zero=>exact fun _=>rfl
  | succ i ih=>
   intro hi
   unfold manyT
   rw [h.nb i (by omega),ih (by omega)]
   rfl
 show manyT s.L (fun x=>x.ba) s.L.length=0
 rw [hl]
 exact h1 n (Nat.le_refl n)
theorem ZI.over (h:ZI n s) (hl:s.L.length=n) (hg:0≤s.C.g.sp):overP s=(s,0):=by
 unfold overP
 rw [if_neg (by rw [h.bads hl];omega),h.ro]
 rfl
theorem ZI.left (h:ZI n s) (hl:s.L.length=n) (hg:0≤s.C.g.sp):leftP s 0=(s,0):=by
 have e1:leftP s 0=if (overP s).2≠0 then overP s else ((overP s).1,0):=rfl
 rw [e1,h.over hl hg]
 rfl
theorem sp0 (h:PI g n C L O):0≤C.g.sp:=by
 have:=h.ok.g.1
 unfold Kept at this
 omega
def RM (n:Nat) (s:SD):Prop:=capS s 0+capS s 1+capS s 2+capS s 3+1≤(n:Int)
theorem RM.of (h:RM n s) (hi:SI g n s) (ht:SI g n t) (hz:∀ ns,(getX t.X ns).n=(getX s.X ns).n):RM n t:=by
 unfold RM at h ⊢
 have:=cap_eq hi ht hz
 rw [this,this,this,this]
 exact h
theorem own_dec {x:Blk} (m:Int) (h1:x.he=true) (h2:x.ba=false):ownB m x=decide (x.ow=m):=by
 unfold ownB
 rw [h1,h2]
 by_cases e:x.ow=m
 ·rw [decide_eq_true e];simp [e]
 ·rw [decide_eq_false e];simp [e]
theorem own_all {L:List Blk}:∀ i,(∀ j,j<i→(gx L j).he=true∧(gx L j).ba=false∧0≤(gx L j).ow∧(gx L j).ow<4)→(i:Int)≤manyT L (ownB 0) i+manyT L (ownB 1) i+manyT L (ownB 2) i+manyT L (ownB 3) i
 | 0,_=>by show (0:Int)≤0+0+0+0;decide
 | i+1,h=>by
  have ih:=own_all i fun j hj=>h j (by omega)
  obtain ⟨h1,h2,h3,h4⟩:=h i (Nat.lt_succ_self i)
  have ex:=fun m=>own_dec m h1 h2
  unfold manyT
  rw [ex,ex,ex,ex]
  push_cast
  generalize gx L i=x at h3 h4 ⊢
  have hc:x.ow=0∨x.ow=1∨x.ow=2∨x.ow=3:=by omega
  rcases hc with e | e | e | e <;> rw [e] <;> simp <;> omega
theorem pick_zf (h:NI g n s) (hz:ZI n s) (hG:GD n s) (hR:RM n s):0≤pickT s.L n:=by
 rcases bestT_least (L:=s.L) (m:=fun _ x=>freeB x) (key:=fun x=>x.er) (ah:=fun x y=>decide (x.er<y.er)) (fun _ _=>rfl) n with ⟨-,k⟩ | ⟨a,k,-⟩
 ·exfalso
  have hall:∀ j,j<n→(gx s.L j).he=true∧(gx s.L j).ba=false∧0≤(gx s.L j).ow∧(gx s.L j).ow<4:=fun j hj=>by
   have k1:=k j hj
   have nb:=hz.nb j hj
   have he:(gx s.L j).he=true:=by
    dsimp only at k1
    unfold freeB at k1
    rw [nb] at k1
    simpa using k1
   have:=h.i.l.ho j hj he
   exact ⟨he,nb,this.1,this.2⟩
  have h1:=own_all n hall
  have hc:=(hG hz.ro).2
  have c0:=hc 0
  have c1:=hc 1
  have c2:=hc 2
  have c3:=hc 3
  unfold RM at hR
  omega
 ·show 0≤bestT s.L (fun _ x=>freeB x) (fun x y=>decide (x.er<y.er)) n
  rw [k]
  omega
theorem opnS_zf (h:NI g n s) (hz:ZI n s) (hk:0≤pickT s.L n) (hn:0≤ns∧ns<4) (sl:Bool) (ho:s.C.ops+768≤1000000000000) :
  (opnS ns sl s).2.2=0∧(opnS ns sl s).2.1=pickT s.L n∧(opnS ns sl s).1.L=chL (pickT s.L n) n (hB ns) (if (gx s.L (pickT s.L n).toNat).cl=true then s.L else chL (pickT s.L n) n eB s.L)∧(opnS ns sl s).1.C.pl=[]∧ZI n (opnS ns sl s).1:=by
 have hr:(⟨0,0,0,0,s.ep,u64w (s.op+1)⟩:Hd).rng:=⟨⟨Int.le_refl _,by show (0:Int)<4294967296;decide⟩,h.i.ep,u64w_R _⟩
 have e:opC ns ⟨0,0,0,0,s.ep,u64w (s.op+1)⟩ sl s.C s.L s.O=opnP ns ⟨0,0,0,0,s.ep,u64w (s.op+1)⟩ sl (127+1) s.C s.L s.O:=if_pos hn
 obtain ⟨a1,a2,a3,a4⟩:=opn_zf (ns:=ns) (o:=⟨0,0,0,0,s.ep,u64w (s.op+1)⟩) hn hr sl 127 h.i.pi h.c (by omega) hz.pl hk
 unfold opnS
 rw [e]
 dsimp only
 refine ⟨a1,a2,a3,a4,a4,hz.ro,fun i hi=>?_⟩
 dsimp only
 rw [a3]
 have key:∀ i,i<n→(gx (if (gx s.L (pickT s.L n).toNat).cl=true then s.L else chL (pickT s.L n) n eB s.L) i).ba=false:=fun i hi=>by
  split
  ·exact hz.nb i hi
  ·rw [gx_ch h.i.ln]
   split
   ·exact hz.nb i hi
   ·exact hz.nb i hi
 rw [gx_ch (by split;exact h.i.ln;rw [chL_len];exact h.i.ln)]
 split
 ·exact key i hi
 ·exact key i hi
theorem cop0 (to:Int):∀ (l:List (Int×Int)) (i:Int) (s:SD),s.C.pl=[]→(copP to l i s).2≠5∧(copP to l i s).1.C.pl=[]
 | [],i,s,h=>by
  show (slC s.L.length s.C to).2≠5∧(slC s.L.length s.C to).1.pl=[]
  unfold slC selP
  split
  ·exact prog0 h _ _ _
  ·exact ⟨by show (2:Int)≠5;decide,h⟩
 | k::l,i,s,h=>by
  have hc:(cpyS s to i k).2≠5∧(cpyS s to i k).1.C.pl=[]:=by
   show (cpyC s.L.length s.C to i k.1 k.2).2≠5∧(cpyC s.L.length s.C to i k.1 k.2).1.pl=[]
   unfold cpyC
   split
   ·split
    ·exact prg0 h _ _ _
    ·refine ⟨?_,h⟩
     unfold readC
     split
     ·show (4:Int)≠5;decide
     ·split
      ·show (0:Int)≠5;decide
      ·show (2:Int)≠5;decide
   ·exact ⟨by show (2:Int)≠5;decide,h⟩
  rw [show copP to (k::l) i s=if (cpyS s to i k).2≠0 then cpyS s to i k else copP to l (i+1) (cpyS s to i k).1 from rfl]
  split
  ·exact hc
  ·exact cop0 to l (i+1) _ hc.2
theorem cop_er (to:Int):∀ (l:List (Int×Int)) (i:Int) (s:SD) (j:Nat),(gx (copP to l i s).1.L j).er=(gx s.L j).er∧(gx (copP to l i s).1.L j).cl=(gx s.L j).cl
 | [],i,s,j=>⟨rfl,rfl⟩
 | k::l,i,s,j=>by
  have hc:(gx (cpyS s to i k).1.L j).er=(gx s.L j).er∧(gx (cpyS s to i k).1.L j).cl=(gx s.L j).cl:=by
   show (gx (chL to s.L.length uB s.L) j).er=_∧(gx (chL to s.L.length uB s.L) j).cl=_
   rw [gx_ch rfl]
   split <;> exact ⟨rfl,rfl⟩
  rw [show copP to (k::l) i s=if (cpyS s to i k).2≠0 then cpyS s to i k else copP to l (i+1) (cpyS s to i k).1 from rfl]
  split
  ·exact hc
  ·have:=cop_er to l (i+1) (cpyS s to i k).1 j
   exact ⟨this.1.trans hc.1,this.2.trans hc.2⟩
structure EmZ (n:Nat) (s t:SD) (b ns:Int):Prop where
 z:ZI n t
 L:t.L=chL b n rB s.L∨∃ to:Nat,to<n∧(gx s.L to).he=false∧to≠b.toNat∧(to:Int)=pickT s.L n∧(∀ i,i≠b.toNat→i≠to→gx t.L i=gx s.L i)∧gx t.L b.toNat=rB (gx s.L b.toNat) ∧
  (gx t.L to).he=true∧(gx t.L to).ow=ns∧(gx t.L to).us=(gx t.L to).li∧(gx t.L to).li=(gx s.L b.toNat).li∧(gx t.L to).er=(gx s.L to).er+(if (gx s.L to).cl=true then 0 else 1)
theorem emp_zf (h:NI g n s) (hz:ZI n s) (hk:0≤pickT s.L n) (hn:0≤ns∧ns<4) (hb:0≤b∧b<(n:Int)) (ho:(gx s.L b.toNat).ow=ns) (hp:s.C.ops+215040≤1000000000000) :
  (empP s b ns).2=0∧EmZ n s (empP s b ns).1 b ns:=by
 obtain ⟨h1,h2,h3,h4,h5⟩:=h.i.fs0 hn (fun _=>ho)
 have hro:(Vc.fs0 s ns b).ro=s.ro:=by unfold Vc.fs0;split <;> rfl
 have N1:NI g n (Vc.fs0 s ns b):=⟨h1.i,h.c.of h5 h3⟩
 have Z1:ZI n (Vc.fs0 s ns b):=⟨by rw [h5];exact hz.pl,hro.trans hz.ro,fun i hi=>by rw [h3];exact hz.nb i hi⟩
 have e:empP s b ns=if inP s.X (4+b)=[] then (chS (Vc.fs0 s ns b) b rB,0) else Vc.empL b ns (inP s.X (4+b)) 256 (Vc.fs0 s ns b):=rfl
 have hll:(inP s.X (4+b)).length=((gx s.L b.toNat).li).toNat:=by
  rw [h.i.l.li _ (by omega),show 4+((b.toNat:Nat):Int)=4+b by omega];omega
 have hli0:0≤(gx s.L b.toNat).li:=by rw [h.i.l.li _ (by omega)];omega
 have hhe:(gx s.L b.toNat).li≠0→(gx s.L b.toNat).he=true:=h.i.l.he _ (by omega)
 suffices k:(empP s b ns).2=0∧EmZ n (Vc.fs0 s ns b) (empP s b ns).1 b ns from ⟨k.1,⟨k.2.z,by rw [←h3];exact k.2.L⟩⟩
 rw [e]
 rw [←h3] at hk ho hli0 hhe hll
 rw [←h4] at hll ⊢
 clear e h3 h4 h
 generalize Vc.fs0 s ns b=s at h1 h2 h5 hro N1 Z1 hk ho hll hli0 hhe ⊢
 have h:=N1
 have hz:=Z1
 have hln:=h.i.ln
 rw [←h5] at hp
 by_cases hl:inP s.X (4+b)=[]
 ·rw [if_pos hl]
  refine ⟨rfl,⟨hz.pl,hz.ro,fun i hi=>?_⟩,.inl (by show chL b s.L.length rB s.L=_;rw [hln])⟩
  rw [chS_gx h.i]
  split
  ·exact hz.nb i hi
  ·exact hz.nb i hi
 rw [if_neg hl]
 have hli:(gx s.L b.toNat).li≠0:=fun e=>hl (List.length_eq_zero_iff.1 (by rw [hll,e];rfl))
 have hE:EmI g n s b ns (inP s.X (4+b)):=⟨h.i,hn,hb,rfl,hhe hli,ho,h2⟩
 generalize hlq:inP s.X (4+b)=l at hl hll hE ⊢
 obtain ⟨b1,x1,f1,k1,B1⟩:=h.i.beg hn (sl:=false) (by omega)
 obtain ⟨NO,ee1,no1,ok1,ro1⟩:=h.opn hn false (by omega)
 obtain ⟨z1,z2,z3,z4,z5⟩:=opnS_zf h hz hk hn false (by omega)
 have zl:=z5.left NO.i.ln (sp0 NO.i.pi)
 show (Vc.empL b ns l (255+1) s).2=0∧EmZ n _ (Vc.empL b ns l (255+1) s).1 b ns
 unfold Vc.empL
 dsimp only
 rw [z1] at b1 x1 f1 k1 ⊢
 have hB:=B1 z1
 rw [z1] at hB
 rw [zl] at b1 x1 f1 k1 hB ⊢
 obtain ⟨G1,Bg⟩:=ok1 z1
 clear B1 ok1 no1 ee1
 generalize opnS ns false s=r at b1 x1 f1 k1 hB G1 Bg NO z1 z2 z3 z4 z5 zl ro1 ⊢
 obtain ⟨r1,to,re⟩:=r
 dsimp only at b1 x1 f1 k1 hB G1 Bg NO z1 z2 z3 z4 z5 zl ro1 ⊢
 rw [if_neg (fun k=>k rfl)]
 obtain ⟨y,hy,hyb⟩:=hB.y
 have ht:=hB.ht
 have hlen:=l32 h.i.l (4+b)
 rw [hlq] at hlen
 have hlen2:=h.i.l.len (4+b)
 rw [hlq] at hlen2
 obtain ⟨a1,hne,e1,nf1,l0,mv⟩:=hE.cop b1.i x1 f1 k1 hB (by have:=b1.o2;omega)
 obtain ⟨-,c2,c3,-,-,c5,c6,c7,c8,c9,c10,c11⟩:=SI.cop ht l 1 b1.i (by rw [hy];show (0:Int)+_≤_;omega) (by have:=b1.o2;omega)
 have hsrc:∀ q∈l,inC r1.C q.1 q.2∧q.1≠4+to:=fun q hq=>by
  rw [←hlq] at hq
  obtain ⟨q1,q2,q3⟩:=inP_mem.1 hq
  have q4:=(h.i.l.xb q q3).2
  have hnn:=h.i.pi.nn
  exact ⟨by unfold inC;rw [NO.i.pi.gg];omega,by omega⟩
 have K:=NI.cop ht l 1 NO (by rw [hy];rfl) (by rw [hy];exact hyb) (by rw [Bg.us 0];rfl) (by rw [hy];rfl) (by rw [hy];show (0:Int)+_≤_;omega) hsrc (by have:=b1.o2;omega)
 obtain ⟨w1,w2⟩:=cop0 to l 1 r1 z4
 have w3:=cop_er to l 1 r1
 have hc0:(copP to l 1 r1).2=0:=K.ee.resolve_right w1
 rw [if_pos hc0]
 have c11:=c11 hc0
 generalize copP to l 1 r1=c at a1 e1 nf1 l0 mv c2 c3 c5 c6 c7 c8 c9 c10 c11 K w1 w2 w3 hc0 ⊢
 obtain ⟨c1,ce⟩:=c
 dsimp only at a1 e1 nf1 l0 mv c2 c3 c5 c6 c7 c8 c9 c10 c11 K w1 w2 w3 ⊢
 obtain ⟨m1,m2,m3,m4⟩:=mov_fld c1 b to ns l
 have lc:c1.L.length=n:=e1.i.ln
 have eL:(movP c1 b to ns l).L=chL b n rB (chL to n (cB (l.length:Int)) c1.L):=by rw [m2,lc]
 have l1':(chL to n (cB (l.length:Int)) c1.L).length=n:=by rw [chL_len];exact lc
 have gi:∀ i,i≠b.toNat→i≠to.toNat→gx (movP c1 b to ns l).L i=gx c1.L i:=fun i h1 h2=>by rw [eL,gx_ne l1' h1,gx_ne lc h2]
 have gB:gx (movP c1 b to ns l).L b.toNat=rB (gx c1.L b.toNat):=by rw [eL,gx_eq l1' hb,gx_ne lc (by omega)]
 have gT:gx (movP c1 b to ns l).L to.toNat=cB (l.length:Int) (gx c1.L to.toNat):=by rw [eL,gx_ne l1' (by omega),gx_eq lc ht]
 have lr:r1.L.length=n:=NO.i.ln
 have gr:∀ i,i≠to.toNat→gx r1.L i=gx s.L i:=fun i hi=>by
  rw [z3,← z2,gx_ne (by split;exact hln;rw [chL_len];exact hln) hi]
  split
  ·rfl
  ·exact gx_ne hln hi
 have er:(gx r1.L to.toNat).er=(gx s.L to.toNat).er+(if (gx s.L to.toNat).cl=true then 0 else 1):=by
  rw [z3,← z2,gx_eq (by split;exact hln;rw [chL_len];exact hln) ht]
  split
  ·show (gx s.L to.toNat).er=_;omega
  ·show (gx (chL to n eB s.L) to.toNat).er=_
   rw [gx_eq hln ht];rfl
 have bar:∀ i,i<n→(gx c1.L i).ba=false:=fun i hi=>by
  by_cases e:i=to.toNat
  ·rw [e,c10];exact z5.nb _ (by omega)
  ·rw [c6 i e];exact z5.nb _ hi
 refine ⟨rfl,⟨by rw [m1];exact w2,by rw [m4,c5];exact z5.ro,fun i hi=>?_⟩,.inr ⟨to.toNat,by omega,hB.h0,by omega,by omega,fun i h1 h2=>?_,?_,?_,?_,?_,?_,?_⟩⟩
 ·by_cases e2:i=b.toNat
  ·rw [e2,gB];exact bar _ (by omega)
  ·by_cases e3:i=to.toNat
   ·rw [e3,gT];exact bar _ (by omega)
   ·rw [gi i e2 e3];exact bar i hi
 ·rw [gi i h1 h2,c6 i h2];exact gr i h2
 ·rw [gB,c6 _ (by omega),gr _ (by omega)]
 ·rw [gT];show (gx c1.L to.toNat).he=true;rw [c7,hy];rfl
 ·rw [gT];show (gx c1.L to.toNat).ow=ns;rw [c8,hy];rfl
 ·rw [gT]
  have hl9:(gx c1.L to.toNat).li=0:=by rw [c9,hy];rfl
  show (gx c1.L to.toNat).us=(if (l.length:Int)<0-(gx c1.L to.toNat).li then 0 else (gx c1.L to.toNat).li+(l.length:Int))
  rw [hl9,if_neg (by omega),c11,hy]
  rfl
 ·rw [gT]
  have hl9:(gx c1.L to.toNat).li=0:=by rw [c9,hy];rfl
  show (if (l.length:Int)<0-(gx c1.L to.toNat).li then 0 else (gx c1.L to.toNat).li+(l.length:Int))=_
  rw [hl9,if_neg (by omega)]
  omega
 ·rw [gT];show (gx c1.L to.toNat).er=_;rw [(w3 _).1];exact er
end
end Go.Proofs.YtbaojfchlhlaeaaGreat.Vc
namespace Go.Proofs.YtbaojfchlhlaeaaGreat.Vc
open Go Go.Eng Go.RowKit
section
variable {g:Geo} {n:Nat} {s t:SD} {T:Hh→List Int} {b ns e u:Int}
theorem NI.emt (h:NI g n s) (hG:GD n s) (hb:0≤b∧b<(n:Int)) (ho:s.C.ops+215040≤1000000000000) :
  NI g n (emtS s b).1∧StN g n T s (emtS s b).1∧((emtS s b).2=0∨((emtS s b).2=15∧(emtS s b).1.ro=true))∧((emtS s b).2=0→(emtS s b).1.ro=s.ro)∧((emtS s b).2=0→(gx (emtS s b).1.L b.toNat).he=false):=by
 obtain ⟨hI,hh⟩:=h.i.emt (b:=b) ho
 suffices k:StN g n T s (emtS s b).1∧((emtS s b).2=0∨((emtS s b).2=15∧(emtS s b).1.ro=true))∧((emtS s b).2=0→(emtS s b).1.ro=s.ro) from ⟨⟨hI.i,k.1.ci⟩,k.1,k.2.1,k.2.2,fun e=>hh e hb⟩
 clear hh
 unfold emtS at hI ⊢
 rw [h.i.ln,if_neg (fun k=>k hb)] at hI ⊢
 dsimp only at hI ⊢
 by_cases hx:(gx s.L b.toNat).he=false∨(gx s.L b.toNat).ow<0∨4≤(gx s.L b.toNat).ow
 ·rw [if_pos hx]
  exact ⟨.refl h,.inl rfl,fun _=>rfl⟩
 rw [if_neg hx] at hI ⊢
 by_cases hc:0<(gx s.L b.toNat).li∧s.ro=true
 ·rw [if_pos hc]
  exact ⟨.refl h,.inr ⟨rfl,hc.2⟩,fun e=>by cases e⟩
 rw [if_neg hc] at hI ⊢
 have E:=h.emp (T:=T) (b:=b) (ns:=(gx s.L b.toNat).ow) (by omega) hb rfl ho
 exact ⟨E.st h.i hI.i hI.sz (fun hr=>(hG hr).1 _ (by omega) (by
  cases q:(gx s.L b.toNat).he
  ·exact absurd (.inl q) hx
  ·rfl)),E.ee,E.ro⟩
theorem NI.dstN (h:NI g n s) (hb:0≤b∧b<(n:Int)) (hh:(gx s.L b.toNat).he=false) (ho:s.C.ops+2≤1000000000000) :
  NI g n (dstS s b).1∧StN g n T s (dstS s b).1∧((dstS s b).2=0∨(dstS s b).2=5∨(dstS s b).2=17)∧(∀ i,i≠b.toNat→gx (dstS s b).1.L i=gx s.L i)∧(gx (dstS s b).1.L b.toNat).he=false:=by
 obtain ⟨d1,d2,d3,d4,d5,d6,d7⟩:=h.dst hb hh ho
 obtain ⟨sd,sdx,sdf⟩:=h.i.dst (b:=b) (fun _=>hh) ho
 refine ⟨d1,⟨d1.c,d3.ba,fun hT=>?_,fun m j=>by rw [sdx],fun hG=>hG.sub (cap_eq h.i d1.i sd.sz) d7 fun i hi hk=>?_,d7⟩,d2,d4,d5⟩
 ·refine hT.of sdx (by rw [d1.i.pi.gg,h.i.pi.gg]) (fun q hq=>?_) h.i.xo.four
  have hq2:=(h.i.l.xb q hq).1
  have hne:q.1≠4+b:=fun e=>h.i.l.none hb (h.i.l.free (by omega) hh) (k:=q) e hq
  have eC:(dstS s b).1.C=(dstP s.C s.L b).1:=by
   have e:dstS s b=((overP {s with C:=(dstP s.C s.L b).1,L:=(dstP s.C s.L b).2.1}).1,(dstP s.C s.L b).2.2):=by unfold dstS;rw [if_pos (by rw [h.i.ln];exact hb)]
   rw [e]
   exact (over_f {s with C:=(dstP s.C s.L b).1,L:=(dstP s.C s.L b).2.1}).1
  unfold pgC13
  rw [eC,dst_blk _ _ _ (by omega)]
 ·have hne:i≠b.toNat:=fun e=>by rw [e,d5] at hk;cases hk
  rw [d4 i hne] at hk ⊢
  exact ⟨hk,rfl,rfl⟩
theorem dstS_zf (h:NI g n s) (hz:ZI n s) (hb:0≤b∧b<(n:Int)):(dstS s b).2=0∧(dstS s b).1.L=chL b n eB s.L∧ZI n (dstS s b).1:=by
 obtain ⟨z1,z2,z3⟩:=dst_zf h.c h.i.pi hb hz.pl
 have Z:ZI n {s with C:=(dstP s.C s.L b).1,L:=(dstP s.C s.L b).2.1}:=⟨z3,hz.ro,fun i hi=>by
  show (gx (dstP s.C s.L b).2.1 i).ba=false
  rw [z2,gx_ch h.i.ln]
  split
  ·exact hz.nb i hi
  ·exact hz.nb i hi⟩
 have hg:(dstP s.C s.L b).1.g=s.C.g:=by
  have e:=(eraC_k s.C (4+b)).1
  unfold dstP
  split
  ·split
   ·exact (scrC_k _ _).1.trans e
   ·exact (scrC_k _ _).1.trans e
  ·exact e
 have e:dstS s b=((overP {s with C:=(dstP s.C s.L b).1,L:=(dstP s.C s.L b).2.1}).1,(dstP s.C s.L b).2.2):=by unfold dstS;rw [if_pos (by rw [h.i.ln];exact hb)]
 rw [e,Z.over (by show (dstP s.C s.L b).2.1.length=n;rw [z2,chL_len];exact h.i.ln) (by show 0≤(dstP s.C s.L b).1.g.sp;rw [hg];exact sp0 h.i.pi)]
 exact ⟨z1,z2,Z⟩
theorem emtS_zf (h:NI g n s) (hz:ZI n s) (hG:GD n s) (hR:RM n s) (hb:0≤b∧b<(n:Int)) (ho:s.C.ops+215040≤1000000000000) :
  (emtS s b).2=0∧(((gx s.L b.toNat).he=false∧(emtS s b).1=s)∨((gx s.L b.toNat).he=true∧EmZ n s (emtS s b).1 b (gx s.L b.toNat).ow)):=by
 unfold emtS
 rw [h.i.ln,if_neg (fun k=>k hb)]
 dsimp only
 have hho:=h.i.l.ho b.toNat (by omega)
 cases q:(gx s.L b.toNat).he
 ·rw [if_pos (.inl rfl)]
  exact ⟨rfl,.inl ⟨rfl,rfl⟩⟩
 ·rw [if_neg (by rintro (k | k | k);cases k;have:=hho q;omega;have:=hho q;omega),if_neg (by rw [hz.ro];rintro ⟨-,k⟩;cases k)]
  obtain ⟨e1,e2⟩:=emp_zf h hz (pick_zf h hz hG hR) (hho q) hb rfl ho
  exact ⟨e1,.inr ⟨rfl,e2⟩⟩
theorem emp_neg' (h:NI g n s) (hb:b<0):(empP s b ns).1.L=s.L∧(empP s b ns).1.C=s.C:=by
 have hl:inP s.X (4+b)=[]:=inP_nil fun k hk h1=>by
  have:=(h.i.l.xb k h1).1
  omega
 have e:empP s b ns=(chS (Vc.fs0 s ns b) b rB,0):=if_pos hl
 rw [e]
 have e2:∀ s:SD,chS s b rB=s:=fun s=>by
  have:chL b s.L.length rB s.L=s.L:=if_neg (fun k=>by have:0≤b:=k.1;omega)
  unfold chS
  rw [this]
 rw [e2]
 unfold Vc.fs0
 split <;> exact ⟨rfl,rfl⟩
theorem clos_zf (h:NI g n s) (hz:ZI n s) (ns:Int):ZI n (closP s ns):=by
 unfold closP
 split
 ·refine ⟨hz.pl,hz.ro,fun i hi=>?_⟩
  show (gx (chL (frG s ns) s.L.length rB s.L) i).ba=false
  rw [gx_ch rfl]
  split
  ·exact hz.nb i hi
  ·exact hz.nb i hi
 ·exact ⟨hz.pl,hz.ro,hz.nb⟩
theorem room_zf (h:NI g n s) (hz:ZI n s) (hG:GD n s) (hR:RM n s) (hn:0≤ns∧ns<4) (hp:s.C.ops+215040≤1000000000000):(roomP s ns).2=0∧ZI n (roomP s ns).1:=by
 obtain ⟨N1,S1⟩:=h.clos (T:=fun _=>[]) hn
 have hcl:=h.i.clos hn
 have hc:=clos_f s ns
 have Z1:=clos_zf h hz ns
 have hk:=pick_zf N1 Z1 (S1.gd hG) (hR.of h.i N1.i hcl.sz)
 unfold roomP
 split
 ·have e:s.L.length=(closP s ns).L.length:=by rw [N1.i.ln,h.i.ln]
  rw [e]
  have hv:=vict_bd (L:=(closP s ns).L) (ns:=ns) (bu:=-1)
  rw [N1.i.ln] at hv
  by_cases hb:0≤victT (closP s ns).L ns (-1) (closP s ns).L.length
  ·have hw:=own_is (vict_is N1.i.ln hb)
   rw [N1.i.ln] at hb hw ⊢
   obtain ⟨e1,e2⟩:=emp_zf N1 Z1 hk hn ⟨hb,hv.2⟩ hw.2.2 (by rw [hc.1];exact hp)
   exact ⟨e1,e2.z⟩
  ·obtain ⟨k1,-,k3⟩:=emp_neg (T:=fun _=>[]) N1 hn (b:=victT (closP s ns).L ns (-1) (closP s ns).L.length) (by omega)
   obtain ⟨k4,k5⟩:=emp_neg' (ns:=ns) N1 (b:=victT (closP s ns).L ns (-1) (closP s ns).L.length) (by omega)
   exact ⟨k1,by rw [k5];exact Z1.pl,k3.trans Z1.ro,fun i hi=>by rw [k4];exact Z1.nb i hi⟩
 ·obtain ⟨z1,z2,z3,z4,z5⟩:=opnS_zf N1 Z1 hk hn true (by rw [hc.1];omega)
  obtain ⟨N2,-⟩:=N1.opn hn true (by rw [hc.1];omega)
  dsimp only
  rw [if_pos z1,z1]
  have Z2:ZI n (frS (opnS ns true (closP s ns)).1 ns (opnS ns true (closP s ns)).2.1):=⟨z5.pl,z5.ro,z5.nb⟩
  rw [Z2.left N2.i.ln (sp0 N2.i.pi)]
  exact ⟨rfl,Z2⟩
theorem wrt0 {C:CD} (h:C.pl=[]) (m:Nat) (b pa:Int) (hd:Hd) (xs tg:List Int):(wrtT m C b pa hd xs tg).2≠5∧(wrtT m C b pa hd xs tg).1.pl=[]:=by
 unfold wrtT
 by_cases h1:0≤b∧b<(m:Int)
 ·rw [if_pos h1]
  by_cases h2:HRight hd
  ·rw [if_pos h2];exact prg0 h _ _ _
  ·rw [if_neg h2];exact ⟨by show (2:Int)≠5;decide,h⟩
 ·rw [if_neg h1];exact ⟨by show (2:Int)≠5;decide,h⟩
theorem wr_zf (hn:0≤ns∧ns<4) {hd:Hd} {xs tg:List Int} (hr:hd.rng) (hR:HRight hd) (bx:Byt xs) (bt:Byt tg) (lx:xs.length=0∨(xs.length:Int)=g.s) (lt:tg.length=0∨tg.length=32):∀ (k:Nat) {s:SD},NI g n s→ZI n s→GD n s→RM n s→1≤(getX s.X ns).n→s.C.ops+wC k≤1000000000000 →
  ZI n (wrP ns hd xs tg k s).1
 | 0,s,h,hz,_,_,_,_=>hz
 | k+1,s,h,hz,hG,hM,hsz,ho=>by
  have hwc:=wCs k
  unfold wrP
  dsimp only
  by_cases hf:fulP s ns
  ·rw [if_pos hf]
   obtain ⟨N1,S1,e1,r1⟩:=h.room (T:=fun _=>[]) hn hsz (by omega)
   have h1:=h.i.room hn (by omega)
   obtain ⟨z1,z2⟩:=room_zf h hz hG hM hn (by omega)
   have o1:=h1.o2
   rw [if_neg (by rw [z1];decide)]
   exact wr_zf hn hr hR bx bt lx lt k N1 z2 (S1.gd hG) (hM.of h.i N1.i h1.sz) (by rw [h1.sz];exact hsz) (by omega)
  ·rw [if_neg hf]
   obtain ⟨N1,S1,e1,r1,p1⟩:=h.wr1 (T:=fun _=>[]) hn hf hG hz.ro hr hR bx bt lx lt (by omega)
   obtain ⟨h1,x1,f1,l1⟩:=h.i.wr1 hn hf (hd:=hd) hr bx bt (xs:=xs) (tg:=tg) (by omega)
   have w0:(Vc.wr1 s ns hd xs tg).2≠5∧(Vc.wr1 s ns hd xs tg).1.C.pl=[]:=by
    exact wrt0 hz.pl _ _ _ _ _ _
   rw [if_pos (e1.resolve_right w0.1)]
   refine ⟨w0.2,r1.trans hz.ro,fun i hi=>?_⟩
   dsimp only
   rw [l1,gx_ch h.i.ln]
   split
   ·exact hz.nb i hi
   ·exact hz.nb i hi
theorem put_zf (h:NI g n s) (hz:ZI n s) (hG:GD n s) (hM:RM n s) {hd:Hd} {xs tg:List Int} (hr:hd.rng) (hR:mayP s hd→HRight hd) (bx:Byt xs) (bt:Byt tg) (lx:xs.length=0∨(xs.length:Int)=g.s) (lt:tg.length=0∨tg.length=32) (ho:s.C.ops+55051264≤1000000000000) :
  ZI n (putS s hd xs tg).1:=by
 unfold putS
 by_cases hm:mayP s hd
 case neg=>rw [if_pos hm];exact hz
 rw [if_neg (fun k=>k hm),if_neg (by rw [hz.ro];exact Bool.false_ne_true)]
 have hn:=may_ns hm
 have hwc:=wC256
 have W:=wr_zf (ns:=hd.n) hn hr (hR hm) bx bt lx lt 256 h hz hG hM (by have:=hm.2.1;have:=hm.2.2.1;omega) (by omega)
 obtain ⟨a1,a2⟩:=SI.wr hn hr bx bt (xs:=xs) (tg:=tg) 256 h.i (by omega)
 dsimp only
 split
 ·exact W
 ·rename_i he
  have he:(wrP hd.n hd xs tg 256 s).2.2=0:=Classical.byContradiction he
  have hA:=a2 he
  have hm2:mayP (wrP hd.n hd xs tg 256 s).1 hd:=(may_sz a1.sz).2 hm
  obtain ⟨b0,b1,b2,b3,b4,b5,b6,b7,b8⟩:=a1.i.lnd hA hm2 hr hn
  obtain ⟨l1,-⟩:=lnd_L (n:=n) (wrP hd.n hd xs tg 256 s).1 hd (wrP hd.n hd xs tg 256 s).2.1
  exact ⟨by dsimp only;rw [b1];exact W.pl,by dsimp only;rw [b8];exact W.ro,fun i hi=>by dsimp only;rw [l1.ba];exact W.nb i hi⟩
end
end Go.Proofs.YtbaojfchlhlaeaaGreat.Vc
namespace Go.Proofs.YtbaojfchlhlaeaaGreat.Vc
open Go Go.Eng Go.RowKit
abbrev HasF:=Int→Nat→Option (Hh×List Int)
def noF:HasF:=fun _ _=>none
def updF (F:HasF) (hd:Hd) (P:List Int):HasF:=fun m j=>if spk hd m j then some (hd.hh,P) else F m j
structure KE (F:HasF) (t:SD):Prop where
 ex:∃ T,PGI T t∧∀ m j,F m j=(hdX t.X m j).map fun h=>(h,T h)
 fr:∀ m j h,hdX t.X m j=some h→h.e=t.ep∧h.t≤t.ct
section
variable {g:Geo} {n:Nat} {s t:SD} {F:HasF} {e:Int}
theorem KE.st (h:KE F s) (k:∀ T,StN g n T s t) (he:t.ep=s.ep) (hc:t.ct=s.ct):KE F t:=by
 obtain ⟨T,h1,h2⟩:=h.ex
 have kT:=k T
 exact ⟨⟨T,kT.pg h1,fun m j=>by rw [kT.hx];exact h2 m j⟩,fun m j x hx=>by rw [he,hc];exact h.fr m j x (by rw [←kT.hx];exact hx)⟩
theorem KE.put (h:KE F s) {hd0:Hd} {P:List Int} (k:∀ T,PutN g n T (nxtS s hd0).1 t (nxtS s hd0).2 P e) (he:t.ep=s.ep) (hc:t.ct=s.ct+1) (hw:0≤s.ct∧s.ct+1<18446744073709551616):KE (if e=0 then updF F (nxtS s hd0).2 P else F) t:=by
 obtain ⟨T,h1,h2⟩:=h.ex
 have kT:=k T
 have hX:(nxtS s hd0).1.X=s.X:=rfl
 have hct:(nxtS s hd0).2.hh.t=s.ct+1:=by
  show u64w (s.ct+1)=_
  have:u64w (s.ct+1)=(s.ct+1) % 18446744073709551616:=by simp [u64w,IntKind.wrap,IntKind.signed,IntKind.bits]
  omega
 have hep:(nxtS s hd0).2.hh.e=s.ep:=rfl
 have hF:Fresh (nxtS s hd0).1 (nxtS s hd0).2:=fun m j x hx=>by
  have:=h.fr m j x hx
  exact .inr ⟨by rw [hep];exact this.1,by rw [hct];omega⟩
 refine ⟨⟨if e=0 then updT T (nxtS s hd0).2 P else T,kT.pg h1 hF,fun m j=>?_⟩,fun m j x hx=>?_⟩
 ·rw [kT.hx hF,hX]
  by_cases e0:e=0
  ·rw [if_pos e0,if_pos e0]
   unfold updF
   by_cases hs:spk (nxtS s hd0).2 m j
   ·rw [if_pos hs,if_pos ⟨e0,hs⟩]
    show some _=some (_,updT T (nxtS s hd0).2 P (nxtS s hd0).2.hh)
    unfold updT
    rw [if_pos rfl]
   ·rw [if_neg hs,if_neg (fun k=>hs k.2),h2]
    cases hq:hdX s.X m j with
    | none=>rfl
    | some x=>
     have hl:=hF m j x hq
     show some (x,T x)=some (x,updT T (nxtS s hd0).2 P x)
     unfold updT
     rw [if_neg (fun k=>by rw [k] at hl;exact lesH_irr _ hl)]
  ·rw [if_neg e0,if_neg e0,if_neg (fun k=>e0 k.1),h2]
 ·rw [he,hc]
  rcases kT.h0 m j x hx with k | k
  ·rw [k,hep,hct]
   exact ⟨rfl,Int.le_refl _⟩
  ·have:=h.fr m j x k
   exact ⟨this.1,by omega⟩
theorem KE.get (h:KE F t) (hX:XOk t.X) {m:Int} {j:Nat} (hm:0≤m∧m<4) (hj:j<(getX t.X m).n) :
  (F m j=none∧(getC t.X m (j:Int)).has=false)∨∃ c P,getC t.X m (j:Int)=c∧c.has=true∧F m j=some (c.s.h,P)∧pgC13 t.C c.s.b c.s.p=P∧1≤cntX t.X c.pl:=by
 obtain ⟨T,h1,h2⟩:=h.ex
 have hl:=(hX.get m).1
 have hs:=List.getElem?_eq_getElem (l:=(getX t.X m).l) (i:=j) (by omega)
 have hg:getC t.X m (j:Int)=(getX t.X m).l[j]:=by
  unfold getC
  rw [if_pos ⟨by omega,by omega⟩]
  show (getX t.X m).l.getD (Int.toNat (j:Int)) _=_
  rw [Int.toNat_natCast,List.getD_eq_getElem?_getD,hs]
  rfl
 have h2:=h2 m j
 unfold hdX at h2
 rw [hs] at h2
 dsimp only at h2
 cases hc:((getX t.X m).l[j]).has
 ·rw [hc] at h2
  exact .inl ⟨h2,by rw [hg];exact hc⟩
 ·rw [hc] at h2
  have:=h1 m j _ hm hs hc
  exact .inr ⟨_,_,hg,hc,h2,this.1,cntX_pos hX.four hm hs hc⟩
theorem KE.new {pl:List FD} {X:List (SlP Ce)} {z0 z1:Nat} (hX:New0 X z0 z1):KE noF (s00 g pl X):=by
 have e:∀ m j,hdX X m j=none:=fun m j=>by
  unfold hdX
  rw [hX.l]
  cases hq:(List.replicate (if m=0 then z0 else if m=1 then z1 else 0) Ce0)[j]? with
  | none=>rfl
  | some c=>
   rw [(List.mem_replicate.1 (List.mem_of_getElem? hq)).2]
   rfl
 refine ⟨⟨fun _=>[],fun m j c hm hj hc=>?_,fun m j=>?_⟩,fun m j h k=>?_⟩
 ·have:=e m j
  unfold hdX at this
  have hj:(getX X m).l[j]? = some c:=hj
  rw [hj] at this
  dsimp only at this
  rw [if_pos hc] at this
  cases this
 ·show none=(hdX X m j).map _
  rw [e];rfl
 ·have k:hdX X m j=some h:=k
  rw [e] at k;cases k
end
end Go.Proofs.YtbaojfchlhlaeaaGreat.Vc
namespace Go.Proofs.YtbaojfchlhlaeaaGreat.Vc
open Go Go.Eng Go.RowKit
abbrev St25.vs (x:St25):List Value:=[.int .i64 x.ns,.int .i64 x.lba,.int .i64 x.c,.bool x.t,.int .u8 x.sd]
theorem stv_len (x:St25):x.vs.length=5:=rfl
def stepS (m j:Int) (out:Int) (x:St25):Int:=if x.ns≠m∨j<x.lba then out else if x.t=true then (if j<x.lba+x.c then -1 else out) else if j=x.lba then x.sd else out
def lastS (l:List St25) (m j:Int):Int:=l.foldl (stepS m j) (-1)
theorem lastS_app (l:List St25) (x:St25) (m j:Int):lastS (l++[x]) m j=stepS m j (lastS l m j) x:=by
 unfold lastS
 rw [List.foldl_append]
 rfl
def stB (x:St25):Prop:=(0≤x.lba∧x.lba≤100000)∧(1≤x.c∧x.c≤100000)∧(0≤x.sd∧x.sd<256)
theorem lastS_bd (m j:Int):∀ (l:List St25),(∀ x∈l,stB x)→∀ o,-1≤o∧o<256→-1≤l.foldl (stepS m j) o∧l.foldl (stepS m j) o<256
 | [],_,o,h=>h
 | x::l,hl,o,h=>by
  refine lastS_bd m j l (fun y hy=>hl y (List.mem_cons_of_mem _ hy)) _ ?_
  have:=(hl x List.mem_cons_self).2.2
  unfold stepS
  split
  ·exact h
  ·split
   ·split
    ·decide
    ·exact h
   ·split
    ·omega
    ·exact h
def Kp27 (g:Geo) (F:HasF) (l:List St25) (m z:Int):Prop:=∀ j:Nat,(j:Int)<z→(lastS l m j=-1∧(F m j=none∨∃ h P,F m j=some (h,P)∧h.k≠1))∨∃ (h:Hh) (P:List Int),0≤lastS l m j∧F m j=some (h,P)∧P.length=szP g∧P.take g.s.toNat=payM 11 g.s.toNat (lastS l m j)
theorem Kp27.nil (g:Geo) (m z:Int):Kp27 g noF [] m z:=fun j _=>.inl ⟨rfl,.inl rfl⟩
theorem Kp27.put {g:Geo} {F:HasF} {l:List St25} {m z:Int} (h:Kp27 g F l m z) {x:St25} (hx:stB x) {hd:Hd} {P:List Int} (h1:hd.n=x.ns) (h2:hd.l=x.lba) (h3:hd.c=if x.t=true then x.c else 1) (h4:hd.k=if x.t=true then 2 else 1) (hP:x.t=false→P.length=szP g∧P.take g.s.toNat=payM 11 g.s.toNat x.sd):Kp27 g (updF F hd P) (l++[x]) m z:=fun j hj=>by
 rw [lastS_app]
 have hj:=h j hj
 obtain ⟨b1,b2,b3⟩:=hx
 unfold updF stepS
 cases ht:x.t
 ·rw [ht] at h3 h4
  rw [if_neg Bool.false_ne_true] at h3 h4
  by_cases hs:spk hd m j
  ·have hs':m=hd.n∧hd.l≤(j:Int)∧(j:Int)<hd.l+hd.c:=hs
   rw [if_pos hs,if_neg (by rintro (k | k) <;> omega),if_neg Bool.false_ne_true,if_pos (by omega)]
   obtain ⟨p1,p2⟩:=hP ht
   exact .inr ⟨_,_,b3.1,rfl,p1,p2⟩
  ·rw [if_neg hs,if_neg Bool.false_ne_true]
   have e:(if x.ns≠m∨(j:Int)<x.lba then lastS l m j else if (j:Int)=x.lba then x.sd else lastS l m j)=lastS l m j:=by
    split
    ·rfl
    ·rename_i k
     rw [if_neg]
     intro e
     exact hs ⟨by omega,by omega,by omega⟩
   rw [e]
   exact hj
 ·rw [ht] at h3 h4
  rw [if_pos rfl] at h3 h4
  by_cases hs:spk hd m j
  ·have hs':m=hd.n∧hd.l≤(j:Int)∧(j:Int)<hd.l+hd.c:=hs
   rw [if_pos hs,if_neg (by rintro (k | k) <;> omega),if_pos rfl,if_pos (by omega)]
   exact .inl ⟨rfl,.inr ⟨_,_,rfl,by show hd.k≠1;omega⟩⟩
  ·rw [if_neg hs,if_pos rfl]
   have e:(if x.ns≠m∨(j:Int)<x.lba then lastS l m j else if (j:Int)<x.lba+x.c then -1 else lastS l m j)=lastS l m j:=by
    split
    ·rfl
    ·rename_i k
     rw [if_neg]
     intro e
     exact hs ⟨by omega,by omega,by omega⟩
   rw [e]
   exact hj
section
variable {E:Nat→Prop} {w0 w:World} {Rs:List Asr} {sp pp pm p q n:Nat} {g:Geo} {s:SD} {F:HasF}
theorem last27_c {e5:TypeId} {a:Option Addr} {nn c:Nat} {l:List St25} {m j:Int} (hl:∀ x∈l,stB x) (S:Sep E w0 w (OwnA e5 5 a nn c (l.flatMap St25.vs)::Rs)) :
  CallV Tryz.prog 136 #[.slice a nn c,.int .i64 m,.int .i64 j] w [.one (.int .i64)] fun r w'=>r.1=lastS l m j∧Ext w w':=by
 apply law27_last.vc
 unfold law27_last.P
 have hln:l.length=nn:=(S.own 0 rfl).lenF stv_len (by decide)
 have hlim:nn≤9223372036854775807:=(S.own 0 rfl).lim
 refine Loop1 (fun (v:Int×Int×Unit) w'=>∃ i:Nat,v.2.1=(i:Int)∧i≤nn∧v.1=lastS (l.take i) m j∧Ext w w'∧Sep E w0 w' (OwnA e5 5 a nn c (l.flatMap St25.vs)::Rs)) (fun (v:Int×Int×Unit) _=>((nn:Int)-v.2.1).toNat) ⟨0,rfl,Nat.zero_le _,rfl,Ext.refl _,S⟩ ?_
 clear S
 rintro ⟨(o:Int),(v:Int),⟨⟩⟩ w2 ⟨i,hv,hi,ho,X,S⟩
 dsimp only at hv ho ⊢
 subst hv
 refine cond_d (fun hlt=>?_) (fun hge=>?_)
 case refine_2=>
  have hie:i=l.length:=by omega
  subst hie
  rw [List.take_length] at ho
  exact ⟨ho,X⟩
 obtain ⟨qa,x,hq,hx,hc⟩:=S.nthF (f:=St25.vs) (m:=5) 0 rfl stv_len (by decide) (j:=(i:Int)) (by omega) hlt
 rw [Int.toNat_natCast] at hx
 have hil:i<l.length:=by omega
 have hxe:l[i]=x:=by
  rw [List.getElem?_eq_getElem hil] at hx
  exact Option.some.inj hx
 have hB:=hl x (List.mem_of_getElem? hx)
 obtain ⟨b1,b2,b3⟩:=hB
 have ht:lastS (l.take (i+1)) m j=stepS m j o x:=by
  rw [List.take_succ_eq_append_getElem hil,lastS_app,ho,hxe]
 have nx:∀ {w':World} {o':Int},Ext w2 w'→o'=stepS m j o x→Rng .i64 ((i:Int)+1)∧(∃ i':Nat,((o',(i:Int)+1,()):Int×Int×Unit).2.1=(i':Int)∧i'≤nn∧((o',(i:Int)+1,()):Int×Int×Unit).1=lastS (l.take i') m j∧Ext w w'∧Sep E w0 w' (OwnA e5 5 a nn c (l.flatMap St25.vs)::Rs))∧((nn:Int)-((o',(i:Int)+1,()):Int×Int×Unit).2.1).toNat<((nn:Int)-(i:Int)).toNat:=fun hX he=>⟨Rng.i64 (by omega) (by omega),⟨i+1,by push_cast;rfl,by omega,by rw [ht];exact he,X.trans hX,S.stepE hX⟩,by dsimp only;omega⟩
 refine ⟨⟨by omega,hlt⟩,qa,hq,x.ns,hc.get (j:=0) rfl,cond_ne (fun h1=>nx (Ext.refl _) (by unfold stepS;rw [if_pos (.inl h1)])) (fun h1=>?_)⟩
 refine ⟨⟨by omega,hlt⟩,qa,hq,x.lba,hc.get (j:=1) rfl,cond_d (fun h2=>nx (Ext.refl _) (by unfold stepS;rw [if_pos (.inr h2)])) (fun h2=>?_)⟩
 have e0:¬ (x.ns≠m∨j<x.lba):=by rintro (k | k);exact k h1;exact h2 k
 have hqb:=(S.own 0 rfl).lt _ hq
 refine S.reg fun D hD hkeep S T=>?_
 have hc:=(Ext.drew w2).cells hc
 have hDq:=hD _ hqb
 have hw:IntKind.i64.wrap x.sd=x.sd:=i64_wrap (by omega) (by omega)
 refine ⟨⟨by omega,hlt⟩,qa,hq,⟨by rw [add_block,add_block];exact hDq,x.t,hc.get (j:=3) rfl,cond_of (fun ht1=>?_) (fun ht1=>?_)⟩⟩
 ·refine ⟨⟨by omega,hlt⟩,qa,hq,⟨by rw [add_block,add_block];exact hDq,x.lba,hc.get (j:=1) rfl,⟨by omega,hlt⟩,qa,hq,⟨by rw [add_block,add_block];exact hDq,x.c,hc.get (j:=2) rfl,Rng.i64 (by omega) (by omega),cond_d (fun h3=>?_) (fun h3=>?_)⟩⟩⟩
  ·exact ⟨⟨by omega,hlt⟩,qa,hq,x.t,hc.get (j:=3) rfl,cond_f (by rw [ht1];rfl) (nx (Ext.drew _) (by unfold stepS;rw [if_neg e0,if_pos ht1,if_pos h3]))⟩
  ·exact ⟨⟨by omega,hlt⟩,qa,hq,x.t,hc.get (j:=3) rfl,cond_f (by rw [ht1];rfl) (nx (Ext.drew _) (by unfold stepS;rw [if_neg e0,if_pos ht1,if_neg h3]))⟩
 ·have ht2:¬ x.t=true:=by rw [ht1];exact Bool.false_ne_true
  refine ⟨⟨by omega,hlt⟩,qa,hq,x.t,hc.get (j:=3) rfl,cond_t (by rw [ht1];rfl) ⟨⟨by omega,hlt⟩,qa,hq,x.lba,hc.get (j:=1) rfl,cond_eq (fun h4=>?_) (fun h4=>?_)⟩⟩
  ·exact ⟨⟨by omega,hlt⟩,qa,hq,x.sd,hc.get (j:=4) rfl,nx (Ext.drew _) (hw.trans (by unfold stepS;rw [if_neg e0,if_neg ht2,if_pos h4]))⟩
  ·exact nx (Ext.drew _) (by unfold stepS;rw [if_neg e0,if_neg ht2,if_neg h4])
theorem kept27_c {f:SlP TF.T} {z0 z1:Int} {st:SlV} {e5:TypeId} {a:Option Addr} {nn c:Nat} {l:List St25} {m:Int} (hm:m=0∨m=1) (h:SI g n s) (hon:s.C.off=false) (hK:KE F s) (hz:(getX s.X m).n=(szOf z0 z1 m).toNat) (hz0:1≤szOf z0 z1 m∧szOf z0 z1 m≤65535) (hF:Kp27 g F l m (szOf z0 z1 m)) (hB:∀ x∈l,stB x) (S:Sep E w0 w (OwnA e5 5 a nn c (l.flatMap St25.vs)::stS sp pp pm p q g s Rs)) :
  CallV Tryz.prog 72 #[.pointer (some ⟨sp,0,none⟩),.pointer (some ⟨p,0,none⟩),.agg (casV25 g f z0 z1 st).toArray,.slice a nn c,.int .i64 m] w [.one .bool] fun r w'=>r.1=true∧Sep E w0 w' (OwnA e5 5 a nn c (l.flatMap St25.vs)::stS sp pp pm p q g s Rs):=by
 apply law27_kept.vc
 unfold law27_kept.P
 have hm4:0≤m∧m<4:=by omega
 have hnum:=h.pi.ok.num
 have hgg:=h.pi.gg
 rw [hgg] at hnum
 have hs:=h.pi.R.sec
 refine S.newB (vs:=casV25 g f z0 z1 st) fun b1 w1 S f1 _=>?_
 have hld:∀ {w':World} {Qs:List Asr} {K:Int→Prop},Sep E w0 w' (BoxA b1 28 (casV25 g f z0 z1 st)::Qs)→K (szOf z0 z1 m)→LoadS w' ((⟨b1,7,none⟩:Addr).add (m.toNat*1)) (.int .i64) K:=fun S k=>by
  rcases hm with e | e
  ·subst e
   rw [(add7 b1).1]
   exact S.ld0 (j:=7) rfl rfl k
  ·subst e
   rw [(add7 b1).2]
   exact S.ld0 (j:=8) rfl rfl k
 generalize hZ:szOf z0 z1 m=z at hz hz0 hF hld
 refine Loop1 (fun (v:Int×Unit) w'=>∃ j:Nat,v.1=(j:Int)∧(j:Int)≤z∧Sep E w0 w' (BoxA b1 28 (casV25 g f z0 z1 st)::OwnA e5 5 a nn c (l.flatMap St25.vs)::stS sp pp pm p q g s Rs)) (fun (v:Int×Unit) _=>(z-v.1).toNat) ⟨0,rfl,by omega,S⟩ ?_
 clear S
 rintro ⟨(v:Int),⟨⟩⟩ w4 ⟨j,hv,hj,S⟩
 dsimp only at hv S ⊢
 subst hv
 refine ⟨⟨by omega,by omega⟩,hld S (cond_d (fun hlt=>?_) (fun hge=>⟨rfl,S.tail⟩))⟩
 refine (last27_c (m:=m) (j:=(j:Int)) hB (S.fro [1] rfl)).mono ?_
 rintro ⟨(r7:Int),⟨⟩⟩ w8 ⟨h8,x8⟩
 dsimp only at h8 ⊢
 have hbd:=lastS_bd m (j:Int) l hB (-1) ⟨by decide,by decide⟩
 have hbd:-1≤lastS l m (j:Int)∧lastS l m (j:Int)<256:=hbd
 subst h8
 have S:=S.stepE x8
 have S1:Sep E w0 w8 (stS sp pp pm p q g s (BoxA b1 28 (casV25 g f z0 z1 st)::OwnA e5 5 a nn c (l.flatMap St25.vs)::Rs)):=S.fro [2,2,2,2,2] rfl
 refine (Map25_c S1).mono ?_
 rintro ⟨r,⟨⟩⟩ w9 ⟨h9,rfl⟩
 dsimp only at h9 ⊢
 subst h9
 refine (Get_m (ns:=m) (i:=(j:Int)) h.xo.four (S1.fro [1] rfl)).mono ?_
 rintro ⟨r,(r2:Bool),⟨⟩⟩ w10 ⟨h10,h11,x10⟩
 dsimp only at h10 h11 ⊢
 subst h10;subst h11
 have S:=S.stepE x10
 refine S.newB fun b13 w11 S f11 _=>S.st0 (by rfl) fun w12 S f12=>?_
 have nx:∀ {w':World},Sep E w0 w' (BoxA b1 28 (casV25 g f z0 z1 st)::OwnA e5 5 a nn c (l.flatMap St25.vs)::stS sp pp pm p q g s Rs)→Rng .i64 ((j:Int)+1)∧(∃ j':Nat,(j:Int)+1=(j':Int)∧(j':Int)≤z∧Sep E w0 w' (BoxA b1 28 (casV25 g f z0 z1 st)::OwnA e5 5 a nn c (l.flatMap St25.vs)::stS sp pp pm p q g s Rs))∧(z-((j:Int)+1)).toNat<(z-(j:Int)).toNat:=fun S=>⟨Rng.i64 (by omega) (by omega),⟨j+1,by push_cast;rfl,by push_cast;omega,S⟩,by omega⟩
 rcases hK.get h.xo (m:=m) (j:=j) hm4 (by rw [hz];omega) with ⟨g1,g2⟩ | ⟨cc,P,g1,g2,g3,g4,g5⟩
 ·rcases hF j hlt with ⟨k1,-⟩ | ⟨hh,P,k0,k2,-⟩
  ·rw [k1,g2]
   exact cond_t rfl (cond_f rfl (nx S.tail))
  ·rw [g1] at k2;cases k2
 ·rw [g1,g2,if_pos rfl] at S
  rcases hF j hlt with ⟨k1,k2⟩ | ⟨hh,P',k0,k2,k3,k4⟩
  ·rw [k1,g1,g2]
   have hk:cc.s.h.k≠1:=by
    rcases k2 with k2 | ⟨h',P',k2,k3⟩
    ·rw [g3] at k2;cases k2
    ·rw [g3] at k2
     cases k2
     exact k3
   exact cond_t rfl (cond_t rfl (S.ld0 (j:=2) rfl rfl (cond_f (by simpa using hk) (nx S.tail))))
  rw [g3] at k2
  cases k2
  refine cond_f (decide_eq_false (by omega)) ?_
  have hxb:=h.l.xb _ g5
  have hnn:=h.pi.nn
  have hin:inC s.C cc.s.b cc.s.p:=by
   have e1:(4≤cc.s.b∧cc.s.b<4+(n:Int))∧(1≤cc.s.p∧cc.s.p<g.p):=hxb
   unfold inC;rw [hgg];omega
  have hrd:readC s.C cc.s.b cc.s.p=0:=by unfold readC;rw [hon,if_neg Bool.false_ne_true,if_pos hin]
  refine S.lb0 (o:=0) rfl ?_
  refine (Read_e (bl:=cc.s.b) (pa:=cc.s.p) h.pi.ok (S.fro [7] rfl)).mono ?_
  rintro ⟨⟨ra,rn,rc⟩,(e:Int),⟨⟩⟩ w13 ⟨h13,-,hR⟩
  dsimp only at h13 hR ⊢
  rw [hrd] at h13
  subst h13
  have R:=hR hrd
  rw [g4] at R
  have RI:Ints w13 .u8 ra rn rc P:=R.ints
  have hln:P.length=rn:=R.ints.len
  have hcap:rn≤rc:=R.ints.cap
  have S:=S.stepE R.ext
  unfold szP at k3
  refine S.reg fun D hD hkeep S T=>?_
  have hb:=hD _ (S.lt 1 rfl)
  rw [g1,g2]
  refine cond_f rfl (cond_f rfl ⟨hb,S.ld1 (j:=2) rfl rfl ⟨Rng.i64 (by omega) (by omega),cond_f ?_ ?_⟩⟩)
  ·have:((rn:Nat):Int)=g.s+88:=by omega
   simpa using this
  refine ⟨hb,S.ld1 (j:=2) rfl rfl ⟨⟨by omega,by omega⟩,?_⟩⟩
  intro a' ha'
  refine ⟨hb,S.ld1 (j:=2) rfl rfl ?_⟩
  refine (payload27_c (n:=g.s) (sd:=IntKind.u8.wrap (lastS l m (j:Int))) (by omega)).mono ?_
  rintro ⟨⟨va,vn,vc⟩,⟨⟩⟩ w14 R14
  dsimp only at R14 ⊢
  have T:=T.stepE R14.ext
  refine ⟨hkeep _ T.fr,?_⟩
  have hw:IntKind.u8.wrap (lastS l m (j:Int))=lastS l m (j:Int):=by
   have:IntKind.u8.wrap (lastS l m (j:Int))=lastS l m (j:Int) % 256:=by simp [IntKind.wrap,IntKind.signed,IntKind.bits]
   omega
  rw [hw] at R14
  have hI:=(RI.ext ((Ext.drew w13).trans R14.ext)).sub (l:=0) (hh:=g.s.toNat) (m:=rc) (by omega) (by omega) (by omega) ha'
  refine (SameBytes_c hI R14.ints).mono ?_
  rintro ⟨(r:Bool),⟨⟩⟩ w15 ⟨h15,x15⟩
  dsimp only at h15 ⊢
  have T:=T.stepE x15
  refine ⟨hkeep _ T.fr,?_⟩
  have he:r=true:=by
   rw [h15]
   refine decide_eq_true ?_
   rw [←k4]
   simp
  subst he
  exact cond_f rfl (nx ((S.stepE R14.ext).stepE x15).tail)
end
end Go.Proofs.YtbaojfchlhlaeaaGreat.Vc
namespace Go.Proofs.YtbaojfchlhlaeaaGreat.Vc
open Go Go.Eng
def law27_only.A:Ann:=.two .no (.two .no (.two .no (.two (.two .no (.one (.loop [6,8,9,10,11,26,27,28,29,30,31,32,33,34,35,36,37,38,39,40,41,42,43,44,45,46,47,48,49,50,51,52,53,54,55,56,57,58,59,60,61,62,63,64,65,66,67,68,69,70,71,72,73,74,75,76,77] [(8,.one (.int .i64))] (.two .no (.two (.one (.two .no (.two .no (.one (.loop [6,10,11,39,40,41,42,43,44,45,46,47,48,49,50,51,52,53,54,55,56,57,58,59,60,61,62,63,64,65,66,67,68,69,70,71,72,73,74,75,76,77] [(10,.one (.int .i64))] .no))))) .no))))) .no)))
def law27_only.P (p0 p1:Addr) (p2_0 p2_1 p2_2 p2_3 p2_4 p2_5:Int) (w:World) (K:Bool×Unit→World→Prop):Prop:=
 NewV #[.int .i64 p2_0,.int .i64 p2_1,.int .i64 p2_2,.int .i64 p2_3,.int .i64 p2_4,.int .i64 p2_5] 23 w fun b1 w2=>
 CallV Tryz.prog 71 #[.pointer (some p1)] w2 [.one .sl] fun (r3:SlV×Unit) w4=>
 LoadS w4 ⟨b1,0,none⟩ (.int .i64) fun (x5:Int)=>
 LoadS w4 ⟨b1,1,none⟩ (.int .i64) fun (x6:Int)=>
 Rng .i64 (x5*x6) ∧
 LoadS w4 ⟨b1,2,none⟩ (.int .i64) fun (x7:Int)=>
 Rng .i64 (x7+88) ∧
 Rng .i64 ((x5*x6)*(x7+88)) ∧
 cond (((r3.1.n:Nat):Int) != ((x5*x6)*(x7+88)))
 (K (false,()) w4)
 (LoopV [.one (.int .i64)] ((4:Int),()) w4 fun (z8:Int×Unit) w9 (K10:Int×Unit→World→Prop)=>
 LoadS w9 ⟨b1,0,none⟩ (.int .i64) fun (x11:Int)=>
 cond (decide (z8.1<x11))
 (CallV Tryz.prog 26 #[.pointer (some p0)] w9 [.one .ptr] fun (r12:(Option Addr)×Unit) w13=>
 CallV Tryz.prog 27 #[.pointer r12.1] w13 [.one .ptr] fun (r14:(Option Addr)×Unit) w15=>
 Rng .i64 (z8.1-4) ∧
 CallV Tryz.prog 54 #[.pointer r14.1,.int .i64 (z8.1-4)] w15 [.agg [.int .i64,.int .i64,.int .i64,.int .i64,.bool,.bool,.bool,.bool,.bool]] fun (r16:(Int×Int×Int×Int×Bool×Bool×Bool×Bool×Bool×Unit)×Unit) w17=>
 LoopV [.one (.int .i64)] ((0:Int),()) w17 fun (z18:Int×Unit) w19 (K20:Int×Unit→World→Prop)=>
 LoadS w19 ⟨b1,1,none⟩ (.int .i64) fun (x21:Int)=>
 cond (decide (z18.1<x21))
 (CallV Tryz.prog 24 #[.pointer (some p0)] w19 [.one .ptr] fun (r22:(Option Addr)×Unit) w23=>
 CallV Tryz.prog 120 #[.pointer r22.1,.agg #[.int .i64 z8.1,.int .i64 z18.1]] w23 [.one (.int .i64)] fun (r24:Int×Unit) w25=>
 cond (decide (r24.1>0))
 (cond (!r16.1.2.2.2.2.1)
 (K (false,()) w25)
 (cond (!(decide (r24.1>0)))
 (cond r16.1.2.2.2.2.1
 (cond (!(z18.1 == 0))
 (LoadA w25 ⟨b1,0,none⟩ [.int .i64,.int .i64,.int .i64,.int .i64,.int .i64,.int .i64] fun (x26:Int×Int×Int×Int×Int×Int×Unit)=>
 CallV Tryz.prog 138 #[.agg #[.int .i64 x26.1,.int .i64 x26.2.1,.int .i64 x26.2.2.1,.int .i64 x26.2.2.2.1,.int .i64 x26.2.2.2.2.1,.int .i64 x26.2.2.2.2.2.1],.slice r3.1.a r3.1.n r3.1.c,.int .i64 z8.1,.int .i64 z18.1] w25 [.one .sl] fun (r27:SlV×Unit) w28=>
 CallV Tryz.prog 137 #[.slice r27.1.a r27.1.n r27.1.c] w28 [.one .bool] fun (r29:Bool×Unit) w30=>
 cond (!r29.1)
 (K (false,()) w30)
 (Rng .i64 (z18.1+1) ∧
 K20 (z18.1+1,()) w30))
 (Rng .i64 (z18.1+1) ∧
 K20 (z18.1+1,()) w25))
 (LoadA w25 ⟨b1,0,none⟩ [.int .i64,.int .i64,.int .i64,.int .i64,.int .i64,.int .i64] fun (x31:Int×Int×Int×Int×Int×Int×Unit)=>
 CallV Tryz.prog 138 #[.agg #[.int .i64 x31.1,.int .i64 x31.2.1,.int .i64 x31.2.2.1,.int .i64 x31.2.2.2.1,.int .i64 x31.2.2.2.2.1,.int .i64 x31.2.2.2.2.2.1],.slice r3.1.a r3.1.n r3.1.c,.int .i64 z8.1,.int .i64 z18.1] w25 [.one .sl] fun (r32:SlV×Unit) w33=>
 CallV Tryz.prog 137 #[.slice r32.1.a r32.1.n r32.1.c] w33 [.one .bool] fun (r34:Bool×Unit) w35=>
 cond (!r34.1)
 (K (false,()) w35)
 (Rng .i64 (z18.1+1) ∧
 K20 (z18.1+1,()) w35)))
 (Rng .i64 (z18.1+1) ∧
 K20 (z18.1+1,()) w25)))
 (cond (!(decide (r24.1>0)))
 (cond r16.1.2.2.2.2.1
 (cond (!(z18.1 == 0))
 (LoadA w25 ⟨b1,0,none⟩ [.int .i64,.int .i64,.int .i64,.int .i64,.int .i64,.int .i64] fun (x36:Int×Int×Int×Int×Int×Int×Unit)=>
 CallV Tryz.prog 138 #[.agg #[.int .i64 x36.1,.int .i64 x36.2.1,.int .i64 x36.2.2.1,.int .i64 x36.2.2.2.1,.int .i64 x36.2.2.2.2.1,.int .i64 x36.2.2.2.2.2.1],.slice r3.1.a r3.1.n r3.1.c,.int .i64 z8.1,.int .i64 z18.1] w25 [.one .sl] fun (r37:SlV×Unit) w38=>
 CallV Tryz.prog 137 #[.slice r37.1.a r37.1.n r37.1.c] w38 [.one .bool] fun (r39:Bool×Unit) w40=>
 cond (!r39.1)
 (K (false,()) w40)
 (Rng .i64 (z18.1+1) ∧
 K20 (z18.1+1,()) w40))
 (Rng .i64 (z18.1+1) ∧
 K20 (z18.1+1,()) w25))
 (LoadA w25 ⟨b1,0,none⟩ [.int .i64,.int .i64,.int .i64,.int .i64,.int .i64,.int .i64] fun (x41:Int×Int×Int×Int×Int×Int×Unit)=>
 CallV Tryz.prog 138 #[.agg #[.int .i64 x41.1,.int .i64 x41.2.1,.int .i64 x41.2.2.1,.int .i64 x41.2.2.2.1,.int .i64 x41.2.2.2.2.1,.int .i64 x41.2.2.2.2.2.1],.slice r3.1.a r3.1.n r3.1.c,.int .i64 z8.1,.int .i64 z18.1] w25 [.one .sl] fun (r42:SlV×Unit) w43=>
 CallV Tryz.prog 137 #[.slice r42.1.a r42.1.n r42.1.c] w43 [.one .bool] fun (r44:Bool×Unit) w45=>
 cond (!r44.1)
 (K (false,()) w45)
 (Rng .i64 (z18.1+1) ∧
 K20 (z18.1+1,()) w45)))
 (Rng .i64 (z18.1+1) ∧
 K20 (z18.1+1,()) w25)))
 (Rng .i64 (z8.1+1) ∧
 K10 (z8.1+1,()) w19))
 (K (true,()) w9))
theorem law27_only.vc (p0 p1:Addr) (p2_0 p2_1 p2_2 p2_3 p2_4 p2_5:Int) (w:World) (K:Bool×Unit→World→Prop) (h:law27_only.P p0 p1 p2_0 p2_1 p2_2 p2_3 p2_4 p2_5 w K):CallV Tryz.prog 73 #[.pointer (some p0),.pointer (some p1),.agg #[.int .i64 p2_0,.int .i64 p2_1,.int .i64 p2_2,.int .i64 p2_3,.int .i64 p2_4,.int .i64 p2_5]] w [.one .bool] K:=by
 refine vcFun.of (A:=law27_only.A) (wr:=false) okf_ok follows h Tryz.func73 ?_
 kernel_rfl
def ref27_Page.A:Ann:=.no
def ref27_Page.P (p0_0 p0_1 p0_2 p0_3 p0_4 p0_5:Int) (a1:Option Addr) (n1 c1:Nat) (p2 p3:Int) (w:World) (K:SlV×Unit→World→Prop):Prop:=
 NewV #[.int .i64 p0_0,.int .i64 p0_1,.int .i64 p0_2,.int .i64 p0_3,.int .i64 p0_4,.int .i64 p0_5] 23 w fun b1 w2=>
 LoadS w2 ⟨b1,2,none⟩ (.int .i64) fun (x3:Int)=>
 Rng .i64 (x3+88) ∧
 LoadS w2 ⟨b1,1,none⟩ (.int .i64) fun (x4:Int)=>
 Rng .i64 (p2*x4) ∧
 Rng .i64 ((p2*x4)+p3) ∧
 Rng .i64 (((p2*x4)+p3)*(x3+88)) ∧
 Rng .i64 ((((p2*x4)+p3)*(x3+88))+(x3+88)) ∧
 ((0:Int)≤(((p2*x4)+p3)*(x3+88))∧(((p2*x4)+p3)*(x3+88))≤((((p2*x4)+p3)*(x3+88))+(x3+88))∧((((p2*x4)+p3)*(x3+88))+(x3+88))≤((c1:Nat):Int)) ∧
 SubK a1 ((((p2*x4)+p3)*(x3+88)).toNat) c1 1 fun a5=>
 K ((⟨a5,(((((p2*x4)+p3)*(x3+88))+(x3+88)).toNat)-((((p2*x4)+p3)*(x3+88)).toNat),c1-((((p2*x4)+p3)*(x3+88)).toNat)⟩:SlV),()) w2
theorem ref27_Page.vc (p0_0 p0_1 p0_2 p0_3 p0_4 p0_5:Int) (a1:Option Addr) (n1 c1:Nat) (p2 p3:Int) (w:World) (K:SlV×Unit→World→Prop) (h:ref27_Page.P p0_0 p0_1 p0_2 p0_3 p0_4 p0_5 a1 n1 c1 p2 p3 w K):CallV Tryz.prog 138 #[.agg #[.int .i64 p0_0,.int .i64 p0_1,.int .i64 p0_2,.int .i64 p0_3,.int .i64 p0_4,.int .i64 p0_5],.slice a1 n1 c1,.int .i64 p2,.int .i64 p3] w [.one .sl] K:=by
 refine vcFun.of (A:=ref27_Page.A) (wr:=false) okf_ok follows h Tryz.func138 ?_
 kernel_rfl
def ref27_Blank.A:Ann:=.no
def ref27_Blank.P (a0:Option Addr) (n0 c0:Nat) (w:World) (K:Bool×Unit→World→Prop):Prop:=
 CallV Tryz.prog 192 #[.slice a0 n0 c0,.int .u8 255] w [.one .bool] fun (r1:Bool×Unit) w2=>
 cond r1.1
 (K (true,()) w2)
 (CallV Tryz.prog 192 #[.slice a0 n0 c0,.int .u8 0] w2 [.one .bool] fun (r3:Bool×Unit) w4=>
 K (r3.1,()) w4)
theorem ref27_Blank.vc (a0:Option Addr) (n0 c0:Nat) (w:World) (K:Bool×Unit→World→Prop) (h:ref27_Blank.P a0 n0 c0 w K):CallV Tryz.prog 137 #[.slice a0 n0 c0] w [.one .bool] K:=by
 refine vcFun.of (A:=ref27_Blank.A) (wr:=false) okf_ok follows h Tryz.func137 ?_
 kernel_rfl
def ref27_Alike.A:Ann:=.two .no (.two (.two .no (.one (.loop [4,5,6,7,8,9,10,11,12,13,14,15,16,17] [(5,.one (.int .i64))] .no))) .no)
def ref27_Alike.P (a0:Option Addr) (n0 c0:Nat) (p1:Int) (w:World) (K:Bool×Unit→World→Prop):Prop:=
 LoopV [.one (.int .i64)] ((0:Int),()) w fun (z1:Int×Unit) w2 (K3:Int×Unit→World→Prop)=>
 cond (decide (z1.1<((n0:Nat):Int)))
 ((0≤z1.1∧z1.1<((n0:Nat):Int))∧∃ q4:Addr,a0=some q4 ∧
 LoadS w2 (q4.add (z1.1.toNat*1)) (.int .u8) fun (x5:Int)=>
 cond (x5 != p1)
 (K (false,()) w2)
 (Rng .i64 (z1.1+1) ∧
 K3 (z1.1+1,()) w2))
 (K (true,()) w2)
theorem ref27_Alike.vc (a0:Option Addr) (n0 c0:Nat) (p1:Int) (w:World) (K:Bool×Unit→World→Prop) (h:ref27_Alike.P a0 n0 c0 p1 w K):CallV Tryz.prog 192 #[.slice a0 n0 c0,.int .u8 p1] w [.one .bool] K:=by
 refine vcFun.of (A:=ref27_Alike.A) (wr:=false) okf_ok follows h Tryz.func192 ?_
 kernel_rfl
end Go.Proofs.YtbaojfchlhlaeaaGreat.Vc
namespace Go.Proofs.YtbaojfchlhlaeaaGreat.Vc
open Go Go.Eng Go.RowKit
section
variable {g:Geo} {n:Nat} {s t:SD} {b:Int}
theorem NI.emd (h:NI g n s) (hG:GD n s) (hb:0≤b∧b<(n:Int)) (ho:s.C.ops+215042≤1000000000000) :
  NI g n (emdS s b).1∧(∀ T,StN g n T s (emdS s b).1)∧((emdS s b).2=0∨((emdS s b).2=15∧(emdS s b).1.ro=true)):=by
 unfold emdS
 split
 ·obtain ⟨N1,-,e1,-,h1⟩:=h.emt (T:=fun _=>[]) hG hb (by omega)
  have S1:=fun T=>(h.emt (T:=T) hG hb (by omega)).2.1
  have a1:=(h.i.emt (b:=b) (by omega)).1
  split
  ·rename_i he
   exact ⟨N1,S1,e1⟩
  ·rename_i he
   have he:(emtS s b).2=0:=Classical.byContradiction he
   have hh:=h1 he
   have o2:=a1.o2
   obtain ⟨N2,-,e2,-⟩:=N1.dstN (T:=fun _=>[]) hb hh (by omega)
   have S2:=fun T=>(N1.dstN (T:=T) hb hh (by omega)).2.1
   exact ⟨N2,fun T=>(S1 T).trans (S2 T),.inl (by show powE _=0;unfold powE;rw [if_neg (by omega)])⟩
 ·rename_i hh
  have hh:(gx s.L b.toNat).he=false:=by simpa using hh
  obtain ⟨N2,-,e2,-⟩:=h.dstN (T:=fun _=>[]) hb hh (by omega)
  exact ⟨N2,fun T=>(h.dstN (T:=T) hb hh (by omega)).2.1,.inl (by show powE _=0;unfold powE;rw [if_neg (by omega)])⟩
structure DrN (g:Geo) (n:Nat) (s t:SD) (e:Int):Prop where
 ni:NI g n t
 st:∀ T,StN g n T s t
 ee:e=0∨(e=15∧t.ro=true)
theorem NI.drn1 (h:NI g n s) (hG:GD n s) {b:Nat} (hb:b<n) (ho:s.C.ops+215042≤1000000000000):DrN g n s (drn1 s b).1 (drn1 s b).2:=by
 unfold Vc.drn1
 split
 ·obtain ⟨a,b,c⟩:=h.emd hG (b:=(b:Int)) ⟨by omega,by omega⟩ ho
  exact ⟨a,b,c⟩
 ·exact ⟨h,fun _=>.refl h,.inl rfl⟩
theorem NI.each {f:SD→Nat→SD×Int} (hf:∀ {t:SD} {i:Nat},NI g n t→GD n t→i<n→t.C.ops+215042≤1000000000000→DrN g n t (f t i).1 (f t i).2∧St g n 215042 t (f t i).1):∀ (k:Nat) {s:SD},k≤n→NI g n s→GD n s→s.C.ops+drC k≤1000000000000→DrN g n s (eachF f n k s).1 (eachF f n k s).2
 | 0,s,_,h,_,_=>⟨h,fun _=>.refl h,.inl rfl⟩
 | k+1,s,hk,h,hG,ho=>by
  have e:=drCs k
  obtain ⟨d,h1⟩:=hf (t:=s) (i:=n-(k+1)) h hG (by omega) (by omega)
  unfold eachF
  split
  ·exact d
  ·have o2:=h1.o2
   have d2:=NI.each hf k (by omega) d.ni ((d.st fun _=>[]).gd hG) (by omega)
   exact ⟨d2.ni,fun T=>(d.st T).trans (d2.st T),d2.ee⟩
theorem NI.drn:∀ (k:Nat) {s:SD},NI g n s→GD n s→s.C.ops+drD k≤1000000000000 →
  NI g n (drnP k s).1∧(∀ T,StN g n T s (drnP k s).1)∧(((drnP k s).2=0∧cln (drnP k s).1.L=true)∨((drnP k s).2=15∧(drnP k s).1.ro=true)∨(drnP k s).2=17)
 | 0,s,h,_,_=>⟨h,fun _=>.refl h,by
  show (drnE s=0∧cln s.L=true)∨(drnE s=15∧s.ro=true)∨drnE s=17
  unfold drnE
  split
  ·rename_i hc
   split
   ·exact .inr (.inr rfl)
   ·exact .inl ⟨rfl,hc⟩
  ·exact .inr (.inr rfl)⟩
 | k+1,s,h,hG,ho=>by
  have e:=drDs k
  have e60:=drC60 h.i.no.1
  have d:=NI.each (fun h hG hi ho=>⟨NI.drn1 h hG hi ho,SI.drn1 h.i hi ho⟩) n (Nat.le_refl n) h hG (by omega)
  have h1:=SI.each (fun h hi ho=>SI.drn1 h hi ho) n (Nat.le_refl n) h.i (by omega)
  unfold Vc.drnP
  rw [h.i.ln]
  split
  ·rename_i hc
   refine ⟨h,fun _=>.refl h,?_⟩
   show (drnE s=0∧cln s.L=true)∨(drnE s=15∧s.ro=true)∨drnE s=17
   unfold drnE
   rw [if_pos hc]
   split
   ·exact .inr (.inr rfl)
   ·exact .inl ⟨rfl,hc⟩
  ·split
   ·rename_i he
    exact ⟨d.ni,d.st,.inr (.inl (d.ee.resolve_left he))⟩
   ·have o2:=h1.o2
    obtain ⟨a,b,c⟩:=NI.drn k d.ni ((d.st fun _=>[]).gd hG) (by omega)
    exact ⟨a,fun T=>(d.st T).trans (b T),c⟩
theorem dir_e (x:Blk) (hb:x.ba=false):dirB (eB x)=false:=by
 unfold dirB eB
 dsimp only
 rw [hb]
 rfl
theorem emd_zf (h:NI g n s) (hz:ZI n s) (hG:GD n s) (hM:RM n s) (hb:0≤b∧b<(n:Int)) (ho:s.C.ops+215042≤1000000000000) :
  (emdS s b).2=0∧ZI n (emdS s b).1∧dirB (gx (emdS s b).1.L b.toNat)=false∧∀ i,i<n→i≠b.toNat→dirB (gx s.L i)=false→dirB (gx (emdS s b).1.L i)=false:=by
 unfold emdS
 split
 ·rename_i hh
  obtain ⟨N1,-,-,-,h1⟩:=h.emt (T:=fun _=>[]) hG hb (by omega)
  obtain ⟨e1,e2⟩:=emtS_zf h hz hG hM hb (by omega)
  rcases e2 with ⟨k,-⟩ | ⟨-,k⟩
  ·rw [hh] at k;cases k
  rw [if_neg (by rw [e1];decide)]
  have hln:=N1.i.ln
  obtain ⟨d1,d2,d3⟩:=dstS_zf N1 k.z hb
  dsimp only
  refine ⟨by rw [d1];rfl,d3,?_,fun i hi hne hd=>?_⟩
  ·rw [d2,gx_eq hln hb]
   exact dir_e _ (k.z.nb _ (by omega))
  ·rw [d2,gx_ne hln hne]
   rcases k.L with e | ⟨to,t1,t2,t3,t4,t5,t6,t7,t8,t9,t10,t11⟩
   ·rw [e,gx_ne h.i.ln hne];exact hd
   ·by_cases e:i=to
    ·rw [e]
     unfold dirB
     rw [k.z.nb to t1,t7]
     exact decide_eq_false (by omega)
    ·rw [t5 i hne e];exact hd
 ·rename_i hh
  have hh:(gx s.L b.toNat).he=false:=by simpa using hh
  obtain ⟨d1,d2,d3⟩:=dstS_zf h hz hb
  dsimp only
  refine ⟨by rw [d1];rfl,d3,?_,fun i hi hne hd=>?_⟩
  ·rw [d2,gx_eq h.i.ln hb]
   exact dir_e _ (hz.nb _ (by omega))
  ·rw [d2,gx_ne h.i.ln hne];exact hd
theorem each_zf:∀ (k:Nat) {s:SD},k≤n→NI g n s→ZI n s→GD n s→RM n s→(∀ i,i<n-k→dirB (gx s.L i)=false)→s.C.ops+drC k≤1000000000000 →
  (eachF drn1 n k s).2=0∧ZI n (eachF drn1 n k s).1∧∀ i,i<n→dirB (gx (eachF drn1 n k s).1.L i)=false
 | 0,s,_,_,hz,_,_,hd,_=>⟨rfl,hz,fun i hi=>hd i (by omega)⟩
 | k+1,s,hk,h,hz,hG,hM,hd,ho=>by
  have e:=drCs k
  have d:=h.drn1 hG (b:=n-(k+1)) (by omega) (by omega)
  have h1:=h.i.drn1 (b:=n-(k+1)) (by omega) (by omega)
  have key:(drn1 s (n-(k+1))).2=0∧ZI n (drn1 s (n-(k+1))).1∧∀ i,i<n-k→dirB (gx (drn1 s (n-(k+1))).1.L i)=false:=by
   unfold Vc.drn1
   split
   ·obtain ⟨a1,a2,a3,a4⟩:=emd_zf h hz hG hM (b:=((n-(k+1):Nat):Int)) ⟨by omega,by omega⟩ (by omega)
    rw [Int.toNat_natCast] at a3 a4
    refine ⟨a1,a2,fun i hi=>?_⟩
    by_cases e:i=n-(k+1)
    ·rw [e];exact a3
    ·exact a4 i (by omega) e (hd i (by omega))
   ·rename_i hx
    refine ⟨rfl,hz,fun i hi=>?_⟩
    by_cases e:i=n-(k+1)
    ·rw [e];simpa using hx
    ·exact hd i (by omega)
  obtain ⟨k1,k2,k3⟩:=key
  have o2:=h1.o2
  unfold eachF
  rw [if_neg (by rw [k1];decide)]
  exact each_zf k (by omega) d.ni k2 ((d.st fun _=>[]).gd hG) (hM.of h.i d.ni.i h1.sz) k3 (by omega)
theorem cln_iff {L:List Blk} (hl:L.length=n):cln L=true↔∀ i,i<n→dirB (gx L i)=false:=by
 unfold cln
 rw [Bool.not_eq_true',List.any_eq_false]
 constructor
 ·intro h i hi
  have:=h _ (gx_mem (L:=L) (i:=i) (by omega))
  simpa using this
 ·intro h x hx
  obtain ⟨i,hi,rfl⟩:=mem_gx hx
  rw [h i (by omega)]
  exact Bool.false_ne_true
theorem lks_zf (h:NI g n s) (hz:ZI n s):lks s.L=false:=by
 unfold lks
 rw [List.any_eq_false]
 intro x hx e
 obtain ⟨i,hi,rfl⟩:=mem_gx hx
 have hi:i<n:=by rw [←h.i.ln];exact hi
 have:=(h.c.bk i hi (by omega)).le e
 rw [hz.nb i hi] at this
 cases this
theorem drn_zf (h:NI g n s) (hz:ZI n s) (hG:GD n s) (hM:RM n s) (ho:s.C.ops+51610080≤1000000000000):(drnP 4 s).2=0:=by
 have e60:=drC60 h.i.no.1
 show (drnP (3+1) s).2=0
 unfold drnP
 split
 ·rename_i hc
  show drnE s=0
  unfold drnE
  rw [if_pos hc,lks_zf h hz]
  rfl
 ·obtain ⟨a1,a2,a3⟩:=each_zf n (Nat.le_refl n) h hz hG hM (fun i hi=>by omega) (by omega)
  have d:=NI.each (fun h hG hi ho=>⟨NI.drn1 h hG hi ho,SI.drn1 h.i hi ho⟩) n (Nat.le_refl n) h hG (by omega)
  rw [h.i.ln,if_neg (by rw [a1];decide)]
  generalize (eachF drn1 n n s).1=u at a2 a3 d
  have hc:=(cln_iff d.ni.i.ln).2 a3
  show (drnP (2+1) u).2=0
  unfold drnP
  rw [if_pos hc]
  show drnE u=0
  unfold drnE
  rw [if_pos hc,lks_zf d.ni a2]
  rfl
theorem live_cnt (h:NI g n s) {i:Nat} (hi:i<n) {pa:Int} (h1:1≤pa∧pa≤(gx s.L i).us) (h0:¬ 1≤cntX s.X (4+(i:Int),pa)):(gx s.L i).li+1≤(gx s.L i).us:=by
 have hu:=h.i.l.us i hi
 rw [h.i.l.li i hi]
 have hnd:=so_nd (inP_so s.X (4+(i:Int)))
 have hsub:∀ k∈(4+(i:Int),pa)::inP s.X (4+(i:Int)),k∈(List.range ((gx s.L i).us).toNat).map fun j:Nat=>(4+(i:Int),(j:Int)+1):=fun k hk=>by
  rcases List.mem_cons.1 hk with e | e
  ·subst e
   exact List.mem_map.2 ⟨(pa-1).toNat,List.mem_range.2 (by omega),Prod.ext rfl (by dsimp only;omega)⟩
  ·obtain ⟨q1,q2,q3⟩:=inP_mem.1 e
   have h2:=(h.i.l.xb k q3).2
   have h3:=h.i.l.pu k q3
   rw [show (k.1-4).toNat=i by omega] at h3
   exact List.mem_map.2 ⟨(k.2-1).toNat,List.mem_range.2 (by omega),Prod.ext q1.symm (by dsimp only;omega)⟩
 have hnd2:((4+(i:Int),pa)::inP s.X (4+(i:Int))).Nodup:=List.nodup_cons.2 ⟨fun k=>h0 (inP_mem.1 k).2.2,hnd⟩
 have:=nodup_sub _ _ hnd2 hsub
 rw [List.length_cons,List.length_map,List.length_range] at this
 omega
theorem blank_of (h:NI g n s) {i:Nat} (hi:i<n) (hd:dirB (gx s.L i)=false) {pa:Int} (hp:0≤pa∧pa<g.p) (h0:¬ 1≤cntX s.X (4+(i:Int),pa)) (h1:¬ ((gx s.L i).he=true∧pa=0)) :
  (∀ v∈pgC13 s.C (4+(i:Int)) pa,v=255)∨(∀ v∈pgC13 s.C (4+(i:Int)) pa,v=0):=by
 have B:=h.c.bk i hi (by omega)
 have hnn:=h.i.pi.nn
 have hgg:=h.i.pi.gg
 have hin:inC s.C (4+(i:Int)) pa:=by unfold inC;rw [hgg];omega
 have bl:(blkC s.C (4+(i:Int))).sc=false→(blkC s.C (4+(i:Int))).la<pa→∀ v∈pgC13 s.C (4+(i:Int)) pa,v=255:=fun a b v hv=>by
  rw [blank_pg h.i.pi.ok h.c.bi hin a b] at hv
  exact (List.mem_replicate.1 hv).2
 unfold dirB at hd
 cases hba:(gx s.L i).ba
 ·rw [hba] at hd
  cases hhe:(gx s.L i).he
  ·rw [hhe] at hd
   have hcl:(gx s.L i).cl=true:=by simpa using hd
   obtain ⟨-,k1,k2,-⟩:=B.cl hcl
   exact .inl (bl k1 (by omega))
  ·rw [hhe] at hd
   have hd:¬ (gx s.L i).li<(gx s.L i).us:=of_decide_eq_false hd
   obtain ⟨-,k1,k2,-⟩:=B.he hhe hba
   refine .inl (bl k1 ?_)
   refine Classical.byContradiction fun k=>?_
   have hp1:1≤pa:=by
    have:pa≠0:=fun e=>h1 ⟨hhe,e⟩
    omega
   have:=live_cnt h hi (pa:=pa) ⟨hp1,by omega⟩ h0
   omega
 ·rw [hba] at hd
  cases hcl:(gx s.L i).cl
  ·rw [hcl] at hd
   have hgo:(gx s.L i).go=true:=by simpa using hd
   obtain ⟨-,-,k⟩:=B.go hgo
   right
   intro v hv
   obtain ⟨hbk,hbo⟩:=h.i.pi.ok.blk hin.1
   have h2:=hin.2
   have hpl:pa.toNat<(blkC s.C (4+(i:Int))).pg.length:=by rw [hbo.pl];omega
   refine k _ ?_ v hv
   show (blkC s.C (4+(i:Int))).pg.getD pa.toNat []∈_
   rw [List.getD_eq_getElem?_getD,List.getElem?_eq_getElem hpl]
   exact List.getElem_mem hpl
  ·obtain ⟨-,k1,k2,-⟩:=B.cl hcl
   exact .inl (bl k1 (by omega))
end
end Go.Proofs.YtbaojfchlhlaeaaGreat.Vc
namespace Go.Proofs.YtbaojfchlhlaeaaGreat.Vc
open Go Go.Eng Go.RowKit
section
variable {E:Nat→Prop} {w0 w:World} {Rs:List Asr} {sp pp pm p q n:Nat} {g:Geo} {s:SD} {F:HasF}
theorem Alike_c {a:Option Addr} {nn c:Nat} {xs:List Int} {x:Int} (h:Ints w .u8 a nn c xs):CallV Tryz.prog 192 #[.slice a nn c,.int .u8 x] w [.one .bool] fun r w'=>r.1=decide (∀ v∈xs,v=x)∧w'=w:=by
 apply ref27_Alike.vc
 unfold ref27_Alike.P
 have hl:=h.len
 have hlim:=h.lim
 refine Loop1 (fun (v:Int×Unit) w'=>(∃ i:Nat,v.1=(i:Int)∧i≤nn∧∀ j,j<i→xs.getD j 0=x)∧w'=w) (fun (v:Int×Unit) _=>((nn:Int)-v.1).toNat) ⟨⟨0,rfl,Nat.zero_le _,fun _ k=>absurd k (Nat.not_lt_zero _)⟩,rfl⟩ ?_
 rintro ⟨(v:Int),⟨⟩⟩ w1 ⟨⟨i,hv,hi,hall⟩,rfl⟩
 dsimp only at hv
 subst hv
 refine cond_d (fun hlt=>?_) (fun hge=>?_)
 ·refine h.idx (by omega) hlt (cond_ne (fun hne=>?_) (fun he=>?_))
  ·refine ⟨(decide_eq_false fun k=>hne ?_).symm,rfl⟩
   rw [Int.toNat_natCast,List.getD_eq_getElem?_getD,List.getElem?_eq_getElem (by omega)]
   exact k _ (List.getElem_mem (by omega))
  ·refine ⟨Rng.i64 (by omega) (by omega),⟨⟨i+1,by push_cast;rfl,by omega,fun j hj=>?_⟩,rfl⟩,by omega⟩
   by_cases e:j=i
   ·subst e;rw [Int.toNat_natCast] at he;exact he
   ·exact hall j (by omega)
 ·refine ⟨(decide_eq_true fun v hv=>?_).symm,rfl⟩
  obtain ⟨j,hj,rfl⟩:=List.getElem_of_mem hv
  have:=hall j (by omega)
  rw [List.getD_eq_getElem?_getD,List.getElem?_eq_getElem hj] at this
  exact this
theorem Blank27_c {a:Option Addr} {nn c:Nat} {xs:List Int} (h:Ints w .u8 a nn c xs):CallV Tryz.prog 137 #[.slice a nn c] w [.one .bool] fun r w'=>((∀ v∈xs,v=255)∨(∀ v∈xs,v=0)→r.1=true)∧w'=w:=by
 apply ref27_Blank.vc
 unfold ref27_Blank.P
 refine (Alike_c (x:=255) h).mono ?_
 rintro ⟨(r:Bool),⟨⟩⟩ w1 ⟨h1,rfl⟩
 dsimp only at h1 ⊢
 refine cond_of (fun hr=>⟨fun _=>rfl,rfl⟩) (fun hr=>?_)
 refine (Alike_c (x:=0) h).mono ?_
 rintro ⟨(r2:Bool),⟨⟩⟩ w2 ⟨h2,rfl⟩
 dsimp only at h2 ⊢
 refine ⟨fun k=>?_,rfl⟩
 rcases k with k | k
 ·rw [hr] at h1
  rw [decide_eq_true k] at h1
  cases h1
 ·rw [h2];exact decide_eq_true k
theorem img_page {C:CD} (hC:COk C) {bl pa:Int} (hi:inC C bl pa):((imgC C).drop (ixC C bl pa*szP C.g)).take (szP C.g)=pgC13 C bl pa∧ixC C bl pa*szP C.g+szP C.g≤(imgC C).length:=by
 obtain ⟨pre,post,e,hl,-⟩:=imgC_split hC hi
 have hp:=(pg_len hC hi).1
 rw [e]
 constructor
 ·rw [List.drop_append_of_le_length (by omega),List.drop_eq_nil_of_le (by omega),List.nil_append,List.take_append_of_le_length (by omega),List.take_of_length_le (by omega)]
 ·rw [List.length_append,List.length_append,hl,hp];omega
theorem Page27_c {C:CD} (hC:COk C) {a:Option Addr} {nn c:Nat} {bl pa:Int} (hi:inC C bl pa) (h:Ints w .u8 a nn c (imgC C)):CallV Tryz.prog 138 #[C.g.val,.slice a nn c,.int .i64 bl,.int .i64 pa] w [.one .sl] fun r w'=>Ints w' .u8 r.1.a r.1.n r.1.c (pgC13 C bl pa)∧Ext w w':=by
 apply ref27_Page.vc
 unfold ref27_Page.P
 have hnum:=hC.num
 obtain ⟨i1,i2,i3⟩:=hC.ix hi
 obtain ⟨e1,e2⟩:=img_page hC hi
 have hl:=h.len
 have hcap:=h.cap
 have hlim:=h.lim
 have S:=Sep.start NoB w
 have hz:((szP C.g:Nat):Int)=C.g.s+88:=by unfold szP;omega
 have hm:(bl*C.g.p+pa)*(C.g.s+88)=((ixC C bl pa*szP C.g:Nat):Int):=by rw [←i1,← hz];push_cast;rfl
 refine S.newB (vs:=C.g.vs) fun b1 w1 S f1 _=>S.ld0 (j:=2) rfl rfl ⟨Rng.i64 (by omega) (by omega),S.ld0 (j:=1) rfl rfl ?_⟩
 have hin:=hi
 unfold inC at hin
 have hbp:0≤bl*C.g.p:=Int.mul_nonneg (by omega) (by omega)
 dsimp only
 rw [hm]
 generalize ixC C bl pa*szP C.g=lo at e1 e2 hm ⊢
 refine ⟨Rng.i64 (by omega) (by omega),Rng.i64 (by omega) (by omega),Rng.i64 (by omega) (by omega),Rng.i64 (by omega) (by omega),⟨by omega,by omega,by omega⟩,?_⟩
 intro a' ha'
 have hh:(((lo:Nat):Int)+(C.g.s+88)).toNat=lo+szP C.g:=by omega
 rw [hh,Int.toNat_natCast]
 rw [Int.toNat_natCast] at ha'
 have hI:=(h.ext S.ext).sub (l:=lo) (hh:=lo+szP C.g) (m:=c) (by omega) (by omega) (by omega) ha'
 rw [Nat.add_sub_cancel_left,e1] at hI
 refine ⟨?_,S.ext⟩
 rw [Nat.add_sub_cancel_left]
 exact hI
theorem only27_c (h:NI g n s) (hc:cln s.L=true) (S:Sep E w0 w (stS sp pp pm p q g s Rs)) :
  CallV Tryz.prog 73 #[.pointer (some ⟨sp,0,none⟩),.pointer (some ⟨p,0,none⟩),g.val] w [.one .bool] fun r w'=>r.1=true∧Sep E w0 w' (stS sp pp pm p q g s Rs):=by
 apply law27_only.vc
 unfold law27_only.P
 have hln:=h.i.ln
 have hno:=h.i.no
 have hgg:=h.i.pi.gg
 have hnn:=h.i.pi.nn
 have hC:=h.i.pi.ok
 have hnum:=hC.num
 rw [hgg] at hnum
 have hcl:=(cln_iff hln).1 hc
 have hlen:=imgC_len hC
 rw [hgg] at hlen
 refine S.newB (vs:=g.vs) fun b1 w1 S f1 _=>?_
 refine (Image_e hC (S.fro [5] rfl)).mono ?_
 rintro ⟨⟨ia,iN,ic⟩,⟨⟩⟩ w4 R
 dsimp only at R ⊢
 have RI:Ints w4 .u8 ia iN ic (imgC s.C):=R.ints
 have hil:=RI.len
 have S:=S.stepE R.ext
 clear R
 have m1:g.b*g.p=((g.b.toNat*g.p.toNat:Nat):Int):=by push_cast;rw [Int.toNat_of_nonneg (by omega),Int.toNat_of_nonneg (by omega)]
 have m2:g.b.toNat*g.p.toNat≤320:=by
  have:g.b.toNat*g.p.toNat≤16*20:=Nat.mul_le_mul (by omega) (by omega)
  omega
 have hz:((szP g:Nat):Int)=g.s+88:=by unfold szP;omega
 have m3:g.b.toNat*g.p.toNat*szP g≤320*216:=Nat.mul_le_mul m2 (by omega)
 have m4:g.b*g.p*(g.s+88)=((g.b.toNat*g.p.toNat*szP g:Nat):Int):=by rw [m1,← hz];push_cast;rfl
 refine S.ld0 (j:=0) rfl rfl (S.ld0 (j:=1) rfl rfl ⟨Rng.i64 (by omega) (by omega),S.ld0 (j:=2) rfl rfl ⟨Rng.i64 (by omega) (by omega),Rng.i64 (by rw [m4];omega) (by rw [m4];omega),cond_f ?_ ?_⟩⟩)
 ·have:((iN:Nat):Int)=g.b*g.p*(g.s+88):=by rw [m4];omega
  simpa using this
 refine Loop1 (fun (v:Int×Unit) w'=>∃ i:Nat,v.1=4+(i:Int)∧i≤n∧Ext w4 w'∧Sep E w0 w' (BoxA b1 23 g.vs::stS sp pp pm p q g s Rs)) (fun (v:Int×Unit) _=>(g.b-v.1).toNat) ⟨0,rfl,Nat.zero_le _,Ext.refl _,S⟩ ?_
 clear S
 rintro ⟨(v:Int),⟨⟩⟩ w9 ⟨i,hv,hi,X,S⟩
 dsimp only at hv S ⊢
 subst hv
 refine S.ld0 (j:=0) rfl rfl (cond_d (fun hlt=>?_) (fun hge=>⟨rfl,S.tail⟩))
 have hlt:4+(i:Int)<g.b:=hlt
 have hin:i<n:=by omega
 have S1:Sep E w0 w9 (stS sp pp pm p q g s (BoxA b1 23 g.vs::Rs)):=S.fro [1,1,1,1,1] rfl
 refine (Pool25_c S1).mono ?_
 rintro ⟨r,⟨⟩⟩ w10 ⟨h10,rfl⟩
 dsimp only at h10 ⊢
 subst h10
 refine ldg0 S1 ⟨Rng.i64 (by omega) (by omega),(At_e (b:=4+(i:Int)-4) (S1.fro [3] rfl) ⟨by omega,by omega⟩).mono ?_⟩
 rintro ⟨x,⟨⟩⟩ w12 ⟨h12,x12⟩
 dsimp only at h12 ⊢
 subst h12
 have S:=S.stepE x12
 have X:=X.trans x12
 clear S1 x12
 rw [show (4+(i:Int)-4).toNat=i by omega]
 refine Loop1 (fun (v:Int×Unit) w'=>∃ j:Nat,v.1=(j:Int)∧(j:Int)≤g.p∧Ext w4 w'∧Sep E w0 w' (BoxA b1 23 g.vs::stS sp pp pm p q g s Rs)) (fun (v:Int×Unit) _=>(g.p-v.1).toNat) ⟨0,rfl,by omega,X,S⟩ ?_
 clear S X
 rintro ⟨(v:Int),⟨⟩⟩ w13 ⟨j,hv,hj,X,S⟩
 dsimp only at hv S ⊢
 subst hv
 refine S.ld0 (j:=1) rfl rfl (cond_d (fun hlt2=>?_) (fun hge=>?_))
 case refine_2=>exact ⟨Rng.i64 (by omega) (by omega),⟨i+1,by push_cast;omega,by omega,X,S⟩,by omega⟩
 have hlt2:(j:Int)<g.p:=hlt2
 have S1:Sep E w0 w13 (stS sp pp pm p q g s (BoxA b1 23 g.vs::Rs)):=S.fro [1,1,1,1,1] rfl
 refine (Map25_c S1).mono ?_
 rintro ⟨r,⟨⟩⟩ w14 ⟨h14,rfl⟩
 dsimp only at h14 ⊢
 subst h14
 refine (Refs_m (b:=4+(i:Int)) (k:=(j:Int)) h.i.xo.four (S1.fro [1] rfl)).mono ?_
 rintro ⟨(r:Int),⟨⟩⟩ w15 ⟨h15,x15⟩
 dsimp only at h15 ⊢
 subst h15
 have S:=S.stepE x15
 have X:=X.trans x15
 clear S1 x15
 have nx:∀ {w':World},Ext w15 w'→Rng .i64 ((j:Int)+1)∧(∃ j':Nat,(j:Int)+1=(j':Int)∧(j':Int)≤g.p∧Ext w4 w'∧Sep E w0 w' (BoxA b1 23 g.vs::stS sp pp pm p q g s Rs))∧(g.p-((j:Int)+1)).toNat<(g.p-(j:Int)).toNat:=fun hX=>⟨Rng.i64 (by omega) (by omega),⟨j+1,by push_cast;rfl,by push_cast;omega,X.trans hX,S.stepE hX⟩,by omega⟩
 refine cond_d (fun hlive=>?_) (fun hnl=>?_)
 ·have hlive:cntX s.X (4+(i:Int),(j:Int))>0:=hlive
  have hhe:=(h.live (q:=(4+(i:Int),(j:Int))) (by omega)).2
  rw [show ((4+(i:Int),(j:Int)).1-4).toNat=i by dsimp only;omega] at hhe
  refine cond_f (by show (!(gx s.L i).he)=false;rw [hhe];rfl) (cond_f (by rw [decide_eq_true hlive];rfl) (nx (Ext.refl _)))
 have hnl:¬ 1≤cntX s.X (4+(i:Int),(j:Int)):=by
  have hnl:¬ cntX s.X (4+(i:Int),(j:Int))>0:=hnl
  omega
 have page:¬ ((gx s.L i).he=true∧(j:Int)=0)→∀ {KF KN:World→Prop},(∀ w',Ext w15 w'→KN w') →
   CallV Tryz.prog 138 #[g.val,.slice ia iN ic,.int .i64 (4+(i:Int)),.int .i64 (j:Int)] w15 [.one .sl] fun (r27:SlV×Unit) w28=>
   CallV Tryz.prog 137 #[.slice r27.1.a r27.1.n r27.1.c] w28 [.one .bool] fun (r29:Bool×Unit) w30=>cond (!r29.1) (KF w30) (KN w30):=fun hne KF KN hk=>by
  have hic:inC s.C (4+(i:Int)) (j:Int):=by unfold inC;rw [hgg];omega
  have hP:=Page27_c hC hic (RI.ext X)
  rw [hgg] at hP
  refine hP.mono ?_
  rintro ⟨⟨ra,rn,rc⟩,⟨⟩⟩ w28 ⟨h28,x28⟩
  dsimp only at h28 ⊢
  refine (Blank27_c h28).mono ?_
  rintro ⟨(r:Bool),⟨⟩⟩ w30 ⟨h30,rfl⟩
  dsimp only at h30 ⊢
  have:=h30 (blank_of h hin (hcl i hin) ⟨by omega,hlt2⟩ hnl hne)
  subst this
  exact cond_f rfl (hk _ x28)
 refine cond_t (by rw [decide_eq_false (by omega)];rfl) (cond_of (fun hhe=>?_) (fun hhe=>?_))
 ·have hhe:(gx s.L i).he=true:=hhe
  refine cond_of (fun h0=>?_) (fun h0=>nx (Ext.refl _))
  have h0:(j:Int)≠0:=by simpa using h0
  refine S.la0 rfl ?_
  exact page (fun k=>h0 k.2) fun w' hX=>nx hX
 ·have hhe:(gx s.L i).he=false:=hhe
  refine S.la0 rfl ?_
  exact page (fun k=>by rw [hhe] at k;cases k.1) fun w' hX=>nx hX
theorem stB_of {z0 z1:Int} {x:St25} (hz:(1≤z0∧z0≤150)∧(1≤z1∧z1≤150)) (hx:stR z0 z1 x) (hsd:0≤x.sd∧x.sd<256):stB x∧x.c≤150∧0≤x.ns∧x.ns≤1:=by
 obtain ⟨h1,h2,h3,h4,h5⟩:=hx
 have hs:szOf z0 z1 x.ns≤150:=by
  rcases h1 with e | e
  ·rw [e];show z0≤150;omega
  ·rw [e];show z1≤150;omega
 exact ⟨⟨⟨h4,by omega⟩,⟨h2,by omega⟩,hsd⟩,by omega,by omega,by omega⟩
theorem do27_R {z0 z1:Int} {x:St25} (hz:(1≤z0∧z0≤150)∧(1≤z1∧z1≤150)) (hx:stR z0 z1 x) (hsd:0≤x.sd∧x.sd<256) (s:SD):HRight (nxtS s (hd25 x)).2:=by
 obtain ⟨⟨-,h2,-⟩,h3,h4⟩:=stB_of hz hx hsd
 unfold nxtS hd25 HRight
 split
 ·dsimp only;omega
 ·dsimp only;omega
theorem NI.do27 {T:Hh→List Int} (h:NI g n s) (hG:GD n s) (x:St25) (sd:Int) (hR:HRight (nxtS s (hd25 x)).2) (ho:s.C.ops+55051264≤1000000000000) :
  PutN g n T (nxtS s (hd25 x)).1 (Vc.do27 g s x sd).1 (nxtS s (hd25 x)).2 (pgW g (nxtS s (hd25 x)).2 (pl27 g x sd) (tg27 x sd)) (Vc.do27 g s x sd).2:=by
 have hN:NI g n (nxtS s (hd25 x)).1:=⟨(h.i.nxt (hd25 x)).2,h.c⟩
 have hs:=h.i.pi.R.sec
 have hl:(pl27 g x sd).length=0∨((pl27 g x sd).length:Int)=g.s:=by
  unfold pl27
  split
  ·exact .inl rfl
  ·right;rw [payM_len];omega
 have ht:(tg27 x sd).length=0∨(tg27 x sd).length=32:=by
  unfold tg27
  split
  ·exact .inl rfl
  ·right;rw [payM_len]
 have hr:=nxt_rng h.i (hd25_rng x)
 exact hN.put hG hr (fun _=>hR) (pl27_byt g x sd) (tg27_byt x sd) hl ht (fun _=>pgW_cp (by omega) hr hR (pl27_byt g x sd) (tg27_byt x sd) hl ht) ho
theorem zf_do27 (h:NI g n s) (hZ:ZI n s) (hG:GD n s) (hM:RM n s) (x:St25) (sd:Int) (hR:HRight (nxtS s (hd25 x)).2) (ho:s.C.ops+55051264≤1000000000000):ZI n (Vc.do27 g s x sd).1:=by
 have hN:NI g n (nxtS s (hd25 x)).1:=⟨(h.i.nxt (hd25 x)).2,h.c⟩
 have hs:=h.i.pi.R.sec
 have hl:(pl27 g x sd).length=0∨((pl27 g x sd).length:Int)=g.s:=by
  unfold pl27
  split
  ·exact .inl rfl
  ·right;rw [payM_len];omega
 have ht:(tg27 x sd).length=0∨(tg27 x sd).length=32:=by
  unfold tg27
  split
  ·exact .inl rfl
  ·right;rw [payM_len]
 exact put_zf hN ⟨hZ.pl,hZ.ro,hZ.nb⟩ hG hM (nxt_rng h.i (hd25_rng x)) (fun _=>hR) (pl27_byt g x sd) (tg27_byt x sd) hl ht ho
theorem KE.do27 {z0 z1:Int} {l:List St25} {x:St25} (hz:(1≤z0∧z0≤150)∧(1≤z1∧z1≤150)) (hx:stR z0 z1 x) (hsd:0≤x.sd∧x.sd<256) (hK:KE F s) (hF:∀ m,m=0∨m=1→Kp27 g F l m (szOf z0 z1 m)) (h:NI g n s) (hG:GD n s) (hct:s.ct≤1000000) (ho:s.C.ops+55051264≤1000000000000) :
  ∃ F',KE F' (Vc.do27 g s x x.sd).1∧(∀ m,m=0∨m=1→Kp27 g F' (if (Vc.do27 g s x x.sd).2=0 then l++[x] else l) m (szOf z0 z1 m))∧(Vc.do27 g s x x.sd).1.ct=s.ct+1:=by
 have hD:=h.i.do27 x x.sd ho
 have hc0:=h.i.ct
 have hu:u64w (s.ct+1)=s.ct+1:=by
  have:u64w (s.ct+1)=(s.ct+1) % 18446744073709551616:=by simp [u64w,IntKind.wrap,IntKind.signed,IntKind.bits]
  unfold u64R at hc0
  omega
 have hct1:(Vc.do27 g s x x.sd).1.ct=s.ct+1:=by rw [hD.ct];exact hu
 have hR:=do27_R hz hx hsd s
 obtain ⟨hB,-,hn0,hn1⟩:=stB_of hz hx hsd
 refine ⟨_,hK.put (hd0:=hd25 x) (P:=pgW g (nxtS s (hd25 x)).2 (pl27 g x x.sd) (tg27 x x.sd)) (fun T=>h.do27 (T:=T) hG x x.sd hR ho) hD.ep hct1 ⟨hc0.1,by omega⟩,?_,hct1⟩
 intro m hm
 by_cases e:(Vc.do27 g s x x.sd).2=0
 ·rw [if_pos e,if_pos e]
  have hr:=nxt_rng h.i (hd25_rng x)
  have hs:=h.i.pi.R.sec
  have hlw:IntKind.u32.wrap x.lba=x.lba:=by rw [u32_wrap];have:=hB.1;omega
  refine (hF m hm).put hB ?_ ?_ ?_ ?_ fun ht=>?_
  ·unfold nxtS hd25;split <;> rfl
  ·unfold nxtS hd25;split <;> exact hlw
  ·unfold nxtS hd25;split <;> rfl
  ·unfold nxtS hd25;split <;> rfl
  ·have ht':¬ x.t=true:=by rw [ht];exact Bool.false_ne_true
   have hp:pl27 g x x.sd=payM 11 g.s.toNat x.sd:=by unfold pl27;rw [if_neg ht']
   have hl:(pl27 g x x.sd).length=g.s.toNat:=by rw [hp,payM_len]
   have htg:(tg27 x x.sd).length=32:=by unfold tg27;rw [if_neg ht',payM_len]
   rw [pgW_is (by omega) hr hR (pl27_byt g x x.sd) (tg27_byt x x.sd) (.inr (by rw [hl];omega)) (.inr htg)]
   have hpl:payL g (pl27 g x x.sd)=payM 11 g.s.toNat x.sd:=by unfold payL;rw [if_neg (by omega),hp]
   rw [hpl]
   refine ⟨by rw [List.length_append,payM_len,markL_length _ (.inr htg)];unfold szP;omega,?_⟩
   rw [List.take_append_of_le_length (by rw [payM_len];omega),List.take_of_length_le (by rw [payM_len];omega)]
 ·rw [if_neg e,if_neg e]
  exact hF m hm
theorem s00_M {pl:List FD} {X:List (SlP Ce)} {z0 z1:Int} (hX:New0 X z0.toNat z1.toNat) (hz:fitE g [z0,z1]=0):RM (nG g) (s00 g pl X):=by
 obtain ⟨hR,hz',-,hs⟩:=fitE_zero.1 hz
 have a:=hz' z0 List.mem_cons_self
 have b:=hz' z1 (List.mem_cons_of_mem _ List.mem_cons_self)
 have hk:=hR.1
 unfold Kept at hk
 unfold qs qs qs at hs
 have e:∀ m,capS (s00 g pl X) m=if m=0 then quo g z0-1 else if m=1 then quo g z1-1 else 0:=fun m=>by
  unfold capS quoS
  show (if (getX X m).n=0 then 0 else quo g ((getX X m).n:Int)-1)=_
  rw [hX.n]
  by_cases e0:m=0
  ·rw [if_pos e0,if_pos e0,if_neg (by omega),Int.toNat_of_nonneg (by omega)]
  ·rw [if_neg e0,if_neg e0]
   by_cases e1:m=1
   ·rw [if_pos e1,if_pos e1,if_neg (by omega),Int.toNat_of_nonneg (by omega)]
   ·rw [if_neg e1,if_neg e1,if_pos rfl]
 unfold RM
 rw [e,e,e,e]
 have hn:((nG g:Nat):Int)=g.b-4:=by unfold nG;omega
 rw [hn]
 rw [if_pos rfl,if_neg (by decide),if_pos rfl,if_neg (by decide),if_neg (by decide),if_neg (by decide),if_neg (by decide)]
 omega
end
end Go.Proofs.YtbaojfchlhlaeaaGreat.Vc
namespace Go.Proofs.YtbaojfchlhlaeaaGreat.Vc
open Go Go.Eng
def law27_SanitiseDrains.A:Ann:=.two .no (.two .no (.two .no (.two .no (.two (.two .no (.one (.loop [5,6,23,24,25,26,27,28,29,30,31,32,33,34,35,36,37,38,39,40,41,42,43,44,45,46,47,48,49,50,51,52,53] [(5,.one .sl),(6,.one (.int .i64))] (.two .no (.two (.one (.two (.draw (.take 0 (.take 1 (.take 2 (.take 3 (.take 4 (.take 5 (.take 6 (.take 7 (.take 8 (.take 9 (.take 10 (.take 11 (.take 12 (.take 13 (.eff 14 (.take 15 (.done)))))))))))))))))) .no)) .no))))) .no))))
def law27_SanitiseDrains.P (p0_0 p0_1 p0_2 p0_3 p0_4 p0_5:Int) (a0_6:Option Addr) (n0_6 c0_6:Nat) (p0_7 p0_8:Int) (a0_9:Option Addr) (n0_9 c0_9:Nat) (w:World) (K:Bool×Unit→World→Prop):Prop:=
 NewV #[.int .i64 p0_0,.int .i64 p0_1,.int .i64 p0_2,.int .i64 p0_3,.int .i64 p0_4,.int .i64 p0_5,.slice a0_6 n0_6 c0_6,.int .i64 p0_7,.int .i64 p0_8,.slice a0_9 n0_9 c0_9] 28 w fun b1 w2=>
 LoadA w2 ⟨b1,0,none⟩ [.int .i64,.int .i64,.int .i64,.int .i64,.int .i64,.int .i64,.sl,.int .i64,.int .i64,.sl] fun (x3:Int×Int×Int×Int×Int×Int×SlV×Int×Int×SlV×Unit)=>
 CallV Tryz.prog 15 #[.agg #[.int .i64 x3.1,.int .i64 x3.2.1,.int .i64 x3.2.2.1,.int .i64 x3.2.2.2.1,.int .i64 x3.2.2.2.2.1,.int .i64 x3.2.2.2.2.2.1,.slice x3.2.2.2.2.2.2.1.a x3.2.2.2.2.2.2.1.n x3.2.2.2.2.2.2.1.c,.int .i64 x3.2.2.2.2.2.2.2.1,.int .i64 x3.2.2.2.2.2.2.2.2.1,.slice x3.2.2.2.2.2.2.2.2.2.1.a x3.2.2.2.2.2.2.2.2.2.1.n x3.2.2.2.2.2.2.2.2.2.1.c]] w2 [.one .bool] fun (r4:Bool×Unit) w5=>
 cond (!r4.1)
 (CallV Tryz.prog 17 #[] w5 [.one .bool] fun (r6:Bool×Unit) w7=>
 K (r6.1,()) w7)
 (LoadS w5 ⟨b1,6,none⟩ .sl fun (x8:SlV)=>
 CallV Tryz.prog 16 #[.slice x8.a x8.n x8.c] w5 [.one .bool] fun (r9:Bool×Unit) w10=>
 cond r9.1
 (CallV Tryz.prog 17 #[] w10 [.one .bool] fun (r11:Bool×Unit) w12=>
 K (r11.1,()) w12)
 (LoadA w10 ⟨b1,0,none⟩ [.int .i64,.int .i64,.int .i64,.int .i64,.int .i64,.int .i64,.sl,.int .i64,.int .i64,.sl] fun (x13:Int×Int×Int×Int×Int×Int×SlV×Int×Int×SlV×Unit)=>
 CallV Tryz.prog 18 #[.agg #[.int .i64 x13.1,.int .i64 x13.2.1,.int .i64 x13.2.2.1,.int .i64 x13.2.2.2.1,.int .i64 x13.2.2.2.2.1,.int .i64 x13.2.2.2.2.2.1,.slice x13.2.2.2.2.2.2.1.a x13.2.2.2.2.2.2.1.n x13.2.2.2.2.2.2.1.c,.int .i64 x13.2.2.2.2.2.2.2.1,.int .i64 x13.2.2.2.2.2.2.2.2.1,.slice x13.2.2.2.2.2.2.2.2.2.1.a x13.2.2.2.2.2.2.2.2.2.1.n x13.2.2.2.2.2.2.2.2.2.1.c]] w10 [.one .ptr,.one .ptr] fun (r14:(Option Addr)×(Option Addr)×Unit) w15=>
 NewV #[] 39 w15 fun b16 w17=>
 LoopV [.one .sl,.one (.int .i64)] ((⟨(some ⟨b16,0,none⟩),0,0⟩:SlV),(0:Int),()) w17 fun (z18:SlV×Int×Unit) w19 (K20:SlV×Int×Unit→World→Prop)=>
 LoadS w19 ⟨b1,9,none⟩ .sl fun (x21:SlV)=>
 cond (decide (z18.2.1<((x21.n:Nat):Int)))
 (DrawV fun D22=>
 (D22 b1∧LoadA w19.drew ⟨b1,0,none⟩ [.int .i64,.int .i64,.int .i64,.int .i64,.int .i64,.int .i64] fun (x23:Int×Int×Int×Int×Int×Int×Unit)=>
 (D22 b1∧LoadS w19.drew ⟨b1,9,none⟩ .sl fun (x24:SlV)=>
 (0≤z18.2.1∧z18.2.1<((x24.n:Nat):Int))∧∃ q25:Addr,x24.a=some q25 ∧
 (D22 (q25.add (z18.2.1.toNat*5)).block∧LoadA w19.drew (q25.add (z18.2.1.toNat*5)) [.int .i64,.int .i64,.int .i64,.bool,.int .u8] fun (x26:Int×Int×Int×Bool×Int×Unit)=>
 (D22 b1∧LoadS w19.drew ⟨b1,9,none⟩ .sl fun (x27:SlV)=>
 (0≤z18.2.1∧z18.2.1<((x27.n:Nat):Int))∧∃ q28:Addr,x27.a=some q28 ∧
 (D22 ((q28.add (z18.2.1.toNat*5)).add 4).block∧LoadS w19.drew ((q28.add (z18.2.1.toNat*5)).add 4) (.int .u8) fun (x29:Int)=>
 CallV Tryz.prog 19 #[.pointer r14.1,.agg #[.int .i64 x23.1,.int .i64 x23.2.1,.int .i64 x23.2.2.1,.int .i64 x23.2.2.2.1,.int .i64 x23.2.2.2.2.1,.int .i64 x23.2.2.2.2.2.1],.agg #[.int .i64 x26.1,.int .i64 x26.2.1,.int .i64 x26.2.2.1,.bool x26.2.2.2.1,.int .u8 x26.2.2.2.2.1],.int .u8 x29] w19.drew [.one (.int .i64)] fun (r30:Int×Unit) w31=>
 KeepOn D22 w19.drew w31 ∧
 cond (r30.1 == 0)
 (LoadS w31 ⟨b1,9,none⟩ .sl fun (x32:SlV)=>
 (0≤z18.2.1∧z18.2.1<((x32.n:Nat):Int))∧∃ q33:Addr,x32.a=some q33 ∧
 LoadA w31 (q33.add (z18.2.1.toNat*5)) [.int .i64,.int .i64,.int .i64,.bool,.int .u8] fun (x34:Int×Int×Int×Bool×Int×Unit)=>
 NewV #[.int .i64 x34.1,.int .i64 x34.2.1,.int .i64 x34.2.2.1,.bool x34.2.2.2.1,.int .u8 x34.2.2.2.2.1] 39 w31 fun b35 w36=>
 AppS w36 (some ⟨b35,0,none⟩) 1 5 fun ns41=>
 AppV w36 39 5 32 z18.1.a z18.1.n z18.1.c ns41 1 fun a37 n38 c39 w40=>
 Rng .i64 (z18.2.1+1) ∧
 K20 ((⟨a37,n38,c39⟩:SlV),z18.2.1+1,()) w40)
 (Rng .i64 (z18.2.1+1) ∧
 K20 (z18.1,z18.2.1+1,()) w31)))))))
 (CallV Tryz.prog 21 #[.pointer r14.1] w19 [.one (.int .i64)] fun (r42:Int×Unit) w43=>
 LoadA w43 ⟨b1,0,none⟩ [.int .i64,.int .i64,.int .i64,.int .i64,.int .i64,.int .i64,.sl,.int .i64,.int .i64,.sl] fun (x44:Int×Int×Int×Int×Int×Int×SlV×Int×Int×SlV×Unit)=>
 CallV Tryz.prog 72 #[.pointer r14.1,.pointer r14.2.1,.agg #[.int .i64 x44.1,.int .i64 x44.2.1,.int .i64 x44.2.2.1,.int .i64 x44.2.2.2.1,.int .i64 x44.2.2.2.2.1,.int .i64 x44.2.2.2.2.2.1,.slice x44.2.2.2.2.2.2.1.a x44.2.2.2.2.2.2.1.n x44.2.2.2.2.2.2.1.c,.int .i64 x44.2.2.2.2.2.2.2.1,.int .i64 x44.2.2.2.2.2.2.2.2.1,.slice x44.2.2.2.2.2.2.2.2.2.1.a x44.2.2.2.2.2.2.2.2.2.1.n x44.2.2.2.2.2.2.2.2.2.1.c],.slice z18.1.a z18.1.n z18.1.c,.int .i64 0] w43 [.one .bool] fun (r45:Bool×Unit) w46=>
 cond (!r45.1)
 (K (false,()) w46)
 (LoadA w46 ⟨b1,0,none⟩ [.int .i64,.int .i64,.int .i64,.int .i64,.int .i64,.int .i64,.sl,.int .i64,.int .i64,.sl] fun (x47:Int×Int×Int×Int×Int×Int×SlV×Int×Int×SlV×Unit)=>
 CallV Tryz.prog 72 #[.pointer r14.1,.pointer r14.2.1,.agg #[.int .i64 x47.1,.int .i64 x47.2.1,.int .i64 x47.2.2.1,.int .i64 x47.2.2.2.1,.int .i64 x47.2.2.2.2.1,.int .i64 x47.2.2.2.2.2.1,.slice x47.2.2.2.2.2.2.1.a x47.2.2.2.2.2.2.1.n x47.2.2.2.2.2.2.1.c,.int .i64 x47.2.2.2.2.2.2.2.1,.int .i64 x47.2.2.2.2.2.2.2.2.1,.slice x47.2.2.2.2.2.2.2.2.2.1.a x47.2.2.2.2.2.2.2.2.2.1.n x47.2.2.2.2.2.2.2.2.2.1.c],.slice z18.1.a z18.1.n z18.1.c,.int .i64 1] w46 [.one .bool] fun (r48:Bool×Unit) w49=>
 cond (!r48.1)
 (K (false,()) w49)
 (cond (r42.1 == 0)
 (CallV Tryz.prog 23 #[.pointer r14.1] w49 [.one .bool] fun (r50:Bool×Unit) w51=>
 cond r50.1
 (LoadA w51 ⟨b1,0,none⟩ [.int .i64,.int .i64,.int .i64,.int .i64,.int .i64,.int .i64] fun (x52:Int×Int×Int×Int×Int×Int×Unit)=>
 CallV Tryz.prog 73 #[.pointer r14.1,.pointer r14.2.1,.agg #[.int .i64 x52.1,.int .i64 x52.2.1,.int .i64 x52.2.2.1,.int .i64 x52.2.2.2.1,.int .i64 x52.2.2.2.2.1,.int .i64 x52.2.2.2.2.2.1]] w51 [.one .bool] fun (r53:Bool×Unit) w54=>
 cond r53.1
 (CallV Tryz.prog 17 #[] w54 [.one .bool] fun (r55:Bool×Unit) w56=>
 K (r55.1,()) w56)
 (K (false,()) w54))
 (K (false,()) w51))
 (cond (r42.1 == 15)
 (CallV Tryz.prog 48 #[.pointer r14.1] w49 [.one .bool] fun (r57:Bool×Unit) w58=>
 cond r57.1
 (LoadS w58 ⟨b1,6,none⟩ .sl fun (x59:SlV)=>
 cond (decide (((x59.n:Nat):Int)>0))
 (CallV Tryz.prog 17 #[] w58 [.one .bool] fun (r60:Bool×Unit) w61=>
 K (r60.1,()) w61)
 (K (false,()) w58))
 (cond (r42.1 == 17)
 (LoadS w58 ⟨b1,6,none⟩ .sl fun (x62:SlV)=>
 cond (decide (((x62.n:Nat):Int)>0))
 (CallV Tryz.prog 17 #[] w58 [.one .bool] fun (r63:Bool×Unit) w64=>
 K (r63.1,()) w64)
 (K (false,()) w58))
 (K (false,()) w58)))
 (cond (r42.1 == 17)
 (LoadS w49 ⟨b1,6,none⟩ .sl fun (x65:SlV)=>
 cond (decide (((x65.n:Nat):Int)>0))
 (CallV Tryz.prog 17 #[] w49 [.one .bool] fun (r66:Bool×Unit) w67=>
 K (r66.1,()) w67)
 (K (false,()) w49))
 (K (false,()) w49))))))))
theorem law27_SanitiseDrains.vc (p0_0 p0_1 p0_2 p0_3 p0_4 p0_5:Int) (a0_6:Option Addr) (n0_6 c0_6:Nat) (p0_7 p0_8:Int) (a0_9:Option Addr) (n0_9 c0_9:Nat) (w:World) (K:Bool×Unit→World→Prop) (h:law27_SanitiseDrains.P p0_0 p0_1 p0_2 p0_3 p0_4 p0_5 a0_6 n0_6 c0_6 p0_7 p0_8 a0_9 n0_9 c0_9 w K):CallV Tryz.prog 12 #[.agg #[.int .i64 p0_0,.int .i64 p0_1,.int .i64 p0_2,.int .i64 p0_3,.int .i64 p0_4,.int .i64 p0_5,.slice a0_6 n0_6 c0_6,.int .i64 p0_7,.int .i64 p0_8,.slice a0_9 n0_9 c0_9]] w [.one .bool] K:=by
 refine vcFun.of (A:=law27_SanitiseDrains.A) (wr:=false) okf_ok follows h Tryz.func12 ?_
 kernel_rfl
end Go.Proofs.YtbaojfchlhlaeaaGreat.Vc
namespace Go.Proofs.YtbaojfchlhlaeaaGreat.Vc
open Go Go.Eng Go.RowKit
theorem stv_one (x:St25):oneAll x.vs:=fun u hu=>by
 simp only [St25.vs,List.mem_cons,List.not_mem_nil,or_false] at hu
 rcases hu with e | e | e | e | e <;> subst e <;> rfl
theorem SanitiseDrains_law {w:World} {g:Geo} {f:SlP TF.T} {st:SlP TSt25.T} {z0 z1:Int} (hf:LF.rd w All f) (hs:LSt25.rd w All st) (hsd:∀ y∈st.l,0≤(stOf y).sd∧(stOf y).sd<256) :
  CallV Tryz.prog 12 #[.agg (casV25 g f z0 z1 ⟨st.a,st.n,st.c⟩).toArray] w [.one .bool] fun r w'=>r.1=true∧Ext w w':=by
 apply law27_SanitiseDrains.vc
 unfold law27_SanitiseDrains.P
 have S:=Sep.start NoB w
 refine S.newB (vs:=casV25 g f z0 z1 ⟨st.a,st.n,st.c⟩) fun b1 w1 S f1 _=>S.la0 rfl ?_
 refine (light27_c (g:=g) (f:=f) (z0:=z0) (z1:=z1) (st:=st) (Ty.rd_ext S.ext _ hf) (Ty.rd_ext S.ext _ hs)).mono ?_
 rintro ⟨(r:Bool),⟨⟩⟩ w2 ⟨h2,x2⟩
 dsimp only at h2 ⊢
 have S:=S.stepE x2
 refine cond_of (fun hr=>?_) (fun hr=>?_)
 ·exact awake27_c.mono fun r w5 ⟨h5,x5⟩=>⟨h5,S.ext.trans x5⟩
 obtain hL:=h2 (by cases r;cases hr;rfl)
 refine S.ld0 (j:=6) rfl rfl ?_
 refine (crashes27_c (f:=f) (Ty.rd_ext S.ext _ hf)).mono ?_
 rintro ⟨(r:Bool),⟨⟩⟩ w3 ⟨hcr,rfl⟩
 dsimp only at hcr ⊢
 refine cond_of (fun hr=>?_) (fun hr=>?_)
 ·exact awake27_c.mono fun r w5 ⟨h5,x5⟩=>⟨h5,S.ext.trans x5⟩
 have hnc:=hcr hr
 have hz:=(fitE_zero.1 hL.z).2.1
 have hz0:=hz z0 List.mem_cons_self
 have hz1:=hz z1 (List.mem_cons_of_mem _ List.mem_cons_self)
 have hsm:=fit_small hL.b hL.p hL.z
 have hg:LG g:=⟨hL.b,by have:=hL.p;omega,hL.s⟩
 have hfl:=LF_len hf
 refine S.la0 rfl ?_
 refine (made27_c (g:=g) (f:=f) (z0:=z0) (z1:=z1) (st:=⟨st.a,st.n,st.c⟩) (Ty.rd_ext S.ext _ hf) hL.R hL.F hg hz0 hz1).mono ?_
 rintro ⟨sv,cv,⟨⟩⟩ w4 ⟨sp,pp,pm,p,q,X,h1,h2,hX,S4⟩
 dsimp only at h1 h2 ⊢
 subst h1;subst h2
 have S:Sep NoB w w4 (stS sp pp pm p q g (s00 g (fds f) X) [BoxA b1 28 (casV25 g f z0 z1 ⟨st.a,st.n,st.c⟩)]):=S.frame0 S4
 clear S4
 obtain ⟨hI,hG⟩:NI g (nG g) (s00 g (fds f) X)∧GD (nG g) (s00 g (fds f) X):=s00_N hL.R hg (fun F hF=>⟨fds_byt hf F hF,hL.F.fit F hF⟩) hX hnc
 have hK0:KE noF (s00 g (fds f) X):=KE.new hX
 have hM0:RM (nG g) (s00 g (fds f) X):=s00_M hX hL.z
 have hZ0:fds f=[]→ZI (nG g) (s00 g (fds f) X):=fun e=>⟨e,rfl,fun i hi=>by rw [show gx (s00 g (fds f) X).L i=Blk.new from rep_gx (nG g) hi];rfl⟩
 have hl:st.l.length=st.n:=hs.1
 have hn:=hL.n
 have hst:=hL.st
 refine S.newB (vs:=[]) fun b16 w5 S f5 _=>?_
 have S:=S.asOwn (sz:=5) (n:=0) rfl (by omega) oneAll.nil
 refine Loop1 (fun (v:SlV×Int×Unit) w'=>∃ (i:Nat) (t:SD) (l:List St25) (F:HasF),v.2.1=(i:Int)∧i≤st.n∧NI g (nG g) t∧GD (nG g) t∧RM (nG g) t∧(fds f=[]→ZI (nG g) t)∧KE F t∧(∀ m,m=0∨m=1→Kp27 g F l m (szOf z0 z1 m))∧(∀ x∈l,stB x)∧l.length≤i∧t.ct≤(i:Int)∧t.C.ops≤opC27 i∧(∀ m,(getX t.X m).n=(getX X m).n) ∧
   Sep NoB w w' (OwnA 39 5 v.1.a v.1.n v.1.c (l.flatMap St25.vs)::stS sp pp pm p q g t [BoxA b1 28 (casV25 g f z0 z1 ⟨st.a,st.n,st.c⟩)])) (fun (v:SlV×Int×Unit) _=>((st.n:Int)-v.2.1).toNat)
  ⟨0,s00 g (fds f) X,[],noF,rfl,Nat.zero_le _,hI,hG,hM0,hZ0,hK0,fun m _=>Kp27.nil g m _,fun x hx=>(List.not_mem_nil hx).elim,Nat.zero_le _,by show (0:Int)≤0;decide,Nat.zero_le _,fun _=>rfl,S⟩ ?_
 clear S hI hG hM0 hZ0 hK0
 rintro ⟨⟨sa,sn,sc⟩,(v:Int),⟨⟩⟩ w6 ⟨i,t,l,F,hv,hi,ht,hG,hM,hZ,hK,hF,hB,hll,hct,hop,hsz,S⟩
 dsimp only at hv S ⊢
 subst hv
 refine S.ld6 (j:=9) rfl rfl (cond_d (fun hlt=>?_) (fun hge=>?_))
 ·have hlt:(i:Int)<((st.n:Nat):Int):=hlt
  have hos:=opC27s i
  have hol:=opC27_le (i:=i) (by omega)
  have S:Sep NoB w w6 ([boxSt sp pp pm g t,mapE pm t.X,polE pp p q g t.O,ledE q t.L,chipE p t.C]++[OwnA 39 5 sa sn sc (l.flatMap St25.vs),BoxA b1 28 (casV25 g f z0 z1 ⟨st.a,st.n,st.c⟩)]):=S.fro [1,1,1,1,1] rfl
  obtain ⟨qa,y,hq,hy,hc,hr,hGq,hqb⟩:=Ty.nth (LSt25.rd_mono (G':=fun k=>k<w.heap.size) (fun k _ hk=>hk) hs) (i:=(i:Int)) (by omega) hlt (by decide)
  rw [Int.toNat_natCast] at hy hc
  have hym:y∈st.l:=List.mem_of_getElem? hy
  have hxR:=hst y hym
  have hxs:=hsd y hym
  obtain ⟨(xn:Int),(xl:Int),(xc:Int),(xt:Bool),(xs:Int),⟨⟩⟩:=y
  refine Sep.regC [boxSt sp pp pm g t,mapE pm t.X,polE pp p q g t.O,ledE q t.L,chipE p t.C] S fun G D hG2 T S hDt hDo hkeep back=>?_
  have T:Sep G w6.drew w6.drew (stS sp pp pm p q g t []):=T
  have hb:=hDt 1 _ _ _ rfl
  have hDq:=hDo _ hGq (fun x=>x)
  refine ⟨hb,S.lb6 (o:=0) rfl ⟨hb,S.ld6 (j:=9) rfl rfl ⟨⟨by omega,hlt⟩,qa,hq,by rw [add_block];exact hDq,(xn,xl,xc,xt,xs,()),S.ext.cells hc,hb,S.ld6 (j:=9) rfl rfl ⟨⟨by omega,hlt⟩,qa,hq,by rw [add_block,add_block];exact hDq,xs,(S.ext.cells hc).get (j:=4) rfl,?_⟩⟩⟩⟩
  have hxR:stR z0 z1 ⟨xn,xl,xc,xt,xs⟩:=hxR
  have hxs:0≤xs∧xs<256:=hxs
  refine (put27_c (x:=⟨xn,xl,xc,xt,xs⟩) (sd:=xs) ht.i (by omega) T).mono ?_
  rintro ⟨(r:Int),⟨⟩⟩ w7 ⟨h7,T⟩
  dsimp only at h7 T ⊢
  subst h7
  have hR7:=do27_R hsm hxR hxs t
  have hD2:=ht.i.do27 ⟨xn,xl,xc,xt,xs⟩ xs (by omega)
  have o2:=hD2.o2
  have o3:(nxtS t (hd25 ⟨xn,xl,xc,xt,xs⟩)).1.C.ops=t.C.ops:=rfl
  have P:=ht.do27 (T:=fun _=>[]) hG ⟨xn,xl,xc,xt,xs⟩ xs hR7 (by omega)
  obtain ⟨F',hK',hF',hct'⟩:=KE.do27 (x:=⟨xn,xl,xc,xt,xs⟩) hsm hxR hxs hK hF ht hG (by omega) (by omega)
  have hZ':fds f=[]→ZI (nG g) (Vc.do27 g t ⟨xn,xl,xc,xt,xs⟩ xs).1:=fun e=>zf_do27 ht (hZ e) hG hM ⟨xn,xl,xc,xt,xs⟩ xs hR7 (by omega)
  have hsz':=hD2.sz
  have hN1:=P.ni
  have hG1:=P.gd hG
  clear P
  have hct':(Vc.do27 g t ⟨xn,xl,xc,xt,xs⟩ xs).1.ct=t.ct+1:=hct'
  have hK':KE F' (Vc.do27 g t ⟨xn,xl,xc,xt,xs⟩ xs).1:=hK'
  have hF':∀ m,m=0∨m=1→Kp27 g F' (if (Vc.do27 g t ⟨xn,xl,xc,xt,xs⟩ xs).2=0 then l++[⟨xn,xl,xc,xt,xs⟩] else l) m (szOf z0 z1 m):=hF'
  have hM1:=hM.of ht.i hN1.i hsz'
  generalize Vc.do27 g t ⟨xn,xl,xc,xt,xs⟩ xs=D2 at hD2 o2 hK' hF' hct' hsz' hN1 hG1 hM1 hZ' T ⊢
  have S:Sep NoB w w7 (stS sp pp pm p q g D2.1 [OwnA 39 5 sa sn sc (l.flatMap St25.vs),BoxA b1 28 (casV25 g f z0 z1 ⟨st.a,st.n,st.c⟩)]):=back _ _ T
  have S:Sep NoB w w7 (OwnA 39 5 sa sn sc (l.flatMap St25.vs)::stS sp pp pm p q g D2.1 [BoxA b1 28 (casV25 g f z0 z1 ⟨st.a,st.n,st.c⟩)]):=S.fro [5] rfl
  refine ⟨hkeep _ T.fr,cond_eq (fun he=>?_) (fun he=>?_)⟩
  ·have hF':∀ m,m=0∨m=1→Kp27 g F' (l++[⟨xn,xl,xc,xt,xs⟩]) m (szOf z0 z1 m):=fun m hm=>by
    have:=hF' m hm
    rw [if_pos he] at this
    exact this
   refine S.ld6 (j:=9) rfl rfl ⟨⟨by omega,hlt⟩,qa,hq,(xn,xl,xc,xt,xs,()),S.ext.cells hc,?_⟩
   refine S.newB (vs:=(⟨xn,xl,xc,xt,xs⟩:St25).vs) fun b35 w8 S f8 _=>?_
   have hsn:l.length=sn:=(S.own 1 rfl).lenF stv_len (by decide)
   refine AppS.of (news:=(⟨xn,xl,xc,xt,xs⟩:St25).vs) rfl (.inr ⟨_,rfl,S.cells 0 rfl⟩) ?_
   refine S.ap1 rfl (stv_one _) (by omega) (by omega) fun a' c' w9 S f9=>⟨Rng.i64 (by omega) (by omega),⟨i+1,D2.1,l++[⟨xn,xl,xc,xt,xs⟩],F',by push_cast;rfl,by omega,hN1,hG1,hM1,hZ',hK',hF',fun x hx=>?_,by rw [List.length_append];show l.length+1≤i+1;omega,by rw [hct'];push_cast;omega,by omega,fun m=>(hsz' m).trans (hsz m),?_⟩,by omega⟩
   ·rcases List.mem_append.1 hx with k | k
    ·exact hB x k
    ·rw [List.mem_singleton.1 k];exact (stB_of hsm hxR hxs).1
   ·have e:(l++[(⟨xn,xl,xc,xt,xs⟩:St25)]).flatMap St25.vs=l.flatMap St25.vs++(⟨xn,xl,xc,xt,xs⟩:St25).vs:=by
     rw [List.flatMap_append]
     simp only [List.flatMap_cons,List.flatMap_nil,List.append_nil]
    rw [e]
    exact S.tail
  ·have hF':∀ m,m=0∨m=1→Kp27 g F' l m (szOf z0 z1 m):=fun m hm=>by
    have:=hF' m hm
    rw [if_neg he] at this
    exact this
   exact ⟨Rng.i64 (by omega) (by omega),⟨i+1,D2.1,l,F',by push_cast;rfl,by omega,hN1,hG1,hM1,hZ',hK',hF',hB,by omega,by rw [hct'];push_cast;omega,by omega,fun m=>(hsz' m).trans (hsz m),S⟩,by omega⟩
 clear hge
 have hol:=opC27_le (i:=i) (by omega)
 have S:Sep NoB w w6 (stS sp pp pm p q g t [OwnA 39 5 sa sn sc (l.flatMap St25.vs),BoxA b1 28 (casV25 g f z0 z1 ⟨st.a,st.n,st.c⟩)]):=S.fro [1,1,1,1,1] rfl
 refine (Drain27_c ht.i (by omega) S).mono ?_
 rintro ⟨(r:Int),⟨⟩⟩ w10 ⟨h10,S⟩
 dsimp only at h10 S ⊢
 subst h10
 have hdk:drD 4=51610080:=rfl
 obtain ⟨N,SN,hE⟩:=NI.drn 4 ht hG (by omega)
 have sd:=SI.drnP 4 ht.i (by omega)
 have hzf:fds f=[]→(drnP 4 t).2=0:=fun e=>drn_zf ht (hZ e) hG hM (by omega)
 have hK:=hK.st SN sd.ep sd.ct
 have hszD:=sd.sz
 generalize drnP 4 t=D at S N SN hE hzf hK hszD
 have S:Sep NoB w w10 (OwnA 39 5 sa sn sc (l.flatMap St25.vs)::stS sp pp pm p q g D.1 [BoxA b1 28 (casV25 g f z0 z1 ⟨st.a,st.n,st.c⟩)]):=S.fro [5] rfl
 have zm:∀ m,m=0∨m=1→(getX D.1.X m).n=(szOf z0 z1 m).toNat∧1≤szOf z0 z1 m∧szOf z0 z1 m≤65535:=fun m hm=>by
  rw [hszD,hsz,hX.n]
  rcases hm with e | e
  ·subst e;exact ⟨rfl,hz0⟩
  ·subst e;exact ⟨rfl,hz1⟩
 refine S.la6 rfl ?_
 refine (kept27_c (f:=f) (z0:=z0) (z1:=z1) (st:=⟨st.a,st.n,st.c⟩) (m:=0) (.inl rfl) N.i N.c.nf.1 hK (zm 0 (.inl rfl)).1 (zm 0 (.inl rfl)).2 (hF 0 (.inl rfl)) hB S).mono ?_
 rintro ⟨(r:Bool),⟨⟩⟩ w11 ⟨h11,S⟩
 dsimp only at h11 S ⊢
 subst h11
 refine cond_f rfl (S.la6 rfl ?_)
 refine (kept27_c (f:=f) (z0:=z0) (z1:=z1) (st:=⟨st.a,st.n,st.c⟩) (m:=1) (.inr rfl) N.i N.c.nf.1 hK (zm 1 (.inr rfl)).1 (zm 1 (.inr rfl)).2 (hF 1 (.inr rfl)) hB S).mono ?_
 rintro ⟨(r:Bool),⟨⟩⟩ w12 ⟨h12,S⟩
 dsimp only at h12 S ⊢
 subst h12
 refine cond_f rfl ?_
 have S:Sep NoB w w12 (stS sp pp pm p q g D.1 [OwnA 39 5 sa sn sc (l.flatMap St25.vs),BoxA b1 28 (casV25 g f z0 z1 ⟨st.a,st.n,st.c⟩)]):=S.fro [1,1,1,1,1] rfl
 have hpl:D.2≠0→((f.n:Nat):Int)>0:=fun hne=>by
  have:fds f≠[]:=fun e=>hne (hzf e)
  have:(fds f).length≠0:=fun e=>this (List.length_eq_zero_iff.1 e)
  omega
 rcases hE with ⟨e0,hc⟩ | ⟨e15,hro⟩ | e17
 ·rw [e0]
  refine cond_t rfl ?_
  refine (Clean27_c N.i S).mono ?_
  rintro ⟨(r:Bool),⟨⟩⟩ w13 ⟨h13,x13⟩
  dsimp only at h13 ⊢
  rw [hc] at h13
  subst h13
  have S:=S.stepE x13
  refine cond_t rfl (S.lb6 (o:=0) rfl ?_)
  refine (only27_c N hc S).mono ?_
  rintro ⟨(r:Bool),⟨⟩⟩ w14 ⟨h14,S⟩
  dsimp only at h14 S ⊢
  subst h14
  refine cond_t rfl ?_
  exact awake27_c.mono fun r w9 ⟨h9,x9⟩=>⟨h9,S.ext.trans x9⟩
 ·have hp:=hpl (by omega)
  rw [e15]
  refine cond_f rfl (cond_t rfl ?_)
  refine (ReadOnly_c N.i.fl S).mono ?_
  rintro ⟨(r:Bool),⟨⟩⟩ w13 ⟨h13,rfl⟩
  dsimp only at h13 ⊢
  rw [hro] at h13
  subst h13
  refine cond_t rfl (S.ld6 (j:=6) rfl rfl (cond_t (decide_eq_true hp) ?_))
  exact awake27_c.mono fun r w9 ⟨h9,x9⟩=>⟨h9,S.ext.trans x9⟩
 ·have hp:=hpl (by omega)
  rw [e17]
  refine cond_f rfl (cond_f rfl (cond_t rfl (S.ld6 (j:=6) rfl rfl (cond_t (decide_eq_true hp) ?_))))
  exact awake27_c.mono fun r w9 ⟨h9,x9⟩=>⟨h9,S.ext.trans x9⟩
theorem sd_of {w:World} {l:SlP TSt25.T} (g0:LSt25.ok w l):∀ y∈l.l,0≤(stOf y).sd∧(stOf y).sd<256:=fun y hy=>rng_u8 (g0.2.2.2.2 y hy).2.2.2.2.1
theorem SanitiseDrains_of {w:World} {x:TCs27.T} (g0:TCs27.ok w x) :
  CallV Tryz.prog 12 #[.agg (TCs27.vs x).toArray] w [.one .bool] fun r w'=>r.1=true∧Ext w w':=by
 obtain ⟨⟨b,p,s,sp,wr,ro,⟨⟩⟩,f,⟨z0,z1,⟨⟩⟩,l,⟨⟩⟩:=x
 exact SanitiseDrains_law (g:=⟨b,p,s,sp,wr,ro⟩) (f:=f) (st:=l) (z0:=z0) (z1:=z1) (LF.rd_of g0.2.1) (LSt25.rd_of g0.2.2.2.1) (sd_of g0.2.2.2.1)
end Go.Proofs.YtbaojfchlhlaeaaGreat.Vc
