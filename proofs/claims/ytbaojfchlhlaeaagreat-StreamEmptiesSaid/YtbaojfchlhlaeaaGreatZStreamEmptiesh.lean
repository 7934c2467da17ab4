/- Texts in one: Plain laws of layer 25 (stream): without crashes, places moved, and a block emptied. Plain laws of layer 25 (stream): without crashes, a block emptied, and room made: how many blocks a namespace holds. Plain laws of layer 25 (stream): without crashes, a block opened, and room made. Plain laws of layer 25 (stream): without crashes, a front that failed, and a page written. Plain laws of layer 25 (stream): without crashes, a page put; what a sector has then. Plain laws of layer 25 (stream): what a page has that was written; a copy has the same. The contracts of the laws of layer 25: which cases are played; is a ledger as the map says? The law StreamCounts of layer 25: each call gives true, and what it read stays. The plans of functions as plain statements, printed by wip/tools/vcgen.py; the kernel holds each to the code. Plain laws of layer 25 (stream): without faults nothing fails, and there is always a block that is free. Plain laws of layer 25 (stream): a block emptied from outside, and destroyed; without faults room is made, and a page put. Plain laws of layer 25 (stream): what each sector has, head and page, is kept; a put changes what it speaks of. The contracts of the laws of layer 25: what was put last of a sector; is it where the map says? The plans of functions as plain statements, printed by wip/tools/vcgen.py; the kernel holds each to the code. The law StreamEmpties of layer 25: each call gives true, and what it read stays. The contracts of the laws of layer 27: a step put, without crashes; has each sector what it should have? The contracts of the laws of layer 27: what is on an array; is there no page but live ones, their blocks' first, and blank ones? The law StreamEmpties of layer 25: each call gives true, and what it read stays. -/
import Derived.Test.YtbaojfchlhlaeaaGreatZStreamEmptiesg
set_option linter.unusedVariables false
set_option linter.unusedSimpArgs false
namespace Go.Proofs.YtbaojfchlhlaeaaGreat.Vc
open Go Go.Eng Go.RowKit
section
variable {g:Geo} {n:Nat} {s t:SD} {T:Hh->List Int}
theorem dst_blk (C:CD) (L:List Blk) (b:Int) {m:Int} (hm:m.toNat≠(4+b).toNat):blkC (dstP C L b).1 m=blkC C m:=by
 unfold dstP
 split
 ·split
  ·exact (scr_oth _ _ hm).trans (era_oth _ _ hm)
  ·exact (scr_oth _ _ hm).trans (era_oth _ _ hm)
 ·exact era_oth _ _ hm
theorem fst_blk (C:CD) (b:Int) (h:Hd) (sl:Bool) {m:Int} (hm:m.toNat≠(4+b).toNat):blkC (fstP C b h sl).1 m=blkC C m:=by
 unfold fstP selP
 split
 ·exact (prog_oth _ _ _ _ hm).trans (prog_oth _ _ _ _ hm)
 ·exact prog_oth _ _ _ _ hm
theorem opn_fr {ns:Int} {o:Hd} {sl:Bool}:∀ (k:Nat) {C:CD} {L:List Blk} {O:List Hd},L.length=n->∀ i,i<n->(gx L i).he=true->blkC (opnP ns o sl k C L O).1.1 (4+(i:Int))=blkC C (4+(i:Int))
 | 0,C,L,O,_,i,_,_=>rfl
 | k+1,C,L,O,hl,i,hi,he=>by
  unfold opnP
  by_cases hlt:pickT L L.length<0
  ·rw [if_pos hlt]
  rw [if_neg hlt]
  obtain ⟨hf,-⟩:=pick_free (L:=L) (by omega)
  generalize pickT L L.length=b at hlt hf ⊢
  have hne:i≠b.toNat:=λe=>by rw [e,hf] at he;cases he
  have hm:(4+(i:Int)).toNat≠(4+b).toNat:=by omega
  rw [hl]
  have hX:∃ C1 L1 e1,(if (gx L b.toNat).cl=true then (C,L,(0:Int)) else dstP C L b)=(C1,L1,e1)/\L1.length=n/\gx L1 i=gx L i/\blkC C1 (4+(i:Int))=blkC C (4+(i:Int)):=by
   split
   ·exact ⟨C,L,0,rfl,hl,rfl,rfl⟩
   ·refine ⟨(dstP C L b).1,(dstP C L b).2.1,(dstP C L b).2.2,rfl,?_,dst_oth C hl b hne,dst_blk C L b hm⟩
    rcases dst_L C hl b with e | e | e | ⟨m,e⟩ <;> rw [e]
    ·exact hl
    ·rw [chL_len];exact hl
    ·rw [chL_len];exact hl
    ·rw [chL_len,chL_len];exact hl
  obtain ⟨C1,L1,e1,hq,l1,g1,b1⟩:=hX
  rw [hq]
  dsimp only
  split
  ·have hB:∃ C2 L2 O2 e2,begP C1 L1 O b ns o sl=(C2,L2,O2,e2)/\L2.length=n/\gx L2 i=gx L i/\blkC C2 (4+(i:Int))=blkC C (4+(i:Int)):=by
    unfold begP
    split
    ·exact ⟨_,_,_,_,rfl,by rw [chL_len];exact l1,(ch_oth rfl _ hne).trans g1,(fst_blk C1 b _ sl hm).trans b1⟩
    ·exact ⟨_,_,_,_,rfl,l1,g1,(fst_blk C1 b _ sl hm).trans b1⟩
   obtain ⟨C2,L2,O2,e2,hq2,l2,g2,b2⟩:=hB
   rw [hq2]
   dsimp only
   split
   ·exact b2
   ·split
    ·exact b2
    ·have l3:(chL b n fB L2).length=n:=by rw [chL_len];exact l2
     have g3:gx (chL b n fB L2) i=gx L i:=(ch_oth l2 _ hne).trans g2
     have l4:(dstP C2 (chL b n fB L2) b).2.1.length=n:=by
      rcases dst_L C2 l3 b with e | e | e | ⟨m,e⟩ <;> rw [e]
      ·exact l3
      ·rw [chL_len];exact l3
      ·rw [chL_len];exact l3
      ·rw [chL_len,chL_len];exact l3
     have g4:=(dst_oth C2 l3 b hne).trans g3
     have b4:=(dst_blk C2 (chL b n fB L2) b hm).trans b2
     split
     ·exact b4
     ·exact (opn_fr k l4 i hi (by rw [g4];exact he)).trans b4
  ·split
   ·exact b1
   ·exact (opn_fr k l1 i hi (by rw [g1];exact he)).trans b1
theorem mov_fld (s:SD) (b to ns:Int) (l:List (Int×Int)):(movP s b to ns l).C=s.C/\(movP s b to ns l).L=chL b s.L.length rB (chL to s.L.length (cB (l.length:Int)) s.L)/\(movP s b to ns l).X=movL to (ordO s.O to).hh l 1 s.X/\(movP s b to ns l).ro=s.ro:=by
 have e:(chL to s.L.length (cB (l.length:Int)) s.L).length=s.L.length:=chL_len ..
 unfold movP
 dsimp only
 split
 ·refine ⟨rfl,?_,rfl,rfl⟩
  show chL b (chL to s.L.length (cB (l.length:Int)) s.L).length rB _=_
  rw [e]
  rfl
 ·refine ⟨rfl,?_,rfl,rfl⟩
  show chL b (chL to s.L.length (cB (l.length:Int)) s.L).length rB _=_
  rw [e]
  rfl
theorem mov_hd (h:SI g n s) {b to ns:Int} (ht:0<=to/\to<(n:Int)) (hne:b≠to) (hl0:(gx s.L to.toNat).li=0) (hcp:∀ (j:Nat) (k:Int×Int),(inP s.X (4+b))[j]? = some k->pgC13 s.C (4+to) (1+(j:Int))=cpB s.C.g (pgC13 s.C k.1 k.2)) :
  (PGI T s->PGI T (movP s b to ns (inP s.X (4+b))))/\∀ m j,hdX (movP s b to ns (inP s.X (4+b))).X m j=hdX s.X m j:=by
 have hnd:=so_nd (inP_so s.X (4+b))
 have hmem:=λk=>inP_mem (X:=s.X) (bl:=4+b) (k:=k)
 obtain ⟨e1,-,e3,-⟩:=mov_fld s b to ns (inP s.X (4+b))
 generalize inP s.X (4+b)=l at hcp hnd hmem e1 e3 ⊢
 have hto:∀ k∈l,k.1≠4+to:=λk hk e=>by have:=((hmem k).1 hk).1;omega
 have hz:∀ j,1<=j->cntX s.X (4+to,j)=0:=λj hj=>by
  have:=h.l.none ht hl0 (k:=(4+to,j)) rfl
  have:=(cntX_le h.xo (4+to,j)).1
  omega
 obtain ⟨-,a2,-⟩:=movL_all to (ordO s.O to).hh l 1 h.xo hnd hto hz
 refine ⟨λhT m j c hm hj hc=>?_,λm j=>?_⟩
 ·rw [e3,a2] at hj
  rw [e1]
  dsimp only at hj
  rw [List.getElem?_map] at hj
  cases hq:(getX s.X m).l[j]? with
  | none=>rw [hq] at hj;cases hj
  | some c0=>
   rw [hq] at hj
   have hj:movF to (ordO s.O to).hh l 1 c0=c:=Option.some.inj hj
   rcases movF_is to (ordO s.O to).hh l 1 c0 hnd hto with ⟨k1,k2,mm,k3,k4⟩ | ⟨k1,k2⟩
   ·rw [k4] at hj
    obtain ⟨t1,t2⟩:=hT m j c0 hm hq k1
    have:=hcp mm c0.pl k3
    subst hj
    dsimp only
    refine ⟨?_,t2⟩
    rw [this]
    show cpB s.C.g (pgC13 s.C c0.s.b c0.s.p)=_
    rw [t1]
    exact t2
   ·rw [k2] at hj
    subst hj
    exact hT m j c0 hm hq hc
 ·unfold hdX
  rw [e3,a2]
  dsimp only
  rw [List.getElem?_map]
  cases hq:(getX s.X m).l[j]? with
  | none=>rfl
  | some c0=>
   show (if (movF to (ordO s.O to).hh l 1 c0).has=true then some (movF to (ordO s.O to).hh l 1 c0).s.h else none)=(if c0.has=true then some c0.s.h else none)
   rcases movF_is to (ordO s.O to).hh l 1 c0 hnd hto with ⟨k1,k2,mm,k3,k4⟩ | ⟨k1,k2⟩
   ·rw [k4,if_pos k1,if_pos rfl]
   ·rw [k2]
structure EmN (g:Geo) (n:Nat) (T:Hh->List Int) (s t:SD) (b ns e:Int):Prop where
 ci:CI n (-1) t.C t.L
 ee:e=0\/(e=15/\t.ro=true)
 ba:∀ i,i<n->(gx s.L i).ba=true->(gx t.L i).ba=true
 hd:e=0->∀ m,manyT t.L (ownB m) n<=manyT s.L (ownB m) n+(if m=ns/\(gx s.L b.toNat).ba=true then 1 else 0)
 pg:PGI T s->PGI T t
 hx:∀ m j,hdX t.X m j=hdX s.X m j
 ro:e=0->t.ro=s.ro
 hb:e=0->∀ i,i<n->(gx t.L i).he=true->(gx t.L i).ba=true->(gx s.L i).he=true/\(gx s.L i).ba=true/\i≠b.toNat
theorem NI.empL {b ns:Int} {l:List (Int×Int)}:∀ (k:Nat) {s:SD},EmI g n s b ns l->CI n (-1) s.C s.L->l≠[]->(61:Int)<=(k:Int)+bads s.L->s.C.ops+eC k<=1000000000000->EmN g n T s (empL b ns l k s).1 b ns (empL b ns l k s).2
 | 0,s,h,hc,hl,hk,_=>by
  exfalso
  have h1:=(manyT_bd (L:=s.L) (m:=λx=>x.ba) s.L.length).2
  have h2:=h.i.ln
  have h3:=h.i.no.1
  have:bads s.L=manyT s.L (λx=>x.ba) s.L.length:=rfl
  omega
 | k+1,s,h,hc,hl,hk,ho=>by
  have hec:=eCs k
  have hN:NI g n s:=⟨h.i,hc⟩
  have hln:=h.i.ln
  obtain ⟨h1,x1,f1,k1,b1⟩:=h.i.beg h.hn (sl:=false) (by omega)
  obtain ⟨N1,ee1,no1,ok1,ro1⟩:=hN.opn h.hn false (by omega)
  have fr1:∀ i,i<n->(gx s.L i).he=true->blkC (opnS ns false s).1.C (4+(i:Int))=blkC s.C (4+(i:Int)):=λi hi hh=>by
   have e:opC ns ⟨0,0,0,0,s.ep,u64w (s.op+1)⟩ false s.C s.L s.O=opnP ns ⟨0,0,0,0,s.ep,u64w (s.op+1)⟩ false 128 s.C s.L s.O:=if_pos h.hn
   show blkC (opC ns ⟨0,0,0,0,s.ep,u64w (s.op+1)⟩ false s.C s.L s.O).1.1 _=_
   rw [e]
   exact opn_fr 128 hln i hi hh
  have lf:=left_f (opnS ns false s).1 (opnS ns false s).2.2
  have le:=left_e (opnS ns false s).1 ee1
  have N2:=N1.left (opnS ns false s).2.2
  have live:∀ q,1<=cntX s.X q->((q.1-4).toNat<n/\4+(((q.1-4).toNat:Nat):Int)=q.1)/\(gx s.L (q.1-4).toNat).he=true:=λq hq=>by
   have hb:=(h.i.l.xb q hq).1
   refine ⟨⟨by omega,by omega⟩,h.i.l.he _ (by omega) λh0=>?_⟩
   exact h.i.l.none (b:=q.1-4) (by omega) h0 (k:=q) (by omega) hq
  have pg1:PGI T s->PGI T (leftP (opnS ns false s).1 (opnS ns false s).2.2).1:=λhT=>by
   refine hT.of x1 (by rw [N2.i.pi.gg,h.i.pi.gg]) (λq hq=>?_) h.i.xo.four
   obtain ⟨⟨q1,q2⟩,q3⟩:=live q hq
   have:=fr1 _ q1 q3
   rw [q2] at this
   unfold pgC13
   rw [lf.1,this]
  unfold Vc.empL
  dsimp only
  generalize opnS ns false s=r at h1 x1 f1 k1 b1 N1 ee1 no1 ok1 ro1 lf le N2 pg1 ⊢
  obtain ⟨r1,to,e⟩:=r
  dsimp only at h1 x1 f1 k1 b1 N1 ee1 no1 ok1 ro1 lf le N2 pg1 ⊢
  have o1:=h1.o2
  rcases le with ⟨le1,le2,le3,le4,le5⟩ | ⟨le1,le2⟩
  case inr=>
   rw [if_pos (by omega)]
   dsimp only
   have baf:∀ i,i<n->(gx s.L i).ba=true->(gx (leftP r1 e).1.L i).ba=true:=λi hi a=>by
    rw [lf.2.1]
    rcases ee1 with e0 | e19
    ·exact (ok1 e0).1.ba i hi a
    ·exact (no1 (by omega)).ba i hi a
   split
   ·refine ⟨?_,.inr ⟨le1,le2⟩,λi hi a=>?_,λk=>by omega,λhT=>(pg1 hT).of rfl rfl (λ_ _=>rfl) N2.i.xo.four,λm j=>by show hdX (leftP r1 e).1.X m j=_;rw [x1],λk=>by omega,λk=>by omega⟩
    ·have:=N2.c.ch N2.i.ln to (φ:=rB) λ_ _ k=>k.r
     refine this.of rfl ?_
     show chL to (leftP r1 e).1.L.length rB _=_
     rw [N2.i.ln]
    ·show (gx (chL to (leftP r1 e).1.L.length rB (leftP r1 e).1.L) i).ba=true
     rw [gx_ch rfl]
     split
     ·exact baf i hi a
     ·exact baf i hi a
   ·exact ⟨N2.c,.inr ⟨le1,le2⟩,baf,λk=>by omega,pg1,λm j=>by rw [x1],λk=>by omega,λk=>by omega⟩
  rw [if_neg (by omega)]
  rw [le3] at h1 x1 f1 k1 b1 N2 pg1 o1 ⊢
  subst le2
  have hB:=b1 rfl
  obtain ⟨y,hy,hyb⟩:=hB.y
  obtain ⟨G1,Bg⟩:=ok1 rfl
  have ht:=hB.ht
  have hb:=h.hb
  have hlen2:=h.i.l.len (4+b)
  rw [h.l] at hlen2
  have hlen:=l32 h.i.l (4+b)
  rw [h.l] at hlen
  obtain ⟨a1,hne,e1,nf1,l0,mv⟩:=h.cop h1.i x1 f1 k1 hB (by omega)
  obtain ⟨-,c2,c3,-,-,c5,c6,c7,c8,-,c10,c11⟩:=SI.cop ht l 1 h1.i (by rw [hy];show (0:Int)+_<=_;omega) (by omega)
  have hsrc:∀ q∈l,inC r1.C q.1 q.2/\q.1≠4+to:=λq hq=>by
   rw [<-h.l] at hq
   obtain ⟨q1,q2,q3⟩:=inP_mem.1 hq
   have q4:=(h.i.l.xb q q3).2
   have hnn:=h.i.pi.nn
   exact ⟨by unfold inC;rw [N2.i.pi.gg];omega,by omega⟩
  have K:=NI.cop ht l 1 N2 (by rw [hy];rfl) (by rw [hy];exact hyb) (by rw [Bg.us 0];rfl) (by rw [hy];rfl) (by rw [hy];show (0:Int)+_<=_;omega) hsrc (by omega)
  have pg2:PGI T s->PGI T (copP to l 1 r1).1:=λhT=>by
   refine (pg1 hT).of c2 (by rw [e1.i.pi.gg,N2.i.pi.gg]) (λq hq=>?_) N2.i.xo.four
   have hq2:=(N2.i.l.xb q hq).1
   have hne2:q.1≠4+to:=λe=>N2.i.l.none ht (by rw [hy];rfl) (k:=q) e hq
   unfold pgC13
   rw [K.oth q.1 (by omega)]
  have ow:∀ i,i<n->i≠to.toNat->(gx (copP to l 1 r1).1.L i).he=true->gx (copP to l 1 r1).1.L i=gx s.L i:=λi hi hne2 hh=>by
   rw [c6 i hne2] at hh ⊢
   exact k1 i hi (G1.he i hi (by omega) hh)
  have bac:∀ i,i<n->(gx s.L i).ba=true->(gx (copP to l 1 r1).1.L i).ba=true:=λi hi a=>by
   by_cases e2:i=to.toNat
   ·subst e2;rw [c10];exact G1.ba _ hi a
   ·rw [c6 i e2];exact G1.ba i hi a
  have bat:(gx s.L to.toNat).ba=false:=by
   cases e2:(gx s.L to.toNat).ba
   ·rfl
   ·have:=G1.ba to.toNat (by omega) e2
    rw [hy] at this
    rw [show (Vc.hB ns y).ba=y.ba from rfl,hyb] at this
    cases this
  generalize copP to l 1 r1=c at a1 e1 nf1 l0 mv c2 c3 c5 c6 c7 c8 c10 c11 K pg2 ow bac ⊢
  obtain ⟨c1,ce⟩:=c
  dsimp only at a1 e1 nf1 l0 mv c2 c3 c5 c6 c7 c8 c10 c11 K pg2 ow bac ⊢
  have o2:=a1.o2
  have gb:gx c1.L b.toNat=gx s.L b.toNat:=ow b.toNat (by omega) (by omega) e1.he
  have lc:c1.L.length=n:=e1.i.ln
  have hro:s.ro=false:=ro1.symm.trans le4
  by_cases hc0:ce=0
  ·rw [if_pos hc0]
   dsimp only
   obtain ⟨m1,m2,m3,m4⟩:=mov_fld c1 b to ns l
   have hcp:∀ (j:Nat) (q:Int×Int),(inP c1.X (4+b))[j]? = some q->pgC13 c1.C (4+to) (1+(j:Int))=cpB c1.C.g (pgC13 c1.C q.1 q.2):=λj q hq=>by
    rw [e1.l] at hq
    have hs:=hsrc q (List.mem_of_getElem? hq)
    rw [K.ok hc0 j q hq,e1.i.pi.gg]
    congr 1
    unfold pgC13
    rw [K.oth q.1 (by have:=hs.1.1;omega)]
   obtain ⟨p1,p2⟩:=mov_hd (T:=T) (ns:=ns) e1.i ht (λe=>hne e.symm) l0 hcp
   rw [e1.l] at p1 p2
   have eL:(movP c1 b to ns l).L=chL b n rB (chL to n (cB (l.length:Int)) c1.L):=by rw [m2,lc]
   have l1':(chL to n (cB (l.length:Int)) c1.L).length=n:=by rw [chL_len];exact lc
   have gi:∀ i,i≠b.toNat->i≠to.toNat->gx (movP c1 b to ns l).L i=gx c1.L i:=λi h1 h2=>by rw [eL,gx_ne l1' h1,gx_ne lc h2]
   have gB:gx (movP c1 b to ns l).L b.toNat=rB (gx c1.L b.toNat):=by rw [eL,gx_eq l1' hb,gx_ne lc (by omega)]
   have gT:gx (movP c1 b to ns l).L to.toNat=cB (l.length:Int) (gx c1.L to.toNat):=by rw [eL,gx_ne l1' (by omega),gx_eq lc ht]
   refine ⟨?_,.inl rfl,λi hi a=>?_,λ_ m=>?_,λhT=>p1 (pg2 hT),λm j=>by rw [p2,c2,x1],λ_=>by rw [m4,c5,hro];exact le4,λ_ i hi h1 h2=>?_⟩
   ·refine ((K.ci.ch lc to (φ:=cB (l.length:Int)) λ_ _ k=>k.c _).ch l1' b (φ:=rB) λ_ _ k=>k.r).of m1 eL
   ·by_cases e2:i=b.toNat
    ·rw [e2,gB];show (gx c1.L b.toNat).ba=true;rw [<-e2];exact bac i hi a
    ·by_cases e3:i=to.toNat
     ·rw [e3,gT];show (gx c1.L to.toNat).ba=true;rw [<-e3];exact bac i hi a
     ·rw [gi i e2 e3];exact bac i hi a
   ·have g0:gx (chL b n rB s.L) b.toNat=rB (gx s.L b.toNat):=gx_eq hln hb
    have pt:∀ i,i<n->i≠to.toNat->ownB m (gx (movP c1 b to ns l).L i)=true->ownB m (gx (chL b n rB s.L) i)=true:=λi hi h2 h3=>by
     by_cases e2:i=b.toNat
     ·rw [e2,gB] at h3;cases h3
     ·rw [gi i e2 h2] at h3
      have hh:(gx c1.L i).he=true:=by
       unfold ownB at h3
       rw [Bool.and_eq_true,Bool.and_eq_true] at h3
       exact h3.1.1
      rw [gx_ne hln e2,<- ow i hi h2 hh]
      exact h3
    have lt0:manyT (chL b n rB s.L) (ownB m) n<=manyT s.L (ownB m) n:=manyT_le n λi hi h3=>by
     by_cases e2:i=b.toNat
     ·rw [e2,g0] at h3;cases h3
     ·rw [gx_ne hln e2] at h3;exact h3
    by_cases em:m=ns
    ·have up:=manyT_up (L:=chL b n rB s.L) (L':=(movP c1 b to ns l).L) (m:=ownB m) (b:=to.toNat) n λi hi h2 h3=>pt i hi h2 h3
     cases hbb:(gx s.L b.toNat).ba
     ·rw [if_neg (λk=>by cases k.2)]
      have:=manyT_lt (L:=chL b n rB s.L) (L':=s.L) (m:=ownB m) (b:=b.toNat) n (by omega) (λi hi h3=>by
       by_cases e2:i=b.toNat
       ·rw [e2,g0] at h3;cases h3
       ·rw [gx_ne hln e2] at h3;exact h3) (by rw [g0];rfl) (by unfold ownB;rw [h.he,hbb,h.ow,em];simp)
      omega
     ·rw [if_pos ⟨em,rfl⟩];omega
    ·rw [if_neg (λk=>em k.1)]
     have:=manyT_le (L:=chL b n rB s.L) (L':=(movP c1 b to ns l).L) (m:=ownB m) (m':=ownB m) n λi hi h3=>by
      by_cases e2:i=to.toNat
      ·exfalso
       rw [e2,gT] at h3
       unfold ownB at h3
       rw [Bool.and_eq_true] at h3
       have h4:(gx c1.L to.toNat).ow=m:=eq_of_beq h3.2
       rw [c8,hy] at h4
       exact em h4.symm
      ·exact pt i hi e2 h3
     omega
   ·by_cases e2:i=b.toNat
    ·rw [e2,gB] at h1;cases h1
    ·by_cases e3:i=to.toNat
     ·rw [e3,gT] at h2
      have h2:(gx c1.L to.toNat).ba=true:=h2
      rw [c10,hy] at h2
      rw [show (Vc.hB ns y).ba=y.ba from rfl,hyb] at h2
      cases h2
     ·rw [gi i e2 e3] at h1 h2
      rw [<-ow i hi e3 h1]
      exact ⟨h1,h2,e2⟩
  rw [if_neg hc0]
  have hc5:ce=5:=K.ee.resolve_left hc0
  rw [if_pos hc5]
  have N3:NI g n c1:=⟨e1.i,K.ci⟩
  obtain ⟨s1,sx,sf,sg⟩:=e1.i.spo ht l0 nf1 (by omega)
  obtain ⟨u1,u2,u3,u4,u5,u6,u7⟩:=N3.spo ht l0 nf1 (by rw [c10,hy];exact hyb) (by omega)
  have pg3:PGI T s->PGI T (spoP c1 to).1:=λhT=>by
   refine (pg2 hT).of sx (by rw [u1.i.pi.gg,e1.i.pi.gg]) (λq hq=>?_) e1.i.xo.four
   have hq2:=(e1.i.l.xb q hq).1
   have hne2:q.1≠4+to:=λe=>e1.i.l.none ht l0 (k:=q) e hq
   unfold pgC13
   rw [u7 q.1 (by omega)]
  have ba3:∀ i,i<n->(gx s.L i).ba=true->(gx (spoP c1 to).1.L i).ba=true:=λi hi a=>u3.ba i hi (bac i hi a)
  by_cases hs:(spoP c1 to).2≠0
  ·rw [if_pos hs]
   exact ⟨u1.c,.inr (u2.resolve_left hs),ba3,λk=>absurd k hs,pg3,λm j=>by rw [sx,c2,x1],λk=>absurd k hs,λk=>absurd k hs⟩
  rw [if_neg hs]
  have hs0:(spoP c1 to).2=0:=by omega
  have hbt:b.toNat≠to.toNat:=by omega
  have e2:EmI g n (spoP c1 to).1 b ns l:=⟨s1.i,h.hn,h.hb,by rw [sx];exact e1.l,by rw [sg _ hbt];exact e1.he,by rw [sg _ hbt];exact e1.ow,nfr_fr e1.nf sf⟩
  have o3:=s1.o2
  have hbd:bads s.L+1<=bads (spoP c1 to).1.L:=by
   show manyT s.L (λx=>x.ba) s.L.length+1<=manyT (spoP c1 to).1.L (λx=>x.ba) (spoP c1 to).1.L.length
   rw [hln,s1.i.ln]
   exact manyT_lt (b:=to.toNat) n (by omega) (λi hi a=>ba3 i hi a) bat u4
  have R:=NI.empL k e2 u1.c hl (by push_cast at hk;omega) (by omega)
  have gb3:gx (spoP c1 to).1.L b.toNat=gx s.L b.toNat:=by rw [sg _ hbt,gb]
  refine ⟨R.ci,R.ee,λi hi a=>R.ba i hi (ba3 i hi a),λk m=>?_,λhT=>R.pg (pg3 hT),λm j=>by rw [R.hx,sx,c2,x1],λk=>(R.ro k).trans ((u6 hs0).1.trans hro.symm),λk i hi h1 h2=>?_⟩
  rotate_left
  ·obtain ⟨v1,v2,v3⟩:=R.hb k i hi h1 h2
   by_cases e3:i=to.toNat
   ·rw [e3,u5] at v1;cases v1
   ·rw [sg i e3] at v1 v2
    rw [<-ow i hi e3 v1]
    exact ⟨v1,v2,v3⟩
  have hd:=R.hd k m
  rw [gb3] at hd
  have le3:manyT (spoP c1 to).1.L (ownB m) n<=manyT s.L (ownB m) n:=manyT_le n λi hi h3=>by
   by_cases e3:i=to.toNat
   ·exfalso
    subst e3
    unfold ownB at h3
    rw [u5] at h3
    cases h3
   ·rw [sg i e3] at h3
    have hh:(gx c1.L i).he=true:=by
     unfold ownB at h3
     rw [Bool.and_eq_true,Bool.and_eq_true] at h3
     exact h3.1.1
    rw [<-ow i hi e3 hh]
    exact h3
  omega
end
def capS (s:SD) (m:Int):Int:=if (getX s.X m).n=0 then 0 else quoS s m-1
def GD (n:Nat) (s:SD):Prop:=s.ro=false->(∀ i,i<n->(gx s.L i).he=true->(gx s.L i).ba=false)/\∀ m,manyT s.L (ownB m) n<=capS s m
section
variable {g:Geo} {n:Nat} {s t u:SD} {T:Hh->List Int} {b ns e:Int}
structure StN (g:Geo) (n:Nat) (T:Hh->List Int) (s t:SD):Prop where
 ci:CI n (-1) t.C t.L
 ba:∀ i,i<n->(gx s.L i).ba=true->(gx t.L i).ba=true
 pg:PGI T s->PGI T t
 hx:∀ m j,hdX t.X m j=hdX s.X m j
 gd:GD n s->GD n t
 ro:t.ro=false->s.ro=false
theorem StN.refl (h:NI g n s):StN g n T s s:=⟨h.c,λ_ _ h=>h,λh=>h,λ_ _=>rfl,λh=>h,λh=>h⟩
theorem StN.trans (h:StN g n T s t) (k:StN g n T t u):StN g n T s u:=⟨k.ci,λi hi a=>k.ba i hi (h.ba i hi a),λa=>k.pg (h.pg a),λm j=>(k.hx m j).trans (h.hx m j),λa=>k.gd (h.gd a),λa=>h.ro (k.ro a)⟩
theorem cap_eq (h:SI g n s) (k:SI g n t) (hz:∀ ns,(getX t.X ns).n=(getX s.X ns).n) (m:Int):capS t m=capS s m:=by
 unfold capS quoS
 rw [hz,h.pi.gg,k.pi.gg]
theorem own_mk {x y:Blk} {m:Int} (h:ownB m x=true) (h1:y.he=x.he) (h2:y.ba=x.ba) (h3:y.ow=x.ow):ownB m y=true:=by
 unfold ownB at h ⊢
 rw [h1,h2,h3]
 exact h
theorem own_he {x:Blk} {m:Int} (h:ownB m x=true):x.he=true:=(own_is h).1
theorem GD.sub (h:GD n s) (hc:∀ m,capS t m=capS s m) (hr:t.ro=false->s.ro=false) (hk:∀ i,i<n->(gx t.L i).he=true->(gx s.L i).he=true/\(gx t.L i).ba=(gx s.L i).ba/\(gx t.L i).ow=(gx s.L i).ow):GD n t:=λh0=>by
 obtain ⟨a,c⟩:=h (hr h0)
 refine ⟨λi hi hh=>?_,λm=>?_⟩
 ·obtain ⟨k1,k2,-⟩:=hk i hi hh
  rw [k2];exact a i hi k1
 ·rw [hc]
  refine Int.le_trans (manyT_le n λi hi ho=>?_) (c m)
  obtain ⟨k1,k2,k3⟩:=hk i hi (own_he ho)
  exact own_mk ho (k1.trans (own_he ho).symm) k2.symm k3.symm
theorem EmN.fs0 (k:EmN g n T (Vc.fs0 s ns b) t b ns e):EmN g n T s t b ns e:=by
 unfold Vc.fs0 at k
 split at k
 ·exact ⟨k.ci,k.ee,k.ba,k.hd,k.pg,k.hx,k.ro,k.hb⟩
 ·exact k
theorem rel_sub (h:SI g n s) (b:Int):∀ i,i<n->(gx (chS s b rB).L i).he=true->(gx s.L i).he=true/\(gx (chS s b rB).L i).ba=(gx s.L i).ba/\(gx (chS s b rB).L i).ow=(gx s.L i).ow/\(0<=b/\b<(n:Int)->i≠b.toNat):=λi hi hh=>by
 have gg:=chS_gx h b rB
 rw [gg] at hh ⊢
 split at hh
 ·cases hh
 ·rename_i e
  rw [if_neg e]
  exact ⟨hh,rfl,rfl,λh0 k=>e ⟨h0,k⟩⟩
theorem NI.rel0 (h:NI g n s) (b:Int):StN g n T s (chS s b rB):=by
 have hln:=h.i.ln
 have gg:=chS_gx h.i b rB
 refine ⟨(h.c.ch hln b λ_ _ k=>k.r).of rfl (by show chL b s.L.length rB s.L=_;rw [hln]),λi hi a=>?_,λk=>k,λ_ _=>rfl,λhG=>hG.sub (λ_=>rfl) (λk=>k) λi hi hh=>?_,λk=>k⟩
 ·rw [gg];split
  ·exact a
  ·exact a
 ·obtain ⟨k1,k2,k3,-⟩:=rel_sub h.i b i hi hh
  exact ⟨k1,k2,k3⟩
theorem NI.rel (h:NI g n s) (b ns:Int) (hb:0<=b/\b<(n:Int)):EmN g n T s (chS s b rB) b ns 0:=by
 have k:=h.rel0 (T:=T) b
 refine ⟨k.ci,.inl rfl,k.ba,λ_ m=>?_,λk=>k,λ_ _=>rfl,λ_=>rfl,λ_ i hi h1 h2=>?_⟩
 ·have:=manyT_le (L:=s.L) (L':=(chS s b rB).L) (m:=ownB m) (m':=ownB m) n λi hi ho=>by
   obtain ⟨k1,k2,k3,-⟩:=rel_sub h.i b i hi (own_he ho)
   exact own_mk ho (k1.trans (own_he ho).symm) k2.symm k3.symm
  split <;> omega
 ·obtain ⟨k1,k2,k3,k4⟩:=rel_sub h.i b i hi h1
  rw [k2] at h2
  exact ⟨k1,h2,k4 hb⟩
theorem NI.emp (h:NI g n s) (hn:0<=ns/\ns<4) (hb:0<=b/\b<(n:Int)) (ho:(gx s.L b.toNat).ow=ns) (hp:s.C.ops+215040<=1000000000000):EmN g n T s (empP s b ns).1 b ns (empP s b ns).2:=by
 obtain ⟨h1,h2,h3,h4,h5⟩:=h.i.fs0 hn (λ_=>ho)
 have N1:NI g n (Vc.fs0 s ns b):=⟨h1.i,h.c.of h5 h3⟩
 have e:empP s b ns=if inP s.X (4+b)=[] then (chS (Vc.fs0 s ns b) b rB,0) else Vc.empL b ns (inP s.X (4+b)) 256 (Vc.fs0 s ns b):=rfl
 rw [e]
 refine EmN.fs0 ?_
 by_cases hl:inP s.X (4+b)=[]
 ·rw [if_pos hl]
  exact N1.rel b ns hb
 ·rw [if_neg hl]
  have hli:(gx s.L b.toNat).li≠0:=by
   rw [h.i.l.li _ (by omega),show 4+((b.toNat:Nat):Int)=4+b by omega]
   intro e
   exact hl (List.length_eq_zero_iff.1 (by omega))
  have E:EmI g n (Vc.fs0 s ns b) b ns (inP s.X (4+b)):=⟨h1.i,hn,hb,by rw [h4],by rw [h3];exact h.i.l.he _ (by omega) hli,by rw [h3];exact ho,h2⟩
  have hec:=eC256
  have hbd:=(manyT_bd (L:=(Vc.fs0 s ns b).L) (m:=λx=>x.ba) (Vc.fs0 s ns b).L.length).1
  exact NI.empL 256 E N1.c hl (by show _<=_+manyT _ _ _;omega) (by rw [h5];omega)
theorem EmN.st (k:EmN g n T s t b ns e) (hi:SI g n s) (kt:SI g n t) (hz:∀ ns,(getX t.X ns).n=(getX s.X ns).n) (hb:s.ro=false->(gx s.L b.toNat).ba=false):StN g n T s t:=by
 have hr:t.ro=false->e=0:=λh0=>k.ee.resolve_right λh1=>by rw [h0] at h1;cases h1.2
 refine ⟨k.ci,k.ba,k.pg,k.hx,λhG h0=>?_,λh0=>by rw [<-k.ro (hr h0)];exact h0⟩
 have e0:=hr h0
 have r0:s.ro=false:=by rw [<-k.ro e0];exact h0
 obtain ⟨a,c⟩:=hG r0
 refine ⟨λi hi hh=>?_,λm=>?_⟩
 ·cases hq:(gx t.L i).ba
  ·rfl
  ·obtain ⟨v1,v2,-⟩:=k.hb e0 i hi hh hq
   rw [a i hi v1] at v2;cases v2
 ·have:=k.hd e0 m
  rw [if_neg (λq=>by rw [hb r0] at q;cases q.2)] at this
  rw [cap_eq hi kt hz]
  have:=c m
  omega
end
section
variable {g:Geo} {n:Nat} {s t u:SD} {T:Hh->List Int} {b ns e:Int}
theorem StN.fr (h:NI g n s) (ns v:Int):StN g n T s (frS s ns v):=⟨h.c,λ_ _ h=>h,λh=>h,λ_ _=>rfl,λh=>h,λh=>h⟩
theorem NI.clos (h:NI g n s) (hn:0<=ns/\ns<4):NI g n (closP s ns)/\StN g n T s (closP s ns):=by
 have N1:NI g n (frS s ns (-1)):=⟨(h.i.frm hn).i,h.c⟩
 have k0:StN g n T s (frS s ns (-1)):=.fr h ns (-1)
 have q:StN g n T s (closP s ns):=by
  unfold closP
  split
  ·exact k0.trans (N1.rel0 (frG s ns))
  ·exact k0
 exact ⟨⟨(h.i.clos hn).i,q.ci⟩,q⟩
theorem over_ro (s:SD) (h:(overP s).1.ro=false):s.ro=false:=by
 unfold overP at h
 split at h
 ·cases h
 ·exact h
theorem roS_ro (s:SD) (e:Int) (h:(roS s e).ro=false):s.ro=false:=by
 unfold roS at h
 split at h
 ·cases h
 ·exact h
theorem StN.ro' (h:NI g n s) (hC:t.C=s.C) (hL:t.L=s.L) (hX:t.X=s.X) (hr:t.ro=false->s.ro=false):StN g n T s t:=by
 refine ⟨h.c.of hC hL,λi hi a=>by rw [hL];exact a,λk=>k.of hX (by rw [hC]) (λ_ _=>by unfold pgC13;rw [hC]) h.i.xo.four,λm j=>by rw [hX],λhG=>hG.sub (λm=>by unfold capS quoS;rw [hC,hX]) hr λi hi hh=>?_,hr⟩
 rw [hL] at hh ⊢
 exact ⟨hh,rfl,rfl⟩
theorem NI.overN (h:NI g n s):StN g n T s (overP s).1:=by
 have k:=over_f s
 exact .ro' h k.1 k.2.1 k.2.2.2.1 (over_ro s)
theorem left_ro (s:SD) (e:Int) (h:(leftP s e).1.ro=false):s.ro=false:=by
 rcases left_is s e with k | k
 ·rw [k] at h;exact h
 ·rw [k] at h;exact roS_ro s e (over_ro _ h)
theorem NI.leftN (h:NI g n s) (e:Int):StN g n T s (leftP s e).1:=by
 have k:=left_f s e
 exact .ro' h k.1 k.2.1 k.2.2.2.1 (left_ro s e)
theorem NI.live (h:NI g n s) {q:Int×Int} (hq:1<=cntX s.X q):((q.1-4).toNat<n/\4+(((q.1-4).toNat:Nat):Int)=q.1)/\(gx s.L (q.1-4).toNat).he=true:=by
 have hb:=(h.i.l.xb q hq).1
 refine ⟨⟨by omega,by omega⟩,h.i.l.he _ (by omega) λh0=>?_⟩
 exact h.i.l.none (b:=q.1-4) (by omega) h0 (k:=q) (by omega) hq
theorem NI.opnN (h:NI g n s) (hn:0<=ns/\ns<4) (sl:Bool) (ho:s.C.ops+768<=1000000000000) (hq:s.ro=false->manyT s.L (ownB ns) n+1<=capS s ns) :
  NI g n (opnS ns sl s).1/\StN g n T s (opnS ns sl s).1:=by
 obtain ⟨N1,ee1,no1,ok1,ro1⟩:=h.opn hn sl ho
 obtain ⟨h1,q,x1,f1⟩:=h.i.opn hn (sl:=sl) ho
 refine ⟨N1,N1.c,λi hi a=>?_,λhT=>?_,λm j=>by rw [x1],λhG h0=>?_,λk=>by rw [<-ro1];exact k⟩
 ·rcases ee1 with e0 | e19
  ·exact (ok1 e0).1.ba i hi a
  ·exact (no1 (by omega)).ba i hi a
 ·refine hT.of x1 (by rw [N1.i.pi.gg,h.i.pi.gg]) (λq hq=>?_) h.i.xo.four
  obtain ⟨⟨q1,q2⟩,q3⟩:=h.live hq
  have e:opC ns ⟨0,0,0,0,s.ep,u64w (s.op+1)⟩ sl s.C s.L s.O=opnP ns ⟨0,0,0,0,s.ep,u64w (s.op+1)⟩ sl 128 s.C s.L s.O:=if_pos hn
  have e2:(opnS ns sl s).1.C=(opnP ns ⟨0,0,0,0,s.ep,u64w (s.op+1)⟩ sl 128 s.C s.L s.O).1.1:=by rw [<-e];rfl
  have:=opn_fr (ns:=ns) (o:=⟨0,0,0,0,s.ep,u64w (s.op+1)⟩) (sl:=sl) 128 (C:=s.C) (O:=s.O) h.i.ln _ q1 q3
  rw [q2,<- e2] at this
  unfold pgC13
  rw [this]
 ·have r0:s.ro=false:=by rw [<-ro1];exact h0
  obtain ⟨a,c⟩:=hG r0
  have hcap:=cap_eq h.i N1.i h1.sz
  rcases ee1 with e0 | e19
  ·obtain ⟨b1,b2,y,b3,b4⟩:=q.ok e0
   have hk:∀ i,i<n->i≠(opnS ns sl s).2.1.toNat->(gx (opnS ns sl s).1.L i).he=true->(gx s.L i).he=true/\gx (opnS ns sl s).1.L i=gx s.L i:=λi hi hne hh=>by
    have:=(ok1 e0).1.he i hi (by omega) hh
    exact ⟨this,q.kp i hi this⟩
   refine ⟨λi hi hh=>?_,λm=>?_⟩
   ·by_cases e:i=(opnS ns sl s).2.1.toNat
    ·rw [e,b3];exact b4
    ·obtain ⟨k1,k2⟩:=hk i hi e hh
     rw [k2];exact a i hi k1
   ·rw [hcap]
    by_cases em:m=ns
    ·rw [em]
     refine Int.le_trans (manyT_up (L:=s.L) (b:=(opnS ns sl s).2.1.toNat) n λi hi hne ho=>?_) (hq r0)
     rw [<-(hk i hi hne (own_he ho)).2];exact ho
    ·refine Int.le_trans (manyT_le (L:=s.L) (m:=ownB m) n λi hi ho=>?_) (c m)
     by_cases e:i=(opnS ns sl s).2.1.toNat
     ·exfalso
      rw [e,b3] at ho
      exact em (own_is ho).2.2.symm
     ·rw [<-(hk i hi e (own_he ho)).2];exact ho
  ·refine (hG.sub (t:=(opnS ns sl s).1) hcap (λ_=>r0) λi hi hh=>?_) h0
   have:=(no1 (by omega)).he i hi (by omega) hh
   rw [q.kp i hi this]
   exact ⟨this,rfl,rfl⟩
theorem emp_neg (h:NI g n s) (hn:0<=ns/\ns<4) (hb:b<0):(empP s b ns).2=0/\StN g n T s (empP s b ns).1/\(empP s b ns).1.ro=s.ro:=by
 have hl:inP s.X (4+b)=[]:=inP_nil λk hk h1=>by
  have:=(h.i.l.xb k h1).1
  omega
 have e:empP s b ns=(chS (Vc.fs0 s ns b) b rB,0):=if_pos hl
 rw [e]
 have e2:∀ s:SD,chS s b rB=s:=λs=>by
  have:chL b s.L.length rB s.L=s.L:=if_neg (λk=>by have:0<=b:=k.1;omega)
  unfold chS
  rw [this]
 rw [e2]
 unfold Vc.fs0
 split
 ·exact ⟨rfl,.fr h ns (-1),rfl⟩
 ·exact ⟨rfl,.refl h,rfl⟩
theorem NI.room (h:NI g n s) (hn:0<=ns/\ns<4) (hz:1<=(getX s.X ns).n) (ho:s.C.ops+215040<=1000000000000) :
  NI g n (roomP s ns).1/\StN g n T s (roomP s ns).1/\((roomP s ns).2=0\/((roomP s ns).2=15/\(roomP s ns).1.ro=true))/\((roomP s ns).2=0->(roomP s ns).1.ro=s.ro):=by
 obtain ⟨N1,S1⟩:=h.clos (T:=T) hn
 have hI:=h.i.room hn ho
 have hcl:=h.i.clos hn
 have hc:=clos_f s ns
 have hro:(closP s ns).ro=s.ro:=by unfold closP;split <;> rfl
 suffices k:StN g n T (closP s ns) (roomP s ns).1/\((roomP s ns).2=0\/((roomP s ns).2=15/\(roomP s ns).1.ro=true))/\((roomP s ns).2=0->(roomP s ns).1.ro=s.ro) from ⟨⟨hI.i,k.1.ci⟩,S1.trans k.1,k.2.1,k.2.2⟩
 unfold roomP
 split
 ·have e:s.L.length=(closP s ns).L.length:=by rw [N1.i.ln,h.i.ln]
  rw [e]
  have hv:=vict_bd (L:=(closP s ns).L) (ns:=ns) (bu:=-1)
  rw [N1.i.ln] at hv
  by_cases hb:0<=victT (closP s ns).L ns (-1) (closP s ns).L.length
  ·have hw:=own_is (vict_is N1.i.ln hb)
   rw [N1.i.ln] at hb hw ⊢
   have E:=N1.emp (T:=T) hn ⟨hb,hv.2⟩ hw.2.2 (by rw [hc.1];exact ho)
   have EI:=(N1.i.emp (b:=victT (closP s ns).L ns (-1) n) hn hv.2 (λ_=>hw.2.2) (by rw [hc.1];exact ho)).1
   exact ⟨E.st N1.i EI.i EI.sz (λ_=>hw.2.1),E.ee,λk=>(E.ro k).trans hro⟩
  ·obtain ⟨k1,k2,k3⟩:=emp_neg (T:=T) N1 hn (b:=victT (closP s ns).L ns (-1) (closP s ns).L.length) (by omega)
   exact ⟨k2,.inl k1,λ_=>k3.trans hro⟩
 ·rename_i hlt
  have hcap:capS (closP s ns) ns=quoS s ns-1:=by
   rw [cap_eq h.i N1.i hcl.sz]
   unfold capS
   rw [if_neg (by omega)]
  have hh:heldS (closP s ns) ns=manyT (closP s ns).L (ownB ns) n:=by unfold heldS;rw [N1.i.ln]
  obtain ⟨N2,S2⟩:=N1.opnN (T:=T) hn true (by rw [hc.1];omega) λ_=>by rw [hcap,<- hh];omega
  obtain ⟨-,ee,-⟩:=N1.opn hn true (by rw [hc.1];omega)
  have ro2:(opnS ns true (closP s ns)).1.ro=s.ro:=hro
  obtain ⟨a1,q,x1,f1⟩:=N1.i.opn hn (sl:=true) (by rw [hc.1];omega)
  dsimp only
  have a2:St g n 0 (opnS ns true (closP s ns)).1 (if (opnS ns true (closP s ns)).2.2=0 then frS (opnS ns true (closP s ns)).1 ns (opnS ns true (closP s ns)).2.1 else (opnS ns true (closP s ns)).1):=by
   split
   ·rename_i he
    obtain ⟨b1,b2,y,b3,b4⟩:=q.ok he
    exact a1.i.fr hn (.inr ⟨b1,by rw [b3];rfl,by rw [b3];show ns=_;omega⟩)
   ·exact .refl a1.i
  have S3:StN g n T (opnS ns true (closP s ns)).1 (if (opnS ns true (closP s ns)).2.2=0 then frS (opnS ns true (closP s ns)).1 ns (opnS ns true (closP s ns)).2.1 else (opnS ns true (closP s ns)).1):=by
   split
   ·exact .fr N2 _ _
   ·exact .refl N2
  have ro3:(if (opnS ns true (closP s ns)).2.2=0 then frS (opnS ns true (closP s ns)).1 ns (opnS ns true (closP s ns)).2.1 else (opnS ns true (closP s ns)).1).ro=s.ro:=by
   split <;> exact ro2
  generalize (if (opnS ns true (closP s ns)).2.2=0 then frS (opnS ns true (closP s ns)).1 ns (opnS ns true (closP s ns)).2.1 else (opnS ns true (closP s ns)).1)=f at a2 S3 ro3 ⊢
  have N3:NI g n f:=⟨a2.i,S3.ci⟩
  refine ⟨(S2.trans S3).trans (N3.leftN _),?_,λk=>?_⟩
  ·rcases left_e f ee with ⟨k,-⟩ | k
   ·exact .inl k
   ·exact .inr k
  ·rcases left_e f ee with ⟨k1,k2,k3,k4,k5⟩ | ⟨k1,k2⟩
   ·rw [k3];exact ro3
   ·rw [k] at k1;cases k1
end
section
variable {g:Geo} {n:Nat} {s t u:SD} {T:Hh->List Int} {b ns e:Int}
theorem NI.fai (h:NI g n s) (hn:0<=ns/\ns<4) (h0:0<=frG s ns) (hp:s.C.ops+215042<=1000000000000) :
  NI g n (faiP s ns).1/\StN g n T s (faiP s ns).1/\((faiP s ns).2=0\/((faiP s ns).2=15/\(faiP s ns).1.ro=true))/\((faiP s ns).2=0->(faiP s ns).1.ro=false):=by
 have hb:=(h.i.fG hn).resolve_left (by omega)
 have hI:=h.i.fai hn h0 hp
 have h1:=h.i.frm hn
 have N1:NI g n (frS s ns (-1)):=⟨h1.i,h.c⟩
 have h2:=h1.i.f (frG s ns)
 unfold faiP at hI ⊢
 dsimp only at hI ⊢
 generalize frG s ns=b at hb h0 h2 hI ⊢
 have hln:=h.i.ln
 have N2:NI g n (chS (frS s ns (-1)) b fB):=⟨h2.i,(h.c.ch hln b λ_ _ k=>k.f).of rfl (by show chL b s.L.length fB s.L=_;rw [hln])⟩
 have k3:=over_f (chS (frS s ns (-1)) b fB)
 have r3:=over_ro (chS (frS s ns (-1)) b fB)
 have N3:=N2.over
 have h3:=h2.i.over
 have L3:(overP (chS (frS s ns (-1)) b fB)).1.L=chL b n fB s.L:=by rw [k3.2.1];show chL b s.L.length fB s.L=_;rw [hln]
 have ov:=over_e (chS (frS s ns (-1)) b fB)
 have S3:=N2.overN (T:=T)
 have z3:=((h1.trans h2).trans h3)
 generalize overP (chS (frS s ns (-1)) b fB)=o at hI k3 r3 N3 h3 L3 ov S3 z3 ⊢
 have g3:∀ i,gx o.1.L i=if (0<=b/\b<(n:Int))/\i=b.toNat then fB (gx s.L i) else gx s.L i:=λi=>by rw [L3,gx_ch hln]
 have g3b:gx o.1.L b.toNat=fB (gx s.L b.toNat):=by rw [g3,if_pos ⟨hb.1,rfl⟩]
 have ba3:∀ i,i<n->(gx s.L i).ba=true->(gx o.1.L i).ba=true:=λi hi a=>by
  rw [g3];split
  ·rfl
  ·exact a
 have pg3:PGI T s->PGI T o.1:=λk=>S3.pg k
 have hx3:∀ m j,hdX o.1.X m j=hdX s.X m j:=λm j=>S3.hx m j
 have bad:∀ {t:SD},t.ro=true->GD n s->GD n t:=λhr _ h0=>by rw [hr] at h0;cases h0
 split
 ·rename_i ho
  rcases ov with ⟨k,-⟩ | ⟨k1,k2⟩
  ·exact absurd k ho
  ·rw [if_pos ho] at hI
   exact ⟨⟨hI.i,N3.c⟩,⟨N3.c,ba3,pg3,hx3,bad k2,r3⟩,.inr ⟨k1,k2⟩,λk=>absurd k ho⟩
 rename_i ho
 have ho:o.2=0:=Classical.byContradiction ho
 rw [if_neg (by rw [ho];decide)] at hI
 have hop:=z3.o2
 have E:=N3.emp (T:=T) hn hb.1 (by rw [g3b];exact hb.2.2) (by omega)
 obtain ⟨e1,e2⟩:=N3.i.emp (b:=b) hn hb.1.2 (λ_=>by rw [g3b];exact hb.2.2) (by omega)
 generalize empP o.1 b ns=ee at hI E e1 e2 ⊢
 have baE:∀ i,i<n->(gx s.L i).ba=true->(gx ee.1.L i).ba=true:=λi hi a=>E.ba i hi (ba3 i hi a)
 split
 ·rename_i he
  rw [if_pos he] at hI
  have k:=E.ee.resolve_left he
  exact ⟨⟨hI.i,E.ci⟩,⟨E.ci,baE,λa=>E.pg (pg3 a),λm j=>(E.hx m j).trans (hx3 m j),bad k.2,λk2=>by rw [k.2] at k2;cases k2⟩,.inr k,λk=>absurd k he⟩
 rename_i he
 have he:ee.2=0:=Classical.byContradiction he
 rw [if_neg (by rw [he];decide)] at hI
 have hoe:=e1.o2
 have NE:NI g n ee.1:=⟨e1.i,E.ci⟩
 have hhe:=e2 he hb.1.1
 obtain ⟨d1,d2,d3,d4,d5,d6,d7⟩:=NE.dst hb.1 hhe (by omega)
 obtain ⟨sd,sdx,sdf⟩:=e1.i.dst (b:=b) (λ_=>hhe) (by omega)
 have pgD:PGI T ee.1->PGI T (dstS ee.1 b).1:=λhT=>by
  refine hT.of sdx (by rw [d1.i.pi.gg,NE.i.pi.gg]) (λq hq=>?_) NE.i.xo.four
  have hq2:=(NE.i.l.xb q hq).1
  have hne:q.1≠4+b:=λe=>NE.i.l.none hb.1 (NE.i.l.free (by omega) hhe) (k:=q) e hq
  have eC:(dstS ee.1 b).1.C=(dstP ee.1.C ee.1.L b).1:=by
   have e:dstS ee.1 b=((overP {ee.1 with C:=(dstP ee.1.C ee.1.L b).1,L:=(dstP ee.1.C ee.1.L b).2.1}).1,(dstP ee.1.C ee.1.L b).2.2):=by unfold dstS;rw [if_pos (by rw [e1.i.ln];exact hb.1)]
   rw [e]
   exact (over_f {ee.1 with C:=(dstP ee.1.C ee.1.L b).1,L:=(dstP ee.1.C ee.1.L b).2.1}).1
  unfold pgC13
  rw [eC,dst_blk _ _ _ (by omega)]
 generalize dstS ee.1 b=d at hI d1 d2 d3 d4 d5 d6 d7 sd sdx sdf pgD ⊢
 have hd4:¬ d.2=4:=by omega
 rw [if_neg hd4] at hI ⊢
 have kf:=over_f d.1
 have S5:=d1.overN (T:=T)
 have o5:=over_e d.1
 have r5:=over_ro d.1
 generalize overP d.1=f at hI kf S5 o5 r5 ⊢
 have hr:f.1.ro=false->s.ro=false:=λk=>r3 (by rw [<-E.ro he];exact d7 (r5 k))
 refine ⟨⟨hI.i,S5.ci⟩,⟨S5.ci,λi hi a=>S5.ba i hi (d3.ba i hi (baE i hi a)),λa=>S5.pg (pgD (E.pg (pg3 a))),λm j=>(S5.hx m j).trans (by rw [sdx];exact (E.hx m j).trans (hx3 m j)),λhG k=>?_,hr⟩,?_,λk=>?_⟩
 ·obtain ⟨a,c⟩:=hG (hr k)
  have hba:=a b.toNat (by omega) hb.2.1
  have sub:∀ i,i<n->(gx f.1.L i).he=true->gx f.1.L i=gx ee.1.L i/\i≠b.toNat:=λi hi hh=>by
   rw [kf.2.1] at hh ⊢
   have hne:i≠b.toNat:=λe=>by rw [e,d5] at hh;cases hh
   exact ⟨d4 i hne,hne⟩
  refine ⟨λi hi hh=>?_,λm=>?_⟩
  ·obtain ⟨k1,k2⟩:=sub i hi hh
   cases hq:(gx f.1.L i).ba
   ·rfl
   ·rw [k1] at hh hq
    obtain ⟨v1,v2,v3⟩:=E.hb he i hi hh hq
    rw [g3,if_neg (λk=>v3 k.2)] at v1 v2
    rw [a i hi v1] at v2
    cases v2
  ·rw [cap_eq h.i hI.i hI.sz]
   have l1:=manyT_le (L:=ee.1.L) (L':=f.1.L) (m:=ownB m) (m':=ownB m) n λi hi ho=>by
    rw [<-(sub i hi (own_he ho)).1];exact ho
   have l2:=E.hd he m
   have c2:=c m
   by_cases em:m=ns
   ·have l3:=manyT_lt (L:=o.1.L) (L':=s.L) (m:=ownB m) (b:=b.toNat) n (by omega) (λi hi ho=>by
     rw [g3] at ho
     split at ho
     ·have:=(own_is ho).2.1
      cases this
     ·exact ho) (by rw [g3b];unfold ownB fB;simp) (by unfold ownB;rw [hb.2.1,hba,hb.2.2,em];simp)
    split at l2 <;> omega
   ·have l3:=manyT_le (L:=s.L) (L':=o.1.L) (m:=ownB m) (m':=ownB m) n λi hi ho=>by
     rw [g3] at ho
     split at ho
     ·have:=(own_is ho).2.1
      cases this
     ·exact ho
    rw [if_neg (λk=>em k.1)] at l2
    omega
 ·rcases o5 with ⟨k,-⟩ | k
  ·exact .inl k
  ·exact .inr k
 ·rcases o5 with ⟨-,k2,k3,-⟩ | ⟨k1,-⟩
  ·rw [k2];exact k3
  ·rw [k] at k1;cases k1
def pgW (g:Geo) (hd:Hd) (xs tg:List Int):List Int:=andL (andL (List.replicate (szP g) 255) (mkL g hd xs tg)) (comL g)
theorem mkL_lenA {g:Geo} (hg:0<=g.s) {hd:Hd} {xs tg:List Int} (lx:xs.length=0\/(xs.length:Int)=g.s) (lt:tg.length=0\/tg.length=32):(mkL g hd xs tg).length=g.s.toNat+88:=by
 unfold mkL payL
 rw [List.length_append,endL_length _ lt]
 split
 ·rw [List.length_replicate]
 ·omega
theorem NI.wr1 (h:NI g n s) (hn:0<=ns/\ns<4) (hf:¬ fulP s ns) (hG:GD n s) (h0:s.ro=false) {hd:Hd} {xs tg:List Int} (hr:hd.rng) (hR:HRight hd) (bx:Byt xs) (bt:Byt tg) (lx:xs.length=0\/(xs.length:Int)=g.s) (lt:tg.length=0\/tg.length=32) (hp:s.C.ops+2<=1000000000000) :
  NI g n (wr1 s ns hd xs tg).1/\StN g n T s (wr1 s ns hd xs tg).1/\((wr1 s ns hd xs tg).2=0\/(wr1 s ns hd xs tg).2=5)/\(wr1 s ns hd xs tg).1.ro=s.ro/\((wr1 s ns hd xs tg).2=0->pgC13 (wr1 s ns hd xs tg).1.C (plc s ns).1 (plc s ns).2=pgW g hd xs tg):=by
 obtain ⟨h1,x1,f1,l1⟩:=h.i.wr1 hn hf (hd:=hd) hr bx bt hp
 have hb:=ful_not h.i hn hf
 have hba:=(hG h0).1 _ (by omega) hb.2.1
 have hln:=h.i.ln
 have hgg:=h.i.pi.gg
 have hnum:=h.i.pi.ok.num
 have eu:(gx (chS s (frG s ns) uB).L (frG s ns).toNat).us=(gx s.L (frG s ns).toNat).us+1:=by rw [chS_gx h.i,if_pos ⟨hb.1,rfl⟩];rfl
 have eW:wrtT s.L.length s.C (frG s ns) (gx (chS s (frG s ns) uB).L (frG s ns).toNat).us hd xs tg=prgP s.C (4+frG s ns) ((gx s.L (frG s ns).toNat).us+1) (mkL s.C.g hd xs tg):=by
  unfold wrtT
  rw [if_pos (by rw [hln];exact hb.1),if_pos hR,eu]
 have eC:(Vc.wr1 s ns hd xs tg).1.C=(prgP s.C (4+frG s ns) ((gx s.L (frG s ns).toNat).us+1) (mkL g hd xs tg)).1:=by
  rw [<-hgg,<- eW];rfl
 have eE:(Vc.wr1 s ns hd xs tg).2=(prgP s.C (4+frG s ns) ((gx s.L (frG s ns).toNat).us+1) (mkL g hd xs tg)).2:=by
  rw [<-hgg,<- eW];rfl
 have U:=h.use hb.1 hb.2.1 hba hb.2.2.2 (mkL_byt (g:=g) hr hR bx bt) (by rw [mkL_lenA (by rw [<-hgg];omega) lx lt];unfold szP;rw [hgg] at hnum;omega) hp eC l1
 rw [<-eE] at U
 have hro:(Vc.wr1 s ns hd xs tg).1.ro=s.ro:=rfl
 generalize Vc.wr1 s ns hd xs tg=R at h1 x1 f1 l1 eC eE U hro ⊢
 have gi:∀ i,gx R.1.L i=if (0<=frG s ns/\frG s ns<(n:Int))/\i=(frG s ns).toNat then uB (gx s.L i) else gx s.L i:=λi=>by rw [l1,gx_ch hln]
 refine ⟨⟨h1.i,U.ni⟩,⟨U.ni,λi hi a=>?_,λhT=>?_,λm j=>by rw [x1],λhG2=>hG2.sub (cap_eq h.i h1.i h1.sz) (λk=>by rw [<-hro];exact k) λi hi hh=>?_,λk=>by rw [<-hro];exact k⟩,U.ee,hro,λk=>?_⟩
 ·rw [gi];split
  ·exact a
  ·exact a
 ·refine hT.of x1 (by rw [h1.i.pi.gg,hgg]) (λq hq=>?_) h.i.xo.four
  have hq2:=(h.i.l.xb q hq).1
  have hq3:=(h.i.l.xb q hq).2
  by_cases e:q.1=4+frG s ns
  ·have:=h.i.l.pu q hq
   rw [show (q.1-4).toNat=(frG s ns).toNat by omega] at this
   unfold pgC13
   rw [e]
   exact U.pg _ (by omega)
  ·unfold pgC13
   rw [U.oth q.1 (by omega)]
 ·rw [gi] at hh ⊢
  split at hh
  ·rename_i e
   rw [if_pos e]
   exact ⟨hh,rfl,rfl⟩
  ·rename_i e
   rw [if_neg e]
   exact ⟨hh,rfl,rfl⟩
 ·exact U.ok k
structure WrN (g:Geo) (n:Nat) (T:Hh->List Int) (s t:SD) (at_:Int×Int) (P:List Int) (e:Int):Prop where
 st:StN g n T s t
 ok:e=0->t.ro=false/\pgC13 t.C at_.1 at_.2=P
theorem NI.wr (hn:0<=ns/\ns<4) {hd:Hd} {xs tg:List Int} (hr:hd.rng) (hR:HRight hd) (bx:Byt xs) (bt:Byt tg) (lx:xs.length=0\/(xs.length:Int)=g.s) (lt:tg.length=0\/tg.length=32):∀ (k:Nat) {s:SD},NI g n s->GD n s->s.ro=false->1<=(getX s.X ns).n->s.C.ops+wC k<=1000000000000 ->
  WrN g n T s (wrP ns hd xs tg k s).1 (wrP ns hd xs tg k s).2.1 (pgW g hd xs tg) (wrP ns hd xs tg k s).2.2
 | 0,s,h,_,_,_,_=>⟨.refl h,λe=>by cases e⟩
 | k+1,s,h,hG,h0,hz,ho=>by
  have hwc:=wCs k
  unfold wrP
  dsimp only
  by_cases hf:fulP s ns
  ·rw [if_pos hf]
   obtain ⟨N1,S1,e1,r1⟩:=h.room (T:=T) hn hz (by omega)
   have h1:=h.i.room hn (by omega)
   have o1:=h1.o2
   split
   ·rename_i he
    exact ⟨S1,λe=>absurd e he⟩
   ·rename_i he
    have he:(roomP s ns).2=0:=Classical.byContradiction he
    have R:=NI.wr hn hr hR bx bt lx lt k N1 (S1.gd hG) (by rw [r1 he];exact h0) (by rw [h1.sz];exact hz) (by omega)
    exact ⟨S1.trans R.st,R.ok⟩
  ·rw [if_neg hf]
   obtain ⟨N1,S1,e1,r1,p1⟩:=h.wr1 (T:=T) hn hf hG h0 hr hR bx bt lx lt (by omega)
   obtain ⟨h1,x1,f1,l1⟩:=h.i.wr1 hn hf (hd:=hd) hr bx bt (xs:=xs) (tg:=tg) (by omega)
   have hb:=ful_not h.i hn hf
   have fG:frG (Vc.wr1 s ns hd xs tg).1 ns=frG s ns:=by show (Vc.wr1 s ns hd xs tg).1.fr.getD _ _=_;rw [f1];rfl
   have o1:=h1.o2
   split
   ·rename_i he
    exact ⟨S1,λ_=>⟨r1.trans h0,p1 he⟩⟩
   ·rename_i hne
    split
    ·obtain ⟨N2,S2,e2,r2⟩:=N1.fai (T:=T) hn (by rw [fG];exact hb.1.1) (by omega)
     have a1:=h1.i.fai hn (by rw [fG];exact hb.1.1) (by omega)
     have o2:=a1.o2
     split
     ·rename_i he
      exact ⟨S1.trans S2,λe=>absurd e he⟩
     ·rename_i he
      have he:(faiP (Vc.wr1 s ns hd xs tg).1 ns).2=0:=Classical.byContradiction he
      have R:=NI.wr hn hr hR bx bt lx lt k N2 (S2.gd (S1.gd hG)) (r2 he) (by rw [a1.sz,h1.sz];exact hz) (by omega)
      exact ⟨(S1.trans S2).trans R.st,R.ok⟩
    ·exact ⟨S1,λe=>absurd e hne⟩
end
structure LeL (L L':List Blk):Prop where
 len:L'.length=L.length
 ba:∀ i,(gx L' i).ba=(gx L i).ba
 ow:∀ i,(gx L' i).ow=(gx L i).ow
 he:∀ i,(gx L' i).he=true->(gx L i).he=true
theorem LeL.refl (L:List Blk):LeL L L:=⟨rfl,λ_=>rfl,λ_=>rfl,λ_ h=>h⟩
theorem LeL.trans {L1 L2 L3:List Blk} (h:LeL L1 L2) (k:LeL L2 L3):LeL L1 L3:=⟨k.len.trans h.len,λi=>(k.ba i).trans (h.ba i),λi=>(k.ow i).trans (h.ow i),λi a=>h.he i (k.he i a)⟩
theorem LeL.ch (L:List Blk) (b:Int) {φ:Blk->Blk} (h1:∀ x,(φ x).ba=x.ba) (h2:∀ x,(φ x).ow=x.ow) (h3:∀ x,(φ x).he=true->x.he=true):LeL L (chL b L.length φ L):=by
 refine ⟨chL_len ..,λi=>?_,λi=>?_,λi=>?_⟩ <;> rw [gx_ch rfl] <;> split
 ·exact h1 _
 ·rfl
 ·exact h2 _
 ·rfl
 ·exact h3 _
 ·exact λh=>h
section
variable {g:Geo} {n:Nat} {s t u:SD} {T:Hh->List Int} {b ns e:Int}
theorem ded1_L (s:SD) (k:Int×Int):LeL s.L (ded1 s k).L/\(CI n (-1) s.C s.L->s.L.length=n->CI n (-1) s.C (ded1 s k).L):=by
 have a:=LeL.ch s.L (k.1-4) (φ:=cB (-1)) (λ_=>rfl) (λ_=>rfl) (λ_ h=>h)
 have c:CI n (-1) s.C s.L->s.L.length=n->CI n (-1) s.C (chL (k.1-4) s.L.length (cB (-1)) s.L):=λh hl=>by
  rw [hl];exact h.ch hl _ λ_ _ k=>k.c _
 unfold ded1
 dsimp only
 split
 ·have a2:=LeL.ch (chL (k.1-4) s.L.length (cB (-1)) s.L) (k.1-4) (φ:=rB) (λ_=>rfl) (λ_=>rfl) (λ_ h=>by cases h)
  refine ⟨a.trans a2,λh hl=>?_⟩
  have c1:=c h hl
  have l1:(chL (k.1-4) s.L.length (cB (-1)) s.L).length=n:=by rw [chL_len];exact hl
  show CI n (-1) s.C (chL (k.1-4) (chL (k.1-4) s.L.length (cB (-1)) s.L).length rB _)
  rw [l1]
  exact c1.ch l1 _ λ_ _ k=>k.r
 ·exact ⟨a,c⟩
theorem ded_L:∀ (l:List (Int×Int)) (s:SD),LeL s.L (dedP l s).L/\(CI n (-1) s.C s.L->s.L.length=n->CI n (-1) s.C (dedP l s).L)
 | [],s=>⟨.refl _,λh _=>h⟩
 | k::l,s=>by
  have h1:=ded1_L (n:=n) s k
  have hC:(ded1 s k).C=s.C:=by unfold ded1;dsimp only;split <;> rfl
  have h2:=ded_L l (ded1 s k)
  refine ⟨h1.1.trans h2.1,λh hl=>?_⟩
  have:=h2.2 (by rw [hC];exact h1.2 h hl) (h1.1.len.trans hl)
  rw [hC] at this
  exact this
theorem lnd_L (s:SD) (hd:Hd) (at_:Int×Int):LeL s.L (lndP s hd at_).L/\(CI n (-1) s.C s.L->s.L.length=n->CI n (-1) s.C (lndP s hd at_).L):=by
 have k1:LeL s.L (lnd1 s hd at_).L/\(CI n (-1) s.C s.L->s.L.length=n->CI n (-1) s.C (lnd1 s hd at_).L):=by
  unfold lnd1
  split
  ·refine ⟨LeL.ch s.L (at_.1-4) (φ:=cB 1) (λ_=>rfl) (λ_=>rfl) (λ_ h=>h),λh hl=>?_⟩
   show CI n (-1) s.C (chL (at_.1-4) s.L.length (cB 1) s.L)
   rw [hl];exact h.ch hl _ λ_ _ k=>k.c _
  ·exact ⟨.refl _,λh _=>h⟩
 have k2:=ded_L (n:=n) (gonP s.X (lndX s hd at_)) (lnd1 s hd at_)
 have hC:=(lnd1_f s hd at_).1
 refine ⟨k1.1.trans k2.1,λh hl=>?_⟩
 have:=k2.2 (by rw [hC];exact k1.2 h hl) (k1.1.len.trans hl)
 rw [hC] at this
 exact this
def Fresh (s:SD) (hd:Hd):Prop:=∀ m j h,hdX s.X m j=some h->lesH h hd.hh
def spk (hd:Hd) (m:Int) (j:Nat):Prop:=m=hd.n/\hd.l<=(j:Int)/\(j:Int)<hd.l+hd.c
instance (hd:Hd) (m:Int) (j:Nat):Decidable (spk hd m j):=by unfold spk;infer_instance
instance:DecidableEq Hh:=λa b=>by
 cases a;cases b
 simp only [Hh.mk.injEq]
 infer_instance
def updT (T:Hh->List Int) (hd:Hd) (P:List Int):Hh->List Int:=λh=>if h=hd.hh then P else T h
theorem hdX_fresh {hd:Hd} (hF:Fresh s hd) {m:Int} {j:Nat} {c:Ce} (hj:(getX s.X m).l[j]? = some c) (hc:c.has=true):lesH c.s.h hd.hh:=by
 refine hF m j c.s.h ?_
 unfold hdX
 rw [hj]
 exact if_pos hc
structure PutN (g:Geo) (n:Nat) (T:Hh->List Int) (s t:SD) (hd:Hd) (P:List Int) (e:Int):Prop where
 ni:NI g n t
 gd:GD n s->GD n t
 pg:PGI T s->Fresh s hd->PGI (if e=0 then updT T hd P else T) t
 hx:Fresh s hd->∀ m j,hdX t.X m j=if e=0/\spk hd m j then some hd.hh else hdX s.X m j
 h0:∀ m j h,hdX t.X m j=some h->h=hd.hh\/hdX s.X m j=some h
 ro:t.ro=false->s.ro=false
theorem lesH_irr (a:Hh):¬ lesH a a:=λh=>by unfold lesH at h;omega
theorem NI.put (h:NI g n s) (hG:GD n s) {hd:Hd} {xs tg:List Int} (hr:hd.rng) (hR:mayP s hd->HRight hd) (bx:Byt xs) (bt:Byt tg) (lx:xs.length=0\/(xs.length:Int)=g.s) (lt:tg.length=0\/tg.length=32) (hP:mayP s hd->cpB g (pgW g hd xs tg)=pgW g hd xs tg) (ho:s.C.ops+55051264<=1000000000000) :
  PutN g n T s (putS s hd xs tg).1 hd (pgW g hd xs tg) (putS s hd xs tg).2:=by
 have hI:=h.i.put hr bx bt (xs:=xs) (tg:=tg) ho
 have same:∀ e:Int,e≠0->PutN g n T s s hd (pgW g hd xs tg) e:=λe he=>⟨h,λk=>k,λk _=>by rw [if_neg he];exact k,λ_ m j=>by rw [if_neg (λk=>he k.1)],λm j h k=>.inr k,λk=>k⟩
 unfold putS at hI ⊢
 by_cases hm:mayP s hd
 case neg=>rw [if_pos hm];exact same 2 (by decide)
 rw [if_neg (λk=>k hm)] at hI ⊢
 by_cases hro:s.ro=true
 ·rw [if_pos hro];exact same 15 (by decide)
 rw [if_neg hro] at hI ⊢
 have hro:s.ro=false:=Bool.eq_false_iff.2 hro
 have hn:=may_ns hm
 have hwc:=wC256
 obtain ⟨a1,a2⟩:=SI.wr hn hr bx bt (xs:=xs) (tg:=tg) 256 h.i (by omega)
 have W:=NI.wr (T:=T) (ns:=hd.n) hn hr (hR hm) bx bt lx lt 256 h hG hro (by have:=hm.2.1;have:=hm.2.2.1;omega) (by omega)
 dsimp only at hI ⊢
 by_cases he:(wrP hd.n hd xs tg 256 s).2.2≠0
 ·rw [if_pos he] at hI ⊢
  exact ⟨⟨hI.i,W.st.ci⟩,W.st.gd,λk _=>by rw [if_neg he];exact W.st.pg k,λ_ m j=>by rw [if_neg (λk=>he k.1)];exact W.st.hx m j,λm j h k=>.inr (by rw [<-W.st.hx];exact k),W.st.ro⟩
 rw [if_neg he] at hI ⊢
 have he:(wrP hd.n hd xs tg 256 s).2.2=0:=Classical.byContradiction he
 have hA:=a2 he
 obtain ⟨w1,w2⟩:=W.ok he
 have N1:NI g n (wrP hd.n hd xs tg 256 s).1:=⟨a1.i,W.st.ci⟩
 have hm2:mayP (wrP hd.n hd xs tg 256 s).1 hd:=(may_sz a1.sz).2 hm
 have WS:=W.st
 generalize (wrP hd.n hd xs tg 256 s).2.1=at_ at hI hA w2 ⊢
 generalize (wrP hd.n hd xs tg 256 s).1=r at hI a1 hA w1 w2 N1 hm2 WS ⊢
 obtain ⟨b0,b1,b2,b3,b4,b5,b6,b7,b8⟩:=a1.i.lnd hA hm2 hr hn
 obtain ⟨l1,l2⟩:=lnd_L (n:=n) r hd at_
 have P:PuX r hd at_ (lndX r hd at_):=a1.i.pux hm2 hr hn at_
 dsimp only at hI ⊢
 have NI':NI g n (lndP r hd at_):=⟨b0,by rw [b1];exact l2 N1.c N1.i.ln⟩
 have lo:0<=hd.l:=hr.1.1
 have nc:1<=hd.c:=hm.2.1
 have fr':Fresh s hd->Fresh r hd:=λhF m j h k=>hF m j h (by rw [<-WS.hx];exact k)
 refine ⟨NI',λhG2=>(WS.gd hG2).sub (cap_eq a1.i b0 λns=>by rw [b2];exact P.sz ns) (λk=>by rw [<-b8];exact k) λi hi hh=>⟨l1.he i hh,l1.ba i,l1.ow i⟩,λhT hF=>?_,λhF m j=>?_,λm j h k=>?_,λk=>WS.ro (by rw [<-b8];exact k)⟩
 ·rw [if_pos rfl]
  have hF:=fr' hF
  have hT:=WS.pg hT
  intro m j c hmm hj hc
  rw [b2] at hj
  rw [b1]
  unfold updT
  rcases P.cl m j c hj with e | ⟨-,e⟩
  ·have hl:=hdX_fresh hF e hc
   rw [if_neg (λk=>by rw [k] at hl;exact lesH_irr _ hl)]
   exact hT m j c hmm e hc
  ·subst e
   show pgC13 r.C at_.1 at_.2=(if hd.hh=hd.hh then _ else _)/\cpB r.C.g (if hd.hh=hd.hh then _ else _)=(if hd.hh=hd.hh then _ else _)
   rw [if_pos rfl,a1.i.pi.gg]
   exact ⟨w2,hP hm⟩
 ·have hF:=fr' hF
  have hI:(getX (lndX r hd at_) m).l[j]? = if m=hd.n/\hd.l.toNat<=j/\j<hd.l.toNat+hd.c.toNat then ((getX r.X m).l[j]?).map (putC (sptS r hd at_)) else (getX r.X m).l[j]?:=P.I.cell m j
  rw [<-WS.hx]
  unfold hdX
  rw [b2,hI]
  by_cases hs:spk hd m j
  ·rw [if_pos (show (0:Int)=0/\spk hd m j from ⟨rfl,hs⟩),if_pos (show m=hd.n/\hd.l.toNat<=j/\j<hd.l.toNat+hd.c.toNat from ⟨hs.1,by have:=hs.2;omega,by have:=hs.2;omega⟩)]
   have hsz:j<(getX r.X m).l.length:=by
    have:=hm2.2.2.2
    have:=hs.2
    have hlen:=(a1.i.xo.get m).1
    rw [hs.1] at *
    omega
   rw [List.getElem?_eq_getElem hsz]
   show (if (putC (sptS r hd at_) (getX r.X m).l[j]).has=true then some (putC (sptS r hd at_) (getX r.X m).l[j]).s.h else none)=some hd.hh
   unfold putC
   split
   ·rename_i k
    exfalso
    have:=hdX_fresh hF (List.getElem?_eq_getElem hsz) k.1
    exact k.2 (.inl this)
   ·rfl
  ·rw [if_neg (λk=>hs ⟨k.1,by omega,by omega⟩),if_neg (λk=>hs k.2)]
 ·rw [b2] at k
  unfold hdX at k
  cases hq:(getX (lndX r hd at_) m).l[j]? with
  | none=>rw [hq] at k;cases k
  | some c=>
   rw [hq] at k
   dsimp only at k
   split at k
   ·rename_i hc
    rcases P.cl m j c hq with e | ⟨-,e⟩
    ·refine .inr ?_
     rw [<-WS.hx]
     unfold hdX
     rw [e]
     dsimp only
     rw [if_pos hc]
     exact k
    ·subst e
     exact .inl (Option.some.inj k).symm
   ·cases k
end
theorem bit255v:∀ i:Fin 8,bitB 255 i.val=true:=by decide
theorem and_ffs {n:Nat} {b:List Int} (bb:Byt b) (hl:b.length=n):andL (List.replicate n 255) b=b:=by
 refine cl_of (Byt.replicate (by decide) (by decide) _) bb (by rw [List.length_replicate,hl]) λi hi' _=>?_
 rw [List.length_replicate] at hi'
 unfold hasL
 rw [List.getD_eq_getElem?_getD,List.getElem?_replicate,if_pos (by omega)]
 exact bit255v ⟨i % 8,Nat.mod_lt _ (by decide)⟩
section
variable {g:Geo} {hd:Hd} {xs tg:List Int}
theorem pgW_is (hs:32<=g.s/\g.s<=4096) (hr:hd.rng) (hR:HRight hd) (bx:Byt xs) (bt:Byt tg) (lx:xs.length=0\/(xs.length:Int)=g.s) (lt:tg.length=0\/tg.length=32):pgW g hd xs tg=payL g xs++markL hd tg:=by
 unfold pgW
 rw [and_ffs (mkL_byt hr hR bx bt) (by rw [mkL_lenA (by omega) lx lt];unfold szP;omega)]
 exact and_mk hs lx hR bx bt lt
theorem pgW_cp (hs:32<=g.s/\g.s<=4096) (hr:hd.rng) (hR:HRight hd) (bx:Byt xs) (bt:Byt tg) (lx:xs.length=0\/(xs.length:Int)=g.s) (lt:tg.length=0\/tg.length=32):cpB g (pgW g hd xs tg)=pgW g hd xs tg:=by
 have e:cpyL (pgW g hd xs tg)=mkL g hd xs tg:=by
  rw [pgW_is hs hr hR bx bt lx lt]
  unfold cpyL markL mkL
  rw [<-List.append_assoc,show endL hd tg=core hd tg++List.replicate 8 255 from rfl,<- List.append_assoc]
  congr 1
  have h1:(payL g xs++core hd tg++List.replicate 8 (0:Int)).length-8=(payL g xs++core hd tg).length:=by rw [List.length_append,List.length_replicate];omega
  rw [h1,List.take_left' rfl]
 unfold cpB
 rw [e]
 rfl
end
structure Li25 (g:Geo) (f:SlP TF.T) (z0 z1:Int) (l:List TSt25.T):Prop where
 R:Right g
 F:FRight (fds f)
 b:g.b<=16
 p:g.p<=16
 s:g.s<=128
 n:l.length<=150
 z:fitE g [z0,z1]=0
 st:∀ y∈l,0<=(stOf y).lba/\(stOf y).lba<=100000
section
variable {E:Nat->Prop} {w0 w:World} {Rs:List Asr} {sp pp pm p q n:Nat} {g:Geo} {s:SD}
theorem light25_c {f:SlP TF.T} {z0 z1:Int} {st:SlP TSt25.T} (hf:LF.rd w All f) (hs:LSt25.rd w All st) :
  CallV Tryz.prog 29 #[.agg (casV25 g f z0 z1 ⟨st.a,st.n,st.c⟩).toArray] w [.one .bool] λr w'=>(r.1=true->Li25 g f z0 z1 st.l)/\Ext w w':=by
 apply law25_light.vc
 unfold law25_light.P
 have S:=Sep.start NoB w
 have no:∀ {w':World},Ext w w'->((false=true->Li25 g f z0 z1 st.l)/\Ext w w'):=λe=>⟨λh=>(by cases h),e⟩
 have hl:st.l.length=st.n:=hs.1
 have hlim:st.n<=9223372036854775807:=by have h1:=hs.2.2.1;have h2:maxLen=9223372036854775807:=(by decide);omega
 refine S.newB (vs:=casV25 g f z0 z1 ⟨st.a,st.n,st.c⟩) λb1 w1 S f1 _=>?_
 refine Loop1 (λ(v:Int×Unit) w'=>∃ i:Nat,v.1=(i:Int)/\i<=st.n/\(∀ j y,j<i->st.l[j]? = some y->0<=(stOf y).lba/\(stOf y).lba<=100000)/\Sep NoB w w' [BoxA b1 53 (casV25 g f z0 z1 ⟨st.a,st.n,st.c⟩)]) (λ(v:Int×Unit) _=>((st.n:Int)-v.1).toNat)
  ⟨0,rfl,Nat.zero_le _,λ_ _ hj=>absurd hj (Nat.not_lt_zero _),S⟩ ?_
 clear S
 rintro ⟨(v:Int),⟨⟩⟩ w7 ⟨i,hv,hi,hst,S⟩
 dsimp only at hv
 subst hv
 refine S.ld0 (j:=9) rfl rfl (cond_d (λhlt=>?_) (λhge=>?_))
 ·have hlt:(i:Int)<((st.n:Nat):Int):=hlt
  obtain ⟨qa,y,hq,hy,hc,hr,-,hqb⟩:=Ty.nth hs (i:=(i:Int)) (by omega) hlt (by decide)
  rw [Int.toNat_natCast] at hy
  obtain ⟨(ns:Int),(lba:Int),(ct:Int),(tr:Bool),(sd:Int),⟨⟩⟩:=y
  refine S.ld0 (j:=9) rfl rfl ⟨⟨by omega,hlt⟩,qa,hq,lba,(S.ext.cells hc).get (j:=1) rfl,cond_d (λ_=>no S.ext) (λg1=>?_)⟩
  refine S.ld0 (j:=9) rfl rfl ⟨⟨by omega,hlt⟩,qa,hq,lba,(S.ext.cells hc).get (j:=1) rfl,cond_d (λ_=>no S.ext) (λg2=>?_)⟩
  refine ⟨Rng.i64 (by omega) (by omega),⟨i+1,by push_cast;rfl,by omega,λj y hj e=>?_,S⟩,by omega⟩
  by_cases e2:j=i
  ·subst e2
   rw [hy] at e
   cases e
   exact ⟨by show 0<=lba;omega,by show lba<=100000;omega⟩
  ·exact hst j y (by omega) e
 have hge:¬ ((i:Int)<((st.n:Nat):Int)):=hge
 have hall:∀ y∈st.l,0<=(stOf y).lba/\(stOf y).lba<=100000:=λy hy=>by
  obtain ⟨j,hj,rfl⟩:=List.mem_iff_getElem.1 hy
  exact hst j _ (by omega) (List.getElem?_eq_getElem hj)
 refine S.reg λD hD hkeep S T=>?_
 have hb:=hD _ S.bl0
 refine ⟨hb,S.lb0 (o:=0) rfl ?_⟩
 refine (Right_c (g:=g)).mono ?_
 rintro ⟨(r:Bool),⟨⟩⟩ w4 ⟨h4,x4⟩
 dsimp only at h4 ⊢
 subst h4
 have T:=T.stepE x4
 refine ⟨hkeep _ T.fr,cond_of (λh1=>?_) (λ_=>no (S.ext.trans x4))⟩
 have h1:Right g:=by simpa using h1
 refine ⟨hb,S.ld0 (j:=6) rfl rfl ?_⟩
 refine (rRight12_c (Ty.rd_ext (S.ext.trans x4) _ hf)).mono ?_
 rintro ⟨(r:Bool),⟨⟩⟩ w5 ⟨h5,rfl⟩
 dsimp only at h5 ⊢
 subst h5
 refine ⟨hkeep _ T.fr,cond_of (λh2=>?_) (λ_=>no (S.ext.trans x4))⟩
 have h2:FRight (fds f):=by simpa using h2
 refine ⟨hb,S.ld0 (j:=0) rfl rfl (cond_d (λh3=>?_) (λ_=>no (S.ext.trans x4)))⟩
 refine ⟨hb,S.ld0 (j:=1) rfl rfl (cond_d (λh4=>?_) (λ_=>no (S.ext.trans x4)))⟩
 refine ⟨hb,S.ld0 (j:=2) rfl rfl (cond_d (λh5=>?_) (λ_=>no (S.ext.trans x4)))⟩
 refine ⟨hb,S.ld0 (j:=9) rfl rfl (cond_d (λh6=>?_) (λ_=>no (S.ext.trans x4)))⟩
 refine ⟨hb,S.lb0 (o:=0) rfl ?_⟩
 intro a ha
 rw [if_neg (by decide)] at ha
 subst ha
 have hc:=((S.cells 0 rfl).drop 7).take 2
 have e7:(⟨b1,0,none⟩:Addr).add 7=(⟨b1,7,none⟩:Addr).add (0*1):=by rw [Addr.add_lit,Addr.add_lit]
 rw [e7] at hc
 refine (rFit_c (g:=g) (l:=[z0,z1]) h1 ⟨rfl,Nat.le_refl _,(by show (2:Nat)<=9223372036854775807;decide),.inr ⟨_,rfl,x4.cells hc⟩⟩).mono ?_
 rintro ⟨(r:Int),⟨⟩⟩ w6 ⟨h6',x6⟩
 dsimp only at h6' ⊢
 subst h6'
 have T:=T.stepE x6
 have h6:((st.n:Nat):Int)<=150:=h6
 exact ⟨hkeep _ T.fr,λh7=>⟨h1,h2,h3,h4,h5,by omega,eq_of_beq h7,hall⟩,(S.ext.trans x4).trans x6⟩
theorem cei_up {u m:Int} (hu:0<u):m<=cei m u*u:=by
 unfold cei
 have h:=Int.emod_add_mul_ediv (m+u-1) u
 have h2:=Int.emod_lt_of_pos (m+u-1) hu
 rw [Int.mul_comm]
 omega
theorem fit_small {z0 z1:Int} (hb:g.b<=16) (hp:g.p<=16) (h:fitE g [z0,z1]=0):(1<=z0/\z0<=150)/\(1<=z1/\z1<=150):=by
 obtain ⟨hR,hz,-,hs⟩:=fitE_zero.1 h
 have hk:=hR.1
 unfold Kept at hk
 have a:=hz z0 List.mem_cons_self
 have b:=hz z1 (List.mem_cons_of_mem _ List.mem_cons_self)
 unfold qs qs qs quo at hs
 have c0:=cei_bd (u:=g.p-1) (m:=z0) (by omega) (by omega)
 have c1:=cei_bd (u:=g.p-1) (m:=z1) (by omega) (by omega)
 have d0:=cei_up (u:=g.p-1) (m:=z0) (by omega)
 have d1:=cei_up (u:=g.p-1) (m:=z1) (by omega)
 have e0:cei z0 (g.p-1)*(g.p-1)<=10*15:=Int.mul_le_mul (by omega) (by omega) (by omega) (by omega)
 have e1:cei z1 (g.p-1)*(g.p-1)<=10*15:=Int.mul_le_mul (by omega) (by omega) (by omega) (by omega)
 omega
theorem s00_N {pl:List FD} {X:List (SlP Ce)} {z0 z1:Nat} (hR:Right g) (hg:LG g) (hp:∀ f∈pl,Byt f.2.2.1/\f.2.2.1.length<=140737488351232) (hX:New0 X z0 z1) (hc:∀ f∈pl,f.2.1=false):NI g (nG g) (s00 g pl X)/\GD (nG g) (s00 g pl X):=by
 have e:∀ i,i<nG g->gx (s00 g pl X).L i=Blk.new:=λi hi=>rep_gx (nG g) hi
 refine ⟨⟨s00_I hR hg hp hX,⟨⟨rfl,hc⟩,BIn.new g pl,λi hi _=>?_⟩⟩,λ_=>⟨λi hi k=>?_,λm=>?_⟩⟩
 ·rw [e i hi]
  exact ⟨λk=>(by cases k),λk=>(by cases k),λk=>(by cases k),λk=>(by cases k)⟩
 ·rw [e i hi] at k;cases k
 ·have h0:manyT (s00 g pl X).L (ownB m) (nG g)<=manyT (s00 g pl X).L (λ_=>false) (nG g):=manyT_le (nG g) λj hj k=>by
   rw [e j hj] at k;cases k
  have h1:∀ i,manyT (s00 g pl X).L (λ_=>false) i=0:=λi=>by
   induction i with
   | zero=>rfl
   | succ i ih=>unfold manyT;rw [ih];rfl
  rw [h1] at h0
  refine Int.le_trans h0 ?_
  unfold capS quoS
  split
  ·exact Int.le_refl _
  ·have hk:=hR.1
   unfold Kept at hk
   have hz:=(hX.ok.get m).2
   have:=quo_bd (g:=g) hR (m:=((getX X m).n:Int)) (by rename_i k;have k:¬ (getX X m).n=0:=k;omega)
   show 0<=quo g ((getX X m).n:Int)-1
   omega
theorem NI.do25 {T:Hh->List Int} (h:NI g n s) (hG:GD n s) (x:St25) (hz:∀ ns,(getX s.X ns).n<=255) (ho:s.C.ops+55051264<=1000000000000) :
  PutN g n T (nxtS s (hd25 x)).1 (Vc.do25 g s x).1 (nxtS s (hd25 x)).2 (pgW g (nxtS s (hd25 x)).2 (pl25 g x) []) (Vc.do25 g s x).2:=by
 have hN:NI g n (nxtS s (hd25 x)).1:=⟨(h.i.nxt (hd25 x)).2,h.c⟩
 have hb:Byt (pl25 g x):=by unfold pl25;split;exact Byt.nil;exact payM_byt _ _ _
 have hR:=h.i.pi.R
 have hs:=hR.sec
 have hl:(pl25 g x).length=0\/((pl25 g x).length:Int)=g.s:=by
  unfold pl25
  split
  ·exact .inl rfl
  ·right;rw [payM_len];omega
 have hr:=nxt_rng h.i (hd25_rng x)
 have hm:mayP (nxtS s (hd25 x)).1 (nxtS s (hd25 x)).2->HRight (nxtS s (hd25 x)).2:=λhm=>by
  have h1:=may_ns hm
  have h2:=hm.2.2.1
  have h3:=hz (nxtS s (hd25 x)).2.n
  have h4:=hm.2.1
  have h5:=hm.1
  have h2:(nxtS s (hd25 x)).2.c<=((getX s.X (nxtS s (hd25 x)).2.n).n:Int):=h2
  unfold HRight
  omega
 exact hN.put hG hr hm hb Byt.nil hl (.inl rfl) (λh=>pgW_cp (by omega) hr (hm h) hb Byt.nil hl (.inl rfl)) ho
theorem counted25_c {f:SlP TF.T} {z0 z1:Int} {st:SlV} (h:SI g n s) (hG:GD n s) (hz:∀ ns,(getX s.X ns).n=if ns=0 then z0.toNat else if ns=1 then z1.toNat else 0) (hz0:1<=z0/\z0<=65535) (hz1:1<=z1/\z1<=65535) (S:Sep E w0 w (stS sp pp pm p q g s Rs)) :
  CallV Tryz.prog 41 #[.pointer (some ⟨sp,0,none⟩),.agg (casV25 g f z0 z1 st).toArray] w [.one .bool] λr w'=>r.1=true/\Sep E w0 w' (stS sp pp pm p q g s Rs):=by
 apply law25_counted.vc
 unfold law25_counted.P
 have hln:=h.ln
 have hno:=h.no
 refine S.newB (vs:=casV25 g f z0 z1 st) λb1 w1 S f1 _=>?_
 refine Loop1 (λ(v:Int×Unit) w'=>∃ i:Nat,v.1=(i:Int)/\i<=n/\Sep E w0 w' (BoxA b1 53 (casV25 g f z0 z1 st)::stS sp pp pm p q g s Rs)) (λ(v:Int×Unit) _=>((n:Int)-v.1).toNat) ⟨0,rfl,Nat.zero_le _,S⟩ ?_
 clear S
 rintro ⟨(v:Int),⟨⟩⟩ w4 ⟨i,hv,hi,S⟩
 dsimp only at hv S ⊢
 subst hv
 have S1:Sep E w0 w4 (stS sp pp pm p q g s (BoxA b1 53 (casV25 g f z0 z1 st)::Rs)):=S.fro [1,1,1,1,1] rfl
 refine (Pool25_c S1).mono ?_
 rintro ⟨r,⟨⟩⟩ w5 ⟨h5,rfl⟩
 dsimp only at h5 ⊢
 subst h5
 refine ldg0 S1 ((Len_e (S.fro [4] rfl)).mono ?_)
 rintro ⟨(r:Int),⟨⟩⟩ w6 ⟨h6,rfl⟩
 dsimp only at h6 ⊢
 subst h6
 refine cond_d (λhlt=>?_) (λhge=>?_)
 ·have hml:i<s.L.length:=by omega
  refine (Pool25_c S1).mono ?_
  rintro ⟨r,⟨⟩⟩ w7 ⟨h7,rfl⟩
  dsimp only at h7 ⊢
  subst h7
  refine ldg0 S1 ((At_e (b:=(i:Int)) (S.fro [4] rfl) ⟨by omega,by omega⟩).mono ?_)
  rintro ⟨x,⟨⟩⟩ w8 ⟨h8,x8⟩
  dsimp only at h8 ⊢
  subst h8
  have S:=S.stepE x8
  rw [Int.toNat_natCast]
  refine S.newB λb18 w9 S f9 _=>S.st0 (by rfl) λw10 S f10=>?_
  have S:Sep E w0 w10 (BoxA b18 103 (gx s.L i).vs::BoxA b1 53 (casV25 g f z0 z1 st)::stS sp pp pm p q g s Rs):=S
  refine (Map25_c (S.fro [2,2,2,2,2] rfl)).mono ?_
  rintro ⟨r,⟨⟩⟩ w11 ⟨h11,rfl⟩
  dsimp only at h11 ⊢
  subst h11
  refine ⟨Rng.i64 (by omega) (by omega),?_⟩
  refine (In_m (bl:=4+(i:Int)) h (S.fro [3] rfl)).mono ?_
  rintro ⟨⟨oa,on,oc⟩,⟨⟩⟩ w12 ⟨Os,hO,S⟩
  dsimp only at S ⊢
  have hon:=outS_n S
  have hlen:(gx s.L i).li=((on:Nat):Int):=by
   rw [h.l.li i (by omega),<- hO,List.length_map,hon]
  have hus:=h.l.us i (by omega)
  have fin:Sep E w0 w12 (BoxA b1 53 (casV25 g f z0 z1 st)::stS sp pp pm p q g s Rs):=(S.tail.fro [1] rfl).tail.fro [1,1] rfl
  refine S.ld2 (j:=2) rfl rfl (cond_f (by rw [hlen];simp) ?_)
  refine cond_d (λh0=>?_) (λh0=>?_)
  ·refine S.ld2 (j:=4) rfl rfl (cond_f (by
    have:=h.l.he i (by omega) (by omega)
    show (!(gx s.L i).he)=false
    rw [this];rfl) ?_)
   refine S.ld2 (j:=1) rfl rfl (S.ld3 (j:=1) rfl rfl ⟨Rng.i64 (by omega) (by omega),cond_d (λhc=>?_) (λ_=>?_)⟩)
   ·have hc:(gx s.L i).us>g.p-1:=hc
    omega
   ·exact ⟨Rng.i64 (by omega) (by omega),⟨i+1,by push_cast;rfl,by omega,fin⟩,by omega⟩
  ·refine S.ld2 (j:=1) rfl rfl (S.ld3 (j:=1) rfl rfl ⟨Rng.i64 (by omega) (by omega),cond_d (λhc=>?_) (λ_=>?_)⟩)
   ·have hc:(gx s.L i).us>g.p-1:=hc
    omega
   ·exact ⟨Rng.i64 (by omega) (by omega),⟨i+1,by push_cast;rfl,by omega,fin⟩,by omega⟩
 clear hge S1
 refine Loop1 (λ(v:Int×Unit) w'=>(v.1=0\/v.1=1\/v.1=2)/\Sep E w0 w' (BoxA b1 53 (casV25 g f z0 z1 st)::stS sp pp pm p q g s Rs)) (λ(v:Int×Unit) _=>(2-v.1).toNat) ⟨.inl rfl,S⟩ ?_
 clear S
 rintro ⟨(v:Int),⟨⟩⟩ w20 ⟨hv,S⟩
 dsimp only at hv S ⊢
 refine cond_d (λhlt=>?_) (λhge=>⟨rfl,S.tail⟩)
 have hv:v=0\/v=1:=by omega
 refine S.reg λD hD hkeep S T=>?_
 refine (ReadOnly_c h.fl (S.fro [1,1,1,1,1] rfl)).mono ?_
 rintro ⟨(r:Bool),⟨⟩⟩ w21 ⟨h21,rfl⟩
 dsimp only at h21 ⊢
 subst h21
 have nx:∀ {w':World},Sep E w0 w' (BoxA b1 53 (casV25 g f z0 z1 st)::stS sp pp pm p q g s Rs)->Rng .i64 (v+1)/\(((v+1,()):Int×Unit).1=0\/((v+1,()):Int×Unit).1=1\/((v+1,()):Int×Unit).1=2)/\Sep E w0 w' (BoxA b1 53 (casV25 g f z0 z1 st)::stS sp pp pm p q g s Rs):=λS=>⟨Rng.i64 (by omega) (by omega),by omega,S⟩
 refine ⟨hkeep _ T.fr,cond_of (λhro=>?_) (λhro=>⟨(nx S).1,(nx S).2,by omega⟩)⟩
 have hro:s.ro=false:=by simpa using hro
 have hcap:=(hG hro).2 v
 have cont:∀ z:Int,1<=z/\z<=65535->(getX s.X v).n=z.toNat ->
   CallV Tryz.prog 26 #[.pointer (some ⟨sp,0,none⟩)] w20.drew [.one .ptr] λ(r39:(Option Addr)×Unit) w40=>KeepOn D w20.drew w40 /\
   CallV Tryz.prog 27 #[.pointer r39.1] w40 [.one .ptr] λ(r41:(Option Addr)×Unit) w42=>KeepOn D w20.drew w42 /\
   CallV Tryz.prog 28 #[.pointer r41.1,.int .i64 v] w42 [.one (.int .i64)] λ(r43:Int×Unit) w44=>KeepOn D w20.drew w44 /\
   CallV Tryz.prog 38 #[g.val,.int .i64 z] w44 [.one (.int .i64)] λ(r45:Int×Unit) w46=>KeepOn D w20.drew w46/\Rng .i64 (r45.1-1) /\
   (r43.1<=r45.1-1/\Sep E w0 w46 (BoxA b1 53 (casV25 g f z0 z1 st)::stS sp pp pm p q g s Rs)):=λz hzz hzn=>by
  have S1:Sep E w0 w20.drew (stS sp pp pm p q g s (BoxA b1 53 (casV25 g f z0 z1 st)::Rs)):=S.fro [1,1,1,1,1] rfl
  refine (Pool25_c S1).mono ?_
  rintro ⟨r,⟨⟩⟩ w22 ⟨h22,rfl⟩
  dsimp only at h22 ⊢
  subst h22
  refine ⟨hkeep _ T.fr,ldg0 S1 ⟨hkeep _ T.fr,(Held_e (ns:=v) h.len6 (S1.fro [3] rfl)).mono ?_⟩⟩
  rintro ⟨(r:Int),⟨⟩⟩ w24 ⟨h24,x24⟩
  dsimp only at h24 ⊢
  subst h24
  have T:=T.stepE x24
  refine ⟨hkeep _ T.fr,?_⟩
  have hR:=h.pi.R
  have hk:=hR.1
  unfold Kept at hk
  have hcb:=cei_bd (u:=g.p-1) (m:=z) (by omega) (by omega)
  refine (rQuota_c (g:=g) (m:=z) (by omega) hzz).mono ?_
  rintro ⟨(r2:Int),⟨⟩⟩ w26 ⟨h26,x26⟩
  dsimp only at h26 ⊢
  subst h26
  have T:=T.stepE x26
  refine ⟨hkeep _ T.fr,Rng.i64 (by omega) (by omega),?_,(S.stepE x24).stepE x26⟩
  rw [hln]
  unfold capS quoS at hcap
  rw [if_neg (by omega),h.pi.gg,hzn,show ((z.toNat:Nat):Int)=z by omega] at hcap
  exact hcap
 have hb:=hD _ S.bl0
 rcases hv with e | e
 ·subst e
  have ea:=(add7 b1).1
  refine ⟨hb,S.lb0 (o:=0) rfl ⟨⟨by decide,by decide⟩,by rw [ea];exact hb,?_⟩⟩
  rw [ea]
  refine S.ld0 (j:=7) rfl rfl ((cont z0 hz0 (by rw [hz];rfl)).mono λr39 w40 ⟨k1,h41⟩=>⟨k1,h41.mono λr41 w42 ⟨k2,h43⟩=>⟨k2,h43.mono λr43 w44 ⟨k3,h45⟩=>⟨k3,h45.mono λr45 w46 ⟨k4,hr,hle,S⟩=>⟨k4,hr,cond_f (decide_eq_false (by omega)) ?_⟩⟩⟩⟩)
  exact ⟨(nx S).1,(nx S).2,by omega⟩
 ·subst e
  have ea:=(add7 b1).2
  refine ⟨hb,S.lb0 (o:=0) rfl ⟨⟨by decide,by decide⟩,by rw [ea];exact hb,?_⟩⟩
  rw [ea]
  refine S.ld0 (j:=8) rfl rfl ((cont z1 hz1 (by rw [hz];rfl)).mono λr39 w40 ⟨k1,h41⟩=>⟨k1,h41.mono λr41 w42 ⟨k2,h43⟩=>⟨k2,h43.mono λr43 w44 ⟨k3,h45⟩=>⟨k3,h45.mono λr45 w46 ⟨k4,hr,hle,S⟩=>⟨k4,hr,cond_f (decide_eq_false (by omega)) ?_⟩⟩⟩⟩)
  exact ⟨(nx S).1,(nx S).2,by omega⟩
end
def opC25 (i:Nat):Nat:=55051264*i
theorem opC25s (i:Nat):opC25 (i+1)=opC25 i+55051264:=Nat.mul_succ _ _
theorem opC25_le {i:Nat} (h:i<=150):opC25 i<=8257689600:=Nat.mul_le_mul (Nat.le_refl 55051264) h
abbrev TCs25:Ty:=.cons TGeo (.cons LF (.cons (.cons (.int .i64) (.cons (.int .i64) .nil)) (.cons LSt25 .nil)))
end Go.Proofs.YtbaojfchlhlaeaaGreat.Vc
namespace Go.Proofs.YtbaojfchlhlaeaaGreat.Vc
open Go Go.Eng
def law25_found.A:Ann:=.two .no (.two .no (.two .no (.two .no (.two (.two (.draw (.take 0 (.take 1 (.take 2 (.take 3 (.take 4 (.take 5 (.take 6 (.take 7 (.take 8 (.take 9 (.take 10 (.take 11 (.done)))))))))))))) .no) (.two .no (.two .no (.two .no (.two (.draw (.take 0 (.take 1 (.take 2 (.take 3 (.take 4 (.take 5 (.take 6 (.take 7 (.take 8 (.take 9 (.take 10 (.take 11 (.take 12 (.take 13 (.take 14 (.take 15 (.take 16 (.take 17 (.take 18 (.take 19 (.take 20 (.take 21 (.take 22 (.take 23 (.take 24 (.take 25 (.take 26 (.take 27 (.take 28 (.take 29 (.take 30 (.take 31 (.eff 32 (.take 33 (.take 34 (.take 35 (.done)))))))))))))))))))))))))))))))))))))) .no))))))))
def law25_found.P (p0 p1:Addr) (p2_0 p2_1 p2_2 p2_3 p2_4 p2_5:Int) (a3:Option Addr) (n3 c3:Nat) (p4 p5:Int) (w:World) (K:Bool×Unit->World->Prop):Prop:=
 NewV #[.int .i64 p2_0,.int .i64 p2_1,.int .i64 p2_2,.int .i64 p2_3,.int .i64 p2_4,.int .i64 p2_5] 23 w λb1 w2=>
 CallV Tryz.prog 108 #[.slice a3 n3 c3,.int .i64 p4,.int .i64 p5] w2 [.one (.int .i64)] λ(r3:Int×Unit) w4=>
 CallV Tryz.prog 24 #[.pointer (some p0)] w4 [.one .ptr] λ(r5:(Option Addr)×Unit) w6=>
 CallV Tryz.prog 39 #[.pointer r5.1,.int .i64 p4,.int .i64 p5] w6 [.agg [.int .i64,.int .i64,.int .i64,.int .i64,.int .i64,.int .u32,.int .u64,.int .u64,.int .i64,.int .i64,.int .i64,.int .u32,.int .u64,.int .u64],.one .bool] λ(r7:(Int×Int×Int×Int×Int×Int×Int×Int×Int×Int×Int×Int×Int×Int×Unit)×Bool×Unit) w8=>
 NewV #[.int .i64 0,.int .i64 0,.int .i64 0,.int .i64 0,.int .i64 0,.int .u32 0,.int .u64 0,.int .u64 0,.int .i64 0,.int .i64 0,.int .i64 0,.int .u32 0,.int .u64 0,.int .u64 0] 83 w8 λb9 w10=>
 StoreV w10 ⟨b9,0,none⟩ [.int .i64 r7.1.1,.int .i64 r7.1.2.1,.int .i64 r7.1.2.2.1,.int .i64 r7.1.2.2.2.1,.int .i64 r7.1.2.2.2.2.1,.int .u32 r7.1.2.2.2.2.2.1,.int .u64 r7.1.2.2.2.2.2.2.1,.int .u64 r7.1.2.2.2.2.2.2.2.1,.int .i64 r7.1.2.2.2.2.2.2.2.2.1,.int .i64 r7.1.2.2.2.2.2.2.2.2.2.1,.int .i64 r7.1.2.2.2.2.2.2.2.2.2.2.1,.int .u32 r7.1.2.2.2.2.2.2.2.2.2.2.2.1,.int .u64 r7.1.2.2.2.2.2.2.2.2.2.2.2.2.1,.int .u64 r7.1.2.2.2.2.2.2.2.2.2.2.2.2.2.1] λw11=>
 cond (decide (r3.1<0))
 (K (!r7.2.1,()) w11)
 (DrawV λD12=>
 cond (!r7.2.1)
 (K (false,()) w11.drew)
 ((D12 b9/\LoadA w11.drew ⟨b9,2,none⟩ [.int .i64,.int .i64,.int .i64,.int .u32,.int .u64,.int .u64] λ(x13:Int×Int×Int×Int×Int×Int×Unit)=>
 (0<=r3.1/\r3.1<((n3:Nat):Int))/\∃ q14:Addr,a3=some q14 /\
 (D12 (q14.add (r3.1.toNat*8)).block/\LoadA w11.drew (q14.add (r3.1.toNat*8)) [.int .i64,.int .i64,.int .i64,.int .u32,.int .u64,.int .u64] λ(x15:Int×Int×Int×Int×Int×Int×Unit)=>
 AggEq Tryz.prog 62 #[.int .i64 x13.1,.int .i64 x13.2.1,.int .i64 x13.2.2.1,.int .u32 x13.2.2.2.1,.int .u64 x13.2.2.2.2.1,.int .u64 x13.2.2.2.2.2.1] #[.int .i64 x15.1,.int .i64 x15.2.1,.int .i64 x15.2.2.1,.int .u32 x15.2.2.2.1,.int .u64 x15.2.2.2.2.1,.int .u64 x15.2.2.2.2.2.1] λe16=>
 cond (!e16)
 (K (false,()) w11.drew)
 (LoadA w11.drew ⟨b9,0,none⟩ [.int .i64,.int .i64] λ(x17:Int×Int×Unit)=>
 CallV Tryz.prog 130 #[.pointer (some p1),.agg #[.int .i64 x17.1,.int .i64 x17.2.1]] w11.drew [.one .sl,.one (.int .i64)] λ(r18:SlV×Int×Unit) w19=>
 cond (r18.2.1 != 0)
 (K (false,()) w19)
 (LoadS w19 ⟨b1,2,none⟩ (.int .i64) λ(x20:Int)=>
 Rng .i64 (x20+88) /\
 cond (((r18.1.n:Nat):Int) != (x20+88))
 (K (false,()) w19)
 (LoadA w19 ⟨b1,0,none⟩ [.int .i64,.int .i64,.int .i64,.int .i64,.int .i64,.int .i64] λ(x21:Int×Int×Int×Int×Int×Int×Unit)=>
 CallV Tryz.prog 131 #[.agg #[.int .i64 x21.1,.int .i64 x21.2.1,.int .i64 x21.2.2.1,.int .i64 x21.2.2.2.1,.int .i64 x21.2.2.2.2.1,.int .i64 x21.2.2.2.2.2.1],.slice r18.1.a r18.1.n r18.1.c] w19 [.agg [.int .i64,.int .i64,.int .i64,.int .u32,.int .u64,.int .u64,.sl,.sl,.bool,.bool]] λ(r22:(Int×Int×Int×Int×Int×Int×SlV×SlV×Bool×Bool×Unit)×Unit) w23=>
 NewV #[.int .i64 0,.int .i64 0,.int .i64 0,.int .u32 0,.int .u64 0,.int .u64 0,.slice none 0 0,.slice none 0 0,.bool false,.bool false] 207 w23 λb24 w25=>
 StoreV w25 ⟨b24,0,none⟩ [.int .i64 r22.1.1,.int .i64 r22.1.2.1,.int .i64 r22.1.2.2.1,.int .u32 r22.1.2.2.2.1,.int .u64 r22.1.2.2.2.2.1,.int .u64 r22.1.2.2.2.2.2.1,.slice r22.1.2.2.2.2.2.2.1.a r22.1.2.2.2.2.2.2.1.n r22.1.2.2.2.2.2.2.1.c,.slice r22.1.2.2.2.2.2.2.2.1.a r22.1.2.2.2.2.2.2.2.1.n r22.1.2.2.2.2.2.2.2.1.c,.bool r22.1.2.2.2.2.2.2.2.2.1,.bool r22.1.2.2.2.2.2.2.2.2.2.1] λw26=>
 DrawV λD27=>
 (D27 b24/\LoadS w26.drew ⟨b24,9,none⟩ .bool λ(x28:Bool)=>
 cond x28
 ((D27 b24/\LoadS w26.drew ⟨b24,8,none⟩ .bool λ(x29:Bool)=>
 cond x29
 ((D27 b24/\LoadA w26.drew ⟨b24,0,none⟩ [.int .i64,.int .i64,.int .i64,.int .u32,.int .u64,.int .u64] λ(x30:Int×Int×Int×Int×Int×Int×Unit)=>
 (0<=r3.1/\r3.1<((n3:Nat):Int))/\∃ q31:Addr,a3=some q31 /\
 (D27 (q31.add (r3.1.toNat*8)).block/\LoadA w26.drew (q31.add (r3.1.toNat*8)) [.int .i64,.int .i64,.int .i64,.int .u32,.int .u64,.int .u64] λ(x32:Int×Int×Int×Int×Int×Int×Unit)=>
 AggEq Tryz.prog 62 #[.int .i64 x30.1,.int .i64 x30.2.1,.int .i64 x30.2.2.1,.int .u32 x30.2.2.2.1,.int .u64 x30.2.2.2.2.1,.int .u64 x30.2.2.2.2.2.1] #[.int .i64 x32.1,.int .i64 x32.2.1,.int .i64 x32.2.2.1,.int .u32 x32.2.2.2.1,.int .u64 x32.2.2.2.2.1,.int .u64 x32.2.2.2.2.2.1] λe33=>
 cond e33
 ((0<=r3.1/\r3.1<((n3:Nat):Int))/\∃ q34:Addr,a3=some q34 /\
 (D27 ((q34.add (r3.1.toNat*8)).add 6).block/\LoadS w26.drew ((q34.add (r3.1.toNat*8)).add 6) .sl λ(x35:SlV)=>
 cond (((x35.n:Nat):Int) == 0)
 (K (true,()) w26.drew)
 ((D27 b24/\LoadS w26.drew ⟨b24,6,none⟩ .sl λ(x36:SlV)=>
 (0<=r3.1/\r3.1<((n3:Nat):Int))/\∃ q37:Addr,a3=some q37 /\
 (D27 ((q37.add (r3.1.toNat*8)).add 6).block/\LoadS w26.drew ((q37.add (r3.1.toNat*8)).add 6) .sl λ(x38:SlV)=>
 CallV Tryz.prog 70 #[.slice x36.a x36.n x36.c,.slice x38.a x38.n x38.c] w26.drew [.one .bool] λ(r39:Bool×Unit) w40=>
 KeepOn D27 w26.drew w40 /\
 K (r39.1,()) w40)))))
 (K (false,()) w26.drew))))
 (K (false,()) w26.drew)))
 (K (false,()) w26.drew)))))))))
theorem law25_found.vc (p0 p1:Addr) (p2_0 p2_1 p2_2 p2_3 p2_4 p2_5:Int) (a3:Option Addr) (n3 c3:Nat) (p4 p5:Int) (w:World) (K:Bool×Unit->World->Prop) (h:law25_found.P p0 p1 p2_0 p2_1 p2_2 p2_3 p2_4 p2_5 a3 n3 c3 p4 p5 w K):CallV Tryz.prog 55 #[.pointer (some p0),.pointer (some p1),.agg #[.int .i64 p2_0,.int .i64 p2_1,.int .i64 p2_2,.int .i64 p2_3,.int .i64 p2_4,.int .i64 p2_5],.slice a3 n3 c3,.int .i64 p4,.int .i64 p5] w [.one .bool] K:=by
 refine vcFun.of (A:=law25_found.A) (wr:=false) okf_ok follows h Tryz.func55 ?_
 kernel_rfl
def ref25_Last.A:Ann:=.two .no (.two .no (.two (.two .no (.one (.loop [7,8,9,10,11,12,13,14,15,16,17,18,19,20,21,22,23,24,25,26,27,28,29,30] [(7,.one (.int .i64)),(8,.one (.int .i64))] .no))) .no))
def ref25_Last.P (a0:Option Addr) (n0 c0:Nat) (p1 p2:Int) (w:World) (K:Int×Unit->World->Prop):Prop:=
 LoopV [.one (.int .i64),.one (.int .i64)] (((-1):Int),(0:Int),()) w λ(z1:Int×Int×Unit) w2 (K3:Int×Int×Unit->World->Prop)=>
 cond (decide (z1.2.1<((n0:Nat):Int)))
 ((0<=z1.2.1/\z1.2.1<((n0:Nat):Int))/\∃ q4:Addr,a0=some q4 /\
 LoadS w2 ((q4.add (z1.2.1.toNat*8)).add 7) .bool λ(x5:Bool)=>
 cond x5
 ((0<=z1.2.1/\z1.2.1<((n0:Nat):Int))/\∃ q6:Addr,a0=some q6 /\
 LoadA w2 (q6.add (z1.2.1.toNat*8)) [.int .i64,.int .i64,.int .i64,.int .u32,.int .u64,.int .u64] λ(x7:Int×Int×Int×Int×Int×Int×Unit)=>
 CallV Tryz.prog 109 #[.agg #[.int .i64 x7.1,.int .i64 x7.2.1,.int .i64 x7.2.2.1,.int .u32 x7.2.2.2.1,.int .u64 x7.2.2.2.2.1,.int .u64 x7.2.2.2.2.2.1],.int .i64 p1,.int .i64 p2] w2 [.one .bool] λ(r8:Bool×Unit) w9=>
 cond r8.1
 (Rng .i64 (z1.2.1+1) /\
 K3 (z1.2.1,z1.2.1+1,()) w9)
 (Rng .i64 (z1.2.1+1) /\
 K3 (z1.1,z1.2.1+1,()) w9))
 (Rng .i64 (z1.2.1+1) /\
 K3 (z1.1,z1.2.1+1,()) w2))
 (K (z1.1,()) w2)
theorem ref25_Last.vc (a0:Option Addr) (n0 c0:Nat) (p1 p2:Int) (w:World) (K:Int×Unit->World->Prop) (h:ref25_Last.P a0 n0 c0 p1 p2 w K):CallV Tryz.prog 108 #[.slice a0 n0 c0,.int .i64 p1,.int .i64 p2] w [.one (.int .i64)] K:=by
 refine vcFun.of (A:=ref25_Last.A) (wr:=false) okf_ok follows h Tryz.func108 ?_
 kernel_rfl
def ref25_Speaks.A:Ann:=.no
def ref25_Speaks.P (p0_0 p0_1 p0_2 p0_3 p0_4 p0_5 p1 p2:Int) (w:World) (K:Bool×Unit->World->Prop):Prop:=
 NewV #[.int .i64 p0_0,.int .i64 p0_1,.int .i64 p0_2,.int .u32 p0_3,.int .u64 p0_4,.int .u64 p0_5] 62 w λb1 w2=>
 LoadS w2 ⟨b1,1,none⟩ (.int .i64) λ(x3:Int)=>
 cond (x3 == p1)
 (LoadS w2 ⟨b1,3,none⟩ (.int .u32) λ(x4:Int)=>
 cond (decide (p2≥(IntKind.i64.wrap x4)))
 (LoadS w2 ⟨b1,3,none⟩ (.int .u32) λ(x5:Int)=>
 LoadS w2 ⟨b1,2,none⟩ (.int .i64) λ(x6:Int)=>
 Rng .i64 ((IntKind.i64.wrap x5)+x6) /\
 K (decide (p2<((IntKind.i64.wrap x5)+x6)),()) w2)
 (K (false,()) w2))
 (K (false,()) w2)
theorem ref25_Speaks.vc (p0_0 p0_1 p0_2 p0_3 p0_4 p0_5 p1 p2:Int) (w:World) (K:Bool×Unit->World->Prop) (h:ref25_Speaks.P p0_0 p0_1 p0_2 p0_3 p0_4 p0_5 p1 p2 w K):CallV Tryz.prog 109 #[.agg #[.int .i64 p0_0,.int .i64 p0_1,.int .i64 p0_2,.int .u32 p0_3,.int .u64 p0_4,.int .u64 p0_5],.int .i64 p1,.int .i64 p2] w [.one .bool] K:=by
 refine vcFun.of (A:=ref25_Speaks.A) (wr:=false) okf_ok follows h Tryz.func109 ?_
 kernel_rfl
end Go.Proofs.YtbaojfchlhlaeaaGreat.Vc
namespace Go.Proofs.YtbaojfchlhlaeaaGreat.Vc
open Go Go.Eng Go.RowKit
section
variable {g:Geo} {n:Nat} {s t:SD} {b ns e u:Int} {C:CD} {L:List Blk} {O:List Hd}
theorem code0 (h:C.pl=[]):codeC C=(0,[],false):=by
 unfold codeC atF
 rw [h]
 rfl
theorem ref5 (C:CD) (bl pa:Int) (m:Nat):refC C bl pa m≠5:=by
 unfold refC
 split
 ·decide
 ·split
  ·decide
  ·split
   ·decide
   ·split <;> decide
theorem prog0 (h:C.pl=[]) (bl pa:Int) (xs:List Int):(progC C bl pa xs).2≠5/\(progC C bl pa xs).1.pl=[]:=by
 unfold progC
 split
 ·exact ⟨by rw [code0 h];show (0:Int)≠5;decide,h⟩
 ·exact ⟨ref5 _ _ _ _,h⟩
theorem era0 (h:NF C) (hz:C.pl=[]) {m:Int} (hm:0<=m/\m<C.g.b):(eraC C m).2=0/\(eraC C m).1.pl=[]:=by
 have e:eraC C m=(eraX C m,(codeC C).1):=if_pos (may_nc h hm)
 rw [e,code0 hz]
 exact ⟨rfl,hz⟩
theorem fst0 (h:C.pl=[]) (b:Int) (hd:Hd) (sl:Bool):(fstP C b hd sl).2≠5/\(fstP C b hd sl).1.pl=[]:=by
 unfold fstP selP
 split
 ·exact prog0 (prog0 h _ _ _).2 _ _ _
 ·exact prog0 h _ _ _
theorem prg0 (h:C.pl=[]) (bl pa:Int) (xs:List Int):(prgP C bl pa xs).2≠5/\(prgP C bl pa xs).1.pl=[]:=by
 unfold prgP
 split
 ·exact prog0 (prog0 h _ _ _).2 _ _ _
 ·exact prog0 h _ _ _
theorem dst_zf (h:CI n u C L) (hp:PI g n C L O) (hb:0<=b/\b<(n:Int)) (hz:C.pl=[]):(dstP C L b).2.2=0/\(dstP C L b).2.1=chL b n eB L/\(dstP C L b).1.pl=[]:=by
 have hnn:=hp.nn
 obtain ⟨e0,e1⟩:=era0 h.nf hz (m:=4+b) ⟨by omega,by rw [hp.gg];omega⟩
 unfold dstP
 rw [if_neg (by rw [e0];decide),if_pos e0,hp.ll]
 exact ⟨e0,rfl,e1⟩
theorem beg0 (h:C.pl=[]) (L:List Blk) (O:List Hd) (b ns:Int) (o:Hd) (sl:Bool):(begP C L O b ns o sl).2.2.2≠5/\(begP C L O b ns o sl).1.pl=[]:=by
 unfold begP
 split
 ·exact ⟨by show (0:Int)≠5;decide,(fst0 h _ _ _).2⟩
 ·exact ⟨(fst0 h _ _ _).1,(fst0 h _ _ _).2⟩
theorem opn_zf {o:Hd} (hn:0<=ns/\ns<4) (hr:o.rng) (sl:Bool) (k:Nat) (hp:PI g n C L O) (h:CI n (-1) C L) (ho:C.ops+6<=1000000000000) (hz:C.pl=[]) (hk:0<=pickT L n) :
  (opnP ns o sl (k+1) C L O).2.2=0/\(opnP ns o sl (k+1) C L O).2.1=pickT L n/\(opnP ns o sl (k+1) C L O).1.2.1=chL (pickT L n) n (hB ns) (if (gx L (pickT L n).toNat).cl=true then L else chL (pickT L n) n eB L)/\(opnP ns o sl (k+1) C L O).1.1.pl=[]:=by
 have hll:=hp.ll
 unfold opnP
 rw [<-hll] at hk
 obtain ⟨hf,hfb⟩:=pick_free hk
 have hbd:0<=pickT L L.length/\pickT L L.length<(n:Int):=⟨hk,by have:=(bestT_bd (L:=L) (m:=λ_ x=>freeB x) (ah:=λx y=>decide (x.er<y.er)) L.length).2;rw [<-hll];exact this⟩
 rw [if_neg (by omega)]
 rw [hll] at hk hf hfb hbd ⊢
 generalize pickT L n=b at hk hf hfb hbd ⊢
 have hX:∃ C1 L1,(if (gx L b.toNat).cl=true then (C,L,(0:Int)) else dstP C L b)=(C1,L1,0)/\PI g n C1 L1 O/\CI n (-1) C1 L1/\C1.ops<=C.ops+2/\C1.pl=[]/\L1=(if (gx L b.toNat).cl=true then L else chL b n eB L)/\(gx L1 b.toNat).cl=true/\(gx L1 b.toNat).ba=false:=by
  by_cases hc:(gx L b.toNat).cl=true
  ·rw [if_pos hc,if_pos hc]
   exact ⟨C,L,rfl,hp,h,by omega,hz,rfl,hc,hfb⟩
  ·rw [if_neg hc,if_neg hc]
   obtain ⟨q1,q2,q3⟩:=hp.dst b (by omega)
   obtain ⟨d1,-⟩:=h.dst hp (by omega) hbd (.inl rfl) hf
   obtain ⟨z1,z2,z3⟩:=dst_zf h hp hbd hz
   refine ⟨(dstP C L b).1,(dstP C L b).2.1,by rw [<-z1],q1,d1,q2,z3,z2,?_,?_⟩
   ·rw [z2,gx_eq hll hbd];rfl
   ·rw [z2,gx_eq hll hbd];exact hfb
 obtain ⟨C1,L1,hq,p1,c1,o1,z1,e1,bc,bb⟩:=hX
 rw [hq,<- e1]
 dsimp only
 rw [if_pos rfl]
 obtain ⟨y1,y2⟩:=beg0 z1 L1 O b ns o sl
 rcases beg_nc (ns:=ns) (o:=o) c1 p1 (by omega) hbd hn hr sl bc bb with ⟨x1,x2,x3,x4⟩ | ⟨x1,x2,x3⟩
 ·rw [if_pos x1]
  exact ⟨rfl,rfl,x3,y2⟩
 ·exact absurd x1 y1
structure ZI (n:Nat) (s:SD):Prop where
 pl:s.C.pl=[]
 ro:s.ro=false
 nb:∀ i,i<n->(gx s.L i).ba=false
theorem ZI.bads (h:ZI n s) (hl:s.L.length=n):bads s.L=0:=by
 have h1:∀ i,i<=n->manyT s.L (λx=>x.ba) i=0:=λi=>by
  induction i with
  | zero=>exact λ_=>rfl
  | succ i ih=>
   intro hi
   unfold manyT
   rw [h.nb i (by omega),ih (by omega)]
   rfl
 show manyT s.L (λx=>x.ba) s.L.length=0
 rw [hl]
 exact h1 n (Nat.le_refl n)
theorem ZI.over (h:ZI n s) (hl:s.L.length=n) (hg:0<=s.C.g.sp):overP s=(s,0):=by
 unfold overP
 rw [if_neg (by rw [h.bads hl];omega),h.ro]
 rfl
theorem ZI.left (h:ZI n s) (hl:s.L.length=n) (hg:0<=s.C.g.sp):leftP s 0=(s,0):=by
 have e1:leftP s 0=if (overP s).2≠0 then overP s else ((overP s).1,0):=rfl
 rw [e1,h.over hl hg]
 rfl
theorem sp0 (h:PI g n C L O):0<=C.g.sp:=by
 have:=h.ok.g.1
 unfold Kept at this
 omega
def RM (n:Nat) (s:SD):Prop:=capS s 0+capS s 1+capS s 2+capS s 3+1<=(n:Int)
theorem RM.of (h:RM n s) (hi:SI g n s) (ht:SI g n t) (hz:∀ ns,(getX t.X ns).n=(getX s.X ns).n):RM n t:=by
 unfold RM at h ⊢
 have:=cap_eq hi ht hz
 rw [this,this,this,this]
 exact h
theorem own_dec {x:Blk} (m:Int) (h1:x.he=true) (h2:x.ba=false):ownB m x=decide (x.ow=m):=by
 unfold ownB
 rw [h1,h2]
 by_cases e:x.ow=m
 ·rw [decide_eq_true e];simp [e]
 ·rw [decide_eq_false e];simp [e]
theorem own_all {L:List Blk}:∀ i,(∀ j,j<i->(gx L j).he=true/\(gx L j).ba=false/\0<=(gx L j).ow/\(gx L j).ow<4)->(i:Int)<=manyT L (ownB 0) i+manyT L (ownB 1) i+manyT L (ownB 2) i+manyT L (ownB 3) i
 | 0,_=>by show (0:Int)<=0+0+0+0;decide
 | i+1,h=>by
  have ih:=own_all i λj hj=>h j (by omega)
  obtain ⟨h1,h2,h3,h4⟩:=h i (Nat.lt_succ_self i)
  have ex:=λm=>own_dec m h1 h2
  unfold manyT
  rw [ex,ex,ex,ex]
  push_cast
  generalize gx L i=x at h3 h4 ⊢
  have hc:x.ow=0\/x.ow=1\/x.ow=2\/x.ow=3:=by omega
  rcases hc with e | e | e | e <;> rw [e] <;> simp <;> omega
theorem pick_zf (h:NI g n s) (hz:ZI n s) (hG:GD n s) (hR:RM n s):0<=pickT s.L n:=by
 rcases bestT_least (L:=s.L) (m:=λ_ x=>freeB x) (key:=λx=>x.er) (ah:=λx y=>decide (x.er<y.er)) (λ_ _=>rfl) n with ⟨-,k⟩ | ⟨a,k,-⟩
 ·exfalso
  have hall:∀ j,j<n->(gx s.L j).he=true/\(gx s.L j).ba=false/\0<=(gx s.L j).ow/\(gx s.L j).ow<4:=λj hj=>by
   have k1:=k j hj
   have nb:=hz.nb j hj
   have he:(gx s.L j).he=true:=by
    dsimp only at k1
    unfold freeB at k1
    rw [nb] at k1
    simpa using k1
   have:=h.i.l.ho j hj he
   exact ⟨he,nb,this.1,this.2⟩
  have h1:=own_all n hall
  have hc:=(hG hz.ro).2
  have c0:=hc 0
  have c1:=hc 1
  have c2:=hc 2
  have c3:=hc 3
  unfold RM at hR
  omega
 ·show 0<=bestT s.L (λ_ x=>freeB x) (λx y=>decide (x.er<y.er)) n
  rw [k]
  omega
theorem opnS_zf (h:NI g n s) (hz:ZI n s) (hk:0<=pickT s.L n) (hn:0<=ns/\ns<4) (sl:Bool) (ho:s.C.ops+768<=1000000000000) :
  (opnS ns sl s).2.2=0/\(opnS ns sl s).2.1=pickT s.L n/\(opnS ns sl s).1.L=chL (pickT s.L n) n (hB ns) (if (gx s.L (pickT s.L n).toNat).cl=true then s.L else chL (pickT s.L n) n eB s.L)/\(opnS ns sl s).1.C.pl=[]/\ZI n (opnS ns sl s).1:=by
 have hr:(⟨0,0,0,0,s.ep,u64w (s.op+1)⟩:Hd).rng:=⟨⟨Int.le_refl _,by show (0:Int)<4294967296;decide⟩,h.i.ep,u64w_R _⟩
 have e:opC ns ⟨0,0,0,0,s.ep,u64w (s.op+1)⟩ sl s.C s.L s.O=opnP ns ⟨0,0,0,0,s.ep,u64w (s.op+1)⟩ sl (127+1) s.C s.L s.O:=if_pos hn
 obtain ⟨a1,a2,a3,a4⟩:=opn_zf (ns:=ns) (o:=⟨0,0,0,0,s.ep,u64w (s.op+1)⟩) hn hr sl 127 h.i.pi h.c (by omega) hz.pl hk
 unfold opnS
 rw [e]
 dsimp only
 refine ⟨a1,a2,a3,a4,a4,hz.ro,λi hi=>?_⟩
 dsimp only
 rw [a3]
 have key:∀ i,i<n->(gx (if (gx s.L (pickT s.L n).toNat).cl=true then s.L else chL (pickT s.L n) n eB s.L) i).ba=false:=λi hi=>by
  split
  ·exact hz.nb i hi
  ·rw [gx_ch h.i.ln]
   split
   ·exact hz.nb i hi
   ·exact hz.nb i hi
 rw [gx_ch (by split;exact h.i.ln;rw [chL_len];exact h.i.ln)]
 split
 ·exact key i hi
 ·exact key i hi
theorem cop0 (to:Int):∀ (l:List (Int×Int)) (i:Int) (s:SD),s.C.pl=[]->(copP to l i s).2≠5/\(copP to l i s).1.C.pl=[]
 | [],i,s,h=>by
  show (slC s.L.length s.C to).2≠5/\(slC s.L.length s.C to).1.pl=[]
  unfold slC selP
  split
  ·exact prog0 h _ _ _
  ·exact ⟨by show (2:Int)≠5;decide,h⟩
 | k::l,i,s,h=>by
  have hc:(cpyS s to i k).2≠5/\(cpyS s to i k).1.C.pl=[]:=by
   show (cpyC s.L.length s.C to i k.1 k.2).2≠5/\(cpyC s.L.length s.C to i k.1 k.2).1.pl=[]
   unfold cpyC
   split
   ·split
    ·exact prg0 h _ _ _
    ·refine ⟨?_,h⟩
     unfold readC
     split
     ·show (4:Int)≠5;decide
     ·split
      ·show (0:Int)≠5;decide
      ·show (2:Int)≠5;decide
   ·exact ⟨by show (2:Int)≠5;decide,h⟩
  rw [show copP to (k::l) i s=if (cpyS s to i k).2≠0 then cpyS s to i k else copP to l (i+1) (cpyS s to i k).1 from rfl]
  split
  ·exact hc
  ·exact cop0 to l (i+1) _ hc.2
theorem cop_er (to:Int):∀ (l:List (Int×Int)) (i:Int) (s:SD) (j:Nat),(gx (copP to l i s).1.L j).er=(gx s.L j).er/\(gx (copP to l i s).1.L j).cl=(gx s.L j).cl
 | [],i,s,j=>⟨rfl,rfl⟩
 | k::l,i,s,j=>by
  have hc:(gx (cpyS s to i k).1.L j).er=(gx s.L j).er/\(gx (cpyS s to i k).1.L j).cl=(gx s.L j).cl:=by
   show (gx (chL to s.L.length uB s.L) j).er=_/\(gx (chL to s.L.length uB s.L) j).cl=_
   rw [gx_ch rfl]
   split <;> exact ⟨rfl,rfl⟩
  rw [show copP to (k::l) i s=if (cpyS s to i k).2≠0 then cpyS s to i k else copP to l (i+1) (cpyS s to i k).1 from rfl]
  split
  ·exact hc
  ·have:=cop_er to l (i+1) (cpyS s to i k).1 j
   exact ⟨this.1.trans hc.1,this.2.trans hc.2⟩
structure EmZ (n:Nat) (s t:SD) (b ns:Int):Prop where
 z:ZI n t
 fr:frG s ns=-1->(frG t ns<0/\t.L=chL b n rB s.L)\/∃ to:Int,frG t ns=to/\0<=to/\(gx t.L to.toNat).us=(gx s.L b.toNat).li
 L:t.L=chL b n rB s.L\/∃ to:Nat,to<n/\(gx s.L to).he=false/\to≠b.toNat/\(to:Int)=pickT s.L n/\(∀ i,i≠b.toNat->i≠to->gx t.L i=gx s.L i)/\gx t.L b.toNat=rB (gx s.L b.toNat) /\
  (gx t.L to).he=true/\(gx t.L to).ow=ns/\(gx t.L to).us=(gx t.L to).li/\(gx t.L to).li=(gx s.L b.toNat).li/\(gx t.L to).er=(gx s.L to).er+(if (gx s.L to).cl=true then 0 else 1)
theorem emp_zf (h:NI g n s) (hz:ZI n s) (hk:0<=pickT s.L n) (hn:0<=ns/\ns<4) (hb:0<=b/\b<(n:Int)) (ho:(gx s.L b.toNat).ow=ns) (hp:s.C.ops+215040<=1000000000000) :
  (empP s b ns).2=0/\EmZ n s (empP s b ns).1 b ns:=by
 obtain ⟨h1,h2,h3,h4,h5⟩:=h.i.fs0 hn (λ_=>ho)
 have hro:(Vc.fs0 s ns b).ro=s.ro:=by unfold Vc.fs0;split <;> rfl
 have hfs:frG s ns=-1->frG (Vc.fs0 s ns b) ns=-1:=λe=>by unfold Vc.fs0;rw [if_neg (by omega)];exact e
 have N1:NI g n (Vc.fs0 s ns b):=⟨h1.i,h.c.of h5 h3⟩
 have Z1:ZI n (Vc.fs0 s ns b):=⟨by rw [h5];exact hz.pl,hro.trans hz.ro,λi hi=>by rw [h3];exact hz.nb i hi⟩
 have e:empP s b ns=if inP s.X (4+b)=[] then (chS (Vc.fs0 s ns b) b rB,0) else Vc.empL b ns (inP s.X (4+b)) 256 (Vc.fs0 s ns b):=rfl
 have hll:(inP s.X (4+b)).length=((gx s.L b.toNat).li).toNat:=by
  rw [h.i.l.li _ (by omega),show 4+((b.toNat:Nat):Int)=4+b by omega];omega
 have hli0:0<=(gx s.L b.toNat).li:=by rw [h.i.l.li _ (by omega)];omega
 have hhe:(gx s.L b.toNat).li≠0->(gx s.L b.toNat).he=true:=h.i.l.he _ (by omega)
 suffices k:(empP s b ns).2=0/\EmZ n (Vc.fs0 s ns b) (empP s b ns).1 b ns from ⟨k.1,⟨k.2.z,λe=>by rw [<-h3];exact k.2.fr (hfs e),by rw [<-h3];exact k.2.L⟩⟩
 rw [e]
 rw [<-h3] at hk ho hli0 hhe hll
 rw [<-h4] at hll ⊢
 clear e h3 h4 h
 generalize Vc.fs0 s ns b=s at h1 h2 h5 hro N1 Z1 hk ho hll hli0 hhe ⊢
 have h:=N1
 have hz:=Z1
 have hln:=h.i.ln
 rw [<-h5] at hp
 by_cases hl:inP s.X (4+b)=[]
 ·rw [if_pos hl]
  refine ⟨rfl,⟨hz.pl,hz.ro,λi hi=>?_⟩,λe=>.inl ⟨by show frG s ns<0;omega,by show chL b s.L.length rB s.L=_;rw [hln]⟩,.inl (by show chL b s.L.length rB s.L=_;rw [hln])⟩
  rw [chS_gx h.i]
  split
  ·exact hz.nb i hi
  ·exact hz.nb i hi
 rw [if_neg hl]
 have hli:(gx s.L b.toNat).li≠0:=λe=>hl (List.length_eq_zero_iff.1 (by rw [hll,e];rfl))
 have hE:EmI g n s b ns (inP s.X (4+b)):=⟨h.i,hn,hb,rfl,hhe hli,ho,h2⟩
 generalize hlq:inP s.X (4+b)=l at hl hll hE ⊢
 obtain ⟨b1,x1,f1,k1,B1⟩:=h.i.beg hn (sl:=false) (by omega)
 obtain ⟨NO,ee1,no1,ok1,ro1⟩:=h.opn hn false (by omega)
 obtain ⟨z1,z2,z3,z4,z5⟩:=opnS_zf h hz hk hn false (by omega)
 have zl:=z5.left NO.i.ln (sp0 NO.i.pi)
 show (Vc.empL b ns l (255+1) s).2=0/\EmZ n _ (Vc.empL b ns l (255+1) s).1 b ns
 unfold Vc.empL
 dsimp only
 rw [z1] at b1 x1 f1 k1 ⊢
 have hB:=B1 z1
 rw [z1] at hB
 rw [zl] at b1 x1 f1 k1 hB ⊢
 obtain ⟨G1,Bg⟩:=ok1 z1
 clear B1 ok1 no1 ee1
 generalize opnS ns false s=r at b1 x1 f1 k1 hB G1 Bg NO z1 z2 z3 z4 z5 zl ro1 ⊢
 obtain ⟨r1,to,re⟩:=r
 dsimp only at b1 x1 f1 k1 hB G1 Bg NO z1 z2 z3 z4 z5 zl ro1 ⊢
 rw [if_neg (λk=>k rfl)]
 obtain ⟨y,hy,hyb⟩:=hB.y
 have ht:=hB.ht
 have hlen:=l32 h.i.l (4+b)
 rw [hlq] at hlen
 have hlen2:=h.i.l.len (4+b)
 rw [hlq] at hlen2
 obtain ⟨a1,hne,e1,nf1,l0,mv⟩:=hE.cop b1.i x1 f1 k1 hB (by have:=b1.o2;omega)
 obtain ⟨-,c2,c3,-,-,c5,c6,c7,c8,c9,c10,c11⟩:=SI.cop ht l 1 b1.i (by rw [hy];show (0:Int)+_<=_;omega) (by have:=b1.o2;omega)
 have hsrc:∀ q∈l,inC r1.C q.1 q.2/\q.1≠4+to:=λq hq=>by
  rw [<-hlq] at hq
  obtain ⟨q1,q2,q3⟩:=inP_mem.1 hq
  have q4:=(h.i.l.xb q q3).2
  have hnn:=h.i.pi.nn
  exact ⟨by unfold inC;rw [NO.i.pi.gg];omega,by omega⟩
 have K:=NI.cop ht l 1 NO (by rw [hy];rfl) (by rw [hy];exact hyb) (by rw [Bg.us 0];rfl) (by rw [hy];rfl) (by rw [hy];show (0:Int)+_<=_;omega) hsrc (by have:=b1.o2;omega)
 obtain ⟨w1,w2⟩:=cop0 to l 1 r1 z4
 have w3:=cop_er to l 1 r1
 have hc0:(copP to l 1 r1).2=0:=K.ee.resolve_right w1
 rw [if_pos hc0]
 have c11:=c11 hc0
 generalize copP to l 1 r1=c at a1 e1 nf1 l0 mv c2 c3 c5 c6 c7 c8 c9 c10 c11 K w1 w2 w3 hc0 ⊢
 obtain ⟨c1,ce⟩:=c
 dsimp only at a1 e1 nf1 l0 mv c2 c3 c5 c6 c7 c8 c9 c10 c11 K w1 w2 w3 ⊢
 obtain ⟨m1,m2,m3,m4⟩:=mov_fld c1 b to ns l
 have lc:c1.L.length=n:=e1.i.ln
 have eL:(movP c1 b to ns l).L=chL b n rB (chL to n (cB (l.length:Int)) c1.L):=by rw [m2,lc]
 have l1':(chL to n (cB (l.length:Int)) c1.L).length=n:=by rw [chL_len];exact lc
 have gi:∀ i,i≠b.toNat->i≠to.toNat->gx (movP c1 b to ns l).L i=gx c1.L i:=λi h1 h2=>by rw [eL,gx_ne l1' h1,gx_ne lc h2]
 have gB:gx (movP c1 b to ns l).L b.toNat=rB (gx c1.L b.toNat):=by rw [eL,gx_eq l1' hb,gx_ne lc (by omega)]
 have gT:gx (movP c1 b to ns l).L to.toNat=cB (l.length:Int) (gx c1.L to.toNat):=by rw [eL,gx_ne l1' (by omega),gx_eq lc ht]
 have lr:r1.L.length=n:=NO.i.ln
 have gr:∀ i,i≠to.toNat->gx r1.L i=gx s.L i:=λi hi=>by
  rw [z3,<- z2,gx_ne (by split;exact hln;rw [chL_len];exact hln) hi]
  split
  ·rfl
  ·exact gx_ne hln hi
 have er:(gx r1.L to.toNat).er=(gx s.L to.toNat).er+(if (gx s.L to.toNat).cl=true then 0 else 1):=by
  rw [z3,<- z2,gx_eq (by split;exact hln;rw [chL_len];exact hln) ht]
  split
  ·show (gx s.L to.toNat).er=_;omega
  ·show (gx (chL to n eB s.L) to.toNat).er=_
   rw [gx_eq hln ht];rfl
 have bar:∀ i,i<n->(gx c1.L i).ba=false:=λi hi=>by
  by_cases e:i=to.toNat
  ·rw [e,c10];exact z5.nb _ (by omega)
  ·rw [c6 i e];exact z5.nb _ hi
 have usT:(gx (movP c1 b to ns l).L to.toNat).us=(l.length:Int):=by
  rw [gT]
  show (gx c1.L to.toNat).us=_
  rw [c11,hy]
  show (0:Int)+_=_
  omega
 have frT:frG s ns=-1->frG (movP c1 b to ns l) ns=to:=λe=>by
  have e0:frG c1 ns=-1:=by
   show c1.fr.getD ns.toNat 0=-1
   rw [c3,f1];exact e
  unfold movP
  dsimp only
  rw [if_pos (by show frG c1 ns<0;omega)]
  show (c1.fr.set ns.toNat to).getD ns.toNat 0=to
  rw [List.getD_eq_getElem?_getD,List.getElem?_set_self (by rw [e1.i.fl];omega)]
  rfl
 refine ⟨rfl,⟨by rw [m1];exact w2,by rw [m4,c5];exact z5.ro,λi hi=>?_⟩,λe=>.inr ⟨to,frT e,ht.1,by rw [usT];omega⟩,.inr ⟨to.toNat,by omega,hB.h0,by omega,by omega,λi h1 h2=>?_,?_,?_,?_,?_,?_,?_⟩⟩
 ·by_cases e2:i=b.toNat
  ·rw [e2,gB];exact bar _ (by omega)
  ·by_cases e3:i=to.toNat
   ·rw [e3,gT];exact bar _ (by omega)
   ·rw [gi i e2 e3];exact bar i hi
 ·rw [gi i h1 h2,c6 i h2];exact gr i h2
 ·rw [gB,c6 _ (by omega),gr _ (by omega)]
 ·rw [gT];show (gx c1.L to.toNat).he=true;rw [c7,hy];rfl
 ·rw [gT];show (gx c1.L to.toNat).ow=ns;rw [c8,hy];rfl
 ·rw [gT]
  have hl9:(gx c1.L to.toNat).li=0:=by rw [c9,hy];rfl
  show (gx c1.L to.toNat).us=(if (l.length:Int)<0-(gx c1.L to.toNat).li then 0 else (gx c1.L to.toNat).li+(l.length:Int))
  rw [hl9,if_neg (by omega),c11,hy]
  rfl
 ·rw [gT]
  have hl9:(gx c1.L to.toNat).li=0:=by rw [c9,hy];rfl
  show (if (l.length:Int)<0-(gx c1.L to.toNat).li then 0 else (gx c1.L to.toNat).li+(l.length:Int))=_
  rw [hl9,if_neg (by omega)]
  omega
 ·rw [gT];show (gx c1.L to.toNat).er=_;rw [(w3 _).1];exact er
end
section
variable {g:Geo} {n:Nat} {s t:SD} {T:Hh->List Int} {b ns e u:Int}
theorem NI.emt (h:NI g n s) (hG:GD n s) (hb:0<=b/\b<(n:Int)) (ho:s.C.ops+215040<=1000000000000) :
  NI g n (emtS s b).1/\StN g n T s (emtS s b).1/\((emtS s b).2=0\/((emtS s b).2=15/\(emtS s b).1.ro=true))/\((emtS s b).2=0->(emtS s b).1.ro=s.ro)/\((emtS s b).2=0->(gx (emtS s b).1.L b.toNat).he=false):=by
 obtain ⟨hI,hh⟩:=h.i.emt (b:=b) ho
 suffices k:StN g n T s (emtS s b).1/\((emtS s b).2=0\/((emtS s b).2=15/\(emtS s b).1.ro=true))/\((emtS s b).2=0->(emtS s b).1.ro=s.ro) from ⟨⟨hI.i,k.1.ci⟩,k.1,k.2.1,k.2.2,λe=>hh e hb⟩
 clear hh
 unfold emtS at hI ⊢
 rw [h.i.ln,if_neg (λk=>k hb)] at hI ⊢
 dsimp only at hI ⊢
 by_cases hx:(gx s.L b.toNat).he=false\/(gx s.L b.toNat).ow<0\/4<=(gx s.L b.toNat).ow
 ·rw [if_pos hx]
  exact ⟨.refl h,.inl rfl,λ_=>rfl⟩
 rw [if_neg hx] at hI ⊢
 by_cases hc:0<(gx s.L b.toNat).li/\s.ro=true
 ·rw [if_pos hc]
  exact ⟨.refl h,.inr ⟨rfl,hc.2⟩,λe=>by cases e⟩
 rw [if_neg hc] at hI ⊢
 have E:=h.emp (T:=T) (b:=b) (ns:=(gx s.L b.toNat).ow) (by omega) hb rfl ho
 exact ⟨E.st h.i hI.i hI.sz (λhr=>(hG hr).1 _ (by omega) (by
  cases q:(gx s.L b.toNat).he
  ·exact absurd (.inl q) hx
  ·rfl)),E.ee,E.ro⟩
theorem NI.dstN (h:NI g n s) (hb:0<=b/\b<(n:Int)) (hh:(gx s.L b.toNat).he=false) (ho:s.C.ops+2<=1000000000000) :
  NI g n (dstS s b).1/\StN g n T s (dstS s b).1/\((dstS s b).2=0\/(dstS s b).2=5\/(dstS s b).2=17)/\(∀ i,i≠b.toNat->gx (dstS s b).1.L i=gx s.L i)/\(gx (dstS s b).1.L b.toNat).he=false:=by
 obtain ⟨d1,d2,d3,d4,d5,d6,d7⟩:=h.dst hb hh ho
 obtain ⟨sd,sdx,sdf⟩:=h.i.dst (b:=b) (λ_=>hh) ho
 refine ⟨d1,⟨d1.c,d3.ba,λhT=>?_,λm j=>by rw [sdx],λhG=>hG.sub (cap_eq h.i d1.i sd.sz) d7 λi hi hk=>?_,d7⟩,d2,d4,d5⟩
 ·refine hT.of sdx (by rw [d1.i.pi.gg,h.i.pi.gg]) (λq hq=>?_) h.i.xo.four
  have hq2:=(h.i.l.xb q hq).1
  have hne:q.1≠4+b:=λe=>h.i.l.none hb (h.i.l.free (by omega) hh) (k:=q) e hq
  have eC:(dstS s b).1.C=(dstP s.C s.L b).1:=by
   have e:dstS s b=((overP {s with C:=(dstP s.C s.L b).1,L:=(dstP s.C s.L b).2.1}).1,(dstP s.C s.L b).2.2):=by unfold dstS;rw [if_pos (by rw [h.i.ln];exact hb)]
   rw [e]
   exact (over_f {s with C:=(dstP s.C s.L b).1,L:=(dstP s.C s.L b).2.1}).1
  unfold pgC13
  rw [eC,dst_blk _ _ _ (by omega)]
 ·have hne:i≠b.toNat:=λe=>by rw [e,d5] at hk;cases hk
  rw [d4 i hne] at hk ⊢
  exact ⟨hk,rfl,rfl⟩
theorem dstS_zf (h:NI g n s) (hz:ZI n s) (hb:0<=b/\b<(n:Int)):(dstS s b).2=0/\(dstS s b).1.L=chL b n eB s.L/\ZI n (dstS s b).1:=by
 obtain ⟨z1,z2,z3⟩:=dst_zf h.c h.i.pi hb hz.pl
 have Z:ZI n {s with C:=(dstP s.C s.L b).1,L:=(dstP s.C s.L b).2.1}:=⟨z3,hz.ro,λi hi=>by
  show (gx (dstP s.C s.L b).2.1 i).ba=false
  rw [z2,gx_ch h.i.ln]
  split
  ·exact hz.nb i hi
  ·exact hz.nb i hi⟩
 have hg:(dstP s.C s.L b).1.g=s.C.g:=by
  have e:=(eraC_k s.C (4+b)).1
  unfold dstP
  split
  ·split
   ·exact (scrC_k _ _).1.trans e
   ·exact (scrC_k _ _).1.trans e
  ·exact e
 have e:dstS s b=((overP {s with C:=(dstP s.C s.L b).1,L:=(dstP s.C s.L b).2.1}).1,(dstP s.C s.L b).2.2):=by unfold dstS;rw [if_pos (by rw [h.i.ln];exact hb)]
 rw [e,Z.over (by show (dstP s.C s.L b).2.1.length=n;rw [z2,chL_len];exact h.i.ln) (by show 0<=(dstP s.C s.L b).1.g.sp;rw [hg];exact sp0 h.i.pi)]
 exact ⟨z1,z2,Z⟩
theorem emtS_zf (h:NI g n s) (hz:ZI n s) (hG:GD n s) (hR:RM n s) (hb:0<=b/\b<(n:Int)) (ho:s.C.ops+215040<=1000000000000) :
  (emtS s b).2=0/\(((gx s.L b.toNat).he=false/\(emtS s b).1=s)\/((gx s.L b.toNat).he=true/\EmZ n s (emtS s b).1 b (gx s.L b.toNat).ow)):=by
 unfold emtS
 rw [h.i.ln,if_neg (λk=>k hb)]
 dsimp only
 have hho:=h.i.l.ho b.toNat (by omega)
 cases q:(gx s.L b.toNat).he
 ·rw [if_pos (.inl rfl)]
  exact ⟨rfl,.inl ⟨rfl,rfl⟩⟩
 ·rw [if_neg (by rintro (k | k | k);cases k;have:=hho q;omega;have:=hho q;omega),if_neg (by rw [hz.ro];rintro ⟨-,k⟩;cases k)]
  obtain ⟨e1,e2⟩:=emp_zf h hz (pick_zf h hz hG hR) (hho q) hb rfl ho
  exact ⟨e1,.inr ⟨rfl,e2⟩⟩
theorem emp_neg' (h:NI g n s) (hb:b<0):(empP s b ns).1.L=s.L/\(empP s b ns).1.C=s.C:=by
 have hl:inP s.X (4+b)=[]:=inP_nil λk hk h1=>by
  have:=(h.i.l.xb k h1).1
  omega
 have e:empP s b ns=(chS (Vc.fs0 s ns b) b rB,0):=if_pos hl
 rw [e]
 have e2:∀ s:SD,chS s b rB=s:=λs=>by
  have:chL b s.L.length rB s.L=s.L:=if_neg (λk=>by have:0<=b:=k.1;omega)
  unfold chS
  rw [this]
 rw [e2]
 unfold Vc.fs0
 split <;> exact ⟨rfl,rfl⟩
theorem clos_zf (h:NI g n s) (hz:ZI n s) (ns:Int):ZI n (closP s ns):=by
 unfold closP
 split
 ·refine ⟨hz.pl,hz.ro,λi hi=>?_⟩
  show (gx (chL (frG s ns) s.L.length rB s.L) i).ba=false
  rw [gx_ch rfl]
  split
  ·exact hz.nb i hi
  ·exact hz.nb i hi
 ·exact ⟨hz.pl,hz.ro,hz.nb⟩
theorem room_zf (h:NI g n s) (hz:ZI n s) (hG:GD n s) (hR:RM n s) (hn:0<=ns/\ns<4) (hp:s.C.ops+215040<=1000000000000):(roomP s ns).2=0/\ZI n (roomP s ns).1:=by
 obtain ⟨N1,S1⟩:=h.clos (T:=λ_=>[]) hn
 have hcl:=h.i.clos hn
 have hc:=clos_f s ns
 have Z1:=clos_zf h hz ns
 have hk:=pick_zf N1 Z1 (S1.gd hG) (hR.of h.i N1.i hcl.sz)
 unfold roomP
 split
 ·have e:s.L.length=(closP s ns).L.length:=by rw [N1.i.ln,h.i.ln]
  rw [e]
  have hv:=vict_bd (L:=(closP s ns).L) (ns:=ns) (bu:=-1)
  rw [N1.i.ln] at hv
  by_cases hb:0<=victT (closP s ns).L ns (-1) (closP s ns).L.length
  ·have hw:=own_is (vict_is N1.i.ln hb)
   rw [N1.i.ln] at hb hw ⊢
   obtain ⟨e1,e2⟩:=emp_zf N1 Z1 hk hn ⟨hb,hv.2⟩ hw.2.2 (by rw [hc.1];exact hp)
   exact ⟨e1,e2.z⟩
  ·obtain ⟨k1,-,k3⟩:=emp_neg (T:=λ_=>[]) N1 hn (b:=victT (closP s ns).L ns (-1) (closP s ns).L.length) (by omega)
   obtain ⟨k4,k5⟩:=emp_neg' (ns:=ns) N1 (b:=victT (closP s ns).L ns (-1) (closP s ns).L.length) (by omega)
   exact ⟨k1,by rw [k5];exact Z1.pl,k3.trans Z1.ro,λi hi=>by rw [k4];exact Z1.nb i hi⟩
 ·obtain ⟨z1,z2,z3,z4,z5⟩:=opnS_zf N1 Z1 hk hn true (by rw [hc.1];omega)
  obtain ⟨N2,-⟩:=N1.opn hn true (by rw [hc.1];omega)
  dsimp only
  rw [if_pos z1,z1]
  have Z2:ZI n (frS (opnS ns true (closP s ns)).1 ns (opnS ns true (closP s ns)).2.1):=⟨z5.pl,z5.ro,z5.nb⟩
  rw [Z2.left N2.i.ln (sp0 N2.i.pi)]
  exact ⟨rfl,Z2⟩
theorem wrt0 {C:CD} (h:C.pl=[]) (m:Nat) (b pa:Int) (hd:Hd) (xs tg:List Int):(wrtT m C b pa hd xs tg).2≠5/\(wrtT m C b pa hd xs tg).1.pl=[]:=by
 unfold wrtT
 by_cases h1:0<=b/\b<(m:Int)
 ·rw [if_pos h1]
  by_cases h2:HRight hd
  ·rw [if_pos h2];exact prg0 h _ _ _
  ·rw [if_neg h2];exact ⟨by show (2:Int)≠5;decide,h⟩
 ·rw [if_neg h1];exact ⟨by show (2:Int)≠5;decide,h⟩
theorem wr_zf (hn:0<=ns/\ns<4) {hd:Hd} {xs tg:List Int} (hr:hd.rng) (hR:HRight hd) (bx:Byt xs) (bt:Byt tg) (lx:xs.length=0\/(xs.length:Int)=g.s) (lt:tg.length=0\/tg.length=32):∀ (k:Nat) {s:SD},NI g n s->ZI n s->GD n s->RM n s->1<=(getX s.X ns).n->s.C.ops+wC k<=1000000000000 ->
  ZI n (wrP ns hd xs tg k s).1
 | 0,s,h,hz,_,_,_,_=>hz
 | k+1,s,h,hz,hG,hM,hsz,ho=>by
  have hwc:=wCs k
  unfold wrP
  dsimp only
  by_cases hf:fulP s ns
  ·rw [if_pos hf]
   obtain ⟨N1,S1,e1,r1⟩:=h.room (T:=λ_=>[]) hn hsz (by omega)
   have h1:=h.i.room hn (by omega)
   obtain ⟨z1,z2⟩:=room_zf h hz hG hM hn (by omega)
   have o1:=h1.o2
   rw [if_neg (by rw [z1];decide)]
   exact wr_zf hn hr hR bx bt lx lt k N1 z2 (S1.gd hG) (hM.of h.i N1.i h1.sz) (by rw [h1.sz];exact hsz) (by omega)
  ·rw [if_neg hf]
   obtain ⟨N1,S1,e1,r1,p1⟩:=h.wr1 (T:=λ_=>[]) hn hf hG hz.ro hr hR bx bt lx lt (by omega)
   obtain ⟨h1,x1,f1,l1⟩:=h.i.wr1 hn hf (hd:=hd) hr bx bt (xs:=xs) (tg:=tg) (by omega)
   have w0:(Vc.wr1 s ns hd xs tg).2≠5/\(Vc.wr1 s ns hd xs tg).1.C.pl=[]:=by
    exact wrt0 hz.pl _ _ _ _ _ _
   rw [if_pos (e1.resolve_right w0.1)]
   refine ⟨w0.2,r1.trans hz.ro,λi hi=>?_⟩
   dsimp only
   rw [l1,gx_ch h.i.ln]
   split
   ·exact hz.nb i hi
   ·exact hz.nb i hi
theorem put_zf (h:NI g n s) (hz:ZI n s) (hG:GD n s) (hM:RM n s) {hd:Hd} {xs tg:List Int} (hr:hd.rng) (hR:mayP s hd->HRight hd) (bx:Byt xs) (bt:Byt tg) (lx:xs.length=0\/(xs.length:Int)=g.s) (lt:tg.length=0\/tg.length=32) (ho:s.C.ops+55051264<=1000000000000) :
  ZI n (putS s hd xs tg).1:=by
 unfold putS
 by_cases hm:mayP s hd
 case neg=>rw [if_pos hm];exact hz
 rw [if_neg (λk=>k hm),if_neg (by rw [hz.ro];exact Bool.false_ne_true)]
 have hn:=may_ns hm
 have hwc:=wC256
 have W:=wr_zf (ns:=hd.n) hn hr (hR hm) bx bt lx lt 256 h hz hG hM (by have:=hm.2.1;have:=hm.2.2.1;omega) (by omega)
 obtain ⟨a1,a2⟩:=SI.wr hn hr bx bt (xs:=xs) (tg:=tg) 256 h.i (by omega)
 dsimp only
 split
 ·exact W
 ·rename_i he
  have he:(wrP hd.n hd xs tg 256 s).2.2=0:=Classical.byContradiction he
  have hA:=a2 he
  have hm2:mayP (wrP hd.n hd xs tg 256 s).1 hd:=(may_sz a1.sz).2 hm
  obtain ⟨b0,b1,b2,b3,b4,b5,b6,b7,b8⟩:=a1.i.lnd hA hm2 hr hn
  obtain ⟨l1,-⟩:=lnd_L (n:=n) (wrP hd.n hd xs tg 256 s).1 hd (wrP hd.n hd xs tg 256 s).2.1
  exact ⟨by dsimp only;rw [b1];exact W.pl,by dsimp only;rw [b8];exact W.ro,λi hi=>by dsimp only;rw [l1.ba];exact W.nb i hi⟩
end
abbrev HasF:=Int->Nat->Option (Hh×List Int)
def noF:HasF:=λ_ _=>none
def updF (F:HasF) (hd:Hd) (P:List Int):HasF:=λm j=>if spk hd m j then some (hd.hh,P) else F m j
structure KE (F:HasF) (t:SD):Prop where
 ex:∃ T,PGI T t/\∀ m j,F m j=(hdX t.X m j).map λh=>(h,T h)
 fr:∀ m j h,hdX t.X m j=some h->h.e=t.ep/\h.t<=t.ct
section
variable {g:Geo} {n:Nat} {s t:SD} {F:HasF} {e:Int}
theorem KE.st (h:KE F s) (k:∀ T,StN g n T s t) (he:t.ep=s.ep) (hc:t.ct=s.ct):KE F t:=by
 obtain ⟨T,h1,h2⟩:=h.ex
 have kT:=k T
 exact ⟨⟨T,kT.pg h1,λm j=>by rw [kT.hx];exact h2 m j⟩,λm j x hx=>by rw [he,hc];exact h.fr m j x (by rw [<-kT.hx];exact hx)⟩
theorem KE.put (h:KE F s) {hd0:Hd} {P:List Int} (k:∀ T,PutN g n T (nxtS s hd0).1 t (nxtS s hd0).2 P e) (he:t.ep=s.ep) (hc:t.ct=s.ct+1) (hw:0<=s.ct/\s.ct+1<18446744073709551616):KE (if e=0 then updF F (nxtS s hd0).2 P else F) t:=by
 obtain ⟨T,h1,h2⟩:=h.ex
 have kT:=k T
 have hX:(nxtS s hd0).1.X=s.X:=rfl
 have hct:(nxtS s hd0).2.hh.t=s.ct+1:=by
  show u64w (s.ct+1)=_
  have:u64w (s.ct+1)=(s.ct+1) % 18446744073709551616:=by simp [u64w,IntKind.wrap,IntKind.signed,IntKind.bits]
  omega
 have hep:(nxtS s hd0).2.hh.e=s.ep:=rfl
 have hF:Fresh (nxtS s hd0).1 (nxtS s hd0).2:=λm j x hx=>by
  have:=h.fr m j x hx
  exact .inr ⟨by rw [hep];exact this.1,by rw [hct];omega⟩
 refine ⟨⟨if e=0 then updT T (nxtS s hd0).2 P else T,kT.pg h1 hF,λm j=>?_⟩,λm j x hx=>?_⟩
 ·rw [kT.hx hF,hX]
  by_cases e0:e=0
  ·rw [if_pos e0,if_pos e0]
   unfold updF
   by_cases hs:spk (nxtS s hd0).2 m j
   ·rw [if_pos hs,if_pos ⟨e0,hs⟩]
    show some _=some (_,updT T (nxtS s hd0).2 P (nxtS s hd0).2.hh)
    unfold updT
    rw [if_pos rfl]
   ·rw [if_neg hs,if_neg (λk=>hs k.2),h2]
    cases hq:hdX s.X m j with
    | none=>rfl
    | some x=>
     have hl:=hF m j x hq
     show some (x,T x)=some (x,updT T (nxtS s hd0).2 P x)
     unfold updT
     rw [if_neg (λk=>by rw [k] at hl;exact lesH_irr _ hl)]
  ·rw [if_neg e0,if_neg e0,if_neg (λk=>e0 k.1),h2]
 ·rw [he,hc]
  rcases kT.h0 m j x hx with k | k
  ·rw [k,hep,hct]
   exact ⟨rfl,Int.le_refl _⟩
  ·have:=h.fr m j x k
   exact ⟨this.1,by omega⟩
theorem KE.get (h:KE F t) (hX:XOk t.X) {m:Int} {j:Nat} (hm:0<=m/\m<4) (hj:j<(getX t.X m).n) :
  (F m j=none/\(getC t.X m (j:Int)).has=false)\/∃ c P,getC t.X m (j:Int)=c/\c.has=true/\F m j=some (c.s.h,P)/\pgC13 t.C c.s.b c.s.p=P/\1<=cntX t.X c.pl:=by
 obtain ⟨T,h1,h2⟩:=h.ex
 have hl:=(hX.get m).1
 have hs:=List.getElem?_eq_getElem (l:=(getX t.X m).l) (i:=j) (by omega)
 have hg:getC t.X m (j:Int)=(getX t.X m).l[j]:=by
  unfold getC
  rw [if_pos ⟨by omega,by omega⟩]
  show (getX t.X m).l.getD (Int.toNat (j:Int)) _=_
  rw [Int.toNat_natCast,List.getD_eq_getElem?_getD,hs]
  rfl
 have h2:=h2 m j
 unfold hdX at h2
 rw [hs] at h2
 dsimp only at h2
 cases hc:((getX t.X m).l[j]).has
 ·rw [hc] at h2
  exact .inl ⟨h2,by rw [hg];exact hc⟩
 ·rw [hc] at h2
  have:=h1 m j _ hm hs hc
  exact .inr ⟨_,_,hg,hc,h2,this.1,cntX_pos hX.four hm hs hc⟩
theorem KE.new {pl:List FD} {X:List (SlP Ce)} {z0 z1:Nat} (hX:New0 X z0 z1):KE noF (s00 g pl X):=by
 have e:∀ m j,hdX X m j=none:=λm j=>by
  unfold hdX
  rw [hX.l]
  cases hq:(List.replicate (if m=0 then z0 else if m=1 then z1 else 0) Ce0)[j]? with
  | none=>rfl
  | some c=>
   rw [(List.mem_replicate.1 (List.mem_of_getElem? hq)).2]
   rfl
 refine ⟨⟨λ_=>[],λm j c hm hj hc=>?_,λm j=>?_⟩,λm j h k=>?_⟩
 ·have:=e m j
  unfold hdX at this
  have hj:(getX X m).l[j]? = some c:=hj
  rw [hj] at this
  dsimp only at this
  rw [if_pos hc] at this
  cases this
 ·show none=(hdX X m j).map _
  rw [e];rfl
 ·have k:hdX X m j=some h:=k
  rw [e] at k;cases k
end
structure Pt25 where
 h:Hd
 y:SlP Int
 ok:Bool
abbrev Pt25.vs (x:Pt25):List Value:=[.int .i64 x.h.k,.int .i64 x.h.n,.int .i64 x.h.c,.int .u32 x.h.l,.int .u64 x.h.e,.int .u64 x.h.t,.slice x.y.a x.y.n x.y.c,.bool x.ok]
theorem ptv_len (x:Pt25):x.vs.length=8:=rfl
theorem ptv_one (x:Pt25):oneAll x.vs:=λu hu=>by
 simp only [Pt25.vs,List.mem_cons,List.not_mem_nil,or_false] at hu
 rcases hu with e | e | e | e | e | e | e | e <;> subst e <;> rfl
def okP5 (L:List Pt25) (m:Int) (j:Nat) (i:Nat):Bool:=match L[i]? with | some x=>x.ok && decide (spk x.h m j) | none=>false
def lastB (p:Nat->Bool):Nat->Int
 | 0=>-1
 | i+1=>if p i=true then (i:Int) else lastB p i
theorem lastB_eq {p q:Nat->Bool}:∀ i,(∀ j,j<i->p j=q j)->lastB p i=lastB q i
 | 0,_=>rfl
 | i+1,h=>by
  unfold lastB
  rw [h i (Nat.lt_succ_self i),lastB_eq i λj hj=>h j (by omega)]
def lastP (L:List Pt25) (m:Int) (j:Nat):Int:=lastB (okP5 L m j) L.length
theorem lastP_app (L:List Pt25) (x:Pt25) (m:Int) (j:Nat):lastP (L++[x]) m j=if x.ok=true/\spk x.h m j then (L.length:Int) else lastP L m j:=by
 unfold lastP
 rw [List.length_append]
 show lastB (okP5 (L++[x]) m j) (L.length+1)=_
 have e1:okP5 (L++[x]) m j L.length=(x.ok && decide (spk x.h m j)):=by
  unfold okP5
  rw [List.getElem?_append_right (Nat.le_refl _),Nat.sub_self]
  rfl
 have e2:lastB (okP5 (L++[x]) m j) L.length=lastB (okP5 L m j) L.length:=lastB_eq _ λi hi=>by
  unfold okP5
  rw [List.getElem?_append_left hi]
 show (if okP5 (L++[x]) m j L.length=true then ((L.length:Nat):Int) else lastB (okP5 (L++[x]) m j) L.length)=_
 rw [e1,e2]
 by_cases h:x.ok=true/\spk x.h m j
 ·rw [if_pos h,if_pos (by rw [h.1,decide_eq_true h.2];rfl)]
 ·rw [if_neg h,if_neg (λk=>h (by
   rw [Bool.and_eq_true] at k
   exact ⟨k.1,of_decide_eq_true k.2⟩))]
structure PtR (g:Geo) (x:Pt25):Prop where
 r:x.h.rng
 R:HRight x.h
 b:Byt x.y.l
 l:x.y.l.length=0\/(x.y.l.length:Int)=g.s
 n:x.y.l.length=x.y.n
def Kp25 (g:Geo) (F:HasF) (L:List Pt25) (m z:Int):Prop:=∀ j:Nat,(j:Int)<z->(lastP L m j=-1/\F m j=none)\/∃ (i:Nat) (x:Pt25),lastP L m j=(i:Int)/\L[i]? = some x/\PtR g x/\F m j=some (x.h.hh,pgW g x.h x.y.l [])
theorem Kp25.nil (g:Geo) (m z:Int):Kp25 g noF [] m z:=λj _=>.inl ⟨rfl,rfl⟩
theorem Kp25.put {g:Geo} {F:HasF} {L:List Pt25} {m z:Int} (h:Kp25 g F L m z) {x:Pt25} (hx:x.ok=true->PtR g x):Kp25 g (if x.ok=true then updF F x.h (pgW g x.h x.y.l []) else F) (L++[x]) m z:=λj hj=>by
 rw [lastP_app]
 have old:∀ {i:Nat} {y:Pt25},L[i]? = some y->(L++[x])[i]? = some y:=λ{i y} e=>by
  rw [List.getElem?_append_left (List.getElem?_eq_some_iff.1 e).1];exact e
 have hj:=h j hj
 by_cases ho:x.ok=true
 ·rw [if_pos ho]
  unfold updF
  by_cases hs:spk x.h m j
  ·rw [if_pos ⟨ho,hs⟩,if_pos hs]
   exact .inr ⟨L.length,x,rfl,by rw [List.getElem?_append_right (Nat.le_refl _),Nat.sub_self];rfl,hx ho,rfl⟩
  ·rw [if_neg (λk=>hs k.2),if_neg hs]
   rcases hj with k | ⟨i,y,k1,k2,k3⟩
   ·exact .inl k
   ·exact .inr ⟨i,y,k1,old k2,k3⟩
 ·rw [if_neg ho,if_neg (λk=>ho k.1)]
  rcases hj with k | ⟨i,y,k1,k2,k3⟩
  ·exact .inl k
  ·exact .inr ⟨i,y,k1,old k2,k3⟩
section
variable {E:Nat->Prop} {w0 w:World} {Rs:List Asr} {sp pp pm p q n:Nat} {g:Geo} {s:SD} {F:HasF}
theorem rdL_mem {dd:SlP Int} {D:List (SlP Int)} (S:Sep E w0 w Rs) (i:Nat) (hi:Rs[i]? = some (RdL D)) (hd:dd∈D):Ints w .u8 dd.a dd.n dd.c dd.l/\Byt dd.l:=by
 obtain ⟨G,hG,-⟩:=S.get hi
 exact ⟨Ty.ints (hG _ hd),Ty.byt (hG _ hd)⟩
theorem Speaks25_c {h:Hd} {m:Int} {j:Nat} (hr:h.rng) (hc:0<=h.c/\h.c<=65535):CallV Tryz.prog 109 #[h.val,.int .i64 m,.int .i64 (j:Int)] w [.one .bool] λr w'=>r.1=decide (spk h m j)/\Ext w w':=by
 apply ref25_Speaks.vc
 unfold ref25_Speaks.P
 have S:=Sep.start NoB w
 have hl:=hr.1
 have hw:IntKind.i64.wrap h.l=h.l:=i64_wrap (by omega) (by omega)
 refine S.newB (vs:=h.vs) λb1 w1 S f1 _=>S.ld0 (j:=1) rfl rfl (cond_eq (λh1=>?_) (λh1=>?_))
 ·refine S.ld0 (j:=3) rfl rfl ?_
  rw [hw]
  refine cond_d (λh2=>?_) (λh2=>?_)
  ·refine S.ld0 (j:=3) rfl rfl (S.ld0 (j:=2) rfl rfl ?_)
   rw [hw]
   refine ⟨Rng.i64 (by omega) (by omega),?_,S.ext⟩
   dsimp only
   exact decide_eq_decide.2 ⟨λk=>⟨h1.symm,by omega,k⟩,λk=>k.2.2⟩
  ·exact ⟨(decide_eq_false λk=>h2 k.2.1).symm,S.ext⟩
 ·exact ⟨(decide_eq_false λk=>h1 k.1.symm).symm,S.ext⟩
theorem Last25_c {e8:TypeId} {a:Option Addr} {nn c:Nat} {L:List Pt25} {m:Int} {j:Nat} (hL:∀ x∈L,x.ok=true->x.h.rng/\0<=x.h.c/\x.h.c<=65535) (S:Sep E w0 w (OwnA e8 8 a nn c (L.flatMap Pt25.vs)::Rs)) :
  CallV Tryz.prog 108 #[.slice a nn c,.int .i64 m,.int .i64 (j:Int)] w [.one (.int .i64)] λr w'=>r.1=lastP L m j/\Ext w w':=by
 apply ref25_Last.vc
 unfold ref25_Last.P
 have hln:L.length=nn:=(S.own 0 rfl).lenF ptv_len (by decide)
 have hlim:nn<=9223372036854775807:=(S.own 0 rfl).lim
 refine Loop1 (λ(v:Int×Int×Unit) w'=>∃ i:Nat,v.2.1=(i:Int)/\i<=nn/\v.1=lastB (okP5 L m j) i/\Ext w w'/\Sep E w0 w' (OwnA e8 8 a nn c (L.flatMap Pt25.vs)::Rs)) (λ(v:Int×Int×Unit) _=>((nn:Int)-v.2.1).toNat) ⟨0,rfl,Nat.zero_le _,rfl,Ext.refl _,S⟩ ?_
 clear S
 rintro ⟨(o:Int),(v:Int),⟨⟩⟩ w2 ⟨i,hv,hi,ho,X,S⟩
 dsimp only at hv ho ⊢
 subst hv
 refine cond_d (λhlt=>?_) (λhge=>?_)
 case refine_2=>
  have hie:i=L.length:=by omega
  subst hie
  exact ⟨ho,X⟩
 obtain ⟨qa,x,hq,hx,hc⟩:=S.nthF (f:=Pt25.vs) (m:=8) 0 rfl ptv_len (by decide) (j:=(i:Int)) (by omega) hlt
 rw [Int.toNat_natCast] at hx
 have hok:okP5 L m j i=(x.ok && decide (spk x.h m j)):=by unfold okP5;rw [hx]
 have nx:∀ {w':World} {o':Int},Ext w2 w'->o'=lastB (okP5 L m j) (i+1)->Rng .i64 ((i:Int)+1)/\(∃ i':Nat,((o',(i:Int)+1,()):Int×Int×Unit).2.1=(i':Int)/\i'<=nn/\((o',(i:Int)+1,()):Int×Int×Unit).1=lastB (okP5 L m j) i'/\Ext w w'/\Sep E w0 w' (OwnA e8 8 a nn c (L.flatMap Pt25.vs)::Rs))/\((nn:Int)-((o',(i:Int)+1,()):Int×Int×Unit).2.1).toNat<((nn:Int)-(i:Int)).toNat:=λhX he=>⟨Rng.i64 (by omega) (by omega),⟨i+1,by push_cast;rfl,by omega,he,X.trans hX,S.stepE hX⟩,by dsimp only;omega⟩
 have e0:lastB (okP5 L m j) (i+1)=if okP5 L m j i=true then (i:Int) else lastB (okP5 L m j) i:=rfl
 refine ⟨⟨by omega,hlt⟩,qa,hq,x.ok,hc.get (j:=7) rfl,cond_of (λh1=>?_) (λh1=>?_)⟩
 ·obtain ⟨r1,r2⟩:=hL x (List.mem_of_getElem? hx) h1
  refine ⟨⟨by omega,hlt⟩,qa,hq,x.h.tup,hc.take 6,?_⟩
  refine (Speaks25_c (m:=m) (j:=j) r1 r2).mono ?_
  rintro ⟨(r:Bool),⟨⟩⟩ w3 ⟨h3,x3⟩
  dsimp only at h3 ⊢
  subst h3
  refine cond_d (λh4=>nx x3 ?_) (λh4=>nx x3 ?_)
  ·rw [e0,hok,h1,decide_eq_true h4]
   rfl
  ·rw [e0,hok,h1,decide_eq_false h4,ho]
   rfl
 ·refine nx (Ext.refl _) ?_
  rw [e0,hok,h1,ho]
  rfl
theorem found25_c {e8:TypeId} {a:Option Addr} {nn c:Nat} {L:List Pt25} {m z:Int} {j:Nat} (hm:0<=m/\m<4) (h:SI g n s) (hon:s.C.off=false) (hK:KE F s) (hz:(getX s.X m).n=z.toNat) (hj:(j:Int)<z) (hF:Kp25 g F L m z) (hL:∀ x∈L,x.ok=true->x.h.rng/\0<=x.h.c/\x.h.c<=65535) (S:Sep E w0 w (OwnA e8 8 a nn c (L.flatMap Pt25.vs)::RdL (L.map Pt25.y)::stS sp pp pm p q g s Rs)) :
  CallV Tryz.prog 55 #[.pointer (some ⟨sp,0,none⟩),.pointer (some ⟨p,0,none⟩),g.val,.slice a nn c,.int .i64 m,.int .i64 (j:Int)] w [.one .bool] λr w'=>r.1=true/\Sep E w0 w' (OwnA e8 8 a nn c (L.flatMap Pt25.vs)::RdL (L.map Pt25.y)::stS sp pp pm p q g s Rs):=by
 apply law25_found.vc
 unfold law25_found.P
 have hnum:=h.pi.ok.num
 have hgg:=h.pi.gg
 rw [hgg] at hnum
 have hR:=h.pi.R
 have hs:=hR.sec
 have hln:L.length=nn:=(S.own 0 rfl).lenF ptv_len (by decide)
 refine S.newB (vs:=g.vs) λb1 w1 S f1 _=>?_
 refine (Last25_c (m:=m) (j:=j) hL (S.fro [1] rfl)).mono ?_
 rintro ⟨(r3:Int),⟨⟩⟩ w4 ⟨h4,x4⟩
 dsimp only at h4 ⊢
 subst h4
 have S:=S.stepE x4
 have S1:Sep E w0 w4 (stS sp pp pm p q g s (BoxA b1 23 g.vs::OwnA e8 8 a nn c (L.flatMap Pt25.vs)::RdL (L.map Pt25.y)::Rs)):=S.fro [3,3,3,3,3] rfl
 refine (Map25_c S1).mono ?_
 rintro ⟨r,⟨⟩⟩ w9 ⟨h9,rfl⟩
 dsimp only at h9 ⊢
 subst h9
 refine (Get_m (ns:=m) (i:=(j:Int)) h.xo.four (S1.fro [1] rfl)).mono ?_
 rintro ⟨r,(r2:Bool),⟨⟩⟩ w10 ⟨h10,h11,x10⟩
 dsimp only at h10 h11 ⊢
 subst h10;subst h11
 have S:=S.stepE x10
 clear S1
 refine S.newB λb9 w11 S f11 _=>S.st0 (by rfl) λw12 S f12=>?_
 rcases hK.get h.xo (m:=m) (j:=j) hm (by rw [hz];omega) with ⟨g1,g2⟩ | ⟨cc,P,g1,g2,g3,g4,g5⟩
 ·rcases hF j hj with ⟨k1,k2⟩ | ⟨i,x,k1,k2,-,k4⟩
  ·rw [k1,g2]
   exact cond_t rfl ⟨rfl,S.tail.tail⟩
  ·rw [g1] at k4;cases k4
 rcases hF j hj with ⟨k1,k2⟩ | ⟨i,x,k1,k2,k3,k4⟩
 ·rw [g3] at k2;cases k2
 rw [g3] at k4
 obtain ⟨ehh,eP⟩:cc.s.h=x.h.hh/\P=pgW g x.h x.y.l []:=by
  injection k4 with k4
  injection k4 with k5 k6
  exact ⟨k5,k6⟩
 have hil:i<L.length:=(List.getElem?_eq_some_iff.1 k2).1
 have hxm:x∈L:=List.mem_of_getElem? k2
 rw [g1,g2,if_pos rfl] at S
 rw [k1,g1,g2]
 have hS0:∃ hh:Hh,cc.s.h=hh/\hh=x.h.hh:=⟨_,rfl,ehh⟩
 have hW:=pgW_is (tg:=[]) (by omega) k3.r k3.R k3.b Byt.nil k3.l (.inl rfl)
 have hPl:P.length=(g.s+88).toNat:=by
  rw [eP,hW,List.length_append,payL_length (by omega) k3.l,markL_length _ (.inl rfl)];omega
 have hPb:Byt P:=by
  rw [eP,hW]
  refine Byt.append ?_ (markL_byt k3.R Byt.nil)
  unfold payL
  split
  ·exact Byt.replicate (by decide) (by decide) _
  ·exact k3.b
 have hend:endP g P=markL x.h []:=by rw [eP,hW];exact end_mark (by omega) k3.l
 have hpay:pays g P=payL g x.y.l:=by rw [eP,hW];exact pays_mark (by omega) k3.l
 refine cond_f (decide_eq_false (by omega)) ?_
 refine S.reg λD hD hkeep S T=>?_
 have hb:=hD _ (S.lt 0 rfl)
 obtain ⟨qa,x',hq,hx',hc⟩:=S.nthF (f:=Pt25.vs) (m:=8) 2 rfl ptv_len (by decide) (j:=(i:Int)) (by omega) (by omega)
 rw [Int.toNat_natCast,k2] at hx'
 cases hx'
 have hqb:=(S.own 2 rfl).lt _ hq
 refine cond_f rfl ⟨hb,S.lb0 (o:=2) rfl ⟨⟨by omega,by omega⟩,qa,hq,⟨by rw [add_block];exact hD _ hqb,x.h.tup,hc.take 6,?_⟩⟩⟩
 have hh:(⟨cc.s.h.k,cc.s.h.n,cc.s.h.c,cc.s.h.l,cc.s.h.e,cc.s.h.t⟩:Hd)=x.h:=by rw [ehh];rfl
 refine eqHd (g:=⟨cc.s.h.k,cc.s.h.n,cc.s.h.c,cc.s.h.l,cc.s.h.e,cc.s.h.t⟩) (h:=x.h) ?_
 refine cond_f (by rw [hh];simp) ?_
 have hxb:=h.l.xb _ g5
 have hnn:=h.pi.nn
 have hin:inC s.C cc.s.b cc.s.p:=by
  have e1:(4<=cc.s.b/\cc.s.b<4+(n:Int))/\(1<=cc.s.p/\cc.s.p<g.p):=hxb
  unfold inC;rw [hgg];omega
 have hrd:readC s.C cc.s.b cc.s.p=0:=by unfold readC;rw [hon,if_neg Bool.false_ne_true,if_pos hin]
 refine S.lb0 (o:=0) rfl ?_
 refine (Read_e (bl:=cc.s.b) (pa:=cc.s.p) h.pi.ok (S.fro [8] rfl)).mono ?_
 rintro ⟨⟨ra,rn,rc⟩,(e:Int),⟨⟩⟩ w13 ⟨h13,-,hRd⟩
 dsimp only at h13 hRd ⊢
 rw [hrd] at h13
 subst h13
 have R:=hRd hrd
 rw [g4] at R
 have RI:Ints w13 .u8 ra rn rc P:=R.ints
 have hrn:P.length=rn:=RI.len
 have S:=S.stepE R.ext
 refine cond_f rfl (S.ld1 (j:=2) rfl rfl ⟨Rng.i64 (by omega) (by omega),cond_f ?_ (S.la1 rfl ?_)⟩)
 ·have:((rn:Nat):Int)=g.s+88:=by omega
  simpa using this
 refine (rPRead_c (g:=g) RI (Ext.refl _) hPb ⟨hR,by omega⟩).mono ?_
 rintro ⟨r22,⟨⟩⟩ w14 ⟨x14,-,hok⟩
 dsimp only at hok ⊢
 rw [hend] at hok
 obtain ⟨sv,tv,e22,i22,-⟩:=hok (markL_ok _ k3.R)
 rw [markL_hd _ k3.r,markL_comm _ (.inl rfl)] at e22
 rw [hpay] at i22
 subst e22
 have S:=S.stepE x14
 refine S.newB λb24 w15 S f15 hge=>S.st0 (by rfl) λw16 S f16=>?_
 have e16:Ext w13 w16:=x14.trans (f15.trans' f16 (λk hk=>.inr (by have hk:k=b24:=hk;omega))).ext
 clear T hkeep hb hc hqb hD
 refine S.reg λD hD hkeep S T=>?_
 have hb:=hD _ (S.lt 0 rfl)
 obtain ⟨qa',x',hq',hx',hc⟩:=S.nthF (f:=Pt25.vs) (m:=8) 3 rfl ptv_len (by decide) (j:=(i:Int)) (by omega) (by omega)
 rw [hq] at hq'
 cases hq'
 rw [Int.toNat_natCast,k2] at hx'
 cases hx'
 have hqb:=(S.own 3 rfl).lt _ hq
 refine ⟨hb,S.ld0 (j:=9) rfl rfl (cond_t rfl ⟨hb,S.ld0 (j:=8) rfl rfl (cond_t rfl ⟨hb,S.lb0 (o:=0) rfl ⟨⟨by omega,by omega⟩,qa,hq,⟨by rw [add_block];exact hD _ hqb,x.h.tup,hc.take 6,?_⟩⟩⟩)⟩)⟩
 refine eqHd (g:=x.h) (h:=x.h) ?_
 refine cond_t (by simp) ⟨⟨by omega,by omega⟩,qa,hq,⟨by rw [add_block,add_block];exact hD _ hqb,⟨x.y.a,x.y.n,x.y.c⟩,hc.get (j:=6) rfl,?_⟩⟩
 have fin:∀ {w':World},Ext w16.drew w'->Sep E w0 w' (OwnA e8 8 a nn c (L.flatMap Pt25.vs)::RdL (L.map Pt25.y)::stS sp pp pm p q g s Rs):=λhX=>(S.stepE hX).tail.tail.tail
 refine cond_eq (λh0=>⟨rfl,fin (Ext.refl _)⟩) (λh0=>?_)
 refine ⟨hb,S.ld0 (j:=6) rfl rfl ⟨⟨by omega,by omega⟩,qa,hq,⟨by rw [add_block,add_block];exact hD _ hqb,⟨x.y.a,x.y.n,x.y.c⟩,hc.get (j:=6) rfl,?_⟩⟩⟩
 have hy:=(rdL_mem S 4 rfl (List.mem_map.2 ⟨x,hxm,rfl⟩)).1
 refine (SameBytes_c (i22.ext (e16.trans (Ext.drew _))) hy).mono ?_
 rintro ⟨(r:Bool),⟨⟩⟩ w17 ⟨h17,x17⟩
 dsimp only at h17 ⊢
 have T:=T.stepE x17
 refine ⟨hkeep _ T.fr,?_,fin x17⟩
 rw [h17]
 refine decide_eq_true ?_
 unfold payL
 have h0:((x.y.n:Nat):Int)≠0:=h0
 have:=k3.n
 rw [if_neg (by omega)]
end
end Go.Proofs.YtbaojfchlhlaeaaGreat.Vc
namespace Go.Proofs.YtbaojfchlhlaeaaGreat.Vc
open Go Go.Eng
def law25_StreamEmpties.A:Ann:=.two .no (.two .no (.two .no (.two .no (.two (.two .no (.one (.loop [7,8,9,10,37,38,39,40,41,42,43,44,45,46,47,48,49,50,51,52,53,54,55,56,57,58,59,60,61,62,63,64,65,66] [(7,.one .sl),(8,.one (.int .i64))] (.two .no (.two (.one (.two (.draw (.take 0 (.take 1 (.take 2 (.take 3 (.take 4 (.take 5 (.eff 6 (.done))))))))) (.two (.two (.draw (.take 0 (.take 1 (.take 2 (.take 3 (.take 4 (.take 5 (.take 6 (.take 7 (.both 8 (.take 9 (.take 10 (.take 11 (.eff 12 (.eff 13 (.take 14 (.done))))))) 12 (.eff 8 (.take 9 (.take 10 (.take 11 (.eff 13 (.take 14 (.done))))))))))))))))) .no) .no))) .no))))) (.two .no (.two (.two .no (.one (.loop [4,12,13,71,72,73,74,75,76,77,78,79,80,81,82,83,84,85,86,87,88,89,90,91,92,93,94,95,96,97,98,99,100,101,102,103,104,105,106,107,108,109,110,111,112,113,114,115,116,117,118,119,120,121,122,123,124,125,126,127,128,129,130,131,132,133,134,135,136,137,138,139,140,141,142,143,144,145,146,147] [(12,.one (.int .i64))] (.two .no (.two (.one (.two .no (.two .no (.two (.draw (.take 0 (.take 1 (.take 2 (.take 3 (.take 5 (.take 6 (.take 7 (.take 8 (.take 9 (.eff 4 (.eff 10 (.take 11 (.take 12 (.take 13 (.take 14 (.take 15 (.take 16 (.take 17 (.take 18 (.take 19 (.eff 20 (.take 21 (.take 22 (.take 23 (.take 24 (.take 27 (.take 28 (.take 29 (.take 30 (.eff 25 (.eff 26 (.eff 31 (.take 32 (.take 33 (.take 34 (.take 35 (.take 36 (.take 37 (.eff 38 (.take 39 (.take 40 (.done))))))))))))))))))))))))))))))))))))))))))) .no)))) .no))))) (.two (.two .no (.one (.loop [4,14,15,148,149,150,151,152,153,154,155,156,157,158,159,160,161,162,163,164,165,166,167,168] [(14,.one (.int .i64))] (.two .no (.two (.one (.two .no (.one (.loop [4,15,152,153,154,155,156,157,158,159,160,161,162,163,164,165,166,167,168] [(15,.one (.int .i64))] .no)))) .no))))) (.two .no (.two (.draw (.take 0 (.eff 1 (.eff 2 (.take 3 (.take 4 (.take 5 (.eff 6 (.eff 7 (.eff 8 (.take 9 (.take 10 (.take 11 (.take 12 (.eff 13 (.take 14 (.take 15 (.take 16 (.take 17 (.take 20 (.take 21 (.take 22 (.eff 18 (.eff 19 (.take 23 (.take 24 (.take 25 (.eff 26 (.take 27 (.take 28 (.done))))))))))))))))))))))))))))))) .no)))))))))
def law25_StreamEmpties.P (p0_0 p0_1 p0_2 p0_3 p0_4 p0_5:Int) (a0_6:Option Addr) (n0_6 c0_6:Nat) (p0_7 p0_8:Int) (a0_9:Option Addr) (n0_9 c0_9:Nat) (a1:Option Addr) (n1 c1:Nat) (w:World) (K:Bool×Unit->World->Prop):Prop:=
 NewV #[.int .i64 p0_0,.int .i64 p0_1,.int .i64 p0_2,.int .i64 p0_3,.int .i64 p0_4,.int .i64 p0_5,.slice a0_6 n0_6 c0_6,.int .i64 p0_7,.int .i64 p0_8,.slice a0_9 n0_9 c0_9] 53 w λb1 w2=>
 LoadA w2 ⟨b1,0,none⟩ [.int .i64,.int .i64,.int .i64,.int .i64,.int .i64,.int .i64,.sl,.int .i64,.int .i64,.sl] λ(x3:Int×Int×Int×Int×Int×Int×SlV×Int×Int×SlV×Unit)=>
 CallV Tryz.prog 29 #[.agg #[.int .i64 x3.1,.int .i64 x3.2.1,.int .i64 x3.2.2.1,.int .i64 x3.2.2.2.1,.int .i64 x3.2.2.2.2.1,.int .i64 x3.2.2.2.2.2.1,.slice x3.2.2.2.2.2.2.1.a x3.2.2.2.2.2.2.1.n x3.2.2.2.2.2.2.1.c,.int .i64 x3.2.2.2.2.2.2.2.1,.int .i64 x3.2.2.2.2.2.2.2.2.1,.slice x3.2.2.2.2.2.2.2.2.2.1.a x3.2.2.2.2.2.2.2.2.2.1.n x3.2.2.2.2.2.2.2.2.2.1.c]] w2 [.one .bool] λ(r4:Bool×Unit) w5=>
 cond (!r4.1)
 (CallV Tryz.prog 30 #[] w5 [.one .bool] λ(r6:Bool×Unit) w7=>
 K (r6.1,()) w7)
 (LoadS w5 ⟨b1,6,none⟩ .sl λ(x8:SlV)=>
 cond (decide (((x8.n:Nat):Int)>0))
 (CallV Tryz.prog 30 #[] w5 [.one .bool] λ(r9:Bool×Unit) w10=>
 K (r9.1,()) w10)
 (cond (decide (((n1:Nat):Int)>12))
 (CallV Tryz.prog 30 #[] w5 [.one .bool] λ(r11:Bool×Unit) w12=>
 K (r11.1,()) w12)
 (LoadA w5 ⟨b1,0,none⟩ [.int .i64,.int .i64,.int .i64,.int .i64,.int .i64,.int .i64,.sl,.int .i64,.int .i64,.sl] λ(x13:Int×Int×Int×Int×Int×Int×SlV×Int×Int×SlV×Unit)=>
 CallV Tryz.prog 31 #[.agg #[.int .i64 x13.1,.int .i64 x13.2.1,.int .i64 x13.2.2.1,.int .i64 x13.2.2.2.1,.int .i64 x13.2.2.2.2.1,.int .i64 x13.2.2.2.2.2.1,.slice x13.2.2.2.2.2.2.1.a x13.2.2.2.2.2.2.1.n x13.2.2.2.2.2.2.1.c,.int .i64 x13.2.2.2.2.2.2.2.1,.int .i64 x13.2.2.2.2.2.2.2.2.1,.slice x13.2.2.2.2.2.2.2.2.2.1.a x13.2.2.2.2.2.2.2.2.2.1.n x13.2.2.2.2.2.2.2.2.2.1.c]] w5 [.one .ptr,.one .ptr] λ(r14:(Option Addr)×(Option Addr)×Unit) w15=>
 NewV #[] 65 w15 λb16 w17=>
 LoopV [.one .sl,.one (.int .i64)] ((⟨(some ⟨b16,0,none⟩),0,0⟩:SlV),(0:Int),()) w17 λ(z18:SlV×Int×Unit) w19 (K20:SlV×Int×Unit->World->Prop)=>
 LoadS w19 ⟨b1,9,none⟩ .sl λ(x21:SlV)=>
 cond (decide (z18.2.1<((x21.n:Nat):Int)))
 (DrawV λD22=>
 (D22 b1/\LoadA w19.drew ⟨b1,0,none⟩ [.int .i64,.int .i64,.int .i64,.int .i64,.int .i64,.int .i64,.sl,.int .i64,.int .i64,.sl] λ(x23:Int×Int×Int×Int×Int×Int×SlV×Int×Int×SlV×Unit)=>
 (D22 b1/\LoadS w19.drew ⟨b1,9,none⟩ .sl λ(x24:SlV)=>
 (0<=z18.2.1/\z18.2.1<((x24.n:Nat):Int))/\∃ q25:Addr,x24.a=some q25 /\
 (D22 (q25.add (z18.2.1.toNat*5)).block/\LoadA w19.drew (q25.add (z18.2.1.toNat*5)) [.int .i64,.int .i64,.int .i64,.bool,.int .u8] λ(x26:Int×Int×Int×Bool×Int×Unit)=>
 CallV Tryz.prog 32 #[.agg #[.int .i64 x23.1,.int .i64 x23.2.1,.int .i64 x23.2.2.1,.int .i64 x23.2.2.2.1,.int .i64 x23.2.2.2.2.1,.int .i64 x23.2.2.2.2.2.1,.slice x23.2.2.2.2.2.2.1.a x23.2.2.2.2.2.2.1.n x23.2.2.2.2.2.2.1.c,.int .i64 x23.2.2.2.2.2.2.2.1,.int .i64 x23.2.2.2.2.2.2.2.2.1,.slice x23.2.2.2.2.2.2.2.2.2.1.a x23.2.2.2.2.2.2.2.2.2.1.n x23.2.2.2.2.2.2.2.2.2.1.c],.agg #[.int .i64 x26.1,.int .i64 x26.2.1,.int .i64 x26.2.2.1,.bool x26.2.2.2.1,.int .u8 x26.2.2.2.2.1]] w19.drew [.one .bool] λ(r27:Bool×Unit) w28=>
 KeepOn D22 w19.drew w28 /\
 cond r27.1
 (DrawV λD29=>
 (D29 b1/\LoadA w28.drew ⟨b1,0,none⟩ [.int .i64,.int .i64,.int .i64,.int .i64,.int .i64,.int .i64] λ(x30:Int×Int×Int×Int×Int×Int×Unit)=>
 (D29 b1/\LoadS w28.drew ⟨b1,9,none⟩ .sl λ(x31:SlV)=>
 (0<=z18.2.1/\z18.2.1<((x31.n:Nat):Int))/\∃ q32:Addr,x31.a=some q32 /\
 (D29 (q32.add (z18.2.1.toNat*5)).block/\LoadA w28.drew (q32.add (z18.2.1.toNat*5)) [.int .i64,.int .i64,.int .i64,.bool,.int .u8] λ(x33:Int×Int×Int×Bool×Int×Unit)=>
 ((CallV Tryz.prog 33 #[.pointer r14.1,.agg #[.int .i64 x30.1,.int .i64 x30.2.1,.int .i64 x30.2.2.1,.int .i64 x30.2.2.2.1,.int .i64 x30.2.2.2.2.1,.int .i64 x30.2.2.2.2.2.1],.agg #[.int .i64 x33.1,.int .i64 x33.2.1,.int .i64 x33.2.2.1,.bool x33.2.2.2.1,.int .u8 x33.2.2.2.2.1]] w28.drew [.agg [.int .i64,.int .i64,.int .i64,.int .u32,.int .u64,.int .u64,.sl,.bool],.one (.int .i64)] λ(r34:(Int×Int×Int×Int×Int×Int×SlV×Bool×Unit)×Int×Unit) w35=>
 KeepOn D29 w28.drew w35 /\
 NewV #[.int .i64 0,.int .i64 0,.int .i64 0,.int .u32 0,.int .u64 0,.int .u64 0,.slice none 0 0,.bool false] 65 w35 λb36 w37=>
 KeepOn D29 w28.drew w37 /\
 StoreV w37 ⟨b36,0,none⟩ [.int .i64 r34.1.1,.int .i64 r34.1.2.1,.int .i64 r34.1.2.2.1,.int .u32 r34.1.2.2.2.1,.int .u64 r34.1.2.2.2.2.1,.int .u64 r34.1.2.2.2.2.2.1,.slice r34.1.2.2.2.2.2.2.1.a r34.1.2.2.2.2.2.2.1.n r34.1.2.2.2.2.2.2.1.c,.bool r34.1.2.2.2.2.2.2.2.1] λw38=>
 KeepOn D29 w28.drew w38 /\
 LoadA w38 ⟨b36,0,none⟩ [.int .i64,.int .i64,.int .i64,.int .u32,.int .u64,.int .u64,.sl,.bool] λ(x39:Int×Int×Int×Int×Int×Int×SlV×Bool×Unit)=>
 NewV #[.int .i64 x39.1,.int .i64 x39.2.1,.int .i64 x39.2.2.1,.int .u32 x39.2.2.2.1,.int .u64 x39.2.2.2.2.1,.int .u64 x39.2.2.2.2.2.1,.slice x39.2.2.2.2.2.2.1.a x39.2.2.2.2.2.2.1.n x39.2.2.2.2.2.2.1.c,.bool x39.2.2.2.2.2.2.2.1] 65 w38 λb40 w41=>
 AppS w41 (some ⟨b40,0,none⟩) 1 8 λns46=>
 AppV w41 65 8 80 z18.1.a z18.1.n z18.1.c ns46 1 λa42 n43 c44 w45=>
 Rng .i64 (z18.2.1+1) /\
 K20 ((⟨a42,n43,c44⟩:SlV),z18.2.1+1,()) w45) /\
 (NewV #[.int .i64 0,.int .i64 0,.int .i64 0,.int .u32 0,.int .u64 0,.int .u64 0,.slice none 0 0,.bool false] 65 w28.drew λb47 w48=>
 KeepOn D29 w28.drew w48 /\
 CallV Tryz.prog 33 #[.pointer r14.1,.agg #[.int .i64 x30.1,.int .i64 x30.2.1,.int .i64 x30.2.2.1,.int .i64 x30.2.2.2.1,.int .i64 x30.2.2.2.2.1,.int .i64 x30.2.2.2.2.2.1],.agg #[.int .i64 x33.1,.int .i64 x33.2.1,.int .i64 x33.2.2.1,.bool x33.2.2.2.1,.int .u8 x33.2.2.2.2.1]] w48 [.agg [.int .i64,.int .i64,.int .i64,.int .u32,.int .u64,.int .u64,.sl,.bool],.one (.int .i64)] λ(r49:(Int×Int×Int×Int×Int×Int×SlV×Bool×Unit)×Int×Unit) w50=>
 KeepOn D29 w28.drew w50 /\
 StoreV w50 ⟨b47,0,none⟩ [.int .i64 r49.1.1,.int .i64 r49.1.2.1,.int .i64 r49.1.2.2.1,.int .u32 r49.1.2.2.2.1,.int .u64 r49.1.2.2.2.2.1,.int .u64 r49.1.2.2.2.2.2.1,.slice r49.1.2.2.2.2.2.2.1.a r49.1.2.2.2.2.2.2.1.n r49.1.2.2.2.2.2.2.1.c,.bool r49.1.2.2.2.2.2.2.2.1] λw51=>
 KeepOn D29 w28.drew w51 /\
 LoadA w51 ⟨b47,0,none⟩ [.int .i64,.int .i64,.int .i64,.int .u32,.int .u64,.int .u64,.sl,.bool] λ(x52:Int×Int×Int×Int×Int×Int×SlV×Bool×Unit)=>
 NewV #[.int .i64 x52.1,.int .i64 x52.2.1,.int .i64 x52.2.2.1,.int .u32 x52.2.2.2.1,.int .u64 x52.2.2.2.2.1,.int .u64 x52.2.2.2.2.2.1,.slice x52.2.2.2.2.2.2.1.a x52.2.2.2.2.2.2.1.n x52.2.2.2.2.2.2.1.c,.bool x52.2.2.2.2.2.2.2.1] 65 w51 λb53 w54=>
 AppS w54 (some ⟨b53,0,none⟩) 1 8 λns59=>
 AppV w54 65 8 80 z18.1.a z18.1.n z18.1.c ns59 1 λa55 n56 c57 w58=>
 Rng .i64 (z18.2.1+1) /\
 K20 ((⟨a55,n56,c57⟩:SlV),z18.2.1+1,()) w58))))))
 (Rng .i64 (z18.2.1+1) /\
 K20 (z18.1,z18.2.1+1,()) w28)))))
 (CallV Tryz.prog 26 #[.pointer r14.1] w19 [.one .ptr] λ(r60:(Option Addr)×Unit) w61=>
 CallV Tryz.prog 27 #[.pointer r60.1] w61 [.one .ptr] λ(r62:(Option Addr)×Unit) w63=>
 CallV Tryz.prog 52 #[.pointer r62.1] w63 [.one (.int .i64)] λ(r64:Int×Unit) w65=>
 LoopV [.one (.int .i64)] ((0:Int),()) w65 λ(z66:Int×Unit) w67 (K68:Int×Unit->World->Prop)=>
 cond (decide (z66.1<((n1:Nat):Int)))
 ((0<=z66.1/\z66.1<((n1:Nat):Int))/\∃ q69:Addr,a1=some q69 /\
 LoadS w67 (q69.add (z66.1.toNat*1)) (.int .i64) λ(x70:Int)=>
 CallV Tryz.prog 46 #[.pointer r14.1,.int .i64 x70] w67 [.one (.int .i64)] λ(r71:Int×Unit) w72=>
 (0<=z66.1/\z66.1<((n1:Nat):Int))/\∃ q73:Addr,a1=some q73 /\
 LoadS w72 (q73.add (z66.1.toNat*1)) (.int .i64) λ(x74:Int)=>
 cond (decide (x74<0))
 (cond (r71.1 != 2)
 (K (false,()) w72)
 ((0<=z66.1/\z66.1<((n1:Nat):Int))/\∃ q75:Addr,a1=some q75 /\
 LoadS w72 (q75.add (z66.1.toNat*1)) (.int .i64) λ(x76:Int)=>
 CallV Tryz.prog 47 #[.pointer r14.1,.int .i64 x76] w72 [.one (.int .i64)] λ(r77:Int×Unit) w78=>
 cond (r77.1 != 2)
 (K (false,()) w78)
 (Rng .i64 (z66.1+1) /\
 K68 (z66.1+1,()) w78)))
 ((0<=z66.1/\z66.1<((n1:Nat):Int))/\∃ q79:Addr,a1=some q79 /\
 LoadS w72 (q79.add (z66.1.toNat*1)) (.int .i64) λ(x80:Int)=>
 cond (decide (x80≥r64.1))
 (cond (r71.1 != 2)
 (K (false,()) w72)
 ((0<=z66.1/\z66.1<((n1:Nat):Int))/\∃ q81:Addr,a1=some q81 /\
 LoadS w72 (q81.add (z66.1.toNat*1)) (.int .i64) λ(x82:Int)=>
 CallV Tryz.prog 47 #[.pointer r14.1,.int .i64 x82] w72 [.one (.int .i64)] λ(r83:Int×Unit) w84=>
 cond (r83.1 != 2)
 (K (false,()) w84)
 (Rng .i64 (z66.1+1) /\
 K68 (z66.1+1,()) w84)))
 (DrawV λD85=>
 cond (r71.1 != 0)
 (K (false,()) w72.drew)
 ((0<=z66.1/\z66.1<((n1:Nat):Int))/\∃ q86:Addr,a1=some q86 /\
 (D85 (q86.add (z66.1.toNat*1)).block/\LoadS w72.drew (q86.add (z66.1.toNat*1)) (.int .i64) λ(x87:Int)=>
 Rng .i64 ((4:Int)+x87) /\
 CallV Tryz.prog 24 #[.pointer r14.1] w72.drew [.one .ptr] λ(r88:(Option Addr)×Unit) w89=>
 KeepOn D85 w72.drew w89 /\
 CallV Tryz.prog 53 #[.pointer r88.1,.int .i64 ((4:Int)+x87)] w89 [.one .sl] λ(r90:SlV×Unit) w91=>
 KeepOn D85 w72.drew w91 /\
 cond (decide (((r90.1.n:Nat):Int)>0))
 (K (false,()) w91)
 ((0<=z66.1/\z66.1<((n1:Nat):Int))/\∃ q92:Addr,a1=some q92 /\
 (D85 (q92.add (z66.1.toNat*1)).block/\LoadS w72.drew (q92.add (z66.1.toNat*1)) (.int .i64) λ(x93:Int)=>
 CallV Tryz.prog 47 #[.pointer r14.1,.int .i64 x93] w91 [.one (.int .i64)] λ(r94:Int×Unit) w95=>
 KeepOn D85 w72.drew w95 /\
 cond (r94.1 != 0)
 (K (false,()) w95)
 ((0<=z66.1/\z66.1<((n1:Nat):Int))/\∃ q96:Addr,a1=some q96 /\
 (D85 (q96.add (z66.1.toNat*1)).block/\LoadS w72.drew (q96.add (z66.1.toNat*1)) (.int .i64) λ(x97:Int)=>
 CallV Tryz.prog 26 #[.pointer r14.1] w95 [.one .ptr] λ(r98:(Option Addr)×Unit) w99=>
 KeepOn D85 w72.drew w99 /\
 CallV Tryz.prog 27 #[.pointer r98.1] w99 [.one .ptr] λ(r100:(Option Addr)×Unit) w101=>
 KeepOn D85 w72.drew w101 /\
 CallV Tryz.prog 54 #[.pointer r100.1,.int .i64 x97] w101 [.agg [.int .i64,.int .i64,.int .i64,.int .i64,.bool,.bool,.bool,.bool,.bool]] λ(r102:(Int×Int×Int×Int×Bool×Bool×Bool×Bool×Bool×Unit)×Unit) w103=>
 KeepOn D85 w72.drew w103 /\
 cond (!r102.1.2.2.2.2.2.1)
 (K (false,()) w103)
 ((D85 b1/\LoadA w72.drew ⟨b1,0,none⟩ [.int .i64,.int .i64,.int .i64,.int .i64,.int .i64,.int .i64,.sl,.int .i64,.int .i64,.sl] λ(x104:Int×Int×Int×Int×Int×Int×SlV×Int×Int×SlV×Unit)=>
 CallV Tryz.prog 41 #[.pointer r14.1,.agg #[.int .i64 x104.1,.int .i64 x104.2.1,.int .i64 x104.2.2.1,.int .i64 x104.2.2.2.1,.int .i64 x104.2.2.2.2.1,.int .i64 x104.2.2.2.2.2.1,.slice x104.2.2.2.2.2.2.1.a x104.2.2.2.2.2.2.1.n x104.2.2.2.2.2.2.1.c,.int .i64 x104.2.2.2.2.2.2.2.1,.int .i64 x104.2.2.2.2.2.2.2.2.1,.slice x104.2.2.2.2.2.2.2.2.2.1.a x104.2.2.2.2.2.2.2.2.2.1.n x104.2.2.2.2.2.2.2.2.2.1.c]] w103 [.one .bool] λ(r105:Bool×Unit) w106=>
 KeepOn D85 w72.drew w106 /\
 cond (!r105.1)
 (K (false,()) w106)
 (Rng .i64 (z66.1+1) /\
 K68 (z66.1+1,()) w106))))))))))))
 (LoopV [.one (.int .i64)] ((0:Int),()) w67 λ(z107:Int×Unit) w108 (K109:Int×Unit->World->Prop)=>
 cond (decide (z107.1<2))
 (LoopV [.one (.int .i64)] ((0:Int),()) w108 λ(z110:Int×Unit) w111 (K112:Int×Unit->World->Prop)=>
 (0<=z107.1/\z107.1<(2:Int)) /\
 LoadS w111 ((⟨b1,7,none⟩:Addr).add (z107.1.toNat*1)) (.int .i64) λ(x113:Int)=>
 cond (decide (z110.1<x113))
 (LoadA w111 ⟨b1,0,none⟩ [.int .i64,.int .i64,.int .i64,.int .i64,.int .i64,.int .i64] λ(x114:Int×Int×Int×Int×Int×Int×Unit)=>
 CallV Tryz.prog 55 #[.pointer r14.1,.pointer r14.2.1,.agg #[.int .i64 x114.1,.int .i64 x114.2.1,.int .i64 x114.2.2.1,.int .i64 x114.2.2.2.1,.int .i64 x114.2.2.2.2.1,.int .i64 x114.2.2.2.2.2.1],.slice z18.1.a z18.1.n z18.1.c,.int .i64 z107.1,.int .i64 z110.1] w111 [.one .bool] λ(r115:Bool×Unit) w116=>
 cond (!r115.1)
 (K (false,()) w116)
 (Rng .i64 (z110.1+1) /\
 K112 (z110.1+1,()) w116))
 (Rng .i64 (z107.1+1) /\
 K109 (z107.1+1,()) w111))
 (CallV Tryz.prog 44 #[.pointer r14.1,.int .i64 1] w108 [] λ(r117:Unit) w118=>
 DrawV λD119=>
 CallV Tryz.prog 24 #[.pointer r14.1] w118.drew [.one .ptr] λ(r120:(Option Addr)×Unit) w121=>
 KeepOn D119 w118.drew w121 /\
 CallV Tryz.prog 25 #[.pointer r120.1,.int .i64 1] w121 [.one (.int .i64)] λ(r122:Int×Unit) w123=>
 KeepOn D119 w118.drew w123 /\
 cond (r122.1 == 0)
 (CallV Tryz.prog 26 #[.pointer r14.1] w123 [.one .ptr] λ(r124:(Option Addr)×Unit) w125=>
 KeepOn D119 w118.drew w125 /\
 CallV Tryz.prog 27 #[.pointer r124.1] w125 [.one .ptr] λ(r126:(Option Addr)×Unit) w127=>
 KeepOn D119 w118.drew w127 /\
 CallV Tryz.prog 28 #[.pointer r126.1,.int .i64 1] w127 [.one (.int .i64)] λ(r128:Int×Unit) w129=>
 KeepOn D119 w118.drew w129 /\
 cond (r128.1 == 0)
 (CallV Tryz.prog 49 #[.pointer r14.1,.int .i64 1] w129 [.one (.int .i64)] λ(r130:Int×Unit) w131=>
 KeepOn D119 w118.drew w131 /\
 cond (r130.1 == (-1))
 ((0<=(0:Int)/\0<(2:Int)) /\
 (D119 b1/\LoadS w118.drew ⟨b1,7,none⟩ (.int .i64) λ(x132:Int)=>
 CallV Tryz.prog 24 #[.pointer r14.1] w131 [.one .ptr] λ(r133:(Option Addr)×Unit) w134=>
 KeepOn D119 w118.drew w134 /\
 CallV Tryz.prog 25 #[.pointer r133.1,.int .i64 0] w134 [.one (.int .i64)] λ(r135:Int×Unit) w136=>
 KeepOn D119 w118.drew w136 /\
 cond (r135.1 == x132)
 (CallV Tryz.prog 30 #[] w136 [.one .bool] λ(r137:Bool×Unit) w138=>
 KeepOn D119 w118.drew w138 /\
 K (r137.1,()) w138)
 (K (false,()) w136)))
 (K (false,()) w131))
 (K (false,()) w129))
 (K (false,()) w123)))))))
theorem law25_StreamEmpties.vc (p0_0 p0_1 p0_2 p0_3 p0_4 p0_5:Int) (a0_6:Option Addr) (n0_6 c0_6:Nat) (p0_7 p0_8:Int) (a0_9:Option Addr) (n0_9 c0_9:Nat) (a1:Option Addr) (n1 c1:Nat) (w:World) (K:Bool×Unit->World->Prop) (h:law25_StreamEmpties.P p0_0 p0_1 p0_2 p0_3 p0_4 p0_5 a0_6 n0_6 c0_6 p0_7 p0_8 a0_9 n0_9 c0_9 a1 n1 c1 w K):CallV Tryz.prog 7 #[.agg #[.int .i64 p0_0,.int .i64 p0_1,.int .i64 p0_2,.int .i64 p0_3,.int .i64 p0_4,.int .i64 p0_5,.slice a0_6 n0_6 c0_6,.int .i64 p0_7,.int .i64 p0_8,.slice a0_9 n0_9 c0_9],.slice a1 n1 c1] w [.one .bool] K:=by
 refine vcFun.of (A:=law25_StreamEmpties.A) (wr:=false) okf_ok follows h Tryz.func7 ?_
 kernel_rfl
end Go.Proofs.YtbaojfchlhlaeaaGreat.Vc
namespace Go.Proofs.YtbaojfchlhlaeaaGreat.Vc
open Go Go.Eng Go.RowKit
theorem lin_ints25 {w:World} {x:SlP Int} (h:(Ty.sl (.int .i64)).rd w All x):Ints w .i64 x.a x.n x.c x.l:=by
 obtain ⟨h1,h2,h3,h4,-⟩:=h
 have hm:maxLen=9223372036854775807:=by decide
 refine ⟨h1,h2,by omega,?_⟩
 have e:∀ l:List Int,l.flatMap (Ty.vs (.int .i64))=l.map (Value.int .i64):=λl=>by
  induction l with
  | nil=>rfl
  | cons x l ih=>
   show Value.int .i64 x::l.flatMap _=_
   rw [ih];rfl
 have:=h4.rdc
 rw [e] at this
 exact this
theorem rd_add {E:Nat->Prop} {w0 w:World} {Rs:List Asr} {a:SlP Int} {l:List (SlP Int)} (S:Sep E w0 w (RdL [a]::RdL l::Rs)):Sep E w0 w (RdL (l++[a])::Rs):=
 S.conv2 λF1 F2 h1 h2 _ x hx=>by
  rcases List.mem_append.1 hx with e | e
  ·exact TB.rd_mono (λk hk _=>.inr hk) (h2 x e)
  ·rw [List.mem_singleton.1 e];exact TB.rd_mono (λk hk _=>.inl hk) (h1 a (List.mem_singleton.2 rfl))
theorem put_may {s:SD} {hd:Hd} {xs tg:List Int} (h:(putS s hd xs tg).2=0):mayP s hd:=by
 refine Classical.byContradiction λk=>?_
 unfold putS at h
 rw [if_pos k] at h
 cases h
section
variable {E:Nat->Prop} {w0 w:World} {Rs:List Asr} {sp pp pm p q n:Nat} {g:Geo} {s:SD} {F:HasF}
theorem may_b (h:SI g n s) (hz:∀ ns,(getX s.X ns).n<=255) {x:St25} (hm:mayP (nxtS s (hd25 x)).1 (nxtS s (hd25 x)).2):HRight (nxtS s (hd25 x)).2/\0<=(nxtS s (hd25 x)).2.c/\(nxtS s (hd25 x)).2.c<=65535:=by
 have h1:=may_ns hm
 have h2:=hm.2.2.1
 have h3:=hz (nxtS s (hd25 x)).2.n
 have h4:=hm.2.1
 have h5:=hm.1
 have h2:(nxtS s (hd25 x)).2.c<=((getX s.X (nxtS s (hd25 x)).2.n).n:Int):=h2
 unfold HRight
 omega
theorem KE.do25 {L:List Pt25} {z0 z1:Int} {x:St25} {y:SlP Int} (hz:∀ ns,(getX s.X ns).n<=255) (hy:y.l=pl25 g x) (hyn:y.l.length=y.n) (hK:KE F s) (hF:∀ m,m=0\/m=1->Kp25 g F L m (szOf z0 z1 m)) (h:NI g n s) (hG:GD n s) (hct:s.ct<=1000000) (ho:s.C.ops+55051264<=1000000000000) :
  ∃ F',KE F' (Vc.do25 g s x).1/\(∀ m,m=0\/m=1->Kp25 g F' (L++[⟨(nxtS s (hd25 x)).2,y,(Vc.do25 g s x).2 == 0⟩]) m (szOf z0 z1 m))/\(Vc.do25 g s x).1.ct=s.ct+1:=by
 have h1:=(h.i.nxt (hd25 x)).2
 have hb:Byt (pl25 g x):=by unfold pl25;split;exact Byt.nil;exact payM_byt _ _ _
 have hD:=h1.put (xs:=pl25 g x) (tg:=[]) (nxt_rng h.i (hd25_rng x)) hb Byt.nil ho
 have hR:=h.i.pi.R
 have hs:=hR.sec
 have hl:(pl25 g x).length=0\/((pl25 g x).length:Int)=g.s:=by
  unfold pl25
  split
  ·exact .inl rfl
  ·right;rw [payM_len];omega
 have hc0:=h.i.ct
 have hu:u64w (s.ct+1)=s.ct+1:=by
  have:u64w (s.ct+1)=(s.ct+1) % 18446744073709551616:=by simp [u64w,IntKind.wrap,IntKind.signed,IntKind.bits]
  unfold u64R at hc0
  omega
 have hct1:(Vc.do25 g s x).1.ct=s.ct+1:=by
  have:(Vc.do25 g s x).1.ct=(nxtS s (hd25 x)).1.ct:=hD.ct
  rw [this];exact hu
 refine ⟨_,hK.put (hd0:=hd25 x) (P:=pgW g (nxtS s (hd25 x)).2 (pl25 g x) []) (λT=>h.do25 (T:=T) hG x hz ho) hD.ep hct1 ⟨hc0.1,by omega⟩,λm hm=>?_,hct1⟩
 have k:=(hF m hm).put (x:=⟨(nxtS s (hd25 x)).2,y,(Vc.do25 g s x).2 == 0⟩) λhok=>by
  have e0:(Vc.do25 g s x).2=0:=eq_of_beq hok
  exact ⟨nxt_rng h.i (hd25_rng x),(may_b h.i hz (put_may e0)).1,by dsimp only;rw [hy];exact hb,by dsimp only;rw [hy];exact hl,hyn⟩
 dsimp only at k
 rw [hy] at k
 by_cases e0:(Vc.do25 g s x).2=0
 ·rw [if_pos e0]
  rw [if_pos (by rw [e0];rfl)] at k
  exact k
 ·rw [if_neg e0]
  rw [if_neg (λq=>e0 (eq_of_beq q))] at k
  exact k
theorem right25_c {f:SlP TF.T} {z0 z1:Int} {st:SlV} {x:St25} (hz0:1<=z0/\z0<=65535) (hz1:1<=z1/\z1<=65535) :
  CallV Tryz.prog 32 #[.agg (casV25 g f z0 z1 st).toArray,x.val] w [.one .bool] λr w'=>Ext w w':=by
 apply law25_right.vc
 unfold law25_right.P
 have S:=Sep.start NoB w
 have core:∀ {w':World} {b1 b3:Nat} {D:Nat->Prop} {K:Int->Prop},Sep NoB w w' [BoxA b3 58 [.int .i64 x.ns,.int .i64 x.lba,.int .i64 x.c,.bool x.t,.int .u8 x.sd],BoxA b1 53 (casV25 g f z0 z1 st)]->(∀ b,b<w'.heap.size->D b)->(x.ns=0\/x.ns=1)->K (szOf z0 z1 x.ns) ->
   (0<=x.ns/\x.ns<(2:Int))/\(D ((⟨b1,7,none⟩:Addr).add (x.ns.toNat*1)).block/\LoadS w' ((⟨b1,7,none⟩:Addr).add (x.ns.toNat*1)) (.int .i64) K):=λ{w' b1 b3 D K} S hD hns k=>by
  have hb1:=hD _ (S.lt 1 rfl)
  rcases hns with e | e
  ·rw [e] at k ⊢
   rw [(add7 b1).1]
   exact ⟨⟨by decide,by decide⟩,hb1,S.ld1 (j:=7) rfl rfl k⟩
  ·rw [e] at k ⊢
   rw [(add7 b1).2]
   exact ⟨⟨by decide,by decide⟩,hb1,S.ld1 (j:=8) rfl rfl k⟩
 have hsz:∀ m,m=0\/m=1->1<=szOf z0 z1 m/\szOf z0 z1 m<=65535:=λm hm=>by
  rcases hm with e | e
  ·subst e;exact hz0
  ·subst e;exact hz1
 refine S.newB (vs:=casV25 g f z0 z1 st) λb1 w1 S f1 _=>S.newB (vs:=[.int .i64 x.ns,.int .i64 x.lba,.int .i64 x.c,.bool x.t,.int .u8 x.sd]) λb3 w2 S f2 _=>S.ld0 (j:=3) rfl rfl (cond_of (λht=>?_) (λht=>?_))
 ·refine S.ld0 (j:=2) rfl rfl ?_
  refine S.reg λD hD hkeep S T=>?_
  have hb:=hD _ (S.lt 0 rfl)
  refine ⟨hb,S.ld0 (j:=0) rfl rfl (cond_d (λh1=>?_) (λ_=>S.ext))⟩
  refine ⟨hb,S.ld0 (j:=0) rfl rfl (cond_d (λh2=>?_) (λ_=>S.ext))⟩
  have hns:x.ns=0\/x.ns=1:=by omega
  have hss:=hsz x.ns hns
  refine cond_d (λh3=>?_) (λ_=>S.ext)
  refine ⟨hb,S.ld0 (j:=0) rfl rfl (core S hD hns (cond_d (λh4=>?_) (λ_=>S.ext)))⟩
  refine ⟨hb,S.ld0 (j:=1) rfl rfl (cond_d (λh5=>?_) (λ_=>S.ext))⟩
  have h3:x.c≥1:=h3
  exact ⟨hb,S.ld0 (j:=1) rfl rfl ⟨hb,S.ld0 (j:=0) rfl rfl (core S hD hns ⟨Rng.i64 (by omega) (by omega),S.ext⟩)⟩⟩
 ·refine S.reg λD hD hkeep S T=>?_
  have hb:=hD _ (S.lt 0 rfl)
  refine ⟨hb,S.ld0 (j:=0) rfl rfl (cond_d (λh1=>?_) (λ_=>S.ext))⟩
  refine ⟨hb,S.ld0 (j:=0) rfl rfl (cond_d (λh2=>?_) (λ_=>S.ext))⟩
  have hns:x.ns=0\/x.ns=1:=by omega
  have hss:=hsz x.ns hns
  refine ⟨hb,S.ld0 (j:=0) rfl rfl (core S hD hns (cond_d (λh4=>?_) (λ_=>S.ext)))⟩
  refine ⟨hb,S.ld0 (j:=1) rfl rfl (cond_d (λh5=>?_) (λ_=>S.ext))⟩
  exact ⟨hb,S.ld0 (j:=1) rfl rfl ⟨hb,S.ld0 (j:=0) rfl rfl (core S hD hns ⟨Rng.i64 (by omega) (by omega),S.ext⟩)⟩⟩
end
abbrev St25.vs (x:St25):List Value:=[.int .i64 x.ns,.int .i64 x.lba,.int .i64 x.c,.bool x.t,.int .u8 x.sd]
section
variable {E:Nat->Prop} {w0 w:World} {Rs:List Asr} {sp pp pm p q n:Nat} {g:Geo} {s:SD} {F:HasF}
theorem s00_M {pl:List FD} {X:List (SlP Ce)} {z0 z1:Int} (hX:New0 X z0.toNat z1.toNat) (hz:fitE g [z0,z1]=0):RM (nG g) (s00 g pl X):=by
 obtain ⟨hR,hz',-,hs⟩:=fitE_zero.1 hz
 have a:=hz' z0 List.mem_cons_self
 have b:=hz' z1 (List.mem_cons_of_mem _ List.mem_cons_self)
 have hk:=hR.1
 unfold Kept at hk
 unfold qs qs qs at hs
 have e:∀ m,capS (s00 g pl X) m=if m=0 then quo g z0-1 else if m=1 then quo g z1-1 else 0:=λm=>by
  unfold capS quoS
  show (if (getX X m).n=0 then 0 else quo g ((getX X m).n:Int)-1)=_
  rw [hX.n]
  by_cases e0:m=0
  ·rw [if_pos e0,if_pos e0,if_neg (by omega),Int.toNat_of_nonneg (by omega)]
  ·rw [if_neg e0,if_neg e0]
   by_cases e1:m=1
   ·rw [if_pos e1,if_pos e1,if_neg (by omega),Int.toNat_of_nonneg (by omega)]
   ·rw [if_neg e1,if_neg e1,if_pos rfl]
 unfold RM
 rw [e,e,e,e]
 have hn:((nG g:Nat):Int)=g.b-4:=by unfold nG;omega
 rw [hn]
 rw [if_pos rfl,if_neg (by decide),if_pos rfl,if_neg (by decide),if_neg (by decide),if_neg (by decide),if_neg (by decide)]
 omega
end
def opE25 (i:Nat):Nat:=215042*i
theorem opE25s (i:Nat):opE25 (i+1)=opE25 i+215042:=Nat.mul_succ _ _
theorem opE25_le {i:Nat} (h:i<=12):opE25 i<=2580504:=Nat.mul_le_mul (Nat.le_refl 215042) h
theorem zf_do25 {g:Geo} {n:Nat} {s:SD} (h:NI g n s) (hZ:ZI n s) (hG:GD n s) (hM:RM n s) (hz:∀ ns,(getX s.X ns).n<=255) (x:St25) (ho:s.C.ops+55051264<=1000000000000):ZI n (do25 g s x).1:=by
 have hN:NI g n (nxtS s (hd25 x)).1:=⟨(h.i.nxt (hd25 x)).2,h.c⟩
 have hb:Byt (pl25 g x):=by unfold pl25;split;exact Byt.nil;exact payM_byt _ _ _
 have hs:=h.i.pi.R.sec
 have hl:(pl25 g x).length=0\/((pl25 g x).length:Int)=g.s:=by
  unfold pl25
  split
  ·exact .inl rfl
  ·right;rw [payM_len];omega
 exact put_zf hN ⟨hZ.pl,hZ.ro,hZ.nb⟩ hG hM (nxt_rng h.i (hd25_rng x)) (λhm=>(may_b h.i hz hm).1) hb Byt.nil hl (.inl rfl) ho
theorem StreamEmpties_law {w:World} {g:Geo} {f:SlP TF.T} {st:SlP TSt25.T} {bs:SlP Int} {z0 z1:Int} (hf:LF.rd w All f) (hs:LSt25.rd w All st) (hbs:(Ty.sl (.int .i64)).rd w All bs) :
  CallV Tryz.prog 7 #[.agg (casV25 g f z0 z1 ⟨st.a,st.n,st.c⟩).toArray,.slice bs.a bs.n bs.c] w [.one .bool] λr w'=>r.1=true/\Ext w w':=by
 apply law25_StreamEmpties.vc
 unfold law25_StreamEmpties.P
 have S:=Sep.start NoB w
 refine S.newB (vs:=casV25 g f z0 z1 ⟨st.a,st.n,st.c⟩) λb1 w1 S f1 _=>S.la0 rfl ?_
 refine (light25_c (g:=g) (f:=f) (z0:=z0) (z1:=z1) (st:=st) (Ty.rd_ext S.ext _ hf) (Ty.rd_ext S.ext _ hs)).mono ?_
 rintro ⟨(r:Bool),⟨⟩⟩ w2 ⟨h2,x2⟩
 dsimp only at h2 ⊢
 have S:=S.stepE x2
 refine cond_of (λhr=>?_) (λhr=>?_)
 ·exact awake25_c.mono λr w5 ⟨h5,x5⟩=>⟨h5,S.ext.trans x5⟩
 obtain hL:=h2 (by cases r;cases hr;rfl)
 refine S.ld0 (j:=6) rfl rfl (cond_d (λhp=>?_) (λhp=>?_))
 ·exact awake25_c.mono λr w5 ⟨h5,x5⟩=>⟨h5,S.ext.trans x5⟩
 refine cond_d (λh12=>?_) (λh12=>?_)
 ·exact awake25_c.mono λr w5 ⟨h5,x5⟩=>⟨h5,S.ext.trans x5⟩
 have hbn:bs.n<=12:=by
  have h12:¬ ((bs.n:Nat):Int)>12:=h12
  omega
 have hpl:fds f=[]:=by
  refine List.length_eq_zero_iff.1 ?_
  rw [LF_len hf]
  have hp:¬ ((f.n:Nat):Int)>0:=hp
  omega
 have hz:=(fitE_zero.1 hL.z).2.1
 have hz0:=hz z0 List.mem_cons_self
 have hz1:=hz z1 (List.mem_cons_of_mem _ List.mem_cons_self)
 have hsm:=fit_small hL.b hL.p hL.z
 have hg:LG g:=⟨hL.b,by have:=hL.p;omega,hL.s⟩
 refine S.la0 rfl ?_
 refine (made25_c (g:=g) (f:=f) (z0:=z0) (z1:=z1) (st:=⟨st.a,st.n,st.c⟩) (Ty.rd_ext S.ext _ hf) hL.R hL.F hg hz0 hz1).mono ?_
 rintro ⟨sv,cv,⟨⟩⟩ w4 ⟨sp,pp,pm,p,q,X,h1,h2,hX,S4⟩
 dsimp only at h1 h2 ⊢
 subst h1;subst h2
 have S:Sep NoB w w4 (stS sp pp pm p q g (s00 g (fds f) X) [BoxA b1 53 (casV25 g f z0 z1 ⟨st.a,st.n,st.c⟩)]):=S.frame0 S4
 clear S4
 rw [hpl] at S
 obtain ⟨hI,hG⟩:NI g (nG g) (s00 g [] X)/\GD (nG g) (s00 g [] X):=s00_N hL.R hg (λF hF=>(List.not_mem_nil hF).elim) hX (λF hF=>(List.not_mem_nil hF).elim)
 have hK0:KE noF (s00 g [] X):=KE.new hX
 have hM0:RM (nG g) (s00 g [] X):=s00_M hX hL.z
 have hZ0:ZI (nG g) (s00 g [] X):=⟨rfl,rfl,λi hi=>by rw [show gx (s00 g [] X).L i=Blk.new from rep_gx (nG g) hi];rfl⟩
 have hX255:∀ ns,(getX X ns).n<=255:=λns=>by
  rw [hX.n]
  split
  ·omega
  ·split <;> omega
 have hl:st.l.length=st.n:=hs.1
 have hn:=hL.n
 refine S.newB (vs:=[]) λb16 w5 S f5 _=>?_
 have S:=S.asOwn (sz:=8) (n:=0) rfl (by omega) oneAll.nil
 have S:Sep NoB w w5 (OwnA 65 8 (some ⟨b16,0,none⟩) 0 0 (([]:List Pt25).flatMap Pt25.vs)::RdL (([]:List Pt25).map Pt25.y)::stS sp pp pm p q g (s00 g [] X) [BoxA b1 53 (casV25 g f z0 z1 ⟨st.a,st.n,st.c⟩)]):=(S.rdNil.conv λF hF _ x hx=>(List.not_mem_nil hx).elim).fro [1] rfl
 refine Loop1 (λ(v:SlV×Int×Unit) w'=>∃ (i:Nat) (t:SD) (L:List Pt25) (F:HasF),v.2.1=(i:Int)/\i<=st.n/\NI g (nG g) t/\ZI (nG g) t/\GD (nG g) t/\RM (nG g) t/\KE F t/\(∀ m,m=0\/m=1->Kp25 g F L m (szOf z0 z1 m))/\(∀ x∈L,x.ok=true->x.h.rng/\0<=x.h.c/\x.h.c<=65535)/\L.length<=i/\t.ct<=(i:Int)/\t.C.ops<=opC25 i/\(∀ m,(getX t.X m).n=(getX X m).n) /\
   Sep NoB w w' (OwnA 65 8 v.1.a v.1.n v.1.c (L.flatMap Pt25.vs)::RdL (L.map Pt25.y)::stS sp pp pm p q g t [BoxA b1 53 (casV25 g f z0 z1 ⟨st.a,st.n,st.c⟩)])) (λ(v:SlV×Int×Unit) _=>((st.n:Int)-v.2.1).toNat)
  ⟨0,s00 g [] X,[],noF,rfl,Nat.zero_le _,hI,hZ0,hG,hM0,hK0,λm _=>Kp25.nil g m _,λx hx=>(List.not_mem_nil hx).elim,Nat.zero_le _,by show (0:Int)<=0;decide,Nat.zero_le _,λ_=>rfl,S⟩ ?_
 clear S hI hG hM0 hZ0 hK0
 rintro ⟨⟨sa,sn,sc⟩,(v:Int),⟨⟩⟩ w6 ⟨i,t,L,F,hv,hi,ht,hZ,hG,hM,hK,hF,hB,hll,hct,hop,hsz,S⟩
 dsimp only at hv S ⊢
 subst hv
 refine S.ld7 (j:=9) rfl rfl (cond_d (λhlt=>?_) (λhge=>?_))
 ·have hlt:(i:Int)<((st.n:Nat):Int):=hlt
  have hos:=opC25s i
  have hol:=opC25_le (i:=i) (by omega)
  obtain ⟨qa,y,hq,hy,hc,hr,hGq,hqb⟩:=Ty.nth (LSt25.rd_mono (G':=λk=>k<w.heap.size) (λk _ hk=>hk) hs) (i:=(i:Int)) (by omega) hlt (by decide)
  rw [Int.toNat_natCast] at hy hc
  obtain ⟨(xn:Int),(xl:Int),(xc:Int),(xt:Bool),(xs:Int),⟨⟩⟩:=y
  have hsz2:w.heap.size<=w6.heap.size:=S.ext.size
  have hb0:=S.lt 7 rfl
  refine S.reg λD hD hkeep S' U=>?_
  refine ⟨hD _ hb0,S'.la7 rfl ⟨hD _ hb0,S'.ld7 (j:=9) rfl rfl ⟨⟨by omega,hlt⟩,qa,hq,by rw [add_block];exact hD _ (by omega),(xn,xl,xc,xt,xs,()),S'.ext.cells hc,?_⟩⟩⟩
  refine (right25_c (g:=g) (f:=f) (z0:=z0) (z1:=z1) (st:=⟨st.a,st.n,st.c⟩) (x:=⟨xn,xl,xc,xt,xs⟩) hz0 hz1).mono ?_
  rintro ⟨(r:Bool),⟨⟩⟩ w7 x7
  have S:=S'.stepE x7
  refine ⟨hkeep _ (U.stepE x7).fr,cond_of (λhr=>?_) (λhr=>?_)⟩
  case refine_2=>exact ⟨Rng.i64 (by omega) (by omega),⟨i+1,t,L,F,by push_cast;rfl,by omega,ht,hZ,hG,hM,hK,hF,hB,by omega,by push_cast;omega,by omega,hsz,S⟩,by omega⟩
  have S:Sep NoB w w7 ([boxSt sp pp pm g t,mapE pm t.X,polE pp p q g t.O,ledE q t.L,chipE p t.C]++[OwnA 65 8 sa sn sc (L.flatMap Pt25.vs),RdL (L.map Pt25.y),BoxA b1 53 (casV25 g f z0 z1 ⟨st.a,st.n,st.c⟩)]):=S.fro [2,2,2,2,2] rfl
  refine Sep.regC [boxSt sp pp pm g t,mapE pm t.X,polE pp p q g t.O,ledE q t.L,chipE p t.C] S λG D hG2 T S hDt hDo hkeep back=>?_
  have T:Sep G w7.drew w7.drew (stS sp pp pm p q g t []):=T
  have hb:=hDt 2 _ _ _ rfl
  have hDq:=hDo _ hGq (λx=>x)
  have hz255:∀ ns,(getX t.X ns).n<=255:=λns=>by rw [hsz];exact hX255 ns
  have P:=ht.do25 (T:=λ_=>[]) hG ⟨xn,xl,xc,xt,xs⟩ hz255 (by omega)
  have hZ':=zf_do25 ht hZ hG hM hz255 ⟨xn,xl,xc,xt,xs⟩ (by omega)
  obtain ⟨d1,d2,d3,d4⟩:=ht.i.do25 ⟨xn,xl,xc,xt,xs⟩ (by omega)
  have hN1:=P.ni
  have hG1:=P.gd hG
  have hM1:=hM.of ht.i hN1.i d4
  clear P
  refine ⟨hb,S.lb7 (o:=0) rfl ⟨hb,S.ld7 (j:=9) rfl rfl ⟨⟨by omega,hlt⟩,qa,hq,by rw [add_block];exact hDq,(xn,xl,xc,xt,xs,()),S.ext.cells hc,?_⟩⟩⟩
  have fin:∀ {w38:World} {b36:Nat} {y:SlP Int},y.l=pl25 g ⟨xn,xl,xc,xt,xs⟩->Sep NoB w w38 (BoxA b36 65 (⟨(nxtS t (hd25 ⟨xn,xl,xc,xt,xs⟩)).2,y,(do25 g t ⟨xn,xl,xc,xt,xs⟩).2 == 0⟩:Pt25).vs::RdL [y]::OwnA 65 8 sa sn sc (L.flatMap Pt25.vs)::RdL (L.map Pt25.y)::stS sp pp pm p q g (do25 g t ⟨xn,xl,xc,xt,xs⟩).1 [BoxA b1 53 (casV25 g f z0 z1 ⟨st.a,st.n,st.c⟩)]) ->
    LoadA w38 ⟨b36,0,none⟩ [.int .i64,.int .i64,.int .i64,.int .u32,.int .u64,.int .u64,.sl,.bool] λ(x39:Int×Int×Int×Int×Int×Int×SlV×Bool×Unit)=>
    NewV #[.int .i64 x39.1,.int .i64 x39.2.1,.int .i64 x39.2.2.1,.int .u32 x39.2.2.2.1,.int .u64 x39.2.2.2.2.1,.int .u64 x39.2.2.2.2.2.1,.slice x39.2.2.2.2.2.2.1.a x39.2.2.2.2.2.2.1.n x39.2.2.2.2.2.2.1.c,.bool x39.2.2.2.2.2.2.2.1] 65 w38 λb40 w41=>
    AppS w41 (some ⟨b40,0,none⟩) 1 8 λns46=>
    AppV w41 65 8 80 sa sn sc ns46 1 λa42 n43 c44 w45=>
    Rng .i64 ((i:Int)+1)/\(∃ (i':Nat) (t:SD) (L:List Pt25) (F:HasF),(((⟨a42,n43,c44⟩:SlV),(i:Int)+1,()):SlV×Int×Unit).2.1=(i':Int)/\i'<=st.n/\NI g (nG g) t/\ZI (nG g) t/\GD (nG g) t/\RM (nG g) t/\KE F t/\(∀ m,m=0\/m=1->Kp25 g F L m (szOf z0 z1 m))/\(∀ x∈L,x.ok=true->x.h.rng/\0<=x.h.c/\x.h.c<=65535)/\L.length<=i'/\t.ct<=(i':Int)/\t.C.ops<=opC25 i'/\(∀ m,(getX t.X m).n=(getX X m).n) /\
     Sep NoB w w45 (OwnA 65 8 a42 n43 c44 (L.flatMap Pt25.vs)::RdL (L.map Pt25.y)::stS sp pp pm p q g t [BoxA b1 53 (casV25 g f z0 z1 ⟨st.a,st.n,st.c⟩)]))/\((st.n:Int)-(((⟨a42,n43,c44⟩:SlV),(i:Int)+1,()):SlV×Int×Unit).2.1).toNat<((st.n:Int)-(i:Int)).toNat:=@λw38 b36 y hy S=>by
   refine S.la0 rfl ?_
   refine S.newB (vs:=(⟨(nxtS t (hd25 ⟨xn,xl,xc,xt,xs⟩)).2,y,(do25 g t ⟨xn,xl,xc,xt,xs⟩).2 == 0⟩:Pt25).vs) λb40 w41 S f41 _=>?_
   have hyn:y.l.length=y.n:=(rdL_mem S 2 rfl (List.mem_singleton.2 rfl)).1.len
   obtain ⟨F',hK',hF',hct'⟩:=KE.do25 (x:=⟨xn,xl,xc,xt,xs⟩) (z0:=z0) (z1:=z1) hz255 hy hyn hK hF ht hG (by omega) (by omega)
   have hsn:L.length=sn:=(S.own 3 rfl).lenF ptv_len (by decide)
   refine AppS.of (news:=(⟨(nxtS t (hd25 ⟨xn,xl,xc,xt,xs⟩)).2,y,(do25 g t ⟨xn,xl,xc,xt,xs⟩).2 == 0⟩:Pt25).vs) rfl (.inr ⟨_,rfl,S.cells 0 rfl⟩) ?_
   have S:=S.fro [0,2] rfl
   refine S.ap1 rfl (ptv_one _) (by omega) (by omega) λa' c' w9 S f9=>⟨Rng.i64 (by omega) (by omega),⟨i+1,_,L++[⟨(nxtS t (hd25 ⟨xn,xl,xc,xt,xs⟩)).2,y,(do25 g t ⟨xn,xl,xc,xt,xs⟩).2 == 0⟩],F',by push_cast;rfl,by omega,hN1,hZ',hG1,hM1,hK',hF',λx hx hok=>?_,by rw [List.length_append];show L.length+1<=i+1;omega,by rw [hct'];push_cast;omega,by omega,λm=>(d4 m).trans (hsz m),?_⟩,by dsimp only;omega⟩
   ·rcases List.mem_append.1 hx with k | k
    ·exact hB x k hok
    ·rw [List.mem_singleton.1 k] at hok ⊢
     exact ⟨nxt_rng ht.i (hd25_rng _),(may_b ht.i hz255 (put_may (eq_of_beq hok))).2⟩
   ·have e:(L++[(⟨(nxtS t (hd25 ⟨xn,xl,xc,xt,xs⟩)).2,y,(do25 g t ⟨xn,xl,xc,xt,xs⟩).2 == 0⟩:Pt25)]).flatMap Pt25.vs=L.flatMap Pt25.vs++(⟨(nxtS t (hd25 ⟨xn,xl,xc,xt,xs⟩)).2,y,(do25 g t ⟨xn,xl,xc,xt,xs⟩).2 == 0⟩:Pt25).vs:=by
     rw [List.flatMap_append]
     simp only [List.flatMap_cons,List.flatMap_nil,List.append_nil]
    rw [e,List.map_append]
    have S:=rd_add ((S.tail.fro [2,2] rfl))
    exact (S.fro [2] rfl).tail.fro [1] rfl
  refine ⟨?_,?_⟩
  ·refine (put25_c (x:=⟨xn,xl,xc,xt,xs⟩) ht.i (by omega) T).mono ?_
   rintro ⟨r,(e:Int),⟨⟩⟩ w8 ⟨y,hy,h4,-,T⟩
   dsimp only at h4 T ⊢
   subst h4
   refine ⟨hkeep _ T.fr,T.newB λb36 w9 T f9 _=>⟨hkeep _ T.fr,T.st0 (by rfl) λw10 T f10=>⟨hkeep _ T.fr,?_⟩⟩⟩
   have S:=back _ _ T
   exact fin hy (S.fro [0,5,5,5] rfl)
  ·refine T.newB λb36 w8 T f9 _=>⟨hkeep _ T.fr,?_⟩
   refine (put25_c (x:=⟨xn,xl,xc,xt,xs⟩) ht.i (by omega) (T.fro [1,1,1,1,1] rfl)).mono ?_
   rintro ⟨r,(e:Int),⟨⟩⟩ w9 ⟨y,hy,h4,-,T⟩
   dsimp only at h4 T ⊢
   subst h4
   refine ⟨hkeep _ T.fr,(T.fro [6] rfl).st0 (by rfl) λw10 T f10=>⟨hkeep _ T.fr,?_⟩⟩
   have S:=back _ _ T
   exact fin hy (S.fro [0,5,5,5] rfl)
 clear hge
 have hol:=opC25_le (i:=i) (by omega)
 have S1:Sep NoB w w6 (stS sp pp pm p q g t [OwnA 65 8 sa sn sc (L.flatMap Pt25.vs),RdL (L.map Pt25.y),BoxA b1 53 (casV25 g f z0 z1 ⟨st.a,st.n,st.c⟩)]):=S.fro [2,2,2,2,2] rfl
 refine (Pool25_c S1).mono ?_
 rintro ⟨r,⟨⟩⟩ w20 ⟨h20,rfl⟩
 dsimp only at h20 ⊢
 subst h20
 refine ldg0 S1 ((Len_e (S1.fro [3] rfl)).mono ?_)
 rintro ⟨(r:Int),⟨⟩⟩ w21 ⟨h21,rfl⟩
 dsimp only at h21 ⊢
 rw [ht.i.ln] at h21
 subst h21
 have hbI:=lin_ints25 hbs
 refine Loop1 (λ(v:Int×Unit) w'=>∃ (k:Nat) (u:SD),v.1=(k:Int)/\k<=bs.n/\NI g (nG g) u/\ZI (nG g) u/\GD (nG g) u/\RM (nG g) u/\KE F u/\u.C.ops<=8257689600+opE25 k/\(∀ m,(getX u.X m).n=(getX X m).n) /\
   Sep NoB w w' (stS sp pp pm p q g u [OwnA 65 8 sa sn sc (L.flatMap Pt25.vs),RdL (L.map Pt25.y),BoxA b1 53 (casV25 g f z0 z1 ⟨st.a,st.n,st.c⟩)])) (λ(v:Int×Unit) _=>((bs.n:Int)-v.1).toNat)
  ⟨0,t,rfl,Nat.zero_le _,ht,hZ,hG,hM,hK,by show _<=8257689600+0;omega,hsz,S1⟩ ?_
 clear S S1 hK hZ hG hM
 rintro ⟨(v:Int),⟨⟩⟩ w22 ⟨k,u,hv,hk,hu,hZ,hG,hM,hK,huo,husz,S⟩
 dsimp only at hv
 subst hv
 have hek:=opE25_le (i:=k) (by omega)
 refine cond_d (λhlt=>?_) (λhge=>?_)
 ·have hlt:(k:Int)<((bs.n:Nat):Int):=hlt
  have hes:=opE25s k
  have hbl:bs.l.length=bs.n:=hbI.len
  obtain ⟨qa,hq,hqb,hqc⟩:=hbI.at (i:=(k:Int)) (by omega) hlt
  generalize bs.l.getD (k:Int).toNat 0=b at hqc
  have ldb:∀ {w':World} {K:Int->Prop},Ext w w'->K b->LoadS w' (qa.add ((k:Int).toNat*1)) (.int .i64) K:=λ{w' K} hX hk=>⟨b,(cell_same (by rw [add_block];exact hX.block _ hqb)).trans hqc,hk⟩
  refine ⟨⟨by omega,hlt⟩,qa,hq,ldb S.ext ?_⟩
  refine (Empty25_c (b:=b) hu.i (by omega) S).mono ?_
  rintro ⟨(r:Int),⟨⟩⟩ w23 ⟨h23,S⟩
  dsimp only at h23 S ⊢
  subst h23
  refine ⟨⟨by omega,hlt⟩,qa,hq,ldb S.ext ?_⟩
  have bad:¬ (0<=b/\b<((nG g:Nat):Int))->emtS u b=(u,2)/\dstS u b=(u,2):=λhb=>by
   constructor
   ·unfold emtS;rw [if_pos (by rw [hu.i.ln];exact hb)]
   ·unfold dstS;rw [if_neg (by rw [hu.i.ln];exact hb)]
  have inv:¬ (0<=b/\b<((nG g:Nat):Int))->∀ {KF:World->Prop},cond ((emtS u b).2 != 2) (KF w23)
    ((0<=(k:Int)/\(k:Int)<((bs.n:Nat):Int))/\∃ q75:Addr,bs.a=some q75 /\
    LoadS w23 (q75.add ((k:Int).toNat*1)) (.int .i64) λ(x76:Int)=>
    CallV Tryz.prog 47 #[.pointer (some ⟨sp,0,none⟩),.int .i64 x76] w23 [.one (.int .i64)] λ(r77:Int×Unit) w78=>
    cond (r77.1 != 2) (KF w78)
    (Rng .i64 ((k:Int)+1)/\(∃ (k':Nat) (u:SD),(((k:Int)+1,()):Int×Unit).1=(k':Int)/\k'<=bs.n/\NI g (nG g) u/\ZI (nG g) u/\GD (nG g) u/\RM (nG g) u/\KE F u/\u.C.ops<=8257689600+opE25 k'/\(∀ m,(getX u.X m).n=(getX X m).n) /\
     Sep NoB w w78 (stS sp pp pm p q g u [OwnA 65 8 sa sn sc (L.flatMap Pt25.vs),RdL (L.map Pt25.y),BoxA b1 53 (casV25 g f z0 z1 ⟨st.a,st.n,st.c⟩)]))/\((bs.n:Int)-(((k:Int)+1,()):Int×Unit).1).toNat<((bs.n:Int)-(k:Int)).toNat)):=λhb KF=>by
   obtain ⟨e1,e2⟩:=bad hb
   rw [e1] at S ⊢
   refine cond_f rfl ⟨⟨by omega,hlt⟩,qa,hq,ldb S.ext ?_⟩
   refine (Destroy25_c (b:=b) hu.i (λk=>absurd k hb) (by omega) S).mono ?_
   rintro ⟨(r:Int),⟨⟩⟩ w24 ⟨h24,S⟩
   dsimp only at h24 S ⊢
   rw [e2] at h24 S
   subst h24
   exact cond_f rfl ⟨Rng.i64 (by omega) (by omega),⟨k+1,u,by push_cast;rfl,by omega,hu,hZ,hG,hM,hK,by omega,husz,S⟩,by omega⟩
  refine cond_d (λhb0=>?_) (λhb0=>?_)
  ·exact inv (by omega) (KF:=λw'=>false=true/\Ext w w')
  refine ⟨⟨by omega,hlt⟩,qa,hq,ldb S.ext (cond_d (λhb1=>?_) (λhb1=>?_))⟩
  ·exact inv (by omega) (KF:=λw'=>false=true/\Ext w w')
  clear inv bad
  have hb:0<=b/\b<((nG g:Nat):Int):=⟨by omega,by omega⟩
  have hn60:=hu.i.no.1
  obtain ⟨N1,-,-,-,hhe⟩:=hu.emt (T:=λ_=>[]) hG hb (by omega)
  have S1:=λT=>(hu.emt (T:=T) hG hb (by omega)).2.1
  obtain ⟨e1,e2⟩:=emtS_zf hu hZ hG hM hb (by omega)
  have Z1:ZI (nG g) (emtS u b).1:=by
   rcases e2 with ⟨-,e⟩ | ⟨-,e⟩
   ·rw [e];exact hZ
   ·exact e.z
  have st1:=(hu.i.emt (b:=b) (by omega)).1
  have hhe:=hhe e1
  have o1:=st1.o2
  have G1:=(S1 λ_=>[]).gd hG
  have M1:=hM.of hu.i N1.i st1.sz
  have K1:=hK.st S1 st1.ep st1.ct
  have sz1:=st1.sz
  rw [e1]
  generalize (emtS u b).1=v at S N1 S1 Z1 st1 hhe o1 G1 M1 K1 sz1 ⊢
  have S:Sep NoB w w23 ([boxSt sp pp pm g v,mapE pm v.X,polE pp p q g v.O,ledE q v.L,chipE p v.C]++[OwnA 65 8 sa sn sc (L.flatMap Pt25.vs),RdL (L.map Pt25.y),BoxA b1 53 (casV25 g f z0 z1 ⟨st.a,st.n,st.c⟩)]):=S
  have X23:=S.ext
  refine Sep.regC [boxSt sp pp pm g v,mapE pm v.X,polE pp p q g v.O,ledE q v.L,chipE p v.C] S λG D hG2 T S hDt hDo hkeep back=>?_
  have T:Sep G w23.drew w23.drew (stS sp pp pm p q g v []):=T
  have hbD:=hDt 2 _ _ _ rfl
  have hDq:D (qa.add ((k:Int).toNat*1)).block:=by rw [add_block];exact hDo _ hqb (λx=>x)
  have Xd:Ext w w23.drew:=X23.trans (Ext.drew _)
  refine cond_f rfl ⟨⟨by omega,hlt⟩,qa,hq,⟨hDq,ldb Xd ⟨Rng.i64 (by omega) (by omega),?_⟩⟩⟩
  refine (Map25_c T).mono ?_
  rintro ⟨r,⟨⟩⟩ w24 ⟨h24,rfl⟩
  dsimp only at h24 ⊢
  subst h24
  refine ⟨hkeep _ T.fr,(In_m (bl:=4+b) N1.i (T.fro [1] rfl)).mono ?_⟩
  rintro ⟨⟨oa,on,oc⟩,⟨⟩⟩ w25 ⟨Os,hO,T⟩
  dsimp only at T ⊢
  have hon:=outS_n T
  have hnil:inP v.X (4+b)=[]:=inP_nil λkk hkk h1=>N1.i.l.none hb (N1.i.l.free (by omega) hhe) (k:=kk) hkk h1
  rw [hnil] at hO
  have hon0:on=0:=by rw [<-hon,List.map_eq_nil_iff.1 hO];rfl
  have T:Sep G w23.drew w25 (stS sp pp pm p q g v []):=T.tail.fro [1] rfl
  refine ⟨hkeep _ T.fr,cond_f (decide_eq_false (by omega)) ⟨⟨by omega,hlt⟩,qa,hq,⟨hDq,ldb Xd ?_⟩⟩⟩
  obtain ⟨d1,d2,d3⟩:=dstS_zf N1 Z1 hb
  obtain ⟨N2,-⟩:=N1.dstN (T:=λ_=>[]) hb hhe (by omega)
  have S2:=λT=>(N1.dstN (T:=T) hb hhe (by omega)).2.1
  have st2:=(N1.i.dst (b:=b) (λ_=>hhe) (by omega)).1
  have o2:=st2.o2
  have hclb:(gx (dstS v b).1.L b.toNat).cl=true:=by rw [d2,gx_eq N1.i.ln hb];rfl
  refine (Destroy25_c (b:=b) N1.i (λ_=>hhe) (by omega) T).mono ?_
  rintro ⟨(r:Int),⟨⟩⟩ w26 ⟨h26,T⟩
  dsimp only at h26 T ⊢
  rw [d1] at h26
  subst h26
  have G2:=(S2 λ_=>[]).gd G1
  have M2:=M1.of N1.i N2.i st2.sz
  have K2:=K1.st S2 st2.ep st2.ct
  have sz2:=st2.sz
  generalize (dstS v b).1=x at T N2 S2 d3 st2 o2 hclb G2 M2 K2 sz2
  refine ⟨hkeep _ T.fr,cond_f rfl ⟨⟨by omega,hlt⟩,qa,hq,⟨hDq,ldb Xd ?_⟩⟩⟩
  refine (Pool25_c T).mono ?_
  rintro ⟨r,⟨⟩⟩ w27 ⟨h27,rfl⟩
  dsimp only at h27 ⊢
  subst h27
  refine ⟨hkeep _ T.fr,ldg0 T ⟨hkeep _ T.fr,(At_e (b:=b) (T.fro [3] rfl) ⟨hb.1,by rw [N2.i.ln];exact hb.2⟩).mono ?_⟩⟩
  rintro ⟨xx,⟨⟩⟩ w28 ⟨h28,x28⟩
  dsimp only at h28 ⊢
  subst h28
  have T:=T.stepE x28
  refine ⟨hkeep _ T.fr,cond_f (by show (!(gx x.L b.toNat).cl)=false;rw [hclb];rfl) ⟨hbD,S.la7 rfl ?_⟩⟩
  have szx:∀ m,(getX x.X m).n=(getX X m).n:=λm=>(sz2 m).trans ((sz1 m).trans (husz m))
  refine (counted25_c (f:=f) (z0:=z0) (z1:=z1) (st:=⟨st.a,st.n,st.c⟩) N2.i G2 (λns=>by rw [szx];exact hX.n ns) hz0 hz1 T).mono ?_
  rintro ⟨(r:Bool),⟨⟩⟩ w29 ⟨h29,T⟩
  dsimp only at h29 T ⊢
  subst h29
  refine ⟨hkeep _ T.fr,cond_f rfl ⟨Rng.i64 (by omega) (by omega),⟨k+1,x,by push_cast;rfl,by omega,N2,d3,G2,M2,K2,by omega,szx,back _ _ T⟩,by omega⟩⟩
 clear hge
 have zm:∀ m,m=0\/m=1->(getX u.X m).n=(szOf z0 z1 m).toNat/\1<=szOf z0 z1 m/\szOf z0 z1 m<=65535:=λm hm=>by
  rw [husz,hX.n]
  rcases hm with e | e
  ·subst e;exact ⟨rfl,hz0⟩
  ·subst e;exact ⟨rfl,hz1⟩
 have S:Sep NoB w w22 (OwnA 65 8 sa sn sc (L.flatMap Pt25.vs)::RdL (L.map Pt25.y)::stS sp pp pm p q g u [BoxA b1 53 (casV25 g f z0 z1 ⟨st.a,st.n,st.c⟩)]):=S.fro [5,5] rfl
 refine Loop1 (λ(v:Int×Unit) w'=>(v.1=0\/v.1=1\/v.1=2)/\Sep NoB w w' (OwnA 65 8 sa sn sc (L.flatMap Pt25.vs)::RdL (L.map Pt25.y)::stS sp pp pm p q g u [BoxA b1 53 (casV25 g f z0 z1 ⟨st.a,st.n,st.c⟩)])) (λ(v:Int×Unit) _=>(2-v.1).toNat) ⟨.inl rfl,S⟩ ?_
 clear S
 rintro ⟨(m:Int),⟨⟩⟩ w40 ⟨hv,S⟩
 dsimp only at hv S ⊢
 refine cond_d (λhlt=>?_) (λhge=>?_)
 ·have hm:m=0\/m=1:=by omega
  have hld:∀ {w':World} {K:Int->Prop},Sep NoB w w' (OwnA 65 8 sa sn sc (L.flatMap Pt25.vs)::RdL (L.map Pt25.y)::stS sp pp pm p q g u [BoxA b1 53 (casV25 g f z0 z1 ⟨st.a,st.n,st.c⟩)])->K (szOf z0 z1 m)->LoadS w' ((⟨b1,7,none⟩:Addr).add (m.toNat*1)) (.int .i64) K:=λS k=>by
   rcases hm with e | e
   ·subst e
    rw [(add7 b1).1]
    exact S.ld7 (j:=7) rfl rfl k
   ·subst e
    rw [(add7 b1).2]
    exact S.ld7 (j:=8) rfl rfl k
  obtain ⟨y1,y2,y3⟩:=zm m hm
  refine Loop1 (λ(v:Int×Unit) w'=>∃ j:Nat,v.1=(j:Int)/\(j:Int)<=szOf z0 z1 m/\Sep NoB w w' (OwnA 65 8 sa sn sc (L.flatMap Pt25.vs)::RdL (L.map Pt25.y)::stS sp pp pm p q g u [BoxA b1 53 (casV25 g f z0 z1 ⟨st.a,st.n,st.c⟩)])) (λ(v:Int×Unit) _=>(szOf z0 z1 m-v.1).toNat) ⟨0,rfl,by show (0:Int)<=_;omega,S⟩ ?_
  clear S
  rintro ⟨(v:Int),⟨⟩⟩ w41 ⟨j,hv2,hj,S⟩
  dsimp only at hv2 S ⊢
  subst hv2
  refine ⟨⟨by omega,by omega⟩,hld S (cond_d (λhlt2=>?_) (λhge2=>?_))⟩
  ·refine S.lb7 (o:=0) rfl ?_
   refine (found25_c (m:=m) (z:=szOf z0 z1 m) (j:=j) (by omega) hu.i hu.c.nf.1 hK y1 hlt2 (hF m hm) hB S).mono ?_
   rintro ⟨(r:Bool),⟨⟩⟩ w42 ⟨h42,S⟩
   dsimp only at h42 S ⊢
   subst h42
   exact cond_f rfl ⟨Rng.i64 (by omega) (by omega),⟨j+1,by push_cast;rfl,by push_cast;omega,S⟩,by omega⟩
  ·exact ⟨Rng.i64 (by omega) (by omega),⟨by omega,S⟩,by omega⟩
 have S:Sep NoB w w40 (stS sp pp pm p q g u [OwnA 65 8 sa sn sc (L.flatMap Pt25.vs),RdL (L.map Pt25.y),BoxA b1 53 (casV25 g f z0 z1 ⟨st.a,st.n,st.c⟩)]):=S.fro [2,2,2,2,2] rfl
 refine (Forget25_c (ns:=1) hu.i S).mono ?_
 rintro ⟨⟩ w43 S
 have hns:(0:Int)<=1/\(1:Int)<4:=by decide
 have hIf:=hu.i.fgt hns
 obtain ⟨k1,-,-,k4⟩:=fgt_f hu.i hns
 have k3:(getX (fgtS u 1).X 1).n=0:=by rw [k1,(drp_get hu.i.xo hns 1).2,if_pos rfl]
 have k5:(getX (fgtS u 1).X 0).n=z0.toNat:=by rw [k1,(drp_get hu.i.xo hns 0).2,if_neg (by decide)];exact (zm 0 (.inl rfl)).1
 have k6:=fgt_held hu.i hns
 generalize fgtS u 1=y at S hIf k3 k4 k5 k6
 refine S.reg λD hD hkeep S T=>?_
 have hbD:=hD _ (S.lt 7 rfl)
 refine (Map25_c S).mono ?_
 rintro ⟨r,⟨⟩⟩ w44 ⟨h44,rfl⟩
 dsimp only at h44 ⊢
 subst h44
 refine ⟨hkeep _ T.fr,(Size_m (ns:=1) hIf.xo.four (S.fro [1] rfl)).mono ?_⟩
 rintro ⟨(r:Int),⟨⟩⟩ w45 ⟨h45,rfl⟩
 dsimp only at h45 ⊢
 rw [k3] at h45
 subst h45
 refine ⟨hkeep _ T.fr,cond_t rfl ?_⟩
 refine (Pool25_c S).mono ?_
 rintro ⟨r,⟨⟩⟩ w46 ⟨h46,rfl⟩
 dsimp only at h46 ⊢
 subst h46
 refine ⟨hkeep _ T.fr,ldg0 S ⟨hkeep _ T.fr,(Held_e (ns:=1) hIf.len6 (S.fro [3] rfl)).mono ?_⟩⟩
 rintro ⟨(r:Int),⟨⟩⟩ w47 ⟨h47,x47⟩
 dsimp only at h47 ⊢
 rw [show manyT y.L (ownB 1) y.L.length=0 from k6] at h47
 subst h47
 have T:=T.stepE x47
 have S':=S.stepE x47
 refine ⟨hkeep _ T.fr,cond_t rfl ?_⟩
 refine (Front_c (ns:=1) hIf.fl S').mono ?_
 rintro ⟨(r:Int),⟨⟩⟩ w48 ⟨h48,rfl⟩
 dsimp only at h48 ⊢
 rw [if_pos (by decide),k4] at h48
 subst h48
 refine ⟨hkeep _ T.fr,cond_t rfl ⟨⟨by decide,by decide⟩,⟨hbD,S.ld7 (j:=7) rfl rfl ?_⟩⟩⟩
 refine (Map25_c S').mono ?_
 rintro ⟨r,⟨⟩⟩ w49 ⟨h49,rfl⟩
 dsimp only at h49 ⊢
 subst h49
 refine ⟨hkeep _ T.fr,(Size_m (ns:=0) hIf.xo.four (S'.fro [1] rfl)).mono ?_⟩
 rintro ⟨(r:Int),⟨⟩⟩ w50 ⟨h50,rfl⟩
 dsimp only at h50 ⊢
 rw [k5] at h50
 subst h50
 refine ⟨hkeep _ T.fr,cond_t (by rw [Int.toNat_of_nonneg (by omega)];simp) ?_⟩
 refine awake25_c.mono ?_
 rintro ⟨(r:Bool),⟨⟩⟩ w51 ⟨h51,x51⟩
 have T:=T.stepE x51
 exact ⟨hkeep _ T.fr,h51,S'.ext.trans x51⟩
theorem StreamEmpties_of {w:World} {x:TCs25.T} {a:Option Addr} {n c k:Nat} {xs:List Int} (g0:TCs25.ok w x) (g1:SlI w .i64 a n c xs k) :
  CallV Tryz.prog 7 #[.agg (TCs25.vs x).toArray,.slice a n c] w [.one .bool] λr w'=>r.1=true/\Ext w w':=by
 obtain ⟨⟨b,p,s,sp,wr,ro,⟨⟩⟩,f,⟨z0,z1,⟨⟩⟩,l,⟨⟩⟩:=x
 have hy:(Ty.sl (.int .i64)).rd w All ⟨a,n,c,xs⟩:=by
  have hm:=maxLen_eq
  have h:=g1.ints
  refine ⟨h.len,h.cap,by have:=h.lim;show n<=maxLen;omega,?_,λy hy=>g1.rng y hy⟩
  rw [show xs.flatMap (Ty.int .i64).vs=xs.map (Value.int .i64) from flat_ints .i64 _]
  exact .of h.rd
 exact StreamEmpties_law (g:=⟨b,p,s,sp,wr,ro⟩) (f:=f) (st:=l) (bs:=⟨a,n,c,xs⟩) (z0:=z0) (z1:=z1) (LF.rd_of g0.2.1) (LSt25.rd_of g0.2.2.2.1) hy
end Go.Proofs.YtbaojfchlhlaeaaGreat.Vc
