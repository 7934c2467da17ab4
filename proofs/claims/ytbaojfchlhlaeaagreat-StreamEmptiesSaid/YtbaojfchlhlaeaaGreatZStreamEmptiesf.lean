/- Texts in one: Plain laws of layer 25 (stream): what is kept of the ledger and the map, whatever fails. Plain laws of layer 25 (stream): what is kept by each operation, whatever fails. Plain laws of layer 25 (stream): live places, moved to a block; a block, emptied; a page, written. A map's entry, set. The contracts of layer 22 (pagemap): a namespace less, a place moved, data. The contracts of layer 22 (pagemap): spots, sorted by their places. The contracts of layer 22 (pagemap): a block's live places. The plans of functions as plain statements, printed by wip/tools/vcgen.py; the kernel holds each to the code. The contracts of layer 25 (stream): its parts, and what does little. Plain laws of layer 25 (stream): a block that is spoilt, a block emptied, room made, a front that failed, a page written: what is kept. Plain laws of layer 25 (stream): a spot put where a page was written; a namespace forgotten: what is kept. -/
import Derived.Test.YtbaojfchlhlaeaaGreatZStreamEmptiese
set_option linter.unusedVariables false
set_option linter.unusedSimpArgs false
namespace Go.Proofs.YtbaojfchlhlaeaaGreat.Vc
open Go Go.Eng Go.RowKit
theorem gx_ch {b:Int} {n:Nat} {φ:Blk->Blk} {L:List Blk} (hl:L.length=n) (i:Nat):gx (chL b n φ L) i=if (0<=b/\b<(n:Int))/\i=b.toNat then φ (gx L i) else gx L i:=by
 unfold chL
 by_cases hb:0<=b/\b<(n:Int)
 ·rw [if_pos (show inB b n from hb)]
  by_cases hi:i=b.toNat
  ·subst hi
   rw [if_pos ⟨hb,rfl⟩]
   show (L.set b.toNat _).getD b.toNat default=_
   rw [List.getD_eq_getElem?_getD,List.getElem?_set_self (by omega)]
   rfl
  ·rw [if_neg (λh=>hi h.2)]
   show (L.set b.toNat _).getD i default=L.getD i default
   rw [List.getD_eq_getElem?_getD,List.getElem?_set_ne (λe=>hi e.symm),<- List.getD_eq_getElem?_getD]
 ·rw [if_neg (show ¬ inB b n from hb),if_neg (λh=>hb h.1)]
theorem mem_gx {L:List Blk} {x:Blk} (h:x∈L):∃ i,i<L.length/\gx L i=x:=by
 obtain ⟨i,hi,rfl⟩:=List.getElem_of_mem h
 refine ⟨i,hi,?_⟩
 show L.getD i default=_
 rw [List.getD_eq_getElem?_getD,List.getElem?_eq_getElem hi]
 rfl
theorem inP_mem {X:List (SlP Ce)} {bl:Int} {k:Int×Int}:k∈inP X bl↔k.1=bl/\(0<=k.2/\k.2<32)/\1<=cntX X k:=by
 unfold inP
 rw [List.mem_filter,List.mem_map,decide_eq_true_iff]
 constructor
 ·rintro ⟨⟨i,hi,rfl⟩,h2⟩
  have:=List.mem_range.1 hi
  exact ⟨rfl,⟨by dsimp only;omega,by dsimp only;omega⟩,h2⟩
 ·rintro ⟨h1,h2,h3⟩
  refine ⟨⟨k.2.toNat,List.mem_range.2 (by omega),Prod.ext h1.symm (by dsimp only;omega)⟩,h3⟩
theorem inP_so (X:List (SlP Ce)) (bl:Int):(inP X bl).Pairwise plL:=by
 unfold inP
 refine List.Pairwise.filter _ (List.pairwise_map.2 (List.pairwise_lt_range.imp λ{a b} h=>?_))
 exact .inr ⟨rfl,by dsimp only;omega⟩
theorem so_nd {l:List (Int×Int)} (h:l.Pairwise plL):l.Nodup:=h.imp λ{a b} h e=>by subst e;unfold plL at h;omega
structure LI (X:List (SlP Ce)) (p:Int) (n:Nat) (L:List Blk):Prop where
 pp:4<=p/\p<=32
 four:X.length=4
 ll:L.length=n
 xb:∀ k,1<=cntX X k->(4<=k.1/\k.1<4+(n:Int))/\(1<=k.2/\k.2<p)
 us:∀ i,i<n->0<=(gx L i).us/\(gx L i).us<=p-1
 li:∀ i,i<n->(gx L i).li=((inP X (4+(i:Int))).length:Int)
 he:∀ i,i<n->(gx L i).li≠0->(gx L i).he=true
 ho:∀ i,i<n->(gx L i).he=true->0<=(gx L i).ow/\(gx L i).ow<4
 pu:∀ k,1<=cntX X k->k.2<=(gx L (k.1-4).toNat).us
 ow:∀ (ns:Int) (j:Nat) (c:Ce),(0<=ns/\ns<4)->(getX X ns).l[j]? = some c->c.has=true->(gx L (c.s.b-4).toNat).ow=ns
section
variable {X:List (SlP Ce)} {p:Int} {n:Nat} {L:List Blk}
theorem LI.none (h:LI X p n L) {b:Int} (hb:0<=b/\b<(n:Int)) (h0:(gx L b.toNat).li=0) {k:Int×Int} (hk:k.1=4+b):¬ 1<=cntX X k:=λh1=>by
 have e:=h.li b.toNat (by omega)
 rw [h0,show 4+((b.toNat:Nat):Int)=4+b by omega] at e
 have e2:inP X (4+b)=[]:=List.length_eq_zero_iff.1 (by omega)
 have:=(inP_mem (X:=X) (bl:=4+b) (k:=k)).2 ⟨hk,⟨by have:=(h.xb k h1).2;omega,by have:=(h.xb k h1).2;have:=h.pp;omega⟩,h1⟩
 rw [e2] at this
 cases this
theorem LI.ch1 (h:LI X p n L) (b:Int) {φ:Blk->Blk} (h1:∀ x,(φ x).ow=x.ow) (h2:∀ x,(φ x).li=x.li) (h3:∀ x,(φ x).he=x.he) (h4:0<=b/\b<(n:Int)->(gx L b.toNat).us<=(φ (gx L b.toNat)).us/\(φ (gx L b.toNat)).us<=p-1):LI X p n (chL b n φ L):=by
 have g:=gx_ch (b:=b) (φ:=φ) h.ll
 have go:∀ i,(gx (chL b n φ L) i).ow=(gx L i).ow:=λi=>by rw [g];split;exact h1 _;rfl
 have gl:∀ i,(gx (chL b n φ L) i).li=(gx L i).li:=λi=>by rw [g];split;exact h2 _;rfl
 have gh:∀ i,(gx (chL b n φ L) i).he=(gx L i).he:=λi=>by rw [g];split;exact h3 _;rfl
 have gu:∀ i,(gx L i).us<=(gx (chL b n φ L) i).us:=λi=>by
  rw [g];split
  ·rename_i e;rw [e.2];exact (h4 e.1).1
  ·exact Int.le_refl _
 refine ⟨h.pp,h.four,by rw [chL_len];exact h.ll,h.xb,λi hi=>⟨Int.le_trans (h.us i hi).1 (gu i),?_⟩,λi hi=>by rw [gl];exact h.li i hi,λi hi e=>by rw [gh];exact h.he i hi (by rw [<-gl];exact e),λi hi e=>by rw [go];exact h.ho i hi (by rw [<-gh];exact e),λk hk=>Int.le_trans (h.pu k hk) (gu _),λns j c hn hj hc=>by rw [go];exact h.ow ns j c hn hj hc⟩
 rw [g];split
 ·rename_i e;rw [e.2];exact (h4 e.1).2
 ·exact (h.us i hi).2
theorem LI.ch0 (h:LI X p n L) (b:Int) {φ:Blk->Blk} (h0:0<=b/\b<(n:Int)->(gx L b.toNat).li=0/\(φ (gx L b.toNat)).li=0/\(0<=(φ (gx L b.toNat)).us/\(φ (gx L b.toNat)).us<=p-1)/\((φ (gx L b.toNat)).he=true->0<=(φ (gx L b.toNat)).ow/\(φ (gx L b.toNat)).ow<4)):LI X p n (chL b n φ L):=by
 have g:=gx_ch (b:=b) (φ:=φ) h.ll
 refine ⟨h.pp,h.four,by rw [chL_len];exact h.ll,h.xb,λi hi=>?_,λi hi=>?_,λi hi e=>?_,λi hi e=>?_,λk hk=>?_,λns j c hn hj hc=>?_⟩
 ·rw [g];split
  ·rename_i e;rw [e.2];exact (h0 e.1).2.2.1
  ·exact h.us i hi
 ·rw [g];split
  ·rename_i e;have:=h.li i hi;rw [e.2] at this⊢;rw [(h0 e.1).2.1,<- this];exact (h0 e.1).1.symm
  ·exact h.li i hi
 ·rw [g] at e⊢;split
  ·rename_i e1;rw [if_pos e1,e1.2] at e;exact absurd (h0 e1.1).2.1 e
  ·rename_i e1;rw [if_neg e1] at e;exact h.he i hi e
 ·rw [g] at e⊢;split
  ·rename_i e1;rw [if_pos e1,e1.2] at e;rw [e1.2];exact (h0 e1.1).2.2.2 e
  ·rename_i e1;rw [if_neg e1] at e;exact h.ho i hi e
 ·rw [g,if_neg]
  ·exact h.pu k hk
  ·rintro ⟨e1,e2⟩
   exact h.none e1 (h0 e1).1 (k:=k) (by have:=(h.xb k hk).1;omega) hk
 ·rw [g,if_neg]
  ·exact h.ow ns j c hn hj hc
  ·rintro ⟨e1,e2⟩
   have hk:=cntX_pos h.four hn hj hc
   exact h.none e1 (h0 e1).1 (k:=c.pl) (by have:=(h.xb _ hk).1;show c.s.b=4+b;change 4<=c.s.b/\_ at this;omega) hk
theorem LI.f (h:LI X p n L) (b:Int):LI X p n (chL b n fB L):=h.ch1 b (λ_=>rfl) (λ_=>rfl) (λ_=>rfl) λhb=>⟨Int.le_refl _,(h.us _ (by omega)).2⟩
theorem LI.u (h:LI X p n L) (b:Int) (hu:0<=b/\b<(n:Int)->(gx L b.toNat).us+1<=p-1):LI X p n (chL b n uB L):=h.ch1 b (λ_=>rfl) (λ_=>rfl) (λ_=>rfl) λhb=>⟨by show _<=(gx L b.toNat).us+1;omega,hu hb⟩
theorem LI.r (h:LI X p n L) (b:Int) (h0:0<=b/\b<(n:Int)->(gx L b.toNat).li=0):LI X p n (chL b n rB L):=h.ch0 b λhb=>⟨h0 hb,rfl,h.us _ (by omega),λe=>by cases e⟩
theorem LI.e (h:LI X p n L) (b:Int) (h0:0<=b/\b<(n:Int)->(gx L b.toNat).li=0):LI X p n (chL b n eB L):=h.ch0 b λhb=>⟨h0 hb,rfl,⟨Int.le_refl _,by have:=h.pp;show (0:Int)<=p-1;omega⟩,λe=>by cases e⟩
theorem LI.s (h:LI X p n L) (b:Int) {m:Bool} (h0:0<=b/\b<(n:Int)->(gx L b.toNat).li=0):LI X p n (chL b n (sB m) L):=h.ch0 b λhb=>⟨h0 hb,h0 hb,h.us _ (by omega),λe=>by cases e⟩
theorem LI.h (h:LI X p n L) (b:Int) {ns:Int} (hn:0<=ns/\ns<4) (h0:0<=b/\b<(n:Int)->(gx L b.toNat).li=0):LI X p n (chL b n (hB ns) L):=h.ch0 b λhb=>⟨h0 hb,rfl,⟨Int.le_refl _,by have:=h.pp;show (0:Int)<=p-1;omega⟩,λ_=>hn⟩
theorem LI.free (h:LI X p n L) {i:Nat} (hi:i<n) (hf:(gx L i).he=false):(gx L i).li=0:=by
 refine Classical.byContradiction λe=>?_
 have:=h.he i hi e
 rw [hf] at this
 cases this
theorem gx_ch_li {b:Int} {φ:Blk->Blk} (hl:L.length=n) (hφ:∀ x,(φ x).li=x.li) (i:Nat):(gx (chL b n φ L) i).li=(gx L i).li:=by
 rw [gx_ch hl];split
 ·exact hφ _
 ·rfl
theorem dst_L (C:CD) (hl:L.length=n) (b:Int):(dstP C L b).2.1=L\/(dstP C L b).2.1=chL b n eB L\/(dstP C L b).2.1=chL b n fB L\/∃ m,(dstP C L b).2.1=chL b n (sB m) (chL b n fB L):=by
 subst hl
 unfold dstP
 split
 ·split
  ·exact .inr (.inr (.inl rfl))
  ·exact .inr (.inr (.inr ⟨_,rfl⟩))
 ·dsimp only
  split
  ·exact .inr (.inl rfl)
  ·exact .inl rfl
theorem LI.d (h:LI X p n L) (C:CD) (b:Int) (h0:0<=b/\b<(n:Int)->(gx L b.toNat).li=0):LI X p n (dstP C L b).2.1:=by
 rcases dst_L C h.ll b with e | e | e | ⟨m,e⟩ <;> rw [e]
 ·exact h
 ·exact h.e b h0
 ·exact h.f b
 ·exact (h.f b).s b λhb=>by rw [gx_ch_li (φ:=fB) h.ll (λ_=>rfl)];exact h0 hb
theorem dst_oth (C:CD) (hl:L.length=n) (b:Int) {i:Nat} (hi:i≠b.toNat):gx (dstP C L b).2.1 i=gx L i:=by
 have g:∀ (φ:Blk->Blk) {M:List Blk},M.length=n->gx (chL b n φ M) i=gx M i:=λφ M hM=>by rw [gx_ch hM,if_neg (λh=>hi h.2)]
 rcases dst_L C hl b with e | e | e | ⟨m,e⟩ <;> rw [e]
 ·exact g _ hl
 ·exact g _ hl
 ·rw [g _ (by rw [chL_len];exact hl),g _ hl]
def KeptH (n:Nat) (L L':List Blk):Prop:=∀ i,i<n->(gx L i).he=true->gx L' i=gx L i
theorem KeptH.refl:KeptH n L L:=λ_ _ _=>rfl
theorem KeptH.trans {L1 L2:List Blk} (h:KeptH n L L1) (k:KeptH n L1 L2):KeptH n L L2:=λi hi hh=>by
 have e:=h i hi hh
 rw [k i hi (by rw [e];exact hh),e]
theorem pick_free (h:0<=pickT L L.length):(gx L (pickT L L.length).toNat).he=false/\(gx L (pickT L L.length).toNat).ba=false:=by
 have:=bestT_is (L:=L) (m:=λ_ x=>freeB x) (ah:=λx y=>decide (x.er<y.er)) L.length h
 unfold freeB at this
 rw [Bool.and_eq_true,Bool.not_eq_true',Bool.not_eq_true'] at this
 exact this
theorem KeptH.of {b:Int} {L':List Blk} (hf:(gx L b.toNat).he=false) (ho:∀ i,i≠b.toNat->gx L' i=gx L i):KeptH n L L':=λi hi hh=>ho i λe=>by subst e;rw [hf] at hh;cases hh
theorem ch_oth (hl:L.length=n) {b:Int} (φ:Blk->Blk) {i:Nat} (hi:i≠b.toNat):gx (chL b n φ L) i=gx L i:=by rw [gx_ch hl,if_neg (λh=>hi h.2)]
structure OpI (X:List (SlP Ce)) (p:Int) (n:Nat) (ns:Int) (L L':List Blk) (b e:Int):Prop where
 li:LI X p n L'
 kp:KeptH n L L'
 ok:e=0->(0<=b/\b<(n:Int))/\(gx L b.toNat).he=false/\∃ y,gx L' b.toNat=hB ns y/\y.ba=false
theorem opn_LI {ns:Int} {o:Hd} {sl:Bool} (hp:0<=ns/\ns<4):∀ (k:Nat) {C:CD} {L:List Blk} {O:List Hd},LI X p n L->OpI X p n ns L (opnP ns o sl k C L O).1.2.1 (opnP ns o sl k C L O).2.1 (opnP ns o sl k C L O).2.2
 | 0,C,L,O,h=>⟨h,.refl,λe=>by cases e⟩
 | k+1,C,L,O,h=>by
  unfold opnP
  by_cases hlt:pickT L L.length<0
  ·rw [if_pos hlt]
   exact ⟨h,.refl,λe=>by cases e⟩
  rw [if_neg hlt]
  obtain ⟨hf,hfb⟩:=pick_free (L:=L) (by omega)
  have hbd:0<=pickT L L.length/\pickT L L.length<(n:Int):=⟨by omega,by have:=(bestT_bd (L:=L) (m:=λ_ x=>freeB x) (ah:=λx y=>decide (x.er<y.er)) L.length).2;rw [<-h.ll];exact this⟩
  have hln:=h.ll
  generalize pickT L L.length=b at hlt hf hfb hbd ⊢
  rw [hln]
  have h0:(gx L b.toNat).li=0:=h.free (by omega) hf
  have d1:=h.d C b λ_=>h0
  have k1:=λ{i:Nat} (hi:i≠b.toNat)=>dst_oth C hln b hi
  have hX:∃ C1 L1 e1,(if (gx L b.toNat).cl=true then (C,L,(0:Int)) else dstP C L b)=(C1,L1,e1)/\LI X p n L1/\(∀ i,i≠b.toNat->gx L1 i=gx L i)/\(gx L1 b.toNat).li=0/\(e1=0->(gx L1 b.toNat).ba=false):=by
   split
   ·exact ⟨_,_,_,rfl,h,λ_ _=>rfl,h0,λ_=>hfb⟩
   ·refine ⟨(dstP C L b).1,(dstP C L b).2.1,(dstP C L b).2.2,rfl,d1,λi hi=>k1 hi,?_,λe=>?_⟩
    ·rcases dst_L C hln b with e | e | e | ⟨m,e⟩ <;> rw [e]
     ·exact h0
     ·rw [gx_ch hln,if_pos ⟨hbd,rfl⟩];rfl
     ·rw [gx_ch_li (φ:=fB) hln (λ_=>rfl)];exact h0
     ·rw [gx_ch_li (φ:=sB m) (by rw [chL_len];exact hln) (λ_=>rfl),gx_ch_li (φ:=fB) hln (λ_=>rfl)];exact h0
    ·have:(dstP C L b).2.1=if (eraC C (4+b)).2=0 then chL b n eB L else L:=by
      unfold dstP at e ⊢
      rw [hln] at *
      split at e
      ·split at e
       ·cases e
       ·dsimp only at e;split at e <;> cases e
      ·rename_i h5
       rw [if_neg h5]
     rw [this]
     split
     ·rw [gx_ch hln,if_pos ⟨hbd,rfl⟩];exact hfb
     ·exact hfb
  obtain ⟨C1,L1,e1,hq,l1,o1,z1,b1⟩:=hX
  rw [hq]
  dsimp only
  have kp1:KeptH n L L1:=.of hf o1
  have hL1:=l1.ll
  by_cases he1:e1=0
  case neg=>
   rw [if_neg he1]
   split
   ·exact ⟨l1,kp1,λe=>by cases e⟩
   ·obtain ⟨i1,i2,i3⟩:=opn_LI (ns:=ns) (o:=o) (sl:=sl) hp k (C:=C1) (O:=O) l1
    refine ⟨i1,kp1.trans i2,λe=>?_⟩
    obtain ⟨x1,x2,x3⟩:=i3 e
    refine ⟨x1,?_,x3⟩
    by_cases hb2:((opnP ns o sl k C1 L1 O).2.1).toNat=b.toNat
    ·rw [hb2];exact hf
    ·rw [<-o1 _ hb2];exact x2
  rw [if_pos he1]
  have hb1:=b1 he1
  have hbeg:∃ C2 L2 O2 e2,begP C1 L1 O b ns o sl=(C2,L2,O2,e2)/\LI X p n L2/\(∀ i,i≠b.toNat->gx L2 i=gx L i)/\(gx L2 b.toNat).li=0/\(e2=0->gx L2 b.toNat=hB ns (gx L1 b.toNat)):=by
   unfold begP
   rw [hL1]
   split
   ·refine ⟨_,_,_,_,rfl,l1.h b hp λ_=>z1,λi hi=>?_,?_,λ_=>?_⟩
    ·rw [ch_oth hL1 _ hi];exact o1 i hi
    ·rw [gx_ch hL1,if_pos ⟨hbd,rfl⟩];rfl
    ·rw [gx_ch hL1,if_pos ⟨hbd,rfl⟩]
   ·rename_i hne
    exact ⟨_,_,_,_,rfl,l1,o1,z1,λe=>absurd e hne⟩
  obtain ⟨C2,L2,O2,e2,hq2,l2,o2,z2,b2⟩:=hbeg
  rw [hq2]
  dsimp only
  by_cases he2:e2=0
  ·rw [if_pos he2]
   exact ⟨l2,.of hf o2,λ_=>⟨hbd,hf,_,b2 he2,hb1⟩⟩
  rw [if_neg he2]
  split
  ·exact ⟨l2,.of hf o2,λe=>by cases e⟩
  have l3:=(l2.f b).d C2 b λ_=>(gx_ch_li (φ:=fB) l2.ll (λ_=>rfl) _).trans z2
  have o3:∀ i,i≠b.toNat->gx (dstP C2 (chL b n fB L2) b).2.1 i=gx L i:=λi hi=>by
   exact (dst_oth C2 ((chL_len ..).trans l2.ll) b hi).trans ((ch_oth l2.ll _ hi).trans (o2 i hi))
  split
  ·exact ⟨l3,.of hf o3,λe=>by cases e⟩
  ·obtain ⟨i1,i2,i3⟩:=opn_LI (ns:=ns) (o:=o) (sl:=sl) hp k (C:=(dstP C2 (chL b n fB L2) b).1) (O:=O2) l3
   refine ⟨i1,(KeptH.of hf o3).trans i2,λe=>?_⟩
   obtain ⟨x1,x2,x3⟩:=i3 e
   refine ⟨x1,?_,x3⟩
   by_cases hb2:((opnP ns o sl k (dstP C2 (chL b n fB L2) b).1 (dstP C2 (chL b n fB L2) b).2.1 O2).2.1).toNat=b.toNat
   ·rw [hb2];exact hf
   ·rw [<-o3 _ hb2];exact x2
end
abbrev fat (s:SD) (i:Nat):Int:=s.fr.getD i 0
def frOk (n:Nat) (L:List Blk) (i:Nat) (b:Int):Prop:=b=-1\/((0<=b/\b<(n:Int))/\(gx L b.toNat).he=true/\(gx L b.toNat).ow=(i:Int))
def u64R (z:Int):Prop:=0<=z/\z<18446744073709551616
structure SI (g:Geo) (n:Nat) (s:SD):Prop where
 pi:PI g n s.C s.L s.O
 xo:XOk s.X
 l:LI s.X g.p n s.L
 fl:s.fr.length=4
 fo:∀ i,i<4->frOk n s.L i (fat s i)
 ep:u64R s.ep
 op:u64R s.op
 ct:u64R s.ct
structure St (g:Geo) (n K:Nat) (s s':SD):Prop where
 i:SI g n s'
 o1:s.C.ops<=s'.C.ops
 o2:s'.C.ops<=s.C.ops+K
 sz:∀ ns,(getX s'.X ns).n=(getX s.X ns).n
 ep:s'.ep=s.ep
 ct:s'.ct=s.ct
theorem u64w_R (z:Int):u64R (u64w z):=by
 have:u64w z=z % 18446744073709551616:=by simp [u64w,IntKind.wrap,IntKind.signed,IntKind.bits]
 unfold u64R
 rw [this]
 omega
section
variable {g:Geo} {n K J:Nat} {s s' t:SD}
theorem St.refl (h:SI g n s):St g n 0 s s:=⟨h,Nat.le_refl _,Nat.le_refl _,λ_=>rfl,rfl,rfl⟩
theorem St.trans (h:St g n K s s') (k:St g n J s' t):St g n (K+J) s t:=⟨k.i,Nat.le_trans h.o1 k.o1,by have:=h.o2;have:=k.o2;omega,λns=>(k.sz ns).trans (h.sz ns),k.ep.trans h.ep,k.ct.trans h.ct⟩
theorem St.up (h:St g n K s s') (hk:K<=J):St g n J s s':=⟨h.i,h.o1,by have:=h.o2;omega,h.sz,h.ep,h.ct⟩
theorem SI.ln (h:SI g n s):s.L.length=n:=h.pi.ll
theorem SI.no (h:SI g n s):(n:Int)<=60/\4<=g.p/\g.p<=32:=⟨h.pi.le,h.l.pp.1,h.l.pp.2⟩
theorem frOk.ch1 {L:List Blk} {b:Int} {φ:Blk->Blk} (hl:L.length=n) (h1:∀ x,(φ x).ow=x.ow) (h3:∀ x,(φ x).he=x.he) {i:Nat} {f:Int} (h:frOk n L i f):frOk n (chL b n φ L) i f:=by
 rcases h with h | ⟨h,h2,h4⟩
 ·exact .inl h
 ·refine .inr ⟨h,?_,?_⟩ <;> rw [gx_ch hl] <;> split
  ·rw [h3];exact h2
  ·exact h2
  ·rw [h1];exact h4
  ·exact h4
theorem frOk.oth {L L':List Blk} {i:Nat} {f:Int} (h:frOk n L i f) (ho:0<=f/\f<(n:Int)->gx L' f.toNat=gx L f.toNat):frOk n L' i f:=by
 rcases h with h | ⟨h,h2,h4⟩
 ·exact .inl h
 ·exact .inr ⟨h,by rw [ho h];exact h2,by rw [ho h];exact h4⟩
def nfr (s:SD) (b:Int):Prop:=∀ i,i<4->0<=fat s i->fat s i≠b
theorem SI.nfr_of (h:SI g n s) {b:Int} (hb:0<=b) (hh:(gx s.L b.toNat).he=false):nfr s b:=λi hi h0 e=>by
 rcases h.fo i hi with k | ⟨-,k,-⟩
 ·omega
 ·rw [e,hh] at k;cases k
theorem SI.set_C (h:SI g n s) {C':CD} (hp:PI g n C' s.L s.O) (h1:s.C.ops<=C'.ops) (h2:C'.ops<=s.C.ops+K):St g n K s {s with C:=C'}:=⟨⟨hp,h.xo,h.l,h.fl,h.fo,h.ep,h.op,h.ct⟩,h1,h2,λ_=>rfl,rfl,rfl⟩
theorem SI.set_ro (h:SI g n s) (r:Bool):St g n 0 s {s with ro:=r}:=⟨⟨h.pi,h.xo,h.l,h.fl,h.fo,h.ep,h.op,h.ct⟩,Nat.le_refl _,Nat.le_refl _,λ_=>rfl,rfl,rfl⟩
theorem SI.over (h:SI g n s):St g n 0 s (overP s).1:=by
 unfold overP
 split
 ·exact h.set_ro true
 ·exact .refl h
theorem over_f (s:SD):(overP s).1.C=s.C/\(overP s).1.L=s.L/\(overP s).1.O=s.O/\(overP s).1.X=s.X/\(overP s).1.fr=s.fr/\(overP s).1.op=s.op:=by
 unfold overP;split <;> exact ⟨rfl,rfl,rfl,rfl,rfl,rfl⟩
theorem SI.roS (h:SI g n s) (e:Int):St g n 0 s (roS s e):=by
 unfold Vc.roS
 split
 ·exact h.set_ro true
 ·exact .refl h
theorem roS_f (s:SD) (e:Int):(roS s e).C=s.C/\(roS s e).L=s.L/\(roS s e).O=s.O/\(roS s e).X=s.X/\(roS s e).fr=s.fr/\(roS s e).op=s.op:=by
 unfold Vc.roS;split <;> exact ⟨rfl,rfl,rfl,rfl,rfl,rfl⟩
theorem left_is (s:SD) (e:Int):(leftP s e).1=s\/(leftP s e).1=(overP (roS s e)).1:=by
 unfold leftP
 split
 ·exact .inl rfl
 ·split <;> exact .inr rfl
theorem left0 (s:SD) (e:Int) (h:(leftP s e).2=0):e=0:=by
 unfold leftP at h
 split at h
 ·cases h
 ·split at h
  ·rename_i h2;exact absurd h h2
  ·exact h
theorem SI.left (h:SI g n s) (e:Int):St g n 0 s (leftP s e).1:=by
 rcases left_is s e with k | k <;> rw [k]
 ·exact .refl h
 ·exact (h.roS e).trans (h.roS e).i.over
theorem left_f (s:SD) (e:Int):(leftP s e).1.C=s.C/\(leftP s e).1.L=s.L/\(leftP s e).1.O=s.O/\(leftP s e).1.X=s.X/\(leftP s e).1.fr=s.fr/\(leftP s e).1.op=s.op:=by
 rcases left_is s e with k | k <;> rw [k]
 ·exact ⟨rfl,rfl,rfl,rfl,rfl,rfl⟩
 ·have h1:=over_f (roS s e)
  have h2:=roS_f s e
  exact ⟨h1.1.trans h2.1,h1.2.1.trans h2.2.1,h1.2.2.1.trans h2.2.2.1,h1.2.2.2.1.trans h2.2.2.2.1,h1.2.2.2.2.1.trans h2.2.2.2.2.1,h1.2.2.2.2.2.trans h2.2.2.2.2.2⟩
theorem SI.ch (h:SI g n s) (b:Int) {φ:Blk->Blk} (he:∀ x,(φ x).er=x.er) (hl:LI s.X g.p n (chL b n φ s.L)) (hf:∀ i,i<4->frOk n (chL b n φ s.L) i (fat s i)):St g n 0 s (chS s b φ):=by
 have hp:=h.pi.chL b he
 rw [h.ln] at hp
 refine ⟨⟨?_,h.xo,?_,h.fl,?_,h.ep,h.op,h.ct⟩,Nat.le_refl _,Nat.le_refl _,λ_=>rfl,rfl,rfl⟩
 ·show PI g n s.C (chL b s.L.length φ s.L) s.O;rw [h.ln];exact hp
 ·show LI s.X g.p n (chL b s.L.length φ s.L);rw [h.ln];exact hl
 ·show ∀ i,i<4->frOk n (chL b s.L.length φ s.L) i (fat s i);rw [h.ln];exact hf
theorem SI.ch1 (h:SI g n s) (b:Int) {φ:Blk->Blk} (he:∀ x,(φ x).er=x.er) (h1:∀ x,(φ x).ow=x.ow) (h3:∀ x,(φ x).he=x.he) (hl:LI s.X g.p n (chL b n φ s.L)):St g n 0 s (chS s b φ):=
 h.ch b he hl λi hi=>(h.fo i hi).ch1 h.ln h1 h3
theorem SI.f (h:SI g n s) (b:Int):St g n 0 s (chS s b fB):=h.ch1 b (λ_=>rfl) (λ_=>rfl) (λ_=>rfl) (h.l.f b)
theorem SI.r (h:SI g n s) (b:Int) (h0:0<=b/\b<(n:Int)->(gx s.L b.toNat).li=0) (hf:nfr s b):St g n 0 s (chS s b rB):=
 h.ch b (λ_=>rfl) (h.l.r b h0) λi hi=>(h.fo i hi).oth λe=>by
  rw [gx_ch h.ln,if_neg]
  rintro ⟨e1,e2⟩
  exact hf i hi e.1 (by omega)
theorem fat_set (h:s.fr.length=4) {ns:Int} (hn:0<=ns/\ns<4) (v:Int) (i:Nat):fat (frS s ns v) i=if (i:Int)=ns then v else fat s i:=by
 show (s.fr.set ns.toNat v).getD i 0=_
 rw [List.getD_eq_getElem?_getD,List.getElem?_set]
 by_cases e:(i:Int)=ns
 ·rw [if_pos (by omega),if_pos (by omega),if_pos e];rfl
 ·rw [if_neg (by omega),if_neg e,<- List.getD_eq_getElem?_getD]
theorem SI.fr (h:SI g n s) {ns v:Int} (hn:0<=ns/\ns<4) (hv:frOk n s.L ns.toNat v):St g n 0 s (frS s ns v):=
 ⟨⟨h.pi,h.xo,h.l,by show (s.fr.set _ _).length=4;rw [List.length_set];exact h.fl,λi hi=>by
  rw [fat_set h.fl hn]
  split
  ·rename_i e;rw [show i=ns.toNat by omega];exact hv
  ·exact h.fo i hi,h.ep,h.op,h.ct⟩,Nat.le_refl _,Nat.le_refl _,λ_=>rfl,rfl,rfl⟩
theorem SI.frm (h:SI g n s) {ns:Int} (hn:0<=ns/\ns<4):St g n 0 s (frS s ns (-1)):=h.fr hn (.inl rfl)
theorem SI.fG (h:SI g n s) {ns:Int} (hn:0<=ns/\ns<4):frG s ns=-1\/((0<=frG s ns/\frG s ns<(n:Int))/\(gx s.L (frG s ns).toNat).he=true/\(gx s.L (frG s ns).toNat).ow=ns):=by
 have:=h.fo ns.toNat (by omega)
 rcases this with k | ⟨k1,k2,k3⟩
 ·exact .inl k
 ·exact .inr ⟨k1,k2,k3.trans (by omega)⟩
theorem SI.nfr_set (h:SI g n s) {ns:Int} (hn:0<=ns/\ns<4) {b:Int} (hb:0<=b->(gx s.L b.toNat).ow=ns):nfr (frS s ns (-1)) b:=λi hi h0 e=>by
 rw [fat_set h.fl hn] at h0 e
 split at h0
 ·omega
 ·rename_i hne
  rw [if_neg hne] at e
  rcases h.fo i hi with k | ⟨-,-,k⟩
  ·omega
  ·rw [e,hb (by omega)] at k
   exact hne k.symm
theorem SI.clos (h:SI g n s) {ns:Int} (hn:0<=ns/\ns<4):St g n 0 s (closP s ns):=by
 unfold closP
 split
 ·rename_i hc
  have k:=h.frm hn
  refine k.trans (k.i.r _ (λ_=>hc.2) (h.nfr_set hn λh0=>?_))
  rcases h.fG hn with e | e
  ·omega
  ·exact e.2.2
 ·exact h.frm hn
theorem clos_f (s:SD) (ns:Int):(closP s ns).C=s.C/\(closP s ns).O=s.O/\(closP s ns).X=s.X/\(closP s ns).fr=s.fr.set ns.toNat (-1)/\(closP s ns).op=s.op:=by
 unfold closP;split <;> exact ⟨rfl,rfl,rfl,rfl,rfl⟩
theorem SI.opn (h:SI g n s) {ns:Int} (hn:0<=ns/\ns<4) {sl:Bool} (ho:s.C.ops+768<=1000000000000):St g n 768 s (opnS ns sl s).1/\OpI s.X g.p n ns s.L (opnS ns sl s).1.L (opnS ns sl s).2.1 (opnS ns sl s).2.2/\(opnS ns sl s).1.X=s.X/\(opnS ns sl s).1.fr=s.fr:=by
 have hr:(⟨0,0,0,0,s.ep,u64w (s.op+1)⟩:Hd).rng:=⟨⟨Int.le_refl _,by show (0:Int)<4294967296;decide⟩,h.ep,u64w_R _⟩
 have e:opC ns ⟨0,0,0,0,s.ep,u64w (s.op+1)⟩ sl s.C s.L s.O=opnP ns ⟨0,0,0,0,s.ep,u64w (s.op+1)⟩ sl 128 s.C s.L s.O:=if_pos hn
 obtain ⟨p1,p2,p3⟩:=PI.opn hn hr sl 128 h.pi (by omega)
 have q:=opn_LI (ns:=ns) (o:=⟨0,0,0,0,s.ep,u64w (s.op+1)⟩) (sl:=sl) hn 128 (C:=s.C) (O:=s.O) h.l
 unfold opnS
 rw [e]
 dsimp only
 refine ⟨⟨⟨p1,h.xo,q.li,h.fl,λi hi=>(h.fo i hi).imp id λ⟨k1,k2,k3⟩=>?_,h.ep,u64w_R _,h.ct⟩,p3,by omega,λ_=>rfl,rfl,rfl⟩,q,rfl,rfl⟩
 rw [q.kp _ (by omega) k2]
 exact ⟨k1,k2,k3⟩
theorem SI.dst0 (h:SI g n s) {b:Int} (hb:0<=b/\b<(n:Int)) (hh:(gx s.L b.toNat).he=false) (ho:s.C.ops+2<=1000000000000):St g n 2 s {s with C:=(dstP s.C s.L b).1,L:=(dstP s.C s.L b).2.1}:=by
 obtain ⟨p1,p2,p3⟩:=h.pi.dst b ho
 have hl:=h.l.d s.C b λ_=>h.l.free (by omega) hh
 exact ⟨⟨p1,h.xo,hl,h.fl,λi hi=>(h.fo i hi).oth λe=>dst_oth s.C h.ln b λe2=>h.nfr_of hb.1 hh i hi e.1 (by omega),h.ep,h.op,h.ct⟩,p3,p2,λ_=>rfl,rfl,rfl⟩
theorem SI.dst (h:SI g n s) {b:Int} (hh:0<=b/\b<(n:Int)->(gx s.L b.toNat).he=false) (ho:s.C.ops+2<=1000000000000):St g n 2 s (dstS s b).1/\(dstS s b).1.X=s.X/\(dstS s b).1.fr=s.fr:=by
 unfold dstS
 by_cases hb:0<=b/\b<(n:Int)
 ·rw [if_pos (by rw [h.ln];exact hb)]
  have hs:=h.dst0 hb (hh hb) ho
  have k:=over_f {s with C:=(dstP s.C s.L b).1,L:=(dstP s.C s.L b).2.1}
  exact ⟨hs.trans hs.i.over,k.2.2.2.1,k.2.2.2.2.1⟩
 ·rw [if_neg (by rw [h.ln];exact hb)]
  exact ⟨(St.refl h).up (by omega),rfl,rfl⟩
theorem prg_byt {C:CD} (h:COk C) {bl pa:Int} (hin:inC C bl pa):Byt (pgC13 C bl pa):=(h.page hin).2.2
theorem read_in {C:CD} {fb fp:Int} (hrd:readC C fb fp=0):inC C fb fp:=by
 unfold readC at hrd
 split at hrd
 ·omega
 ·split at hrd
  ·assumption
  ·omega
theorem PI.cpy {C:CD} {L:List Blk} {O:List Hd} (h:PI g n C L O) {m:Nat} {b pa fb fp:Int} (ho:C.ops+2<=1000000000000):PI g n (cpyC m C b pa fb fp).1 L O/\(cpyC m C b pa fb fp).1.ops<=C.ops+2/\C.ops<=(cpyC m C b pa fb fp).1.ops:=by
 unfold cpyC
 split
 ·split
  ·rename_i hrd
   exact h.prg _ _ (cpyL_byt (prg_byt h.ok (read_in hrd))) ho
  ·exact ⟨h,Nat.le_add_right _ _,Nat.le_refl _⟩
 ·exact ⟨h,Nat.le_add_right _ _,Nat.le_refl _⟩
theorem PI.slc {C:CD} {L:List Blk} {O:List Hd} (h:PI g n C L O) {m:Nat} {b:Int} (ho:C.ops+1<=1000000000000):PI g n (slC m C b).1 L O/\(slC m C b).1.ops<=C.ops+1/\C.ops<=(slC m C b).1.ops:=by
 unfold slC
 split
 ·exact h.sel b ho
 ·exact ⟨h,Nat.le_add_right _ _,Nat.le_refl _⟩
theorem SI.cpy (h:SI g n s) {to pa:Int} {k:Int×Int} (hu:0<=to/\to<(n:Int)->(gx s.L to.toNat).us+1<=g.p-1) (ho:s.C.ops+2<=1000000000000):St g n 2 s (cpyS s to pa k).1:=by
 have h1:=h.ch1 to (φ:=uB) (λ_=>rfl) (λ_=>rfl) (λ_=>rfl) (h.l.u to hu)
 obtain ⟨p1,p2,p3⟩:=h1.i.pi.cpy (m:=s.L.length) (b:=to) (pa:=pa) (fb:=k.1) (fp:=k.2) ho
 exact h1.trans (h1.i.set_C p1 p3 p2)
theorem SI.cop {to:Int} (ht:0<=to/\to<(n:Int)):∀ (l:List (Int×Int)) (i:Int) {s:SD},SI g n s->(gx s.L to.toNat).us+(l.length:Int)<=g.p-1->s.C.ops+(2*l.length+1)<=1000000000000 ->
  St g n (2*l.length+1) s (copP to l i s).1/\(copP to l i s).1.X=s.X/\(copP to l i s).1.fr=s.fr/\(copP to l i s).1.O=s.O/\(copP to l i s).1.op=s.op/\(copP to l i s).1.ro=s.ro/\(∀ j,j≠to.toNat->gx (copP to l i s).1.L j=gx s.L j) /\
  (gx (copP to l i s).1.L to.toNat).he=(gx s.L to.toNat).he/\(gx (copP to l i s).1.L to.toNat).ow=(gx s.L to.toNat).ow/\(gx (copP to l i s).1.L to.toNat).li=(gx s.L to.toNat).li/\(gx (copP to l i s).1.L to.toNat).ba=(gx s.L to.toNat).ba/\((copP to l i s).2=0->(gx (copP to l i s).1.L to.toNat).us=(gx s.L to.toNat).us+(l.length:Int))
 | [],i,s,h,hu,ho=>by
  obtain ⟨p1,p2,p3⟩:=h.pi.slc (m:=s.L.length) (b:=to) (by omega)
  refine ⟨h.set_C p1 p3 p2,rfl,rfl,rfl,rfl,rfl,λ_ _=>rfl,rfl,rfl,rfl,rfl,λ_=>?_⟩
  show (gx s.L to.toNat).us=(gx s.L to.toNat).us+0
  omega
 | k::l,i,s,h,hu,ho=>by
  rw [List.length_cons] at hu ho ⊢
  push_cast at hu
  have h1:=h.cpy (to:=to) (pa:=i) (k:=k) (λ_=>by omega) (by omega)
  have gt:gx (cpyS s to i k).1.L to.toNat=uB (gx s.L to.toNat):=by
   show gx (chL to s.L.length uB s.L) to.toNat=_
   rw [gx_ch rfl,if_pos ⟨by rw [h.ln];exact ht,rfl⟩]
  have go:∀ j,j≠to.toNat->gx (cpyS s to i k).1.L j=gx s.L j:=λj hj=>by
   show gx (chL to s.L.length uB s.L) j=_
   rw [gx_ch rfl,if_neg (λe=>hj e.2)]
  rw [show copP to (k::l) i s=if (cpyS s to i k).2≠0 then cpyS s to i k else copP to l (i+1) (cpyS s to i k).1 from rfl]
  split
  ·rename_i hne
   exact ⟨h1.up (by omega),rfl,rfl,rfl,rfl,rfl,go,by rw [gt];rfl,by rw [gt];rfl,by rw [gt];rfl,by rw [gt];rfl,λe=>absurd e hne⟩
  ·have hu':(gx (cpyS s to i k).1.L to.toNat).us+(l.length:Int)<=g.p-1:=by rw [gt];show (gx s.L to.toNat).us+1+(l.length:Int)<=_;omega
   obtain ⟨a1,a2,a3,a4,a4',a5,a6,a7,a8,a9,a10,a11⟩:=SI.cop ht l (i+1) h1.i hu' (by have:=h1.o2;omega)
   refine ⟨(h1.trans a1).up (J:=2*(l.length+1)+1) (by omega),a2,a3,a4,a4',a5,λj hj=>(a6 j hj).trans (go j hj),by rw [a7,gt];rfl,by rw [a8,gt];rfl,by rw [a9,gt];rfl,by rw [a10,gt];rfl,λe=>?_⟩
   rw [a11 e,gt]
   show (gx s.L to.toNat).us+1+(l.length:Int)=_
   omega
end
def movF (to:Int) (o:Hh):List (Int×Int)->Int->Ce->Ce
 | [],_,c=>c
 | k::l,i,c=>movF to o l (i+1) (movC k (4+to,i) o c)
theorem movL_all (to:Int) (o:Hh):∀ (l:List (Int×Int)) (i:Int) {X:List (SlP Ce)},XOk X->l.Nodup->(∀ k∈l,k.1≠4+to)->(∀ j,i<=j->cntX X (4+to,j)=0) ->
  XOk (movL to o l i X)/\(∀ ns,getX (movL to o l i X) ns=⟨(getX X ns).a,(getX X ns).n,(getX X ns).c,(getX X ns).l.map (movF to o l i)⟩) /\
  ∀ k,cntX (movL to o l i X) k=if k∈l then 0 else if k.1=4+to/\i<=k.2/\k.2<i+(l.length:Int) then cntX X (l.getD (k.2-i).toNat (0,0)) else cntX X k
 | [],i,X,hX,_,_,_=>by
  refine ⟨hX,λns=>?_,λk=>?_⟩
  ·show getX X ns=⟨_,_,_,(getX X ns).l.map λc=>c⟩
   rw [List.map_id']
  ·rw [if_neg (λh=>List.not_mem_nil h),if_neg (by rintro ⟨h1,h2,h3⟩;simp at h3;omega)]
   rfl
 | k0::l,i,X,hX,hnd,hto,hz=>by
  have hnd':=List.nodup_cons.1 hnd
  have hk0:=hto k0 List.mem_cons_self
  have hz0:=hz i (Int.le_refl _)
  have e1:mov1 k0 (4+to,i) o X=movX k0 (4+to,i) o X:=by
   unfold mov1
   rw [if_neg]
   rintro ⟨-,h⟩
   omega
  have hX1:XOk (movX k0 (4+to,i) o X):=movX_ok hX
  have hc:=λk=>cntX_mov k0 (4+to,i) o k (X:=X)
  have hz1:∀ j,i+1<=j->cntX (movX k0 (4+to,i) o X) (4+to,j)=0:=λj hj=>by
   rw [hc,hz j (by omega),if_neg (by intro e;rw [<-e] at hk0;exact hk0 rfl),if_neg (by intro e;have:=congrArg Prod.snd e;dsimp only at this;omega)]
   rfl
  obtain ⟨a1,a2,a3⟩:=movL_all to o l (i+1) hX1 hnd'.2 (λk hk=>hto k (List.mem_cons_of_mem _ hk)) hz1
  show XOk (movL to o l (i+1) (mov1 k0 (4+to,i) o X))/\(∀ ns,getX (movL to o l (i+1) (mov1 k0 (4+to,i) o X)) ns=_)/\∀ k,cntX (movL to o l (i+1) (mov1 k0 (4+to,i) o X)) k=_
  rw [e1]
  refine ⟨a1,λns=>?_,λk=>?_⟩
  ·rw [a2,getX_mov _ _ _ _ hX.four,List.map_map]
   rfl
  ·rw [a3]
   by_cases hkl:k∈l
   ·rw [if_pos hkl,if_pos (List.mem_cons_of_mem _ hkl)]
   rw [if_neg hkl]
   by_cases hkk:k=k0
   ·subst hkk
    rw [if_pos List.mem_cons_self,if_neg (λh=>hk0 h.1),hc,if_pos rfl,if_neg (by intro e;rw [e] at hk0;exact hk0 rfl)]
    omega
   have hkc:k∉k0::l:=λh=>(List.mem_cons.1 h).elim hkk hkl
   rw [if_neg hkc,List.length_cons]
   by_cases hk1:k.1=4+to
   ·by_cases hki:k.2=i
    ·rw [if_neg (by omega),if_pos ⟨hk1,by omega,by push_cast;omega⟩,hki,Int.sub_self,hc,if_neg hkk,if_pos (Prod.ext hk1 hki)]
     have e:k=(4+to,i):=Prod.ext hk1 hki
     rw [e,hz0]
     show (0:Int)-0+_=cntX X k0
     omega
    ·by_cases hr:i+1<=k.2/\k.2<i+1+(l.length:Int)
     ·rw [if_pos ⟨hk1,hr⟩,if_pos ⟨hk1,by omega,by push_cast;omega⟩,hc]
      obtain ⟨m,hm⟩:∃ m:Nat,(k.2-i).toNat=m+1:=⟨(k.2-i).toNat-1,by omega⟩
      have hm2:(k.2-(i+1)).toNat=m:=by omega
      rw [hm,hm2,List.getD_cons_succ]
      have hml:m<l.length:=by omega
      have hmem:l.getD m (0,0)∈l:=by rw [List.getD_eq_getElem?_getD,List.getElem?_eq_getElem hml];exact List.getElem_mem hml
      rw [if_neg (λe:l.getD m (0,0)=k0=>hnd'.1 (e ▸ hmem)),if_neg (λe:l.getD m (0,0)=(4+to,i)=>hto _ (List.mem_cons_of_mem _ hmem) (by rw [e]))]
      omega
     ·rw [if_neg (λh=>hr h.2),if_neg (by rintro ⟨-,h2,h3⟩;push_cast at h3;omega),hc,if_neg hkk,if_neg (λe=>hki (by rw [e]))]
      omega
   ·rw [if_neg (λh=>hk1 h.1),if_neg (λh=>hk1 h.1),hc,if_neg hkk,if_neg (λe=>hk1 (by rw [e]))]
    omega
theorem movF_is (to:Int) (o:Hh):∀ (l:List (Int×Int)) (i:Int) (c:Ce),l.Nodup->(∀ k∈l,k.1≠4+to) ->
  (c.has=true/\c.pl∈l/\∃ m:Nat,l[m]? = some c.pl/\movF to o l i c=⟨true,⟨4+to,i+(m:Int),c.s.h,o⟩⟩)\/(¬ (c.has=true/\c.pl∈l)/\movF to o l i c=c)
 | [],i,c,_,_=>.inr ⟨λh=>List.not_mem_nil h.2,rfl⟩
 | k0::l,i,c,hnd,hto=>by
  have hnd':=List.nodup_cons.1 hnd
  have ht':∀ k∈l,k.1≠4+to:=λk hk=>hto k (List.mem_cons_of_mem _ hk)
  show (_/\_/\∃ m:Nat,_/\movF to o l (i+1) (movC k0 (4+to,i) o c)=_)\/(_/\movF to o l (i+1) (movC k0 (4+to,i) o c)=c)
  by_cases h0:c.has=true/\c.pl=k0
  ·have e:movC k0 (4+to,i) o c=⟨true,⟨4+to,i,c.s.h,o⟩⟩:=by unfold movC;rw [if_pos h0]
   rw [e]
   rcases movF_is to o l (i+1) (⟨true,⟨4+to,i,c.s.h,o⟩⟩:Ce) hnd'.2 ht' with ⟨-,h2,-⟩ | ⟨-,h2⟩
   ·exact absurd rfl (ht' _ h2)
   ·refine .inl ⟨h0.1,by rw [h0.2];exact List.mem_cons_self,0,by rw [h0.2];rfl,?_⟩
    rw [h2]
    simp
  ·have e:movC k0 (4+to,i) o c=c:=by unfold movC;rw [if_neg h0]
   rw [e]
   rcases movF_is to o l (i+1) c hnd'.2 ht' with ⟨h1,h2,m,h3,h4⟩ | ⟨h1,h2⟩
   ·refine .inl ⟨h1,List.mem_cons_of_mem _ h2,m+1,h3,?_⟩
    rw [h4]
    push_cast
    rw [show i+1+(m:Int)=i+((m:Int)+1) by omega]
   ·refine .inr ⟨λh=>?_,h2⟩
    rcases List.mem_cons.1 h.2 with h3 | h3
    ·exact h0 ⟨h.1,h3⟩
    ·exact h1 ⟨h.1,h3⟩
theorem len_eq {α:Type} [DecidableEq α] {L M:List α} (h1:L.Nodup) (h2:M.Nodup) (h:∀ k,k∈L↔k∈M):L.length=M.length:=
 Nat.le_antisymm (nodup_sub L M h1 λk hk=>(h k).1 hk) (nodup_sub M L h2 λk hk=>(h k).2 hk)
theorem inP_congr {X Y:List (SlP Ce)} {bl:Int} (h:∀ k,k.1=bl->(1<=cntX X k↔1<=cntX Y k)):inP X bl=inP Y bl:=by
 unfold inP
 refine List.filter_congr λk hk=>?_
 obtain ⟨i,hi,rfl⟩:=List.mem_map.1 hk
 exact decide_eq_decide.2 (h _ rfl)
theorem inP_nil {X:List (SlP Ce)} {bl:Int} (h:∀ k,k.1=bl->¬ 1<=cntX X k):inP X bl=[]:=by
 refine List.eq_nil_iff_forall_not_mem.2 λk hk=>?_
 have:=inP_mem.1 hk
 exact h k this.1 this.2.2
section
variable {g:Geo} {n K J:Nat} {s s' t:SD}
theorem LI.len {X:List (SlP Ce)} {p:Int} {L:List Blk} (h:LI X p n L) (bl:Int):((inP X bl).length:Int)<=p-1:=by
 have h1:(inP X bl).length<=((List.range (p-1).toNat).map λi:Nat=>(bl,(i:Int)+1)).length:=by
  refine nodup_sub _ _ (so_nd (inP_so X bl)) λk hk=>?_
  obtain ⟨e1,e2,e3⟩:=inP_mem.1 hk
  have:=h.xb k e3
  exact List.mem_map.2 ⟨(k.2-1).toNat,List.mem_range.2 (by omega),Prod.ext e1.symm (by dsimp only;omega)⟩
 rw [List.length_map,List.length_range] at h1
 have h2:=h.pp
 omega
theorem gx_ne {L:List Blk} (hl:L.length=n) {b:Int} {φ:Blk->Blk} {i:Nat} (hi:i≠b.toNat):gx (chL b n φ L) i=gx L i:=ch_oth hl φ hi
theorem gx_eq {L:List Blk} (hl:L.length=n) {b:Int} {φ:Blk->Blk} (hb:0<=b/\b<(n:Int)):gx (chL b n φ L) b.toNat=φ (gx L b.toNat):=by rw [gx_ch hl,if_pos ⟨hb,rfl⟩]
theorem SI.mov (h:SI g n s) {b to ns:Int} (hn:0<=ns/\ns<4) (hb:0<=b/\b<(n:Int)) (ht:0<=to/\to<(n:Int)) (hne:b≠to) (hob:(gx s.L b.toNat).ow=ns) (hot:(gx s.L to.toNat).ow=ns) (hht:(gx s.L to.toNat).he=true)
  (hl0:(gx s.L to.toNat).li=0) (hus:(gx s.L to.toNat).us=((inP s.X (4+b)).length:Int)) (hf:nfr s b):St g n 0 s (movP s b to ns (inP s.X (4+b))):=by
 have hnd:=so_nd (inP_so s.X (4+b))
 have hlen:=h.l.len (4+b)
 have hmem:=λk=>inP_mem (X:=s.X) (bl:=4+b) (k:=k)
 generalize inP s.X (4+b)=l at hus hnd hlen hmem ⊢
 have hto:∀ k∈l,k.1≠4+to:=λk hk e=>by have:=((hmem k).1 hk).1;omega
 have hz:∀ j,1<=j->cntX s.X (4+to,j)=0:=λj hj=>by
  have:=h.l.none ht hl0 (k:=(4+to,j)) rfl
  have:=(cntX_le h.xo (4+to,j)).1
  omega
 obtain ⟨a1,a2,a3⟩:=movL_all to (ordO s.O to).hh l 1 h.xo hnd hto hz
 have hln:=h.ln
 have hpos:∀ k,1<=cntX (movL to (ordO s.O to).hh l 1 s.X) k↔(k.1=4+to/\1<=k.2/\k.2<1+(l.length:Int))\/(k.1≠4+b/\k.1≠4+to/\1<=cntX s.X k):=λk=>by
  rw [a3]
  by_cases hk:k∈l
  ·rw [if_pos hk]
   have:=((hmem k).1 hk).1
   exact ⟨λe=>by omega,λe=>by omega⟩
  rw [if_neg hk]
  by_cases hr:k.1=4+to/\1<=k.2/\k.2<1+(l.length:Int)
  ·rw [if_pos hr]
   have hml:(k.2-1).toNat<l.length:=by omega
   have hm2:l.getD (k.2-1).toNat (0,0)∈l:=by rw [List.getD_eq_getElem?_getD,List.getElem?_eq_getElem hml];exact List.getElem_mem hml
   exact ⟨λ_=>.inl hr,λ_=>((hmem _).1 hm2).2.2⟩
  ·rw [if_neg hr]
   refine ⟨λe=>.inr ⟨λe1=>hk ((hmem k).2 ⟨e1,?_,e⟩),λe1=>?_,e⟩,λe=>?_⟩
   ·have:=(h.l.xb k e).2;have:=h.l.pp;omega
   ·exact h.l.none ht hl0 e1 e
   ·rcases e with e | e
    ·exact absurd e hr
    ·exact e.2.2
 have l1:(chL to n (cB (l.length:Int)) s.L).length=n:=by rw [chL_len];exact hln
 have l2:(chL b n rB (chL to n (cB (l.length:Int)) s.L)).length=n:=by rw [chL_len];exact l1
 have gb:gx (chL b n rB (chL to n (cB (l.length:Int)) s.L)) b.toNat=rB (gx s.L b.toNat):=by rw [gx_eq l1 hb,gx_ne hln (by omega)]
 have gt:gx (chL b n rB (chL to n (cB (l.length:Int)) s.L)) to.toNat=cB (l.length:Int) (gx s.L to.toNat):=by rw [gx_ne l1 (by omega),gx_eq hln ht]
 have go:∀ i,i≠b.toNat->i≠to.toNat->gx (chL b n rB (chL to n (cB (l.length:Int)) s.L)) i=gx s.L i:=λi h1 h2=>by rw [gx_ne l1 h1,gx_ne hln h2]
 have gtl:(cB (l.length:Int) (gx s.L to.toNat)).li=(l.length:Int):=by
  show (if (l.length:Int)<0-(gx s.L to.toNat).li then (0:Int) else (gx s.L to.toNat).li+(l.length:Int))=_
  rw [hl0,if_neg (by omega)]
  omega
 have gow:∀ i,(gx (chL b n rB (chL to n (cB (l.length:Int)) s.L)) i).ow=(gx s.L i).ow:=λi=>by
  by_cases e1:i=b.toNat
  ·rw [e1,gb];rfl
  ·by_cases e2:i=to.toNat
   ·rw [e2,gt];rfl
   ·rw [go i e1 e2]
 have gus:∀ i,(gx (chL b n rB (chL to n (cB (l.length:Int)) s.L)) i).us=(gx s.L i).us:=λi=>by
  by_cases e1:i=b.toNat
  ·rw [e1,gb];rfl
  ·by_cases e2:i=to.toNat
   ·rw [e2,gt];rfl
   ·rw [go i e1 e2]
 have hLI:LI (movL to (ordO s.O to).hh l 1 s.X) g.p n (chL b n rB (chL to n (cB (l.length:Int)) s.L)):=by
  refine ⟨h.l.pp,a1.four,l2,λk hk=>?_,λi hi=>by rw [gus];exact h.l.us i hi,λi hi=>?_,λi hi e=>?_,λi hi e=>?_,λk hk=>?_,λms j c hm hj hc=>?_⟩
  ·rcases (hpos k).1 hk with e | e
   ·omega
   ·exact h.l.xb k e.2.2
  ·by_cases e1:i=b.toNat
   ·rw [e1,gb,inP_nil]
    ·rfl
    ·intro k hk h1
     rcases (hpos k).1 h1 with e | e <;> omega
   ·by_cases e2:i=to.toNat
    ·rw [e2,gt,gtl]
     have:(inP (movL to (ordO s.O to).hh l 1 s.X) (4+((to.toNat:Nat):Int))).length=((List.range l.length).map λm:Nat=>(4+to,(m:Int)+1)).length:=by
      refine len_eq (so_nd (inP_so _ _)) ?_ λk=>?_
      ·exact List.pairwise_map.2 (List.nodup_range.imp λ{a b} hab e=>hab (by have:=congrArg Prod.snd e;dsimp only at this;omega))
      ·rw [inP_mem,hpos,List.mem_map]
       constructor
       ·rintro ⟨h1,h2,h3⟩
        have h3:k.1=4+to/\1<=k.2/\k.2<1+(l.length:Int):=by omega
        exact ⟨(k.2-1).toNat,List.mem_range.2 (by omega),Prod.ext (by dsimp only;omega) (by dsimp only;omega)⟩
       ·rintro ⟨m,hm,rfl⟩
        have hm:=List.mem_range.1 hm
        have:=h.l.pp
        exact ⟨by dsimp only;omega,by dsimp only;omega,.inl (by dsimp only;omega)⟩
     rw [this,List.length_map,List.length_range]
    ·rw [go i e1 e2,h.l.li i hi]
     congr 2
     refine inP_congr λk hk=>?_
     rw [hpos]
     exact ⟨λe=>.inr ⟨by omega,by omega,e⟩,λe=>by rcases e with e | e;omega;exact e.2.2⟩
  ·by_cases e1:i=b.toNat
   ·rw [e1,gb] at e;exact absurd rfl e
   ·by_cases e2:i=to.toNat
    ·rw [e2,gt];exact hht
    ·rw [go i e1 e2] at e⊢;exact h.l.he i hi e
  ·rw [gow]
   by_cases e1:i=b.toNat
   ·rw [e1,gb] at e;cases e
   ·by_cases e2:i=to.toNat
    ·rw [e2,hot];exact hn
    ·rw [go i e1 e2] at e;exact h.l.ho i hi e
  ·rw [gus]
   rcases (hpos k).1 hk with e | e
   ·rw [show (k.1-4).toNat=to.toNat by omega,hus];omega
   ·exact h.l.pu k e.2.2
  ·rw [gow]
   rw [a2] at hj
   obtain ⟨c0,hc0,rfl⟩:=Option.map_eq_some_iff.1 (by rw [<-List.getElem?_map];exact hj)
   rcases movF_is to (ordO s.O to).hh l 1 c0 hnd hto with ⟨h1,h2,m,h3,h4⟩ | ⟨h1,h2⟩
   ·rw [h4]
    have:=h.l.ow ms j c0 hm hc0 h1
    have hcb:c0.s.b=4+b:=((hmem _).1 h2).1
    rw [hcb,show (4+b-4).toNat=b.toNat by omega,hob] at this
    show (gx s.L (4+to-4).toNat).ow=ms
    rw [show (4+to-4).toNat=to.toNat by omega,hot,this]
   ·rw [h2] at hc ⊢
    exact h.l.ow ms j c0 hm hc0 hc
 have hp1:=(h.pi.chL to (φ:=cB (l.length:Int)) (λ_=>rfl)).chL b (φ:=rB) (λ_=>rfl)
 rw [chL_len,hln] at hp1
 have hfo:∀ i,i<4->frOk n (chL b n rB (chL to n (cB (l.length:Int)) s.L)) i (fat s i):=λi hi=>(h.fo i hi).imp id λ⟨k1,k2,k3⟩=>⟨k1,by
  have e1:(fat s i).toNat≠b.toNat:=λe=>hf i hi k1.1 (by omega)
  by_cases e2:(fat s i).toNat=to.toNat
  ·rw [e2,gt];exact hht
  ·rw [go _ e1 e2];exact k2,by rw [gow];exact k3⟩
 have key:SI g n (chS (chS {s with X:=movL to (ordO s.O to).hh l 1 s.X} to (cB (l.length:Int))) b rB):=by
  have e:chS (chS {s with X:=movL to (ordO s.O to).hh l 1 s.X} to (cB (l.length:Int))) b rB={s with X:=movL to (ordO s.O to).hh l 1 s.X,L:=chL b n rB (chL to n (cB (l.length:Int)) s.L)}:=by
   unfold chS
   dsimp only
   rw [hln,l1]
  rw [e]
  exact ⟨hp1,a1,hLI,h.fl,hfo,h.ep,h.op,h.ct⟩
 have hst:St g n 0 s (chS (chS {s with X:=movL to (ordO s.O to).hh l 1 s.X} to (cB (l.length:Int))) b rB):=⟨key,Nat.le_refl _,Nat.le_refl _,λns=>by show (getX (movL to (ordO s.O to).hh l 1 s.X) ns).n=_;rw [a2],rfl,rfl⟩
 unfold movP
 dsimp only
 split
 ·refine hst.trans (key.fr hn (.inr ⟨ht,?_⟩))
  show (gx (chL b (chS _ to _).L.length rB (chL to s.L.length _ s.L)) to.toNat).he=true/\(gx (chL b (chS _ to _).L.length rB (chL to s.L.length _ s.L)) to.toNat).ow=_
  have e:(chS {s with X:=movL to (ordO s.O to).hh l 1 s.X} to (cB (l.length:Int))).L.length=n:=by unfold chS;dsimp only;rw [hln];exact l1
  rw [e,hln,gt]
  exact ⟨hht,by show (gx s.L to.toNat).ow=_;rw [hot];omega⟩
 ·exact hst
end
section
variable {w:World} {r:Nat} {l:List ME} {c:Nat} {k:Int×Int}
theorem run_upd (v:Int) (hb:w.heap[r]? = some (.map (l.map ME.e).toArray c)):∃ l' c',(Instr.mapUpdate 183 (.map (some r)) (kV k) (.int .i64 v)).run Tryz.prog w=.ok () (setM w r (.map (l'.map ME.e).toArray c')) /\
  (MOk l c->MOk l' c'/\∀ k',getM l' k'=updM (getM l) k v k'):=by
 have hu:Tryz.prog.underlying 183=some (.map 81 3):=by kernel_rfl
 cases hf:fndM k l 0 with
 | none=>
  refine ⟨l++[⟨k,v,c⟩],c+1,?_,λh=>⟨⟨?_,?_,?_⟩,?_⟩⟩
  ·simp only [Instr.mapUpdate,Sem.run_bind,run_underlying hu,Result.andThen_ok,run_getM hb,run_chk,run_find,hf,Option.map_none,run_setM _ hb,Sem.run_pure]
   have e:(l.map ME.e).toArray.push (⟨kV k,.int .i64 v,c⟩:MapEntry)=((l++[(⟨k,v,c⟩:ME)]).map ME.e).toArray:=by simp
   rw [e]
  ·rw [List.map_append]
   refine List.nodup_append.2 ⟨h.kn,by simp,?_⟩
   intro a ha b hb2 e
   obtain ⟨x,hx,rfl⟩:=List.mem_map.1 ha
   have hb2:b=k:=by simpa using hb2
   subst hb2
   exact fndM_none.1 hf x hx e
  ·rw [List.map_append]
   refine List.nodup_append.2 ⟨h.bn,by simp,?_⟩
   intro a ha b hb2 e
   obtain ⟨x,hx,rfl⟩:=List.mem_map.1 ha
   have hb2:b=c:=by simpa using hb2
   subst hb2
   have:=h.bc x hx
   omega
  ·intro x hx
   rcases List.mem_append.1 hx with hx | hx
   ·have:=h.bc x hx;omega
   ·rw [List.mem_singleton.1 hx];exact Nat.lt_succ_self _
  ·intro k'
   unfold getM updM
   rw [fndM_app]
   by_cases hk2:k'=k
   ·subst hk2
    rw [hf,if_pos rfl]
    dsimp only
    rw [if_pos rfl]
   ·rw [if_neg hk2]
    show _=(match fndM k' l 0 with | some r=>r.2 | none=>0)
    cases hf':fndM k' l 0 with
    | some q=>rfl
    | none=>
     dsimp only
     rw [if_neg (λe=>hk2 e.symm)]
 | some q=>
  obtain ⟨i,v0⟩:=q
  obtain ⟨-,x,hx,hk,hv⟩:=fndM_some hf
  rw [Nat.sub_zero] at hx
  have hxe:((l.map ME.e).toArray)[i]? = some x.e:=by rw [List.getElem?_toArray,List.getElem?_map,hx];rfl
  have hil:i<l.length:=(List.getElem?_eq_some_iff.1 hx).1
  have hm:(l.map ME.e).toArray.modify i (λe=>{e with key:=kV k,val:=.int .i64 v})=((l.set i ⟨x.k,v,x.b⟩).map ME.e).toArray:=by
   apply Array.ext_getElem?
   intro j
   rw [Array.getElem?_modify,List.getElem?_toArray,List.getElem?_toArray,List.getElem?_map,List.getElem?_map,List.getElem?_set]
   by_cases hij:i=j
   ·subst hij
    rw [if_pos rfl,if_pos rfl,if_pos hil,hx,<- hk]
    rfl
   ·rw [if_neg hij,if_neg hij]
  have hs:(Instr.keyThatStays (kV k) (kV k)).run Tryz.prog w=.ok (kV k) w:=by simp only [Instr.keyThatStays,same_bits,if_true,Sem.run_pure]
  have hk2:((((l.map ME.e).toArray)[i]?).map (·.key)).getD (kV k)=kV k:=by rw [hxe,<- hk];rfl
  refine ⟨l.set i ⟨x.k,v,x.b⟩,c,?_,λhM=>?_⟩
  ·simp only [Instr.mapUpdate,Sem.run_bind,run_underlying hu,Result.andThen_ok,run_getM hb,run_chk,run_find,hf,Option.map_some,hk2,hs,hm,run_setM _ hb,Sem.run_pure]
  ·obtain ⟨l',hr,g1,g2⟩:=run_sto (v:=v) hM (List.mem_of_getElem? hx) hb
   have hkk:(l.set i ⟨x.k,v,x.b⟩).map (·.k)=l.map (·.k):=by
    rw [List.map_set];exact List.set_getElem?_self' (by rw [List.getElem?_map,hx];rfl)
   have hbb:(l.set i ⟨x.k,v,x.b⟩).map (·.b)=l.map (·.b):=by
    rw [List.map_set];exact List.set_getElem?_self' (by rw [List.getElem?_map,hx];rfl)
   have hM':MOk (l.set i ⟨x.k,v,x.b⟩) c:=⟨by rw [hkk];exact hM.kn,by rw [hbb];exact hM.bn,λy hy=>by
    rcases List.mem_or_eq_of_mem_set hy with h | h
    ·exact hM.bc y h
    ·rw [h];exact hM.bc x (List.mem_of_getElem? hx)⟩
   refine ⟨hM',λk'=>?_⟩
   unfold updM
   by_cases he:k'=k
   ·rw [if_pos he,he,<- hk]
    exact hM'.get (x:=⟨x.k,v,x.b⟩) (List.mem_set hil _)
   ·rw [if_neg he]
    rcases getM_cases hM k' with ⟨y,hy,rfl,h2⟩ | ⟨h1,h2⟩
    ·rw [h2]
     refine hM'.get (x:=y) ?_
     obtain ⟨j,hj⟩:=List.getElem?_of_mem hy
     refine List.mem_of_getElem? (i:=j) ?_
     rw [List.getElem?_set,if_neg (λe=>?_),hj]
     subst e
     rw [hx] at hj
     cases hj
     exact he hk
    ·rw [h2]
     refine getM_none λy hy=>?_
     rcases List.mem_or_eq_of_mem_set hy with h | h
     ·exact h1 y h
     ·rw [h];exact λe=>he (e.symm.trans hk)
end
section
variable {E:Nat->Prop} {w0 w:World} {Rs:List Asr} {r:Nat} {m:Int×Int->Int} {k:Int×Int}
theorem _root_.Go.Eng.Sep.updM (S:Sep E w0 w Rs) (i:Nat) (hi:Rs[i]? = some (MapF r m)) {v:Int} {K:World->Prop} (hk:∀ w',Sep E w0 w' (Rs.set i (MapF r (Vc.updM m k v)))->Fr (λk=>k=r) w w'->K w') :
  RunU Tryz.prog (Instr.mapUpdate 183 (.map (some r)) (kV k) (.int .i64 v)) w K:=by
 obtain ⟨F,⟨hF,l,c,h1,h2,h3⟩,hb⟩:=S.get hi
 have hlt:=(hb r hF).2
 obtain ⟨l',c',hr,hM⟩:=run_upd (k:=k) v h1
 obtain ⟨g1,g2⟩:=hM h2
 refine ⟨_,hr,hk _ (S.mstep hi (P:=λ_=>True) (λF h=>⟨h.1,trivial⟩) hlt λw' F hF hw=>⟨hF,l',c',hw,g1,λk'=>?_⟩) (setM_fr hlt).1⟩
 rw [g2]
 unfold Vc.updM
 split
 ·rfl
 ·exact h3 k'
end
theorem cntX_ge {X:List (SlP Ce)} (hX:X.length=4) {n:Int} (hn:0<=n/\n<4) (k:Int×Int):(cntC (getX X n).l k:Int)<=cntX X k:=by
 have h1:=cntX_drop hX hn k
 have h2:0<=cntX (X.set n.toNat noC) k:=by unfold cntX;exact Int.natCast_nonneg _
 omega
theorem cntC_take {l:List Ce} {i:Nat} {c:Ce} (hc:l[i]? = some c) (k:Int×Int):(cntC (l.take (i+1)) k:Int)=cntC (l.take i) k+(if isP k c=true then 1 else 0):=by
 unfold cntC
 rw [List.take_add_one,hc,List.countP_append]
 show ((List.countP _ _+List.countP _ [c]:Nat):Int)=_
 rw [List.countP_cons,List.countP_nil]
 split <;> simp
theorem cntC_take_le (l:List Ce) (i:Nat) (k:Int×Int):cntC (l.take i) k<=cntC l k:=(List.take_sublist i l).countP_le
section
variable {E:Nat->Prop} {w0 w:World} {p r:Nat} {X:List (SlP Ce)} {m:Int×Int->Int} {Rs:List Asr}
theorem cellP (hX:X.length=4) {ns:Int} (hn:0<=ns/\ns<4) (i:Nat) (S:Sep E w0 w Rs) (hi:Rs[i]? = some (ownsA X)) {q:Addr} (hq:(getX X ns).a=some q) {j:Nat} (hj:j<(getX X ns).n) {x:Ce} (hx:(getX X ns).l[j]? = some x) (k:Nat) (c:Ce) {news:List Value} (hl:k+news.length<=15) (hy:c.vs=x.vs.take k++(news++x.vs.drop (k+news.length))) {K:World->Prop}
  (hk:∀ w',Sep E w0 w' (Rs.set i (ownsA (setX X ns j c)))->Fr (λk=>k=q.block) w w'->K w'):StoreV w ((q.add (j*15)).add k) news K:=by
 have S1:=(S.perm (perm_front hi)).unfold (Rs:=X.map ownC)
 have h4:=owns_nth hX hn
 have S2:Sep E w0 w (ownC (getX X ns)::((X.map ownC).eraseIdx ns.toNat++Rs.eraseIdx i)):=S1.perm ((perm_front h4).append_right (Rs.eraseIdx i))
 obtain ⟨q2,hq2,h⟩:=S2.stF (f:=Ce.vs) (m:=15) Ce_len Ce_one (by decide) (j:=(j:Int)) ⟨by omega,by omega⟩ k (x:=x) (y:=c) (by rw [Int.toNat_natCast];exact hx) hl hy (K:=K) λw' S3 f3=>hk w' (by
  rw [Int.toNat_natCast] at S3
  have S4:Sep E w0 w' ((X.map ownC).set ns.toNat (ownC ⟨(getX X ns).a,(getX X ns).n,(getX X ns).c,(getX X ns).l.set j c⟩)++Rs.eraseIdx i):=S3.perm (((perm_set h4).append_right (Rs.eraseIdx i)))
  rw [<-List.map_set (f:=ownC)] at S4
  exact (S4.fold (Rs:=(setX X ns j c).map ownC)).perm (perm_set hi)) (f3.mono λk ⟨q3,hq3,hk⟩=>by rw [hq] at hq3;cases hq3;exact hk)
 rw [hq] at hq2
 cases hq2
 rw [Int.toNat_natCast] at h
 exact h
theorem Drop22_c {ns:Int} {T:List (Int×Int)->List (Int×Int)->Prop} (hX:XOk X) (hT:∀ M:List (Int×Int),M.Nodup->(∀ k,k∈M↔1<=cntX X k/\cntX (X.set ns.toNat noC) k=0)->Told T M) (S:Sep E w0 w [boxP p r X,MapF r (cntX X),ownsA X]) :
  CallV Tryz.prog 112 #[.pointer (some ⟨p,0,none⟩),.int .i64 ns] w [.one .sl,.one (.int .i64)] λrr w'=>((getX X ns).n=0->rr.1=(⟨none,0,0⟩:SlV)/\rr.2.1=(2:Int)/\Sep E w0 w' [boxP p r X,MapF r (cntX X),ownsA X]) /\
   ((getX X ns).n≠0->rr.2.1=(0:Int)/\∃ (M L':List (Int×Int)),M.Nodup/\(∀ k,k∈M↔1<=cntX X k/\cntX (X.set ns.toNat noC) k=0)/\T M L'/\Sep E w0 w' [outA rr.1.a rr.1.n rr.1.c L',boxP p r (X.set ns.toNat noC),MapF r (cntX (X.set ns.toNat noC)),ownsA (X.set ns.toNat noC)]):=by
 apply pagemap_Map_Drop.vc
 unfold pagemap_Map_Drop.P
 refine (own22_c (ns:=ns) hX.four (toQ S)).mono ?_
 rintro ⟨_,⟨⟩⟩ w1 ⟨h1,rfl⟩
 dsimp only at h1
 subst h1
 dsimp only
 refine cond_eq (λh0=>?_) (λh0=>?_)
 ·have h0:(getX X ns).n=0:=by have h0:(((getX X ns).n:Nat):Int)=0:=h0;omega
  exact ⟨λ_=>⟨rfl,rfl,S⟩,λh=>absurd h0 h⟩
 have h0:(getX X ns).n≠0:=by have h0:(((getX X ns).n:Nat):Int)≠0:=h0;omega
 have hn:0<=ns/\ns<4:=by
  refine Classical.byContradiction λe=>h0 ?_
  unfold getX;rw [if_neg e];rfl
 have hln:=hX.get ns
 have S:=S.nilOwn 81 2
 refine Loop1 (λ(v:SlV×Int×Unit) w'=>∃ (i:Nat) (M:List (Int×Int)) (m:Int×Int->Int),v.2.1=(i:Int)/\i<=(getX X ns).n/\v.1.n<=i/\M.Nodup/\(∀ k,m k=cntX X k-cntC ((getX X ns).l.take i) k)/\(∀ k,k∈M↔1<=cntX X k/\m k=0)/\Sep E w0 w' [outA v.1.a v.1.n v.1.c M,boxP p r X,MapF r m,ownsA X])
  (λ(v:SlV×Int×Unit) _=>(((getX X ns).n:Int)-v.2.1).toNat) ⟨0,[],cntX X,rfl,by omega,Nat.le_refl _,.nil,λk=>by rw [List.take_zero];show _=cntX X k-0;omega,λk=>⟨λh=>(List.not_mem_nil h).elim,λh=>by omega⟩,S⟩ ?_
 clear S
 rintro ⟨⟨oa,on,oc⟩,(v:Int),⟨⟩⟩ w2 ⟨i,M,m,hv,hi,hon,hnd,hm,hM,S⟩
 dsimp only at hv hon S ⊢
 subst hv
 refine cond_d (λhlt=>?_) (λhge=>?_)
 ·obtain ⟨q,x,hq,hx,hcx,hqb⟩:=cellR hX.four hn 3 S rfl (j:=(i:Int)) (by omega) hlt
  rw [Int.toNat_natCast] at hx
  refine ⟨⟨by omega,hlt⟩,q,hq,x.tup,hcx,?_⟩
  refine S.newB λb8 w3 S f3 _=>?_
  refine S.st0 (by rfl) λw4 S f4=>S.la0 rfl ?_
  have hct:=λk=>cntC_take hx k
  have hle:=λk=>cntC_take_le (getX X ns).l (i+1) k
  have hge:=λk=>cntX_ge hX.four hn k
  have hup:=λk=>cntX_le hX k
  have isC:∀ k,isP k x=true↔x.has=true/\x.pl=k:=λk=>by unfold isP;simp
  have hm1:x.has=true->1<=m x.pl/\m x.pl<=1000000:=λhh=>by
   have h2:=hct x.pl
   rw [if_pos ((isC _).2 ⟨hh,rfl⟩)] at h2
   have h3:=hle x.pl
   have h4:=hge x.pl
   have h5:=hup x.pl
   rw [hm]
   omega
  have S:=S.sel [2,2,1,0,0] rfl
  refine Sep.call [_,_,_] (Ts:=[_,_]) S (λG SG=>lose22_c (c:=x) (bv4 hX.four) hm1 (by omega) SG) λG fr rr w5 hr=>?_
  obtain ⟨a9,n9,c9,m9,hr1,hn9,hm9,S9⟩:=hr
  have S:=fr _ _ S9
  obtain ⟨rr1,⟨⟩⟩:=rr
  dsimp only at hr1
  subst hr1
  have hmk:∀ k,m9 k=m k-(if isP k x=true then 1 else 0):=λk=>by
   rw [hm9]
   unfold losM
   by_cases hh:x.has=true
   ·rw [if_pos hh]
    unfold updM
    by_cases h:k=(x.s.b,x.s.p)
    ·rw [if_pos h,h,if_pos ((isC _).2 ⟨hh,rfl⟩)]
    ·rw [if_neg h,if_neg (λe=>h ((isC _).1 e).2.symm)];omega
   ·rw [if_neg hh,if_neg (λe=>hh ((isC _).1 e).1)];omega
  have hMk:∀ k,k∈losL m x M↔1<=cntX X k/\m9 k=0:=λk=>by
   rw [hmk]
   by_cases hp:isP k x=true
   ·rw [if_pos hp]
    obtain ⟨hh,rfl⟩:=(isC k).1 hp
    have h1:=hm1 hh
    have h2:x.pl∉M:=λh=>by have:=((hM _).1 h).2;omega
    have h3:1<=cntX X x.pl:=by
     have:=hm x.pl
     omega
    unfold losL
    by_cases h4:0<m (x.s.b,x.s.p)-1
    ·rw [if_neg (λe=>e.2 h4)]
     exact ⟨λh=>absurd h h2,λh=>by have h5:=h.2;have h4:0<m x.pl-1:=h4;omega⟩
    ·rw [if_pos ⟨hh,h4⟩]
     have h4:¬ 0<m x.pl-1:=h4
     exact ⟨λ_=>⟨h3,by omega⟩,λ_=>List.mem_append_right _ (List.mem_singleton.2 rfl)⟩
   ·rw [if_neg hp,Int.sub_zero,<- hM]
    unfold losL
    split
    ·rename_i h4
     rw [List.mem_append,List.mem_singleton]
     exact ⟨λh=>h.elim id λe=>absurd ((isC k).2 ⟨h4.1,e.symm⟩) hp,.inl⟩
    ·exact Iff.rfl
  have hMn:(losL m x M).Nodup:=by
   unfold losL
   split
   ·rename_i h4
    rw [List.nodup_append]
    refine ⟨hnd,by simp,λa ha b hb e=>?_⟩
    have hb:b=x.pl:=List.mem_singleton.1 hb
    have h1:=hm1 h4.1
    rw [e,hb] at ha
    have:=((hM _).1 ha).2
    omega
   ·exact hnd
  refine ⟨Rng.i64 (by omega) (by omega),⟨i+1,_,m9,by push_cast;rfl,by omega,by dsimp only;omega,hMn,λk=>by rw [hmk,hm,hct];omega,hMk,S.sel [2,0,0,1] rfl⟩,by omega⟩
 have hie:i=(getX X ns).n:=by omega
 subst hie
 rw [List.take_of_length_le (by omega)] at hm
 have hmm:m=cntX (X.set ns.toNat noC):=funext λk=>by rw [hm,cntX_drop hX.four hn]
 subst hmm
 refine ⟨hn,?_⟩
 have hl:ns.toNat<X.length:=by have:=hX.four;omega
 rw [Nat.mul_one,show (⟨p,0,none⟩:Addr).add ns.toNat=⟨p,ns.toNat,none⟩ by simp [Addr.add_lit]]
 refine S.storeR1 (i:=1) rfl (j:=ns.toNat) (by rw [List.length_append,List.length_map];omega) λw3 S f3=>?_
 have e1:(X.map slM++[Value.map (some r)]).set ns.toNat (.slice none 0 0)=(X.set ns.toNat noC).map slM++[.map (some r)]:=by
  rw [List.set_append_left _ _ (by rw [List.length_map];exact hl),List.map_set]
  rfl
 have S:Sep E w0 w3 [outA oa on oc M,BoxA p 186 ((X.map slM++[Value.map (some r)]).set ns.toNat (.slice none 0 0)),MapF r (cntX (X.set ns.toNat noC)),ownsA X]:=S
 rw [e1] at S
 have S1:=(((S.sel [3,0,0,0] rfl).unfold (Rs:=X.map ownC) (Ts:=[_,_,_])).nilOwn 178 15)
 have S2:=S1.swapIn (i:=ns.toNat) (R:=ownC (getX X ns)) (by
  have:=owns_nth hX.four hn
  rw [List.getElem?_append_left (List.getElem?_eq_some_iff.1 this).1,this])
 rw [List.set_append_left _ _ (by rw [List.length_map];exact hl)] at S2
 have S3:Sep E w0 w3 ((X.map ownC).set ns.toNat (ownC noC)++[outA oa on oc M,boxP p r (X.set ns.toNat noC),MapF r (cntX (X.set ns.toNat noC))]):=S2
 rw [<-List.map_set (f:=ownC)] at S3
 have S4:=(S3.fold (Rs:=(X.set ns.toNat noC).map ownC)).sel [1,1,1,0] rfl
 refine (hT M hnd hM S4).mono ?_
 rintro ⟨_,⟨⟩⟩ w4 ⟨L',hL',hr,S⟩
 dsimp only at hr
 subst hr
 exact ⟨λh=>absurd h h0,λ_=>⟨rfl,M,L',hnd,hM,hL',S⟩⟩
structure MovI (f t:Int×Int) (o:Hh) (X:List (SlP Ce)) (a:Int) (b:Nat) (Y:List (SlP Ce)):Prop where
 ok:XOk Y
 sl:Y.map slM=X.map slM
 cell:∀ (ns:Int) (j:Nat),(0<=ns/\ns<4)->(getX Y ns).l[j]? = if ns<a\/(ns=a/\j<b) then ((getX X ns).l[j]?).map (movC f t o) else (getX X ns).l[j]?
theorem sl_all {Y:List (SlP Ce)} (hY:Y.length=4) (hX:X.length=4) (h:Y.map slM=X.map slM) (ns:Int):(getX Y ns).a=(getX X ns).a/\(getX Y ns).n=(getX X ns).n/\(getX Y ns).c=(getX X ns).c:=by
 by_cases hn:0<=ns/\ns<4
 ·have h1:(Y.map slM)[ns.toNat]? = (X.map slM)[ns.toNat]?:=by rw [h]
  rw [List.getElem?_map,List.getElem?_map,getX_at hY hn,getX_at hX hn] at h1
  have h2:=Option.some.inj h1
  unfold slM at h2
  injection h2 with e1 e2 e3
  exact ⟨e1,e2,e3⟩
 ·unfold getX
  rw [if_neg hn,if_neg hn]
  exact ⟨rfl,rfl,rfl⟩
theorem MovI.end {f t:Int×Int} {o:Hh} {Y:List (SlP Ce)} (hX:XOk X) (h:MovI f t o X 4 0 Y):Y=movX f t o X:=by
 refine List.ext_getElem? λi=>?_
 have hm:(movX f t o X).length=4:=by unfold movX;rw [List.length_map];exact hX.four
 by_cases hi:i<4
 ·have hn:0<=(i:Int)/\(i:Int)<4:=by omega
  have e1:=getX_at h.ok.four hn
  have e2:=getX_at hm hn
  rw [Int.toNat_natCast] at e1 e2
  rw [e1,e2,getX_mov _ _ _ _ hX.four]
  obtain ⟨a1,a2,a3⟩:=sl_all h.ok.four hX.four h.sl (i:Int)
  have a4:(getX Y (i:Int)).l=(getX X (i:Int)).l.map (movC f t o):=by
   refine List.ext_getElem? λj=>?_
   rw [h.cell _ _ hn,if_pos (.inl hn.2),List.getElem?_map]
  rw [<-a1,<- a2,<- a3,<- a4]
 ·rw [List.getElem?_eq_none (by have:=h.ok.four;omega),List.getElem?_eq_none (by omega)]
theorem MovI.nil {f t:Int×Int} {o:Hh} (hX:XOk X):MovI f t o X 0 0 X:=⟨hX,rfl,λns j hn=>by rw [if_neg (by omega)]⟩
theorem MovI.next {f t:Int×Int} {o:Hh} {Y:List (SlP Ce)} {a:Int} (hX:XOk X) (h:MovI f t o X a (getX X a).n Y):MovI f t o X (a+1) 0 Y:=⟨h.ok,h.sl,λns j hn=>by
 rw [h.cell ns j hn]
 by_cases h1:ns<a
 ·rw [if_pos (.inl h1),if_pos (.inl (by omega))]
 ·by_cases h2:ns=a
  ·subst h2
   by_cases h3:j<(getX X ns).n
   ·rw [if_pos (.inr ⟨rfl,h3⟩),if_pos (.inl (by omega))]
   ·have:(getX X ns).l[j]? = none:=List.getElem?_eq_none (by rw [(hX.get ns).1];omega)
    rw [this]
    split <;> split <;> rfl
  ·rw [if_neg (by omega),if_neg (by omega)]⟩
theorem MovI.skip {f t:Int×Int} {o:Hh} {Y:List (SlP Ce)} {a:Int} {b:Nat} (h:MovI f t o X a b Y) {c:Ce} (hc:(getX X a).l[b]? = some c) (he:movC f t o c=c):MovI f t o X a (b+1) Y:=⟨h.ok,h.sl,λns j hn=>by
 rw [h.cell ns j hn]
 by_cases h1:ns=a/\j=b
 ·obtain ⟨rfl,rfl⟩:=h1
  rw [if_neg (by omega),if_pos (by omega),hc]
  exact congrArg some he.symm
 ·by_cases h2:ns<a\/ns=a/\j<b
  ·rw [if_pos h2,if_pos (by omega)]
  ·rw [if_neg h2,if_neg (by omega)]⟩
theorem MovI.put {f t:Int×Int} {o:Hh} {Y:List (SlP Ce)} {a:Int} {b:Nat} (h:MovI f t o X a b Y) (ha:0<=a/\a<4) {c:Ce} (hc:(getX X a).l[b]? = some c):MovI f t o X a (b+1) (setX Y a b (movC f t o c)):=⟨h.ok.set,(setX_sl h.ok.four ha).trans h.sl,λns j hn=>by
 rw [getX_l_set h.ok.four ha]
 have hy:(getX Y a).l[b]? = some c:=by rw [h.cell a b ha,if_neg (by omega),hc]
 by_cases e:ns=a
 ·subst e
  rw [if_pos rfl,List.getElem?_set]
  by_cases e2:b=j
  ·subst e2
   rw [if_pos rfl,if_pos (List.getElem?_eq_some_iff.1 hy).1,if_pos (by omega),hc]
   rfl
  ·rw [if_neg e2,h.cell ns j hn]
   by_cases h2:ns<ns\/ns=ns/\j<b
   ·rw [if_pos h2,if_pos (by omega)]
   ·rw [if_neg h2,if_neg (by omega)]
 ·rw [if_neg e,h.cell ns j hn]
  by_cases h2:ns<a
  ·rw [if_pos (.inl h2),if_pos (.inl h2)]
  ·rw [if_neg (by omega),if_neg (by omega)]⟩
attribute [local irreducible] cntX
theorem Move22_c {f t:Int×Int} {o:Hh} (hX:XOk X) (S:Sep E w0 w [boxP p r X,MapF r (cntX X),ownsA X]):CallV Tryz.prog 211 #[.pointer (some ⟨p,0,none⟩),.agg #[.int .i64 f.1,.int .i64 f.2],.agg #[.int .i64 t.1,.int .i64 t.2],o.val] w [.one (.int .i64)] λrr w'=>
  (f≠t/\0<cntX X t->rr.1=(2:Int)/\Sep E w0 w' [boxP p r X,MapF r (cntX X),ownsA X])/\(¬ (f≠t/\0<cntX X t)->rr.1=(0:Int)/\Sep E w0 w' [boxP p r (movX f t o X),MapF r (cntX (movX f t o X)),ownsA (movX f t o X)]):=by
 apply pagemap_Map_Move.vc
 unfold pagemap_Map_Move.P
 refine S.newB λb1 w1 S f1 _=>?_
 refine S.newB λb3 w1 S f1 _=>?_
 refine S.newB (vs:=o.vs) λb5 w1 S f1 _=>?_
 have hlb:∀ {w':World} {E':Nat->Prop} {wz:World} {A:List Asr},Sep E' wz w' A->∀ (i:Nat),A[i]? = some (boxP p r X)->((⟨p,0,none⟩:Addr).add 4).block<w'.heap.size:=λS i hi=>by rw [add_block];exact S.lt i hi
 have hcn:=cntX_le hX
 refine S.reg λD hD hkeep S U=>⟨hD _ S.bl2,S.la2 rfl ⟨hD _ S.bl1,S.la1 rfl (eqPl ?_)⟩⟩
 have hft:∀ {P:Prop} [Decidable P],(P↔f=t)->decide P=decide (f=t):=λh=>decide_eq_decide.2 h
 rw [hft (show _↔f=t from ⟨λh=>Prod.ext h.1 h.2,λh=>by rw [h];exact ⟨rfl,rfl⟩⟩)]
 by_cases hne:f=t
 case neg=>
  rw [decide_eq_false hne]
  have hp1:=hlb S 3 rfl
  refine cond_t rfl ⟨hD _ hp1,ld4P hX.four 3 S rfl ⟨hD _ S.bl1,S.la1 rfl ?_⟩⟩
  refine S.lookM (k:=t) 4 rfl ?_
  refine ⟨hkeep _ U.fr,?_⟩
  refine cond_d (λ(hg:cntX X t>0)=>⟨λ_=>⟨rfl,S.sel [3,3,3] rfl⟩,λh=>absurd ⟨hne,hg⟩ h⟩) (λ(hg:¬ cntX X t>0)=>?_)
  have hno:¬ (f≠t/\0<cntX X t):=λh=>hg h.2
  clear hD hkeep U
  refine S.reg λD hD hkeep S U=>?_
  have hp1:=hlb S 3 rfl
  refine ⟨hD _ hp1,ld4P hX.four 3 S rfl ⟨hD _ S.bl2,S.la2 rfl ?_⟩⟩
  refine S.lookM (k:=f) 4 rfl ?_
  refine ⟨hkeep _ U.fr,?_⟩
  clear hD hkeep U
  have hsl:=(S.cells 3 rfl).take 4
  rw [List.take_append_of_le_length (by rw [List.length_map,hX.four];exact Nat.le_refl _),List.take_of_length_le (by rw [List.length_map,hX.four];exact Nat.le_refl _)] at hsl
  have h4:X.map slM=[.slice (getX X 0).a (getX X 0).n (getX X 0).c,.slice (getX X 1).a (getX X 1).n (getX X 1).c,.slice (getX X 2).a (getX X 2).n (getX X 2).c,.slice (getX X 3).a (getX X 3).n (getX X 3).c]:=by
   have:=hX.four
   match X,this with
   | [a,b,c,d],_=>rfl
  rw [h4] at hsl
  refine ⟨(⟨(getX X 0).a,(getX X 0).n,(getX X 0).c⟩,⟨(getX X 1).a,(getX X 1).n,(getX X 1).c⟩,⟨(getX X 2).a,(getX X 2).n,(getX X 2).c⟩,⟨(getX X 3).a,(getX X 3).n,(getX X 3).c⟩,()),hsl,?_⟩
  clear hsl
  refine Loop1 (λ(v:Int×Unit) w'=>∃ (a:Int) (Y:List (SlP Ce)),v.1=a/\(0<=a/\a<=4)/\MovI f t o X a 0 Y/\Sep E w0 w' [BoxA b5 62 o.vs,BoxA b3 81 [.int .i64 t.1,.int .i64 t.2],BoxA b1 81 [.int .i64 f.1,.int .i64 f.2],boxP p r X,MapF r (cntX X),ownsA Y])
   (λ(v:Int×Unit) _=>(4-v.1).toNat) ⟨0,X,rfl,by omega,.nil hX,S⟩ ?_
  clear S
  rintro ⟨(v:Int),⟨⟩⟩ w2 ⟨a,Y,hv,ha,hY,S⟩
  dsimp only at hv ⊢
  subst hv
  refine cond_d (λhlt=>?_) (λhge=>?_)
  ·have hn:0<=v/\v<4:=⟨ha.1,hlt⟩
   refine ⟨hn,⟨(getX X v).a,(getX X v).n,(getX X v).c⟩,?_,?_⟩
   ·have:v=0\/v=1\/v=2\/v=3:=by omega
    rcases this with e | e | e | e <;> subst e <;> rfl
   dsimp only
   have hln:=hX.get v
   refine Loop1 (λ(u:Int×Unit) w'=>∃ (i:Nat) (Y:List (SlP Ce)),u.1=(i:Int)/\i<=(getX X v).n/\MovI f t o X v i Y/\Sep E w0 w' [BoxA b5 62 o.vs,BoxA b3 81 [.int .i64 t.1,.int .i64 t.2],BoxA b1 81 [.int .i64 f.1,.int .i64 f.2],boxP p r X,MapF r (cntX X),ownsA Y])
    (λ(u:Int×Unit) _=>(((getX X v).n:Int)-u.1).toNat) ⟨0,Y,rfl,by omega,hY,S⟩ ?_
   clear S hY
   rintro ⟨(u:Int),⟨⟩⟩ w3 ⟨i,Y,hu,hi,hY,S⟩
   dsimp only at hu ⊢
   subst hu
   obtain ⟨g1,g2,g3⟩:=sl_all hY.ok.four hX.four hY.sl v
   refine cond_d (λhlt2=>?_) (λhge2=>?_)
   ·have rg:Rng .i64 ((i:Int)+1):=Rng.i64 (by omega) (by omega)
    obtain ⟨q,x,hq,hx,hcx,hqb⟩:=cellR hY.ok.four hn 5 S rfl (j:=(i:Int)) (by omega) (by rw [g2];exact hlt2)
    rw [Int.toNat_natCast] at hx
    have hxX:(getX X v).l[i]? = some x:=by rw [hY.cell v i hn,if_neg (by omega)] at hx;exact hx
    refine ⟨⟨by omega,hlt2⟩,q,g1 ▸ hq,x.tup,hcx,?_⟩
    refine S.newB λb30 w4 S f4 _=>?_
    refine S.st0 (by rfl) λw5 S f5=>?_
    have skip:movC f t o x=x->Rng .i64 ((i:Int)+1)/\(∃ (i':Nat) (Y:List (SlP Ce)),(i:Int)+1=(i':Int)/\i'<=(getX X v).n/\MovI f t o X v i' Y/\Sep E w0 w5 [BoxA b5 62 o.vs,BoxA b3 81 [.int .i64 t.1,.int .i64 t.2],BoxA b1 81 [.int .i64 f.1,.int .i64 f.2],boxP p r X,MapF r (cntX X),ownsA Y])/\(((getX X v).n:Int)-((i:Int)+1)).toNat<(((getX X v).n:Int)-(i:Int)).toNat:=λhe=>
     ⟨rg,⟨i+1,Y,by push_cast;rfl,by omega,hY.skip hxX he,S.sel [1,1,1,1,1,1] rfl⟩,by omega⟩
    refine S.ld0 (j:=0) rfl rfl (cond_of (λ(hh:x.has=true)=>?_) (λ(hh:x.has=false)=>skip (by unfold movC;rw [if_neg (λe=>by rw [hh] at e;cases e.1)])))
    refine S.lb0 (o:=1) rfl (S.la3 rfl (eqPl (cond_d (λe=>?_) (λe=>skip (by unfold movC;rw [if_neg (λk=>e ⟨by have:=congrArg Prod.fst k.2;exact this,by have:=congrArg Prod.snd k.2;exact this⟩)])))))
    have hxf:x.pl=f:=Prod.ext e.1 e.2
    have hmv:movC f t o x=⟨true,⟨t.1,t.2,x.s.h,o⟩⟩:=by unfold movC;rw [if_pos ⟨hh,hxf⟩]
    have S:=S.sel [6,0,0,0,0,0,0] rfl
    refine Sep.regC [_] S λG D hG T S hDt hDo hkeep back=>?_
    refine ⟨hDt 2 _ _ _ rfl,S.la3 rfl ⟨hDt 1 _ _ _ rfl,S.la2 rfl ⟨⟨by omega,hlt2⟩,q,g1 ▸ hq,?_⟩⟩⟩
    rw [Int.toNat_natCast]
    have hin:i<(getX Y v).n:=by rw [g2];omega
    refine cellP hY.ok.four hn 0 T rfl hq hin hx 1 ⟨x.has,⟨t.1,t.2,x.s.h,x.s.o⟩⟩ (by show 1+2<=15;decide) rfl λw6 T f6=>⟨hkeep _ T.fr,⟨by omega,hlt2⟩,q,g1 ▸ hq,?_⟩
    have hY2:XOk (setX Y v i ⟨x.has,⟨t.1,t.2,x.s.h,x.s.o⟩⟩):=hY.ok.set
    have gs:=setX_get hY.ok.four hn (j:=i) (c:=⟨x.has,⟨t.1,t.2,x.s.h,x.s.o⟩⟩) v
    rw [if_pos rfl] at gs
    have hil:i<(getX Y v).l.length:=(List.getElem?_eq_some_iff.1 hx).1
    rw [add_add (q.add _)]
    refine cellP hY2.four hn 0 T rfl (by rw [gs];exact hq) (by rw [gs];exact hin) (x:=⟨x.has,⟨t.1,t.2,x.s.h,x.s.o⟩⟩) (by rw [gs];show ((getX Y v).l.set i _)[i]? = _;rw [List.getElem?_set,if_pos rfl,if_pos hil]) (1+8) ⟨x.has,⟨t.1,t.2,x.s.h,o⟩⟩ (by show 1+8+6<=15;decide) rfl λw7 T f7=>⟨hkeep _ T.fr,rg,⟨i+1,_,by push_cast;rfl,by omega,hY.put hn hxX,?_⟩,by omega⟩
    have e2:setX (setX Y v i ⟨x.has,⟨t.1,t.2,x.s.h,x.s.o⟩⟩) v i ⟨x.has,⟨t.1,t.2,x.s.h,o⟩⟩=setX Y v i (movC f t o x):=by
     rw [hmv,hh]
     unfold setX
     rw [List.set_set]
     have gs':=gs
     unfold setX at gs'
     rw [hh] at gs'
     rw [gs',List.set_set]
    have S:=back _ _ T
    dsimp only [List.set_cons_zero] at S
    rw [e2] at S
    exact S.sel [2,2,2,2,2,0] rfl
   ·have hie:i=(getX X v).n:=by omega
    subst hie
    exact ⟨Rng.i64 (by omega) (by omega),⟨v+1,Y,rfl,by omega,hY.next hX,S⟩,by omega⟩
  have hv4:v=4:=by omega
  subst hv4
  have hYe:=hY.end hX
  subst hYe
  have hm:∀ k,cntX (movX f t o X) k=_:=λk=>cntX_mov f t o k
  have hbx:boxP p r X=boxP p r (movX f t o X):=by
   show BoxA p _ (X.map slM++_)=BoxA p _ ((movX f t o X).map slM++_)
   rw [hY.sl]
  rw [hbx] at S
  have hX2:XOk (movX f t o X):=hY.ok
  refine cond_d (λ(hg:cntX X f>0)=>?_) (λ(hg:¬ cntX X f>0)=>?_)
  case refine_2=>
   have hcf:=(hcn f).1
   have e:cntX X=cntX (movX f t o X):=funext λk=>by
    rw [hm,show cntX X f=0 by omega]
    split <;> split <;> omega
   rw [e] at S
   exact ⟨λh=>absurd h hno,λ_=>⟨rfl,S.sel [3,3,3] rfl⟩⟩
  refine S.la2 rfl (S.la1 rfl (eqPl ?_))
  rw [hft (show _↔f=t from ⟨λh=>Prod.ext h.1 h.2,λh=>by rw [h];exact ⟨rfl,rfl⟩⟩)]
  rw [decide_eq_false hne]
  refine cond_t rfl ?_
  have S:=S.sel [4,0,0,0,0,0] rfl
  refine Sep.regC [_] S λG D hG T S hDt hDo hkeep back=>?_
  refine ⟨by rw [add_block];exact hDt 3 _ _ _ rfl,ld4P hX2.four 4 S rfl ⟨hDt 1 _ _ _ rfl,S.la2 rfl ?_⟩⟩
  refine T.updM (k:=t) 0 rfl λw3 T f3=>?_
  refine ⟨hkeep _ T.fr,?_⟩
  have S:=back _ _ T
  dsimp only [List.set_cons_zero,List.cons_append,List.nil_append] at S
  refine Sep.regC [_] S λG D hG T S hDt hDo hkeep back=>?_
  refine ⟨by rw [add_block];exact hDt 3 _ _ _ rfl,ld4P hX2.four 4 S rfl ⟨hDt 2 _ _ _ rfl,S.la3 rfl ?_⟩⟩
  refine T.delM (k:=f) 0 rfl λw4 T f4=>?_
  refine ⟨hkeep _ T.fr,?_⟩
  have S:=back _ _ T
  dsimp only [List.set_cons_zero,List.cons_append,List.nil_append] at S
  have e:updM (updM (cntX X) t (cntX X f)) f 0=cntX (movX f t o X):=funext λk=>by
   rw [hm]
   unfold updM
   have hct:=(hcn t).1
   by_cases h1:k=f
   ·rw [if_pos h1,if_pos h1,if_neg (λe=>hne (h1.symm.trans e)),h1];omega
   ·rw [if_neg h1,if_neg h1]
    by_cases h2:k=t
    ·rw [if_pos h2,if_pos h2,h2,show cntX X t=0 by omega];omega
    ·rw [if_neg h2,if_neg h2];omega
  rw [e] at S
  exact ⟨λh=>absurd h hno,λ_=>⟨rfl,S.sel [4,0,3] rfl⟩⟩
 rw [decide_eq_true hne]
 refine cond_f rfl ?_
 have hno:¬ (f≠t/\0<cntX X t):=λh=>h.1 hne
 clear hD hkeep U
 refine S.reg λD hD hkeep S U=>?_
 have hp1:=hlb S 3 rfl
 refine ⟨hD _ hp1,ld4P hX.four 3 S rfl ⟨hD _ S.bl2,S.la2 rfl ?_⟩⟩
 refine S.lookM (k:=f) 4 rfl ?_
 refine ⟨hkeep _ U.fr,?_⟩
 clear hD hkeep U
 have hsl:=(S.cells 3 rfl).take 4
 rw [List.take_append_of_le_length (by rw [List.length_map,hX.four];exact Nat.le_refl _),List.take_of_length_le (by rw [List.length_map,hX.four];exact Nat.le_refl _)] at hsl
 have h4:X.map slM=[.slice (getX X 0).a (getX X 0).n (getX X 0).c,.slice (getX X 1).a (getX X 1).n (getX X 1).c,.slice (getX X 2).a (getX X 2).n (getX X 2).c,.slice (getX X 3).a (getX X 3).n (getX X 3).c]:=by
  have:=hX.four
  match X,this with
  | [a,b,c,d],_=>rfl
 rw [h4] at hsl
 refine ⟨(⟨(getX X 0).a,(getX X 0).n,(getX X 0).c⟩,⟨(getX X 1).a,(getX X 1).n,(getX X 1).c⟩,⟨(getX X 2).a,(getX X 2).n,(getX X 2).c⟩,⟨(getX X 3).a,(getX X 3).n,(getX X 3).c⟩,()),hsl,?_⟩
 clear hsl
 refine Loop1 (λ(v:Int×Unit) w'=>∃ (a:Int) (Y:List (SlP Ce)),v.1=a/\(0<=a/\a<=4)/\MovI f t o X a 0 Y/\Sep E w0 w' [BoxA b5 62 o.vs,BoxA b3 81 [.int .i64 t.1,.int .i64 t.2],BoxA b1 81 [.int .i64 f.1,.int .i64 f.2],boxP p r X,MapF r (cntX X),ownsA Y])
  (λ(v:Int×Unit) _=>(4-v.1).toNat) ⟨0,X,rfl,by omega,.nil hX,S⟩ ?_
 clear S
 rintro ⟨(v:Int),⟨⟩⟩ w2 ⟨a,Y,hv,ha,hY,S⟩
 dsimp only at hv ⊢
 subst hv
 refine cond_d (λhlt=>?_) (λhge=>?_)
 ·have hn:0<=v/\v<4:=⟨ha.1,hlt⟩
  refine ⟨hn,⟨(getX X v).a,(getX X v).n,(getX X v).c⟩,?_,?_⟩
  ·have:v=0\/v=1\/v=2\/v=3:=by omega
   rcases this with e | e | e | e <;> subst e <;> rfl
  dsimp only
  have hln:=hX.get v
  refine Loop1 (λ(u:Int×Unit) w'=>∃ (i:Nat) (Y:List (SlP Ce)),u.1=(i:Int)/\i<=(getX X v).n/\MovI f t o X v i Y/\Sep E w0 w' [BoxA b5 62 o.vs,BoxA b3 81 [.int .i64 t.1,.int .i64 t.2],BoxA b1 81 [.int .i64 f.1,.int .i64 f.2],boxP p r X,MapF r (cntX X),ownsA Y])
   (λ(u:Int×Unit) _=>(((getX X v).n:Int)-u.1).toNat) ⟨0,Y,rfl,by omega,hY,S⟩ ?_
  clear S hY
  rintro ⟨(u:Int),⟨⟩⟩ w3 ⟨i,Y,hu,hi,hY,S⟩
  dsimp only at hu ⊢
  subst hu
  obtain ⟨g1,g2,g3⟩:=sl_all hY.ok.four hX.four hY.sl v
  refine cond_d (λhlt2=>?_) (λhge2=>?_)
  ·have rg:Rng .i64 ((i:Int)+1):=Rng.i64 (by omega) (by omega)
   obtain ⟨q,x,hq,hx,hcx,hqb⟩:=cellR hY.ok.four hn 5 S rfl (j:=(i:Int)) (by omega) (by rw [g2];exact hlt2)
   rw [Int.toNat_natCast] at hx
   have hxX:(getX X v).l[i]? = some x:=by rw [hY.cell v i hn,if_neg (by omega)] at hx;exact hx
   refine ⟨⟨by omega,hlt2⟩,q,g1 ▸ hq,x.tup,hcx,?_⟩
   refine S.newB λb30 w4 S f4 _=>?_
   refine S.st0 (by rfl) λw5 S f5=>?_
   have skip:movC f t o x=x->Rng .i64 ((i:Int)+1)/\(∃ (i':Nat) (Y:List (SlP Ce)),(i:Int)+1=(i':Int)/\i'<=(getX X v).n/\MovI f t o X v i' Y/\Sep E w0 w5 [BoxA b5 62 o.vs,BoxA b3 81 [.int .i64 t.1,.int .i64 t.2],BoxA b1 81 [.int .i64 f.1,.int .i64 f.2],boxP p r X,MapF r (cntX X),ownsA Y])/\(((getX X v).n:Int)-((i:Int)+1)).toNat<(((getX X v).n:Int)-(i:Int)).toNat:=λhe=>
    ⟨rg,⟨i+1,Y,by push_cast;rfl,by omega,hY.skip hxX he,S.sel [1,1,1,1,1,1] rfl⟩,by omega⟩
   refine S.ld0 (j:=0) rfl rfl (cond_of (λ(hh:x.has=true)=>?_) (λ(hh:x.has=false)=>skip (by unfold movC;rw [if_neg (λe=>by rw [hh] at e;cases e.1)])))
   refine S.lb0 (o:=1) rfl (S.la3 rfl (eqPl (cond_d (λe=>?_) (λe=>skip (by unfold movC;rw [if_neg (λk=>e ⟨by have:=congrArg Prod.fst k.2;exact this,by have:=congrArg Prod.snd k.2;exact this⟩)])))))
   have hxf:x.pl=f:=Prod.ext e.1 e.2
   have hmv:movC f t o x=⟨true,⟨t.1,t.2,x.s.h,o⟩⟩:=by unfold movC;rw [if_pos ⟨hh,hxf⟩]
   have S:=S.sel [6,0,0,0,0,0,0] rfl
   refine Sep.regC [_] S λG D hG T S hDt hDo hkeep back=>?_
   refine ⟨hDt 2 _ _ _ rfl,S.la3 rfl ⟨hDt 1 _ _ _ rfl,S.la2 rfl ⟨⟨by omega,hlt2⟩,q,g1 ▸ hq,?_⟩⟩⟩
   rw [Int.toNat_natCast]
   have hin:i<(getX Y v).n:=by rw [g2];omega
   refine cellP hY.ok.four hn 0 T rfl hq hin hx 1 ⟨x.has,⟨t.1,t.2,x.s.h,x.s.o⟩⟩ (by show 1+2<=15;decide) rfl λw6 T f6=>⟨hkeep _ T.fr,⟨by omega,hlt2⟩,q,g1 ▸ hq,?_⟩
   have hY2:XOk (setX Y v i ⟨x.has,⟨t.1,t.2,x.s.h,x.s.o⟩⟩):=hY.ok.set
   have gs:=setX_get hY.ok.four hn (j:=i) (c:=⟨x.has,⟨t.1,t.2,x.s.h,x.s.o⟩⟩) v
   rw [if_pos rfl] at gs
   have hil:i<(getX Y v).l.length:=(List.getElem?_eq_some_iff.1 hx).1
   rw [add_add (q.add _)]
   refine cellP hY2.four hn 0 T rfl (by rw [gs];exact hq) (by rw [gs];exact hin) (x:=⟨x.has,⟨t.1,t.2,x.s.h,x.s.o⟩⟩) (by rw [gs];show ((getX Y v).l.set i _)[i]? = _;rw [List.getElem?_set,if_pos rfl,if_pos hil]) (1+8) ⟨x.has,⟨t.1,t.2,x.s.h,o⟩⟩ (by show 1+8+6<=15;decide) rfl λw7 T f7=>⟨hkeep _ T.fr,rg,⟨i+1,_,by push_cast;rfl,by omega,hY.put hn hxX,?_⟩,by omega⟩
   have e2:setX (setX Y v i ⟨x.has,⟨t.1,t.2,x.s.h,x.s.o⟩⟩) v i ⟨x.has,⟨t.1,t.2,x.s.h,o⟩⟩=setX Y v i (movC f t o x):=by
    rw [hmv,hh]
    unfold setX
    rw [List.set_set]
    have gs':=gs
    unfold setX at gs'
    rw [hh] at gs'
    rw [gs',List.set_set]
   have S:=back _ _ T
   dsimp only [List.set_cons_zero] at S
   rw [e2] at S
   exact S.sel [2,2,2,2,2,0] rfl
  ·have hie:i=(getX X v).n:=by omega
   subst hie
   exact ⟨Rng.i64 (by omega) (by omega),⟨v+1,Y,rfl,by omega,hY.next hX,S⟩,by omega⟩
 have hv4:v=4:=by omega
 subst hv4
 have hYe:=hY.end hX
 subst hYe
 have hm:∀ k,cntX (movX f t o X) k=_:=λk=>cntX_mov f t o k
 have hbx:boxP p r X=boxP p r (movX f t o X):=by
  show BoxA p _ (X.map slM++_)=BoxA p _ ((movX f t o X).map slM++_)
  rw [hY.sl]
 rw [hbx] at S
 have hX2:XOk (movX f t o X):=hY.ok
 refine cond_d (λ(hg:cntX X f>0)=>?_) (λ(hg:¬ cntX X f>0)=>?_)
 case refine_2=>
  have hcf:=(hcn f).1
  have e:cntX X=cntX (movX f t o X):=funext λk=>by
   rw [hm,show cntX X f=0 by omega]
   split <;> split <;> omega
  rw [e] at S
  exact ⟨λh=>absurd h hno,λ_=>⟨rfl,S.sel [3,3,3] rfl⟩⟩
 refine S.la2 rfl (S.la1 rfl (eqPl ?_))
 rw [hft (show _↔f=t from ⟨λh=>Prod.ext h.1 h.2,λh=>by rw [h];exact ⟨rfl,rfl⟩⟩)]
 rw [decide_eq_true hne]
 refine cond_f rfl ?_
 have e:cntX X=cntX (movX f t o X):=funext λk=>by
  rw [hm,hne]
  split <;> omega
 rw [e] at S
 exact ⟨λh=>absurd h hno,λ_=>⟨rfl,S.sel [3,3,3] rfl⟩⟩
end
end Go.Proofs.YtbaojfchlhlaeaaGreat.Vc
namespace Go.Proofs
open Go.Shelf Go.RowKit Go.Lib Go.Sort
set_option maxHeartbeats 4000000 in
theorem Tryz.lessS_walk (x y:Go.Proofs.YtbaojfchlhlaeaaGreat.Vc.Sp) (W:World):Calls Tryz.prog 127 #[x.val,y.val] W λe w'=>e=.returned (.int .i64 (Tryz.plC (x.b,x.p) (y.b,y.p)))/\∃ q os',w'=grow (W.drewN q) os':=by
 obtain ⟨x1,x2,⟨x3,x4,x5,x6,x7,x8⟩,⟨x9,x10,x11,x12,x13,x14⟩⟩:=x
 obtain ⟨y1,y2,⟨y3,y4,y5,y6,y7,y8⟩,⟨y9,y10,y11,y12,y13,y14⟩⟩:=y
 have hcon:=λW'=>Tryz.less_walk (x1,x2) (y1,y2) W'
 dsimp only at hcon ⊢
 change ∀ W',Calls Tryz.prog 128 _ _ _ at hcon
 generalize Tryz.plC (x1,x2) (y1,y2)=r at hcon ⊢
 go_enter Tryz.func127,Tryz.ntmps127
 go_wp2_with (go_at_call 128;refine (hcon _).mono ?_;rintro e w' ⟨rfl,q,os,rfl⟩)
 go_ret
 exact ⟨rfl,q,_,by rw [alloc_eq_grow,alloc_eq_grow,grow_grow];show grow (grow (W.drewN q) _) os=_;rw [grow_grow]⟩
end Go.Proofs
namespace Go.Proofs.YtbaojfchlhlaeaaGreat.Vc
open Go Go.Eng Go.RowKit Go.Shelf Go.Proofs
theorem lessS_enters:∀ args w,(callFunc 127 args).run Tryz.prog w=.ok (.enter 127 args) w:=enters_of Tryz.func127 (by kernel_rfl) rfl
abbrev Sp.pk (s:Sp):Int×Int:=(s.b,s.p)
abbrev BdS:={s:Sp // Bd s.pk}
instance:Inhabited BdS:=⟨⟨Sp0,by unfold Bd;decide⟩⟩
def cfS (x y:BdS):Int:=Tryz.plC x.1.pk y.1.pk
def encS (x:BdS):List Value:=x.1.vs
theorem encS_len (x:BdS):(encS x).length=14:=rfl
theorem encS_one (x:BdS):∀ v∈encS x,v.oneCell'=true:=λv hv=>by
 simp [encS] at hv
 rcases hv with h | h | h | h | h | h | h | h | h | h | h | h | h | h <;> subst h <;> rfl
theorem cfS_lt (x y:BdS):ltOf cfS x y=true↔plL x.1.pk y.1.pk:=by
 unfold ltOf
 rw [decide_eq_true_iff]
 exact plC_lt0 x.1.pk y.1.pk x.2 y.2
theorem cfS_swo:Go.Sort.SWO (ltOf cfS) where
 irrefl x:=Bool.eq_false_iff.2 λh=>by have:=(cfS_lt x x).1 h;unfold plL at this;omega
 trans x y z h1 h2:=by rw [cfS_lt] at *;unfold plL at *;omega
 ntrans x y z h1 h2:=by
  rw [Bool.eq_false_iff,Ne,cfS_lt] at *;unfold plL at *;omega
abbrev outS (a:Option Addr) (n c:Nat) (L:List Sp):Asr:=OwnA 83 14 a n c (L.flatMap Sp.vs)
theorem Spv_len (s:Sp):s.vs.length=14:=rfl
theorem sortSp_c {E:Nat->Prop} {w0 w:World} {Rs:List Asr} {a:Option Addr} {n c:Nat} {L:List Sp} (hB:∀ s∈L,Bd s.pk) (hn:n<=1000000) (S:Sep E w0 w (outS a n c L::Rs)) :
  CallV Tryz.prog 126 #[.slice a n c,.func (.func 127) #[] #[]] w [] λ_ w'=>∃ L',(L'.Perm L/\L'.Pairwise λx y=>¬ plL y.pk x.pk)/\Sep E w0 w' (outS a n c L'::Rs):=by
 have o:=S.own 0 rfl
 rcases o.at_ with ⟨h1,h2,h3⟩ | ⟨b,cs,h1,-⟩
 ·have h0:L=[]:=by cases L with | nil=>rfl | cons x l=>cases h3
  subst h0
  have hn0:n=0:=by have:=o.len;simp at this;omega
  subst hn0
  exact Calls.mono (Go.Proofs.AnyF.slices_SortFunc_none Tryz.srtS a c _ w) λe w' ⟨h1,h2⟩=>⟨(),h1,[],⟨.refl _,.nil⟩,by rw [h2];exact S⟩
 subst h1
 obtain ⟨M,rfl⟩:∃ M:List BdS,L=M.map (·.1):=⟨L.pmap Subtype.mk hB,by rw [List.map_pmap];simp⟩
 have e:∀ M:List BdS,(M.map (·.1)).flatMap Sp.vs=M.flatMap encS:=λM=>by rw [List.flatMap_map];rfl
 have hL:M.length=n:=by have:=o.len;rw [flat_len Spv_len] at this;simp at this;omega
 unfold outS at S
 rw [e] at S o
 have h:=AnyQ.slices_SortFunc Tryz.srtS 14 Tryz.isAgg83 Tryz.sizeOf83 encS encS_len encS_one cfS cfS_swo 127 #[] b 0 c M.toArray w lessS_enters (λ_ _ _ _ x y=>Tryz.lessS_walk x.1 y.1 _) (Own.holdsK encS_len (d:=M.toArray) o) (o.lt _ rfl) (by simp [hL];omega)
 rw [show M.toArray.size=n by simpa using hL] at h
 refine h.mono λe' w' ⟨he,d',m,os,hp,hs,hw⟩=>⟨(),he,?_⟩
 subst hw
 have hsz:d'.size=M.length:=by simpa using hp.1
 refine ⟨d'.toList.map (·.1),⟨?_,?_⟩,?_⟩
 ·have:=hp.2.2
  rw [show n=d'.size by omega,Array.extract_size,show d'.size=M.toArray.size by simpa using hsz,Array.extract_size] at this
  exact this.map _
 ·rw [List.pairwise_map]
  have:=sortedIn_pw (d:=d') (by rw [hsz,hL];exact hs)
  exact this.imp λ{x y} h=>λk=>by rw [(cfS_lt y x).2 k] at h;cases h
 ·unfold outS
  rw [e]
  exact S.sorted encS_len encS_one hsz m os
end Go.Proofs.YtbaojfchlhlaeaaGreat.Vc
namespace Go.Proofs.YtbaojfchlhlaeaaGreat.Vc
open Go Go.Eng Go.RowKit
theorem SpS_one (s:Sp):oneAll s.vs:=λu hu=>by
 simp only [List.mem_cons,List.not_mem_nil,or_false] at hu
 rcases hu with h | h | h | h | h | h | h | h | h | h | h | h | h | h <;> subst h <;> rfl
structure InI (X:List (SlP Ce)) (blk:Int) (a:Int) (b:Nat) (O:List Sp):Prop where
 nd:(O.map Sp.pk).Nodup
 ok:∀ s∈O,s.b=blk/\1<=cntX X s.pk
 all:∀ (ns:Int) (j:Nat) (c:Ce),(0<=ns/\ns<4)->(ns<a\/(ns=a/\j<b))->(getX X ns).l[j]? = some c->c.has=true->c.s.b=blk->c.s.pk∈O.map Sp.pk
theorem InI.nil {X:List (SlP Ce)} {blk:Int}:InI X blk 0 0 []:=⟨.nil,λs h=>(List.not_mem_nil h).elim,λns j c h1 h2=>by omega⟩
theorem InI.next {X:List (SlP Ce)} {blk a:Int} {O:List Sp} (hX:XOk X) (h:InI X blk a (getX X a).n O):InI X blk (a+1) 0 O:=⟨h.nd,h.ok,λns j c h1 h2 hc=>by
 by_cases h3:ns<a
 ·exact h.all ns j c h1 (.inl h3) hc
 ·have h4:ns=a:=by omega
  subst h4
  exact h.all ns j c h1 (.inr ⟨rfl,by rw [<-(hX.get ns).1];exact (List.getElem?_eq_some_iff.1 hc).1⟩) hc⟩
theorem InI.skip {X:List (SlP Ce)} {blk a:Int} {b:Nat} {O:List Sp} {x:Ce} (h:InI X blk a b O) (hx:(getX X a).l[b]? = some x) (hs:x.has=true->x.s.b=blk->x.s.pk∈O.map Sp.pk):InI X blk a (b+1) O:=⟨h.nd,h.ok,λns j c h1 h2 hc hh hb=>by
 by_cases h3:ns=a/\j=b
 ·obtain ⟨rfl,rfl⟩:=h3
  rw [hx] at hc
  cases hc
  exact hs hh hb
 ·exact h.all ns j c h1 (by omega) hc hh hb⟩
theorem InI.put {X:List (SlP Ce)} {blk a:Int} {b:Nat} {O:List Sp} {x:Ce} (hX:XOk X) (ha:0<=a/\a<4) (h:InI X blk a b O) (hx:(getX X a).l[b]? = some x) (hh:x.has=true) (hb:x.s.b=blk) (hn:x.s.pk∉O.map Sp.pk):InI X blk a (b+1) (O++[x.s]):=by
 refine ⟨?_,λs hs=>?_,λns j c h1 h2 hc hh2 hb2=>?_⟩
 ·rw [List.map_append,List.nodup_append]
  refine ⟨h.nd,by simp,λu hu v hv e=>?_⟩
  have hv:v=x.s.pk:=List.mem_singleton.1 hv
  rw [e,hv] at hu
  exact hn hu
 ·rcases List.mem_append.1 hs with hs | hs
  ·exact h.ok s hs
  ·rw [List.mem_singleton.1 hs]
   exact ⟨hb,cntX_pos hX.four ha hx hh⟩
 ·rw [List.map_append,List.mem_append]
  by_cases h3:ns=a/\j=b
  ·obtain ⟨rfl,rfl⟩:=h3
   rw [hx] at hc
   cases hc
   exact .inr (List.mem_singleton.2 rfl)
  ·exact .inl (h.all ns j c h1 (by omega) hc hh2 hb2)
structure InF (X:List (SlP Ce)) (blk:Int) (O:List Sp):Prop where
 so:O.Pairwise λx y=>plL x.pk y.pk
 ok:∀ s∈O,s.b=blk/\1<=cntX X s.pk
 all:∀ c∈flatX X,c.has=true->c.s.b=blk->c.s.pk∈O.map Sp.pk
theorem InI.fin {X:List (SlP Ce)} {blk:Int} {O O':List Sp} (hX:XOk X) (h:InI X blk 4 0 O) (hp:O'.Perm O) (hs:O'.Pairwise λx y=>¬ plL y.pk x.pk):InF X blk O':=by
 refine ⟨?_,λs hs=>h.ok s (hp.mem_iff.1 hs),λc hc hh hb=>?_⟩
 ·have hn:(O'.map Sp.pk).Nodup:=(hp.map Sp.pk).nodup_iff.2 h.nd
  have hn2:O'.Pairwise λx y=>x.pk≠y.pk:=List.pairwise_map.1 hn
  refine (hs.and hn2).imp λ{x y} ⟨h1,h2⟩=>?_
  have h3:¬ (x.pk.1=y.pk.1/\x.pk.2=y.pk.2):=λe=>h2 (Prod.ext e.1 e.2)
  unfold plL at h1 ⊢
  omega
 ·obtain ⟨x,hx,hc⟩:=List.mem_flatMap.1 hc
  obtain ⟨i,hi,rfl⟩:=List.getElem_of_mem hx
  obtain ⟨j,hj⟩:=List.getElem?_of_mem hc
  have h4:=hX.four
  have hg:=getX_at h4 (ns:=(i:Int)) (by omega)
  rw [Int.toNat_natCast,List.getElem?_eq_getElem hi] at hg
  rw [Option.some.inj hg] at hj
  have:=h.all (i:Int) j c (by omega) (.inl (by omega)) hj hh hb
  exact (hp.map Sp.pk).mem_iff.2 this
section
variable {E:Nat->Prop} {w0 w:World} {p r:Nat} {X:List (SlP Ce)} {m:Int×Int->Int} {Rs:List Asr}
theorem In22_c {blk:Int} (hX:XOk X) (hB:∀ (ns:Int) (j:Nat) (c:Ce),(0<=ns/\ns<4)->(getX X ns).l[j]? = some c->c.has=true->Bd c.s.pk) (S:Sep E w0 w [boxP p r X,MapF r m,ownsA X]) :
  CallV Tryz.prog 53 #[.pointer (some ⟨p,0,none⟩),.int .i64 blk] w [.one .sl] λrr w'=>∃ O,InF X blk O/\O.length<=262140/\Sep E w0 w' [outS rr.1.a rr.1.n rr.1.c O,boxP p r X,MapF r m,ownsA X]:=by
 apply pagemap_Map_In.vc
 unfold pagemap_Map_In.P
 have h4:=hX.four
 refine S.newM λb1 w1 S f1 _=>?_
 have S:=S.nilOwn 83 14
 refine Loop1 (λ(v:SlV×Int×Unit) w'=>∃ (O:List Sp) (sn:Int×Int->Int),(0<=v.2.1/\v.2.1<=4)/\InI X blk v.2.1 0 O/\(O.length:Int)<=65535*v.2.1/\(∀ s∈O,Bd s.pk)/\(∀ k,sn k=if k∈O.map Sp.pk then 1 else 0)/\Sep E w0 w' [outS v.1.a v.1.n v.1.c O,MapF b1 sn,boxP p r X,MapF r m,ownsA X])
  (λ(v:SlV×Int×Unit) _=>(4-v.2.1).toNat) ⟨[],_,⟨by decide,by decide⟩,.nil,by decide,λs hs=>(List.not_mem_nil hs).elim,λk=>rfl,S⟩ ?_
 clear S
 rintro ⟨⟨oa,on,oc⟩,(v:Int),⟨⟩⟩ w2 ⟨O,sn,hv,hI,hOl,hOB,hsn,S⟩
 dsimp only at hv hI hOl S ⊢
 refine cond_d (λhlt=>?_) (λhge=>?_)
 case refine_2=>
  have hv4:v=4:=by omega
  subst hv4
  have hl:=(S.own 0 rfl).lenF Spv_len (by decide)
  refine (sortSp_c hOB (by omega) S).mono ?_
  rintro ⟨⟩ w3 ⟨O',⟨hp,hs⟩,S⟩
  exact ⟨O',hI.fin hX hp hs,by rw [hp.length_eq];omega,S.sel [0,1,1,1] rfl⟩
 have hn:0<=v/\v<4:=⟨hv.1,hlt⟩
 refine (own22_c (ns:=v) h4 (toQ (S.sel [2,2,2] rfl))).mono ?_
 rintro ⟨_,⟨⟩⟩ w3 ⟨h3,e3⟩
 subst e3
 dsimp only at h3
 subst h3
 dsimp only
 have hln:=hX.get v
 have h40:=hln.2
 refine Loop1 (λ(u:SlV×Int×Unit) w'=>∃ (i:Nat) (O:List Sp) (sn:Int×Int->Int),u.2.1=(i:Int)/\i<=(getX X v).n/\InI X blk v i O/\(O.length:Int)<=65535*v+i/\(∀ s∈O,Bd s.pk)/\(∀ k,sn k=if k∈O.map Sp.pk then 1 else 0)/\Sep E w0 w' [outS u.1.a u.1.n u.1.c O,MapF b1 sn,boxP p r X,MapF r m,ownsA X])
  (λ(u:SlV×Int×Unit) _=>(((getX X v).n:Int)-u.2.1).toNat) ⟨0,O,sn,rfl,by omega,hI,by omega,hOB,hsn,S⟩ ?_
 clear S hI hOl hOB hsn
 rintro ⟨⟨oa,on,oc⟩,(u:Int),⟨⟩⟩ w4 ⟨i,O,sn,hu,hi,hI,hOl,hOB,hsn,S⟩
 dsimp only at hu S ⊢
 subst hu
 refine cond_d (λhlt2=>?_) (λhge2=>?_)
 case refine_2=>
  have hie:i=(getX X v).n:=by omega
  subst hie
  exact ⟨Rng.i64 (by omega) (by omega),⟨O,sn,by omega,hI.next hX,by omega,hOB,hsn,S⟩,by omega⟩
 have rg:Rng .i64 ((i:Int)+1):=Rng.i64 (by omega) (by omega)
 obtain ⟨q,x,hq,hx,hcx,hqb⟩:=cellR h4 hn 4 S rfl (j:=(i:Int)) (by omega) hlt2
 rw [Int.toNat_natCast] at hx
 refine ⟨⟨by omega,hlt2⟩,q,hq,x.tup,hcx,?_⟩
 refine S.newB λb13 w5 S f5 _=>?_
 refine S.st0 (by rfl) λw6 S f6=>?_
 have skip:∀ {w':World},(x.has=true->x.s.b=blk->x.s.pk∈O.map Sp.pk)->Sep E w0 w' [outS oa on oc O,MapF b1 sn,boxP p r X,MapF r m,ownsA X]->(∃ (i':Nat) (O':List Sp) (sn':Int×Int->Int),(i:Int)+1=(i':Int)/\i'<=(getX X v).n/\InI X blk v i' O'/\(O'.length:Int)<=65535*v+i'/\(∀ s∈O',Bd s.pk)/\(∀ k,sn' k=if k∈O'.map Sp.pk then 1 else 0)/\Sep E w0 w' [outS oa on oc O',MapF b1 sn',boxP p r X,MapF r m,ownsA X])/\(((getX X v).n:Int)-((i:Int)+1)).toNat<(((getX X v).n:Int)-(i:Int)).toNat:=λhs S=>
  ⟨⟨i+1,O,sn,by push_cast;rfl,by omega,hI.skip hx hs,by push_cast;omega,hOB,hsn,S⟩,by omega⟩
 refine S.ld0 (j:=0) rfl rfl (cond_of (λ(hh:x.has=true)=>?_) (λ(hh:x.has=false)=>⟨rg,skip (λe=>by rw [hh] at e;cases e) S.tail⟩))
 refine S.ld0 (j:=1) rfl rfl (cond_eq (λ(hb:x.s.b=blk)=>?_) (λ(hb:x.s.b≠blk)=>⟨rg,skip (λ_ e=>absurd e hb) S.tail⟩))
 refine S.lb0 (o:=1) rfl ?_
 refine S.lookM (k:=x.s.pk) 2 rfl ?_
 refine cond_eq (λ(h0:sn x.s.pk=0)=>?_) (λ(h0:sn x.s.pk≠0)=>⟨rg,skip (λ_ _=>?_) S.tail⟩)
 case refine_2=>
  refine Classical.byContradiction λe=>h0 ?_
  rw [hsn,if_neg e]
 have hnm:x.s.pk∉O.map Sp.pk:=λe=>by rw [hsn,if_pos e] at h0;cases h0
 have hxB:=hB v i x hn hx hh
 have hon:O.length=on:=(S.own 1 rfl).lenF Spv_len (by decide)
 have S:=S.sel [2,0,0,0,0,0] rfl
 refine Sep.regC [_] S λG D hG T S hDt hDo hkeep back=>?_
 have hGr:G b1:=by
  obtain ⟨F,⟨h1,l,cc,h2,-⟩,h3⟩:=T.get (i:=0) rfl
  exact (h3 b1 h1).1.resolve_right (λh=>by have:=(Array.getElem?_eq_some_iff.1 h2).1;omega)
 have hk2:=λw' (f:Fr (λk=>k=b1) _ w')=>hkeep w' (f.mono λk hk=>by subst hk;exact hGr)
 have rv:Rng .i64 (sn x.s.pk+1):=by rw [h0];exact Rng.i64 (by decide) (by decide)
 have hsn':∀ k,updM sn x.s.pk (sn x.s.pk+1) k=if k∈(O++[x.s]).map Sp.pk then 1 else 0:=λk=>by
  unfold updM
  rw [h0]
  by_cases e:k=x.s.pk
  ·rw [if_pos e,if_pos (by rw [List.map_append,List.mem_append];exact .inr (List.mem_singleton.2 e))];rfl
  ·rw [if_neg e,hsn]
   by_cases e2:k∈O.map Sp.pk
   ·rw [if_pos e2,if_pos (by rw [List.map_append,List.mem_append];exact .inl e2)]
   ·rw [if_neg e2,if_neg (by rw [List.map_append,List.mem_append];exact λh=>h.elim e2 λh=>e (List.mem_singleton.1 h))]
 have app:∀ {w':World},Sep E w0 w' [MapF b1 (updM sn x.s.pk (sn x.s.pk+1)),BoxA b13 178 x.vs,outS oa on oc O,boxP p r X,MapF r m,ownsA X]->LoadA w' ⟨b13,1,none⟩ SH14 λ(y:Int×Int×Int×Int×Int×Int×Int×Int×Int×Int×Int×Int×Int×Int×Unit)=>
   NewV #[.int .i64 y.1,.int .i64 y.2.1,.int .i64 y.2.2.1,.int .i64 y.2.2.2.1,.int .i64 y.2.2.2.2.1,.int .u32 y.2.2.2.2.2.1,.int .u64 y.2.2.2.2.2.2.1,.int .u64 y.2.2.2.2.2.2.2.1,.int .i64 y.2.2.2.2.2.2.2.2.1,.int .i64 y.2.2.2.2.2.2.2.2.2.1,.int .i64 y.2.2.2.2.2.2.2.2.2.2.1,.int .u32 y.2.2.2.2.2.2.2.2.2.2.2.1,.int .u64 y.2.2.2.2.2.2.2.2.2.2.2.2.1,.int .u64 y.2.2.2.2.2.2.2.2.2.2.2.2.2.1] 83 w' λb w2=>
    AppS w2 (some ⟨b,0,none⟩) 1 14 λns=>AppV w2 83 14 112 oa on oc ns 1 λa' n' c' w3=>Rng .i64 ((i:Int)+1)/\(∃ (i':Nat) (O':List Sp) (sn':Int×Int->Int),(i:Int)+1=(i':Int)/\i'<=(getX X v).n/\InI X blk v i' O'/\(O'.length:Int)<=65535*v+i'/\(∀ s∈O',Bd s.pk)/\(∀ k,sn' k=if k∈O'.map Sp.pk then 1 else 0)/\Sep E w0 w3 [outS a' n' c' O',MapF b1 sn',boxP p r X,MapF r m,ownsA X])/\(((getX X v).n:Int)-((i:Int)+1)).toNat<(((getX X v).n:Int)-(i:Int)).toNat:=λS=>by
  refine S.lb1 (o:=1) rfl ?_
  refine S.newB (vs:=x.s.vs) λb9 w9 S f9 _=>?_
  refine AppS.of (news:=x.s.vs) rfl (.inr ⟨_,rfl,S.cells 0 rfl⟩) ?_
  refine S.ap3 rfl (SpS_one x.s) (by omega) (by omega) λa' c' w10 S f10=>⟨rg,⟨i+1,O++[x.s],_,by push_cast;rfl,by omega,hI.put hX hn hx hh hb hnm,by rw [List.length_append];push_cast;simp;omega,λs hs=>?_,hsn',?_⟩,by omega⟩
  ·rcases List.mem_append.1 hs with hs | hs
   ·exact hOB s hs
   ·rw [List.mem_singleton.1 hs];exact hxB
  ·have e:(O++[x.s]).flatMap Sp.vs=O.flatMap Sp.vs++x.s.vs:=by rw [List.flatMap_append];simp
   show Sep E w0 w10 [OwnA _ _ _ _ _ ((O++[x.s]).flatMap Sp.vs),_,_,_,_]
   rw [e]
   exact S.sel [3,1,2,2,2] rfl
 refine ⟨hDt 0 _ _ _ rfl,S.lb1 (o:=1) rfl ⟨?_,?_⟩⟩
 ·refine T.incA (k:=x.s.pk) (λx=>x+1) 0 rfl hk2 rv λw7 T f7=>?_
  have S:=back _ _ T
  dsimp only [List.set_cons_zero,List.cons_append,List.nil_append] at S
  exact app S
 ·refine T.incB (k:=x.s.pk) (λx=>x+1) 0 rfl hk2 rv λw7 T f7=>?_
  have S:=back _ _ T
  dsimp only [List.set_cons_zero,List.cons_append,List.nil_append] at S
  exact app S
end
end Go.Proofs.YtbaojfchlhlaeaaGreat.Vc
namespace Go.Proofs.YtbaojfchlhlaeaaGreat.Vc
open Go Go.Eng
def stream_New.A:Ann:=.two .no (.two .no (.two .no (.two (.two .no (.one (.loop [11,29,30,31,32,33,34,35,36,37] [(29,.one (.int .i64))] .no))) .no)))
def stream_New.P (p0 p1:Addr) (p2_0 p2_1 p2_2 p2_3 p2_4 p2_5 p3:Int) (w:World) (K:(Option Addr)×Int×Unit->World->Prop):Prop:=
 NewV #[.int .i64 p2_0,.int .i64 p2_1,.int .i64 p2_2,.int .i64 p2_3,.int .i64 p2_4,.int .i64 p2_5] 23 w λb1 w2=>
 LoadA w2 ⟨b1,0,none⟩ [.int .i64,.int .i64,.int .i64,.int .i64,.int .i64,.int .i64] λ(x3:Int×Int×Int×Int×Int×Int×Unit)=>
 CallV Tryz.prog 110 #[.agg #[.int .i64 x3.1,.int .i64 x3.2.1,.int .i64 x3.2.2.1,.int .i64 x3.2.2.2.1,.int .i64 x3.2.2.2.2.1,.int .i64 x3.2.2.2.2.2.1]] w2 [.one (.int .i64)] λ(r4:Int×Unit) w5=>
 cond (r4.1 != 0)
 (K (none,(2:Int),()) w5)
 (LoadA w5 ⟨b1,0,none⟩ [.int .i64,.int .i64,.int .i64,.int .i64,.int .i64,.int .i64] λ(x6:Int×Int×Int×Int×Int×Int×Unit)=>
 NewV #[.pointer (some p0),.pointer (some p1),.int .i64 x6.1,.int .i64 x6.2.1,.int .i64 x6.2.2.1,.int .i64 x6.2.2.2.1,.int .i64 x6.2.2.2.2.1,.int .i64 x6.2.2.2.2.2.1,.int .i64 0,.int .i64 0,.int .i64 0,.int .i64 0,.int .u64 p3,.int .u64 0,.int .u64 0,.bool false] 151 w5 λb7 w8=>
 LoopV [.one (.int .i64)] ((0:Int),()) w8 λ(z9:Int×Unit) w10 (K11:Int×Unit->World->Prop)=>
 cond (decide (z9.1<4))
 ((0<=z9.1/\z9.1<(4:Int)) /\
 StoreV w10 ((⟨b7,8,none⟩:Addr).add (z9.1.toNat*1)) [.int .i64 (-1)] λw12=>
 Rng .i64 (z9.1+1) /\
 K11 (z9.1+1,()) w12)
 (CallV Tryz.prog 111 #[.pointer (some ⟨b7,0,none⟩)] w10 [.one (.int .i64)] λ(r13:Int×Unit) w14=>
 K ((some ⟨b7,0,none⟩),(0:Int),()) w14))
theorem stream_New.vc (p0 p1:Addr) (p2_0 p2_1 p2_2 p2_3 p2_4 p2_5 p3:Int) (w:World) (K:(Option Addr)×Int×Unit->World->Prop) (h:stream_New.P p0 p1 p2_0 p2_1 p2_2 p2_3 p2_4 p2_5 p3 w K):CallV Tryz.prog 42 #[.pointer (some p0),.pointer (some p1),.agg #[.int .i64 p2_0,.int .i64 p2_1,.int .i64 p2_2,.int .i64 p2_3,.int .i64 p2_4,.int .i64 p2_5],.int .u64 p3] w [.one .ptr,.one (.int .i64)] K:=by
 refine vcFun.of (A:=stream_New.A) (wr:=false) okf_ok follows h Tryz.func42 ?_
 kernel_rfl
def stream_Stream_over.A:Ann:=.two .no (.two (.two (.draw (.take 0 (.take 1 (.take 2 (.take 3 (.take 6 (.take 7 (.take 8 (.take 9 (.take 10 (.eff 4 (.eff 5 (.take 11 (.done)))))))))))))) .no) .no)
def stream_Stream_over.P (p0:Addr) (w:World) (K:Int×Unit->World->Prop):Prop:=
 DrawV λD1=>
 (D1 p0.block/\LoadS w.drew p0 .ptr λ(x2:Option Addr)=>
 (D1 ((p0.add 2).add 3).block/\LoadS w.drew ((p0.add 2).add 3) (.int .i64) λ(x3:Int)=>
 CallV Tryz.prog 27 #[.pointer x2] w.drew [.one .ptr] λ(r4:(Option Addr)×Unit) w5=>
 KeepOn D1 w.drew w5 /\
 CallV Tryz.prog 158 #[.pointer r4.1] w5 [.one (.int .i64)] λ(r6:Int×Unit) w7=>
 KeepOn D1 w.drew w7 /\
 cond (decide (r6.1>x3))
 (StoreV w7 (p0.add 15) [.bool true] λw8=>
 LoadS w8 (p0.add 15) .bool λ(x9:Bool)=>
 cond x9
 (K ((15:Int),()) w8)
 (K ((0:Int),()) w8))
 (LoadS w7 (p0.add 15) .bool λ(x10:Bool)=>
 cond x10
 (K ((15:Int),()) w7)
 (K ((0:Int),()) w7))))
theorem stream_Stream_over.vc (p0:Addr) (w:World) (K:Int×Unit->World->Prop) (h:stream_Stream_over.P p0 w K):CallV Tryz.prog 111 #[.pointer (some p0)] w [.one (.int .i64)] K:=by
 refine vcFun.of (A:=stream_Stream_over.A) (wr:=false) okf_ok follows h Tryz.func111 ?_
 kernel_rfl
def stream_Stream_Next.A:Ann:=.two .no (.two .no (.two .no (.two (.draw (.take 0 (.take 1 (.take 2 (.take 3 (.take 4 (.take 5 (.take 6 (.take 7 (.take 8 (.eff 9 (.take 10 (.eff 11 (.done)))))))))))))) .no)))
def stream_Stream_Next.P (p0:Addr) (p1_0 p1_1 p1_2 p1_3 p1_4 p1_5:Int) (w:World) (K:(Int×Int×Int×Int×Int×Int×Unit)×Unit->World->Prop):Prop:=
 NewV #[.int .i64 p1_0,.int .i64 p1_1,.int .i64 p1_2,.int .u32 p1_3,.int .u64 p1_4,.int .u64 p1_5] 62 w λb1 w2=>
 NewV #[.int .i64 0,.int .i64 0,.int .i64 0,.int .u32 0,.int .u64 0,.int .u64 0] 62 w2 λb3 w4=>
 LoadS w4 (p0.add 14) (.int .u64) λ(x5:Int)=>
 StoreV w4 (p0.add 14) [.int .u64 (IntKind.u64.wrap (x5+1))] λw6=>
 DrawV λD7=>
 (D7 (p0.add 12).block/\LoadS w6.drew (p0.add 12) (.int .u64) λ(x8:Int)=>
 (D7 (p0.add 14).block/\LoadS w6.drew (p0.add 14) (.int .u64) λ(x9:Int)=>
 StoreV w6.drew ⟨b1,4,none⟩ [.int .u64 x8] λw10=>
 KeepOn D7 w6.drew w10 /\
 StoreV w10 ⟨b1,5,none⟩ [.int .u64 x9] λw11=>
 KeepOn D7 w6.drew w11 /\
 LoadA w11 ⟨b1,0,none⟩ [.int .i64,.int .i64,.int .i64,.int .u32,.int .u64,.int .u64] λ(x12:Int×Int×Int×Int×Int×Int×Unit)=>
 StoreV w11 ⟨b3,0,none⟩ [.int .i64 x12.1,.int .i64 x12.2.1,.int .i64 x12.2.2.1,.int .u32 x12.2.2.2.1,.int .u64 x12.2.2.2.2.1,.int .u64 x12.2.2.2.2.2.1] λw13=>
 LoadA w13 ⟨b3,0,none⟩ [.int .i64,.int .i64,.int .i64,.int .u32,.int .u64,.int .u64] λ(x14:Int×Int×Int×Int×Int×Int×Unit)=>
 K ((x14.1,x14.2.1,x14.2.2.1,x14.2.2.2.1,x14.2.2.2.2.1,x14.2.2.2.2.2.1,()),()) w13))
theorem stream_Stream_Next.vc (p0:Addr) (p1_0 p1_1 p1_2 p1_3 p1_4 p1_5:Int) (w:World) (K:(Int×Int×Int×Int×Int×Int×Unit)×Unit->World->Prop) (h:stream_Stream_Next.P p0 p1_0 p1_1 p1_2 p1_3 p1_4 p1_5 w K):CallV Tryz.prog 51 #[.pointer (some p0),.agg #[.int .i64 p1_0,.int .i64 p1_1,.int .i64 p1_2,.int .u32 p1_3,.int .u64 p1_4,.int .u64 p1_5]] w [.agg [.int .i64,.int .i64,.int .i64,.int .u32,.int .u64,.int .u64]] K:=by
 refine vcFun.of (A:=stream_Stream_Next.A) (wr:=false) okf_ok follows h Tryz.func51 ?_
 kernel_rfl
def stream_Stream_order.A:Ann:=.two .no (.two .no (.two (.draw (.take 0 (.take 1 (.take 2 (.take 3 (.take 4 (.take 5 (.take 6 (.take 7 (.take 8 (.eff 9 (.done)))))))))))) .no))
def stream_Stream_order.P (p0:Addr) (w:World) (K:(Int×Int×Int×Int×Int×Int×Unit)×Unit->World->Prop):Prop:=
 NewV #[.int .i64 0,.int .i64 0,.int .i64 0,.int .u32 0,.int .u64 0,.int .u64 0] 62 w λb1 w2=>
 LoadS w2 (p0.add 13) (.int .u64) λ(x3:Int)=>
 StoreV w2 (p0.add 13) [.int .u64 (IntKind.u64.wrap (x3+1))] λw4=>
 DrawV λD5=>
 (D5 (p0.add 12).block/\LoadS w4.drew (p0.add 12) (.int .u64) λ(x6:Int)=>
 (D5 (p0.add 13).block/\LoadS w4.drew (p0.add 13) (.int .u64) λ(x7:Int)=>
 StoreV w4.drew ⟨b1,0,none⟩ [.int .i64 0,.int .i64 0,.int .i64 0,.int .u32 0,.int .u64 x6,.int .u64 x7] λw8=>
 KeepOn D5 w4.drew w8 /\
 LoadA w8 ⟨b1,0,none⟩ [.int .i64,.int .i64,.int .i64,.int .u32,.int .u64,.int .u64] λ(x9:Int×Int×Int×Int×Int×Int×Unit)=>
 K ((x9.1,x9.2.1,x9.2.2.1,x9.2.2.2.1,x9.2.2.2.2.1,x9.2.2.2.2.2.1,()),()) w8))
theorem stream_Stream_order.vc (p0:Addr) (w:World) (K:(Int×Int×Int×Int×Int×Int×Unit)×Unit->World->Prop) (h:stream_Stream_order.P p0 w K):CallV Tryz.prog 175 #[.pointer (some p0)] w [.agg [.int .i64,.int .i64,.int .i64,.int .u32,.int .u64,.int .u64]] K:=by
 refine vcFun.of (A:=stream_Stream_order.A) (wr:=false) okf_ok follows h Tryz.func175 ?_
 kernel_rfl
def stream_Stream_left.A:Ann:=.no
def stream_Stream_left.P (p0:Addr) (p1:Int) (w:World) (K:Int×Unit->World->Prop):Prop:=
 cond (p1 == 4)
 (K (p1,()) w)
 (cond (p1 == 19)
 (StoreV w (p0.add 15) [.bool true] λw1=>
 CallV Tryz.prog 111 #[.pointer (some p0)] w1 [.one (.int .i64)] λ(r2:Int×Unit) w3=>
 cond (r2.1 != 0)
 (K (r2.1,()) w3)
 (K (p1,()) w3))
 (CallV Tryz.prog 111 #[.pointer (some p0)] w [.one (.int .i64)] λ(r4:Int×Unit) w5=>
 cond (r4.1 != 0)
 (K (r4.1,()) w5)
 (K (p1,()) w5)))
theorem stream_Stream_left.vc (p0:Addr) (p1:Int) (w:World) (K:Int×Unit->World->Prop) (h:stream_Stream_left.P p0 p1 w K):CallV Tryz.prog 176 #[.pointer (some p0),.int .i64 p1] w [.one (.int .i64)] K:=by
 refine vcFun.of (A:=stream_Stream_left.A) (wr:=false) okf_ok follows h Tryz.func176 ?_
 kernel_rfl
def stream_Stream_close.A:Ann:=.no
def stream_Stream_close.P (p0:Addr) (p1:Int) (w:World) (K:Unit->World->Prop):Prop:=
 (0<=p1/\p1<(4:Int)) /\
 LoadS w ((p0.add 8:Addr).add (p1.toNat*1)) (.int .i64) λ(x1:Int)=>
 (0<=p1/\p1<(4:Int)) /\
 StoreV w ((p0.add 8:Addr).add (p1.toNat*1)) [.int .i64 (-1)] λw2=>
 cond (decide (x1≥0))
 (LoadS w2 p0 .ptr λ(x3:Option Addr)=>
 CallV Tryz.prog 27 #[.pointer x3] w2 [.one .ptr] λ(r4:(Option Addr)×Unit) w5=>
 CallV Tryz.prog 54 #[.pointer r4.1,.int .i64 x1] w5 [.agg [.int .i64,.int .i64,.int .i64,.int .i64,.bool,.bool,.bool,.bool,.bool]] λ(r6:(Int×Int×Int×Int×Bool×Bool×Bool×Bool×Bool×Unit)×Unit) w7=>
 cond (r6.1.2.2.1 == 0)
 (LoadS w7 p0 .ptr λ(x8:Option Addr)=>
 CallV Tryz.prog 27 #[.pointer x8] w7 [.one .ptr] λ(r9:(Option Addr)×Unit) w10=>
 CallV Tryz.prog 113 #[.pointer r9.1,.int .i64 x1] w10 [.one (.int .i64)] λ(r11:Int×Unit) w12=>
 K () w12)
 (K () w7))
 (K () w2)
set_option maxRecDepth 65536 in
theorem stream_Stream_close.vc (p0:Addr) (p1:Int) (w:World) (K:Unit->World->Prop) (h:stream_Stream_close.P p0 p1 w K):CallV Tryz.prog 198 #[.pointer (some p0),.int .i64 p1] w [] K:=by
 refine vcFun.of (A:=stream_Stream_close.A) (wr:=false) okf_ok follows h Tryz.func198 ?_
 kernel_rfl
def stream_Stream_room.A:Ann:=.two .no (.two .no (.two (.draw (.take 0 (.take 1 (.take 2 (.take 3 (.take 4 (.take 5 (.take 6 (.take 7 (.take 8 (.eff 9 (.eff 10 (.take 11 (.take 12 (.take 13 (.take 14 (.take 15 (.done)))))))))))))))))) (.two .no (.two .no (.join [6,7,47,48,49,50,51,52,53,54,55,56,57] [(6,.one (.int .i64)),(7,.one (.int .i64))] (.draw (.take 0 (.take 1 (.take 2 (.take 4 (.take 5 (.both 3 (.eff 6 (.eff 7 (.take 8 (.take 9 (.take 10 (.take 11 (.take 12 (.done)))))))) 6 (.eff 3 (.eff 7 (.take 8 (.take 9 (.take 10 (.take 11 (.take 12 (.done))))))))))))))) .no)))))
def stream_Stream_room.P (p0:Addr) (p1:Int) (w:World) (K:Int×Unit->World->Prop):Prop:=
 CallV Tryz.prog 198 #[.pointer (some p0),.int .i64 p1] w [] λ(r1:Unit) w2=>
 DrawV λD3=>
 (D3 (p0.add 2).block/\LoadA w2.drew (p0.add 2) [.int .i64,.int .i64,.int .i64,.int .i64,.int .i64,.int .i64] λ(x4:Int×Int×Int×Int×Int×Int×Unit)=>
 (D3 (p0.add 1).block/\LoadS w2.drew (p0.add 1) .ptr λ(x5:Option Addr)=>
 CallV Tryz.prog 25 #[.pointer x5,.int .i64 p1] w2.drew [.one (.int .i64)] λ(r6:Int×Unit) w7=>
 KeepOn D3 w2.drew w7 /\
 CallV Tryz.prog 199 #[.agg #[.int .i64 x4.1,.int .i64 x4.2.1,.int .i64 x4.2.2.1,.int .i64 x4.2.2.2.1,.int .i64 x4.2.2.2.2.1,.int .i64 x4.2.2.2.2.2.1],.int .i64 r6.1] w7 [.one (.int .i64),.one (.int .i64)] λ(r8:Int×Int×Unit) w9=>
 KeepOn D3 w2.drew w9 /\
 cond (r8.2.1 != 0)
 (K ((2:Int),()) w9)
 (LoadS w9 p0 .ptr λ(x10:Option Addr)=>
 CallV Tryz.prog 27 #[.pointer x10] w9 [.one .ptr] λ(r11:(Option Addr)×Unit) w12=>
 CallV Tryz.prog 28 #[.pointer r11.1,.int .i64 p1] w12 [.one (.int .i64)] λ(r13:Int×Unit) w14=>
 Rng .i64 (r8.1-1) /\
 cond (decide (r13.1≥(r8.1-1)))
 (LoadS w14 p0 .ptr λ(x15:Option Addr)=>
 CallV Tryz.prog 27 #[.pointer x15] w14 [.one .ptr] λ(r16:(Option Addr)×Unit) w17=>
 CallV Tryz.prog 200 #[.pointer r16.1,.int .i64 p1,.int .i64 (-1)] w17 [.one (.int .i64)] λ(r18:Int×Unit) w19=>
 CallV Tryz.prog 124 #[.pointer (some p0),.int .i64 r18.1,.int .i64 p1] w19 [.one (.int .i64)] λ(r20:Int×Unit) w21=>
 K (r20.1,()) w21)
 (JoinV [.one (.int .i64),.one (.int .i64)] (λ(v23:Int×Int×Unit) w24=>
 cond (v23.1 == 0)
 ((0<=p1/\p1<(4:Int)) /\
 StoreV w24 ((p0.add 8:Addr).add (p1.toNat*1)) [.int .i64 v23.2.1] λw25=>
 CallV Tryz.prog 176 #[.pointer (some p0),.int .i64 v23.1] w25 [.one (.int .i64)] λ(r26:Int×Unit) w27=>
 K (r26.1,()) w27)
 (CallV Tryz.prog 176 #[.pointer (some p0),.int .i64 v23.1] w24 [.one (.int .i64)] λ(r28:Int×Unit) w29=>
 K (r28.1,()) w29)) λ(J22:Int×Int×Unit->World->Prop)=>
 DrawV λD30=>
 ((LoadS w14.drew p0 .ptr λ(x31:Option Addr)=>
 KeepOn D30 w14.drew w14.drew /\
 CallV Tryz.prog 175 #[.pointer (some p0)] w14.drew [.agg [.int .i64,.int .i64,.int .i64,.int .u32,.int .u64,.int .u64]] λ(r32:(Int×Int×Int×Int×Int×Int×Unit)×Unit) w33=>
 KeepOn D30 w14.drew w33 /\
 CallV Tryz.prog 201 #[.pointer x31,.int .i64 p1,.agg #[.int .i64 r32.1.1,.int .i64 r32.1.2.1,.int .i64 r32.1.2.2.1,.int .u32 r32.1.2.2.2.1,.int .u64 r32.1.2.2.2.2.1,.int .u64 r32.1.2.2.2.2.2.1]] w33 [.one (.int .i64),.one (.int .i64)] λ(r34:Int×Int×Unit) w35=>
 KeepOn D30 w14.drew w35 /\
 J22 (r34.2.1,r34.1,()) w35) /\
 (CallV Tryz.prog 175 #[.pointer (some p0)] w14.drew [.agg [.int .i64,.int .i64,.int .i64,.int .u32,.int .u64,.int .u64]] λ(r36:(Int×Int×Int×Int×Int×Int×Unit)×Unit) w37=>
 KeepOn D30 w14.drew w37 /\
 LoadS w37 p0 .ptr λ(x38:Option Addr)=>
 KeepOn D30 w14.drew w37 /\
 CallV Tryz.prog 201 #[.pointer x38,.int .i64 p1,.agg #[.int .i64 r36.1.1,.int .i64 r36.1.2.1,.int .i64 r36.1.2.2.1,.int .u32 r36.1.2.2.2.1,.int .u64 r36.1.2.2.2.2.1,.int .u64 r36.1.2.2.2.2.2.1]] w37 [.one (.int .i64),.one (.int .i64)] λ(r39:Int×Int×Unit) w40=>
 KeepOn D30 w14.drew w40 /\
 J22 (r39.2.1,r39.1,()) w40))))))
theorem stream_Stream_room.vc (p0:Addr) (p1:Int) (w:World) (K:Int×Unit->World->Prop) (h:stream_Stream_room.P p0 p1 w K):CallV Tryz.prog 163 #[.pointer (some p0),.int .i64 p1] w [.one (.int .i64)] K:=by
 refine vcFun.of (A:=stream_Stream_room.A) (wr:=false) okf_ok follows h Tryz.func163 ?_
 kernel_rfl
def stream_Stream_full.A:Ann:=.two .no (.two .no (.two (.draw (.take 0 (.take 1 (.take 2 (.take 3 (.take 4 (.take 5 (.take 6 (.take 8 (.take 11 (.take 12 (.take 13 (.take 14 (.take 15 (.take 16 (.eff 7 (.eff 9 (.take 10 (.take 17 (.take 18 (.take 19 (.done)))))))))))))))))))))) .no))
def stream_Stream_full.P (p0:Addr) (p1:Int) (w:World) (K:Bool×Unit->World->Prop):Prop:=
 (0<=p1/\p1<(4:Int)) /\
 LoadS w ((p0.add 8:Addr).add (p1.toNat*1)) (.int .i64) λ(x1:Int)=>
 DrawV λD2=>
 cond (decide (x1<0))
 (K (true,()) w.drew)
 ((D2 p0.block/\LoadS w.drew p0 .ptr λ(x3:Option Addr)=>
 (D2 ((p0.add 2).add 1).block/\LoadS w.drew ((p0.add 2).add 1) (.int .i64) λ(x4:Int)=>
 Rng .i64 (x4-1) /\
 CallV Tryz.prog 27 #[.pointer x3] w.drew [.one .ptr] λ(r5:(Option Addr)×Unit) w6=>
 KeepOn D2 w.drew w6 /\
 CallV Tryz.prog 54 #[.pointer r5.1,.int .i64 x1] w6 [.agg [.int .i64,.int .i64,.int .i64,.int .i64,.bool,.bool,.bool,.bool,.bool]] λ(r7:(Int×Int×Int×Int×Bool×Bool×Bool×Bool×Bool×Unit)×Unit) w8=>
 KeepOn D2 w.drew w8 /\
 K (decide (r7.1.2.1≥(x4-1)),()) w8)))
theorem stream_Stream_full.vc (p0:Addr) (p1:Int) (w:World) (K:Bool×Unit->World->Prop) (h:stream_Stream_full.P p0 p1 w K):CallV Tryz.prog 162 #[.pointer (some p0),.int .i64 p1] w [.one .bool] K:=by
 refine vcFun.of (A:=stream_Stream_full.A) (wr:=false) okf_ok follows h Tryz.func162 ?_
 kernel_rfl
def stream_Stream_failed.A:Ann:=.no
def stream_Stream_failed.P (p0:Addr) (p1:Int) (w:World) (K:Int×Unit->World->Prop):Prop:=
 (0<=p1/\p1<(4:Int)) /\
 LoadS w ((p0.add 8:Addr).add (p1.toNat*1)) (.int .i64) λ(x1:Int)=>
 (0<=p1/\p1<(4:Int)) /\
 StoreV w ((p0.add 8:Addr).add (p1.toNat*1)) [.int .i64 (-1)] λw2=>
 LoadS w2 p0 .ptr λ(x3:Option Addr)=>
 CallV Tryz.prog 27 #[.pointer x3] w2 [.one .ptr] λ(r4:(Option Addr)×Unit) w5=>
 CallV Tryz.prog 182 #[.pointer r4.1,.int .i64 x1] w5 [.one (.int .i64)] λ(r6:Int×Unit) w7=>
 CallV Tryz.prog 111 #[.pointer (some p0)] w7 [.one (.int .i64)] λ(r8:Int×Unit) w9=>
 cond (r8.1 != 0)
 (K (r8.1,()) w9)
 (CallV Tryz.prog 124 #[.pointer (some p0),.int .i64 x1,.int .i64 p1] w9 [.one (.int .i64)] λ(r10:Int×Unit) w11=>
 cond (r10.1 != 0)
 (K (r10.1,()) w11)
 (CallV Tryz.prog 47 #[.pointer (some p0),.int .i64 x1] w11 [.one (.int .i64)] λ(r12:Int×Unit) w13=>
 cond (r12.1 == 4)
 (K (r12.1,()) w13)
 (CallV Tryz.prog 111 #[.pointer (some p0)] w13 [.one (.int .i64)] λ(r14:Int×Unit) w15=>
 K (r14.1,()) w15)))
theorem stream_Stream_failed.vc (p0:Addr) (p1:Int) (w:World) (K:Int×Unit->World->Prop) (h:stream_Stream_failed.P p0 p1 w K):CallV Tryz.prog 166 #[.pointer (some p0),.int .i64 p1] w [.one (.int .i64)] K:=by
 refine vcFun.of (A:=stream_Stream_failed.A) (wr:=false) okf_ok follows h Tryz.func166 ?_
 kernel_rfl
def stream_Stream_write.A:Ann:=.two .no (.one (.two .no (.two (.two .no (.one (.loop [7,8,9,10,11,12,13,14,15,16,17,18,19,20,21,22,23,24,25,26,27,28,29,30,31,32,33,34,35,36,37,38,39,40,41,42,43,44,45,46,47,48,49,50,51,52,53,54,55,56,57,58,59,60,61,62,63,64,65,66,67,68,69,70,71] [(13,.one (.int .i64))] .no))) .no)))
def stream_Stream_write.P (p0:Addr) (p1:Int) (g2:FuncId) (cap2:Array Value) (w:World) (K:(Int×Int×Unit)×Int×Unit->World->Prop):Prop:=
 NewV #[.int .i64 0,.int .i64 0] 81 w λb1 w2=>
 LoopV [.one (.int .i64)] ((0:Int),()) w2 λ(z3:Int×Unit) w4 (K5:Int×Unit->World->Prop)=>
 cond (decide (z3.1<256))
 (CallV Tryz.prog 162 #[.pointer (some p0),.int .i64 p1] w4 [.one .bool] λ(r6:Bool×Unit) w7=>
 cond r6.1
 (CallV Tryz.prog 163 #[.pointer (some p0),.int .i64 p1] w7 [.one (.int .i64)] λ(r8:Int×Unit) w9=>
 cond (r8.1 != 0)
 (StoreV w9 ⟨b1,0,none⟩ [.int .i64 0,.int .i64 0] λw10=>
 LoadA w10 ⟨b1,0,none⟩ [.int .i64,.int .i64] λ(x11:Int×Int×Unit)=>
 K ((x11.1,x11.2.1,()),r8.1,()) w10)
 (Rng .i64 (z3.1+1) /\
 K5 (z3.1+1,()) w9))
 ((0<=p1/\p1<(4:Int)) /\
 LoadS w7 ((p0.add 8:Addr).add (p1.toNat*1)) (.int .i64) λ(x12:Int)=>
 LoadS w7 p0 .ptr λ(x13:Option Addr)=>
 CallV Tryz.prog 27 #[.pointer x13] w7 [.one .ptr] λ(r14:(Option Addr)×Unit) w15=>
 CallV Tryz.prog 164 #[.pointer r14.1,.int .i64 x12] w15 [.one (.int .i64)] λ(r16:Int×Unit) w17=>
 LoadS w17 p0 .ptr λ(x18:Option Addr)=>
 CallV Tryz.prog 27 #[.pointer x18] w17 [.one .ptr] λ(r19:(Option Addr)×Unit) w20=>
 CallV Tryz.prog 54 #[.pointer r19.1,.int .i64 x12] w20 [.agg [.int .i64,.int .i64,.int .i64,.int .i64,.bool,.bool,.bool,.bool,.bool]] λ(r21:(Int×Int×Int×Int×Bool×Bool×Bool×Bool×Bool×Unit)×Unit) w22=>
 cond (okf g2)
 (CallV Tryz.prog g2 ([]++((([.int .i64 x12,.int .i64 r21.1.2.1]:List Value))++(cap2).toList)).toArray w22 [.one (.int .i64)] λ(r23:Int×Unit) w24=>
 cond (r23.1 == 0)
 (LoadS w24 p0 .ptr λ(x25:Option Addr)=>
 CallV Tryz.prog 165 #[.pointer x25,.int .i64 x12,.int .i64 r21.1.2.1] w24 [.agg [.int .i64,.int .i64]] λ(r26:(Int×Int×Unit)×Unit) w27=>
 StoreV w27 ⟨b1,0,none⟩ [.int .i64 r26.1.1,.int .i64 r26.1.2.1] λw28=>
 LoadA w28 ⟨b1,0,none⟩ [.int .i64,.int .i64] λ(x29:Int×Int×Unit)=>
 K ((x29.1,x29.2.1,()),(0:Int),()) w28)
 (cond (r23.1 == 5)
 (CallV Tryz.prog 166 #[.pointer (some p0),.int .i64 p1] w24 [.one (.int .i64)] λ(r30:Int×Unit) w31=>
 cond (r30.1 != 0)
 (StoreV w31 ⟨b1,0,none⟩ [.int .i64 0,.int .i64 0] λw32=>
 LoadA w32 ⟨b1,0,none⟩ [.int .i64,.int .i64] λ(x33:Int×Int×Unit)=>
 K ((x33.1,x33.2.1,()),r30.1,()) w32)
 (Rng .i64 (z3.1+1) /\
 K5 (z3.1+1,()) w31))
 (StoreV w24 ⟨b1,0,none⟩ [.int .i64 0,.int .i64 0] λw34=>
 LoadA w34 ⟨b1,0,none⟩ [.int .i64,.int .i64] λ(x35:Int×Int×Unit)=>
 K ((x35.1,x35.2.1,()),r23.1,()) w34)))
 False))
 (StoreV w4 ⟨b1,0,none⟩ [.int .i64 0,.int .i64 0] λw36=>
 LoadA w36 ⟨b1,0,none⟩ [.int .i64,.int .i64] λ(x37:Int×Int×Unit)=>
 K ((x37.1,x37.2.1,()),(19:Int),()) w36)
theorem stream_Stream_write.vc (p0:Addr) (p1:Int) (g2:FuncId) (cap2:Array Value) (w:World) (K:(Int×Int×Unit)×Int×Unit->World->Prop) (h:stream_Stream_write.P p0 p1 g2 cap2 w K):CallV Tryz.prog 115 #[.pointer (some p0),.int .i64 p1,.func (.func g2) #[] cap2] w [.agg [.int .i64,.int .i64],.one (.int .i64)] K:=by
 refine vcFun.of (A:=stream_Stream_write.A) (wr:=false) okf_ok follows h Tryz.func115 ?_
 kernel_rfl
def stream_Stream_copied.A:Ann:=.two .no (.two (.two .no (.one (.loop [6,7,8,9,12,13,14,15,16,17,18,19,20,21,22,23,24,25,26,27,28,29,30,31,32,33,34,35,36,37] [(12,.one (.int .i64))] (.two .no (.two .no (.two (.one (.two .no (.two .no (.two (.draw (.take 0 (.take 1 (.take 2 (.take 3 (.take 4 (.take 5 (.take 6 (.take 7 (.take 8 (.eff 9 (.take 10 (.done))))))))))))) .no)))) .no)))))) .no)
def stream_Stream_copied.P (p0:Addr) (p1:Int) (a2:Option Addr) (n2 c2:Nat) (w:World) (K:Int×Unit->World->Prop):Prop:=
 LoopV [.one (.int .i64)] ((0:Int),()) w λ(z1:Int×Unit) w2 (K3:Int×Unit->World->Prop)=>
 cond (decide (z1.1<((n2:Nat):Int)))
 ((0<=z1.1/\z1.1<((n2:Nat):Int))/\∃ q4:Addr,a2=some q4 /\
 LoadA w2 (q4.add (z1.1.toNat*14)) [.int .i64,.int .i64,.int .i64,.int .i64,.int .i64,.int .u32,.int .u64,.int .u64,.int .i64,.int .i64,.int .i64,.int .u32,.int .u64,.int .u64] λ(x5:Int×Int×Int×Int×Int×Int×Int×Int×Int×Int×Int×Int×Int×Int×Unit)=>
 NewV #[.int .i64 0,.int .i64 0,.int .i64 0,.int .i64 0,.int .i64 0,.int .u32 0,.int .u64 0,.int .u64 0,.int .i64 0,.int .i64 0,.int .i64 0,.int .u32 0,.int .u64 0,.int .u64 0] 83 w2 λb6 w7=>
 StoreV w7 ⟨b6,0,none⟩ [.int .i64 x5.1,.int .i64 x5.2.1,.int .i64 x5.2.2.1,.int .i64 x5.2.2.2.1,.int .i64 x5.2.2.2.2.1,.int .u32 x5.2.2.2.2.2.1,.int .u64 x5.2.2.2.2.2.2.1,.int .u64 x5.2.2.2.2.2.2.2.1,.int .i64 x5.2.2.2.2.2.2.2.2.1,.int .i64 x5.2.2.2.2.2.2.2.2.2.1,.int .i64 x5.2.2.2.2.2.2.2.2.2.2.1,.int .u32 x5.2.2.2.2.2.2.2.2.2.2.2.1,.int .u64 x5.2.2.2.2.2.2.2.2.2.2.2.2.1,.int .u64 x5.2.2.2.2.2.2.2.2.2.2.2.2.2.1] λw8=>
 LoadS w8 p0 .ptr λ(x9:Option Addr)=>
 CallV Tryz.prog 27 #[.pointer x9] w8 [.one .ptr] λ(r10:(Option Addr)×Unit) w11=>
 CallV Tryz.prog 164 #[.pointer r10.1,.int .i64 p1] w11 [.one (.int .i64)] λ(r12:Int×Unit) w13=>
 DrawV λD14=>
 (D14 p0.block/\LoadS w13.drew p0 .ptr λ(x15:Option Addr)=>
 Rng .i64 (z1.1+1) /\
 (D14 b6/\LoadA w13.drew ⟨b6,0,none⟩ [.int .i64,.int .i64] λ(x16:Int×Int×Unit)=>
 CallV Tryz.prog 209 #[.pointer x15,.int .i64 p1,.int .i64 (z1.1+1),.agg #[.int .i64 x16.1,.int .i64 x16.2.1]] w13.drew [.one (.int .i64)] λ(r17:Int×Unit) w18=>
 KeepOn D14 w13.drew w18 /\
 cond (r17.1 != 0)
 (K (r17.1,()) w18)
 (Rng .i64 (z1.1+1) /\
 K3 (z1.1+1,()) w18))))
 (LoadS w2 p0 .ptr λ(x19:Option Addr)=>
 CallV Tryz.prog 210 #[.pointer x19,.int .i64 p1] w2 [.one (.int .i64)] λ(r20:Int×Unit) w21=>
 K (r20.1,()) w21)
theorem stream_Stream_copied.vc (p0:Addr) (p1:Int) (a2:Option Addr) (n2 c2:Nat) (w:World) (K:Int×Unit->World->Prop) (h:stream_Stream_copied.P p0 p1 a2 n2 c2 w K):CallV Tryz.prog 177 #[.pointer (some p0),.int .i64 p1,.slice a2 n2 c2] w [.one (.int .i64)] K:=by
 refine vcFun.of (A:=stream_Stream_copied.A) (wr:=false) okf_ok follows h Tryz.func177 ?_
 kernel_rfl
def stream_Stream_moved.A:Ann:=.two (.two .no (.one (.loop [10,11,14,15,16,17,18,19,20,21,22,23,24,25,26,27,28,29,30,31,32,33,34,35,36,37,38,39,40] [(14,.one (.int .i64))] (.two .no (.two .no (.two (.one (.two .no (.draw (.take 0 (.take 1 (.take 2 (.take 3 (.take 4 (.take 5 (.take 6 (.take 7 (.take 8 (.take 9 (.take 10 (.take 11 (.take 12 (.take 14 (.take 15 (.take 16 (.take 17 (.take 18 (.eff 13 (.eff 19 (.eff 20 (.done))))))))))))))))))))))))) .no)))))) .no
def stream_Stream_moved.P (p0:Addr) (p1 p2 p3:Int) (a4:Option Addr) (n4 c4:Nat) (w:World) (K:Unit->World->Prop):Prop:=
 LoopV [.one (.int .i64)] ((0:Int),()) w λ(z1:Int×Unit) w2 (K3:Int×Unit->World->Prop)=>
 cond (decide (z1.1<((n4:Nat):Int)))
 ((0<=z1.1/\z1.1<((n4:Nat):Int))/\∃ q4:Addr,a4=some q4 /\
 LoadA w2 (q4.add (z1.1.toNat*14)) [.int .i64,.int .i64,.int .i64,.int .i64,.int .i64,.int .u32,.int .u64,.int .u64,.int .i64,.int .i64,.int .i64,.int .u32,.int .u64,.int .u64] λ(x5:Int×Int×Int×Int×Int×Int×Int×Int×Int×Int×Int×Int×Int×Int×Unit)=>
 NewV #[.int .i64 0,.int .i64 0,.int .i64 0,.int .i64 0,.int .i64 0,.int .u32 0,.int .u64 0,.int .u64 0,.int .i64 0,.int .i64 0,.int .i64 0,.int .u32 0,.int .u64 0,.int .u64 0] 83 w2 λb6 w7=>
 StoreV w7 ⟨b6,0,none⟩ [.int .i64 x5.1,.int .i64 x5.2.1,.int .i64 x5.2.2.1,.int .i64 x5.2.2.2.1,.int .i64 x5.2.2.2.2.1,.int .u32 x5.2.2.2.2.2.1,.int .u64 x5.2.2.2.2.2.2.1,.int .u64 x5.2.2.2.2.2.2.2.1,.int .i64 x5.2.2.2.2.2.2.2.2.1,.int .i64 x5.2.2.2.2.2.2.2.2.2.1,.int .i64 x5.2.2.2.2.2.2.2.2.2.2.1,.int .u32 x5.2.2.2.2.2.2.2.2.2.2.2.1,.int .u64 x5.2.2.2.2.2.2.2.2.2.2.2.2.1,.int .u64 x5.2.2.2.2.2.2.2.2.2.2.2.2.2.1] λw8=>
 DrawV λD9=>
 (D9 (p0.add 1).block/\LoadS w8.drew (p0.add 1) .ptr λ(x10:Option Addr)=>
 (D9 b6/\LoadA w8.drew ⟨b6,0,none⟩ [.int .i64,.int .i64] λ(x11:Int×Int×Unit)=>
 (D9 p0.block/\LoadS w8.drew p0 .ptr λ(x12:Option Addr)=>
 Rng .i64 (z1.1+1) /\
 (D9 p0.block/\LoadS w8.drew p0 .ptr λ(x13:Option Addr)=>
 CallV Tryz.prog 165 #[.pointer x12,.int .i64 p2,.int .i64 (z1.1+1)] w8.drew [.agg [.int .i64,.int .i64]] λ(r14:(Int×Int×Unit)×Unit) w15=>
 KeepOn D9 w8.drew w15 /\
 CallV Tryz.prog 119 #[.pointer x13,.int .i64 p2] w15 [.agg [.int .i64,.int .i64,.int .i64,.int .u32,.int .u64,.int .u64]] λ(r16:(Int×Int×Int×Int×Int×Int×Unit)×Unit) w17=>
 KeepOn D9 w8.drew w17 /\
 CallV Tryz.prog 211 #[.pointer x10,.agg #[.int .i64 x11.1,.int .i64 x11.2.1],.agg #[.int .i64 r14.1.1,.int .i64 r14.1.2.1],.agg #[.int .i64 r16.1.1,.int .i64 r16.1.2.1,.int .i64 r16.1.2.2.1,.int .u32 r16.1.2.2.2.1,.int .u64 r16.1.2.2.2.2.1,.int .u64 r16.1.2.2.2.2.2.1]] w17 [.one (.int .i64)] λ(r18:Int×Unit) w19=>
 KeepOn D9 w8.drew w19 /\
 Rng .i64 (z1.1+1) /\
 K3 (z1.1+1,()) w19)))))
 (LoadS w2 p0 .ptr λ(x20:Option Addr)=>
 CallV Tryz.prog 27 #[.pointer x20] w2 [.one .ptr] λ(r21:(Option Addr)×Unit) w22=>
 CallV Tryz.prog 121 #[.pointer r21.1,.int .i64 p2,.int .i64 ((n4:Nat):Int)] w22 [.one (.int .i64)] λ(r23:Int×Unit) w24=>
 LoadS w24 p0 .ptr λ(x25:Option Addr)=>
 CallV Tryz.prog 27 #[.pointer x25] w24 [.one .ptr] λ(r26:(Option Addr)×Unit) w27=>
 CallV Tryz.prog 113 #[.pointer r26.1,.int .i64 p1] w27 [.one (.int .i64)] λ(r28:Int×Unit) w29=>
 (0<=p3/\p3<(4:Int)) /\
 LoadS w29 ((p0.add 8:Addr).add (p3.toNat*1)) (.int .i64) λ(x30:Int)=>
 cond (decide (x30<0))
 ((0<=p3/\p3<(4:Int)) /\
 StoreV w29 ((p0.add 8:Addr).add (p3.toNat*1)) [.int .i64 p2] λw31=>
 K () w31)
 (K () w29))
set_option maxRecDepth 65536 in
theorem stream_Stream_moved.vc (p0:Addr) (p1 p2 p3:Int) (a4:Option Addr) (n4 c4:Nat) (w:World) (K:Unit->World->Prop) (h:stream_Stream_moved.P p0 p1 p2 p3 a4 n4 c4 w K):CallV Tryz.prog 178 #[.pointer (some p0),.int .i64 p1,.int .i64 p2,.int .i64 p3,.slice a4 n4 c4] w [] K:=by
 refine vcFun.of (A:=stream_Stream_moved.A) (wr:=false) okf_ok follows h Tryz.func178 ?_
 kernel_rfl
def stream_Stream_spoilt.A:Ann:=.no
def stream_Stream_spoilt.P (p0:Addr) (p1:Int) (w:World) (K:Int×Unit->World->Prop):Prop:=
 LoadS w p0 .ptr λ(x1:Option Addr)=>
 CallV Tryz.prog 27 #[.pointer x1] w [.one .ptr] λ(r2:(Option Addr)×Unit) w3=>
 CallV Tryz.prog 182 #[.pointer r2.1,.int .i64 p1] w3 [.one (.int .i64)] λ(r4:Int×Unit) w5=>
 LoadS w5 p0 .ptr λ(x6:Option Addr)=>
 CallV Tryz.prog 27 #[.pointer x6] w5 [.one .ptr] λ(r7:(Option Addr)×Unit) w8=>
 CallV Tryz.prog 113 #[.pointer r7.1,.int .i64 p1] w8 [.one (.int .i64)] λ(r9:Int×Unit) w10=>
 CallV Tryz.prog 47 #[.pointer (some p0),.int .i64 p1] w10 [.one (.int .i64)] λ(r11:Int×Unit) w12=>
 cond (r11.1 == 4)
 (K (r11.1,()) w12)
 (CallV Tryz.prog 111 #[.pointer (some p0)] w12 [.one (.int .i64)] λ(r13:Int×Unit) w14=>
 K (r13.1,()) w14)
theorem stream_Stream_spoilt.vc (p0:Addr) (p1:Int) (w:World) (K:Int×Unit->World->Prop) (h:stream_Stream_spoilt.P p0 p1 w K):CallV Tryz.prog 179 #[.pointer (some p0),.int .i64 p1] w [.one (.int .i64)] K:=by
 refine vcFun.of (A:=stream_Stream_spoilt.A) (wr:=false) okf_ok follows h Tryz.func179 ?_
 kernel_rfl
def stream_Stream_empty.A:Ann:=.two .no (.join [13,14,15,16,17,18,19,20,21,22,23,24,25] [] .no (.two .no (.two .no (.two (.two .no (.one (.loop [6,8,9,10,11,12,43,44,45,46,47,48,49,50,51,52,53,54,55,56,57,58,59,60,61,62,63,64,65,66,67,68,69,70,71,72,73,74,75,76,77,78,79,80,81,82,83,84,85,86,87,88,89,90,91,92,93] [(43,.one (.int .i64))] (.two .no (.two .no (.two (.one (.join [8,9,45,46,47,48,49,50,51,52,53,54,55] [(8,.one (.int .i64)),(9,.one (.int .i64))] (.draw (.take 0 (.take 1 (.take 2 (.take 4 (.take 5 (.both 3 (.eff 6 (.eff 7 (.take 8 (.take 9 (.take 10 (.take 11 (.take 12 (.done)))))))) 6 (.eff 3 (.eff 7 (.take 8 (.take 9 (.take 10 (.take 11 (.take 12 (.done))))))))))))))) .no)) .no)))))) .no))))
def stream_Stream_empty.P (p0:Addr) (p1 p2:Int) (w:World) (K:Int×Unit->World->Prop):Prop:=
 JoinV [] (λ(v2:Unit) w3=>
 LoadS w3 (p0.add 1) .ptr λ(x4:Option Addr)=>
 Rng .i64 ((4:Int)+p1) /\
 CallV Tryz.prog 53 #[.pointer x4,.int .i64 ((4:Int)+p1)] w3 [.one .sl] λ(r5:SlV×Unit) w6=>
 cond (((r5.1.n:Nat):Int) == 0)
 (LoadS w6 p0 .ptr λ(x7:Option Addr)=>
 CallV Tryz.prog 27 #[.pointer x7] w6 [.one .ptr] λ(r8:(Option Addr)×Unit) w9=>
 CallV Tryz.prog 113 #[.pointer r8.1,.int .i64 p1] w9 [.one (.int .i64)] λ(r10:Int×Unit) w11=>
 K ((0:Int),()) w11)
 (LoopV [.one (.int .i64)] ((0:Int),()) w6 λ(z12:Int×Unit) w13 (K14:Int×Unit->World->Prop)=>
 cond (decide (z12.1<256))
 (JoinV [.one (.int .i64),.one (.int .i64)] (λ(v16:Int×Int×Unit) w17=>
 CallV Tryz.prog 176 #[.pointer (some p0),.int .i64 v16.2.1] w17 [.one (.int .i64)] λ(r18:Int×Unit) w19=>
 cond (r18.1 != 0)
 (cond (v16.2.1 == 0)
 (LoadS w19 p0 .ptr λ(x20:Option Addr)=>
 CallV Tryz.prog 27 #[.pointer x20] w19 [.one .ptr] λ(r21:(Option Addr)×Unit) w22=>
 CallV Tryz.prog 113 #[.pointer r21.1,.int .i64 v16.1] w22 [.one (.int .i64)] λ(r23:Int×Unit) w24=>
 K (r18.1,()) w24)
 (K (r18.1,()) w19))
 (CallV Tryz.prog 177 #[.pointer (some p0),.int .i64 v16.1,.slice r5.1.a r5.1.n r5.1.c] w19 [.one (.int .i64)] λ(r25:Int×Unit) w26=>
 cond (r25.1 == 0)
 (CallV Tryz.prog 178 #[.pointer (some p0),.int .i64 p1,.int .i64 v16.1,.int .i64 p2,.slice r5.1.a r5.1.n r5.1.c] w26 [] λ(r27:Unit) w28=>
 K ((0:Int),()) w28)
 (cond (r25.1 == 5)
 (CallV Tryz.prog 179 #[.pointer (some p0),.int .i64 v16.1] w26 [.one (.int .i64)] λ(r29:Int×Unit) w30=>
 cond (r29.1 != 0)
 (K (r29.1,()) w30)
 (Rng .i64 (z12.1+1) /\
 K14 (z12.1+1,()) w30))
 (K (r25.1,()) w26)))) λ(J15:Int×Int×Unit->World->Prop)=>
 DrawV λD31=>
 ((LoadS w13.drew p0 .ptr λ(x32:Option Addr)=>
 KeepOn D31 w13.drew w13.drew /\
 CallV Tryz.prog 175 #[.pointer (some p0)] w13.drew [.agg [.int .i64,.int .i64,.int .i64,.int .u32,.int .u64,.int .u64]] λ(r33:(Int×Int×Int×Int×Int×Int×Unit)×Unit) w34=>
 KeepOn D31 w13.drew w34 /\
 CallV Tryz.prog 174 #[.pointer x32,.int .i64 p2,.agg #[.int .i64 r33.1.1,.int .i64 r33.1.2.1,.int .i64 r33.1.2.2.1,.int .u32 r33.1.2.2.2.1,.int .u64 r33.1.2.2.2.2.1,.int .u64 r33.1.2.2.2.2.2.1]] w34 [.one (.int .i64),.one (.int .i64)] λ(r35:Int×Int×Unit) w36=>
 KeepOn D31 w13.drew w36 /\
 J15 (r35.1,r35.2.1,()) w36) /\
 (CallV Tryz.prog 175 #[.pointer (some p0)] w13.drew [.agg [.int .i64,.int .i64,.int .i64,.int .u32,.int .u64,.int .u64]] λ(r37:(Int×Int×Int×Int×Int×Int×Unit)×Unit) w38=>
 KeepOn D31 w13.drew w38 /\
 LoadS w38 p0 .ptr λ(x39:Option Addr)=>
 KeepOn D31 w13.drew w38 /\
 CallV Tryz.prog 174 #[.pointer x39,.int .i64 p2,.agg #[.int .i64 r37.1.1,.int .i64 r37.1.2.1,.int .i64 r37.1.2.2.1,.int .u32 r37.1.2.2.2.1,.int .u64 r37.1.2.2.2.2.1,.int .u64 r37.1.2.2.2.2.2.1]] w38 [.one (.int .i64),.one (.int .i64)] λ(r40:Int×Int×Unit) w41=>
 KeepOn D31 w13.drew w41 /\
 J15 (r40.1,r40.2.1,()) w41)))
 (K ((19:Int),()) w13))) λ(J1:Unit->World->Prop)=>
 (0<=p2/\p2<(4:Int)) /\
 LoadS w ((p0.add 8:Addr).add (p2.toNat*1)) (.int .i64) λ(x42:Int)=>
 cond (x42 == p1)
 ((0<=p2/\p2<(4:Int)) /\
 StoreV w ((p0.add 8:Addr).add (p2.toNat*1)) [.int .i64 (-1)] λw43=>
 J1 (()) w43)
 (J1 (()) w)
theorem stream_Stream_empty.vc (p0:Addr) (p1 p2:Int) (w:World) (K:Int×Unit->World->Prop) (h:stream_Stream_empty.P p0 p1 p2 w K):CallV Tryz.prog 124 #[.pointer (some p0),.int .i64 p1,.int .i64 p2] w [.one (.int .i64)] K:=by
 refine vcFun.of (A:=stream_Stream_empty.A) (wr:=false) okf_ok follows h Tryz.func124 ?_
 kernel_rfl
def stream_Stream_dead.A:Ann:=.two .no (.one (.loop [5,6,7,10,11,12,13,14,15,16,17,18,19,20,21,22,23,24,25,26,27,28,29,30,31,32,33,34,35,36,37,38,39,40,41,42,43,44,45,46,47,48,49,50,51,52,53,54] [(10,.one (.int .i64))] .no))
def stream_Stream_dead.P (p0:Addr) (a1:Option Addr) (n1 c1:Nat) (w:World) (K:Unit->World->Prop):Prop:=
 LoopV [.one (.int .i64)] ((0:Int),()) w λ(z1:Int×Unit) w2 (K3:Int×Unit->World->Prop)=>
 cond (decide (z1.1<((n1:Nat):Int)))
 ((0<=z1.1/\z1.1<((n1:Nat):Int))/\∃ q4:Addr,a1=some q4 /\
 LoadA w2 (q4.add (z1.1.toNat*2)) [.int .i64,.int .i64] λ(x5:Int×Int×Unit)=>
 NewV #[.int .i64 0,.int .i64 0] 81 w2 λb6 w7=>
 StoreV w7 ⟨b6,0,none⟩ [.int .i64 x5.1,.int .i64 x5.2.1] λw8=>
 LoadS w8 ⟨b6,0,none⟩ (.int .i64) λ(x9:Int)=>
 Rng .i64 (x9-4) /\
 LoadS w8 p0 .ptr λ(x10:Option Addr)=>
 CallV Tryz.prog 27 #[.pointer x10] w8 [.one .ptr] λ(r11:(Option Addr)×Unit) w12=>
 CallV Tryz.prog 121 #[.pointer r11.1,.int .i64 (x9-4),.int .i64 (-1)] w12 [.one (.int .i64)] λ(r13:Int×Unit) w14=>
 LoadS w14 p0 .ptr λ(x15:Option Addr)=>
 CallV Tryz.prog 27 #[.pointer x15] w14 [.one .ptr] λ(r16:(Option Addr)×Unit) w17=>
 CallV Tryz.prog 54 #[.pointer r16.1,.int .i64 (x9-4)] w17 [.agg [.int .i64,.int .i64,.int .i64,.int .i64,.bool,.bool,.bool,.bool,.bool]] λ(r18:(Int×Int×Int×Int×Bool×Bool×Bool×Bool×Bool×Unit)×Unit) w19=>
 NewV #[.int .i64 0,.int .i64 0,.int .i64 0,.int .i64 0,.bool false,.bool false,.bool false,.bool false,.bool false] 103 w19 λb20 w21=>
 StoreV w21 ⟨b20,0,none⟩ [.int .i64 r18.1.1,.int .i64 r18.1.2.1,.int .i64 r18.1.2.2.1,.int .i64 r18.1.2.2.2.1,.bool r18.1.2.2.2.2.1,.bool r18.1.2.2.2.2.2.1,.bool r18.1.2.2.2.2.2.2.1,.bool r18.1.2.2.2.2.2.2.2.1,.bool r18.1.2.2.2.2.2.2.2.2.1] λw22=>
 LoadS w22 ⟨b20,2,none⟩ (.int .i64) λ(x23:Int)=>
 cond (x23 == 0)
 (LoadS w22 ⟨b20,4,none⟩ .bool λ(x24:Bool)=>
 cond x24
 (SubK (some (p0.add 8)) 0 4 1 λa25=>
 CallV Tryz.prog 173 #[.slice a25 (4-0) (4-0),.int .i64 (x9-4)] w22 [.one .bool] λ(r26:Bool×Unit) w27=>
 cond (!r26.1)
 (LoadS w27 p0 .ptr λ(x28:Option Addr)=>
 CallV Tryz.prog 27 #[.pointer x28] w27 [.one .ptr] λ(r29:(Option Addr)×Unit) w30=>
 CallV Tryz.prog 113 #[.pointer r29.1,.int .i64 (x9-4)] w30 [.one (.int .i64)] λ(r31:Int×Unit) w32=>
 Rng .i64 (z1.1+1) /\
 K3 (z1.1+1,()) w32)
 (Rng .i64 (z1.1+1) /\
 K3 (z1.1+1,()) w27))
 (Rng .i64 (z1.1+1) /\
 K3 (z1.1+1,()) w22))
 (Rng .i64 (z1.1+1) /\
 K3 (z1.1+1,()) w22))
 (K () w2)
set_option maxRecDepth 65536 in
theorem stream_Stream_dead.vc (p0:Addr) (a1:Option Addr) (n1 c1:Nat) (w:World) (K:Unit->World->Prop) (h:stream_Stream_dead.P p0 a1 n1 c1 w K):CallV Tryz.prog 122 #[.pointer (some p0),.slice a1 n1 c1] w [] K:=by
 refine vcFun.of (A:=stream_Stream_dead.A) (wr:=false) okf_ok follows h Tryz.func122 ?_
 kernel_rfl
def stream_Stream_may.A:Ann:=.two .no (.two (.draw (.take 0 (.take 1 (.take 2 (.take 3 (.take 4 (.take 5 (.eff 6 (.take 7 (.done)))))))))) .no)
def stream_Stream_may.P (p0:Addr) (p1_0 p1_1 p1_2 p1_3 p1_4 p1_5:Int) (w:World) (K:Bool×Unit->World->Prop):Prop:=
 NewV #[.int .i64 p1_0,.int .i64 p1_1,.int .i64 p1_2,.int .u32 p1_3,.int .u64 p1_4,.int .u64 p1_5] 62 w λb1 w2=>
 DrawV λD3=>
 (D3 (p0.add 1).block/\LoadS w2.drew (p0.add 1) .ptr λ(x4:Option Addr)=>
 (D3 b1/\LoadS w2.drew ⟨b1,1,none⟩ (.int .i64) λ(x5:Int)=>
 CallV Tryz.prog 25 #[.pointer x4,.int .i64 x5] w2.drew [.one (.int .i64)] λ(r6:Int×Unit) w7=>
 KeepOn D3 w2.drew w7 /\
 cond (decide (r6.1>0))
 (LoadS w7 ⟨b1,0,none⟩ (.int .i64) λ(x8:Int)=>
 cond (x8 == 1)
 (LoadS w7 ⟨b1,2,none⟩ (.int .i64) λ(x9:Int)=>
 cond (decide (x9≥1))
 (LoadS w7 ⟨b1,2,none⟩ (.int .i64) λ(x10:Int)=>
 cond (decide (x10<=r6.1))
 (LoadS w7 ⟨b1,3,none⟩ (.int .u32) λ(x11:Int)=>
 LoadS w7 ⟨b1,2,none⟩ (.int .i64) λ(x12:Int)=>
 Rng .i64 (r6.1-x12) /\
 K (decide ((IntKind.i64.wrap x11)<=(r6.1-x12)),()) w7)
 (K (false,()) w7))
 (K (false,()) w7))
 (LoadS w7 ⟨b1,0,none⟩ (.int .i64) λ(x13:Int)=>
 cond (x13 == 2)
 (LoadS w7 ⟨b1,2,none⟩ (.int .i64) λ(x14:Int)=>
 cond (decide (x14≥1))
 (LoadS w7 ⟨b1,2,none⟩ (.int .i64) λ(x15:Int)=>
 cond (decide (x15<=r6.1))
 (LoadS w7 ⟨b1,3,none⟩ (.int .u32) λ(x16:Int)=>
 LoadS w7 ⟨b1,2,none⟩ (.int .i64) λ(x17:Int)=>
 Rng .i64 (r6.1-x17) /\
 K (decide ((IntKind.i64.wrap x16)<=(r6.1-x17)),()) w7)
 (K (false,()) w7))
 (K (false,()) w7))
 (K (false,()) w7)))
 (K (false,()) w7)))
theorem stream_Stream_may.vc (p0:Addr) (p1_0 p1_1 p1_2 p1_3 p1_4 p1_5:Int) (w:World) (K:Bool×Unit->World->Prop) (h:stream_Stream_may.P p0 p1_0 p1_1 p1_2 p1_3 p1_4 p1_5 w K):CallV Tryz.prog 114 #[.pointer (some p0),.agg #[.int .i64 p1_0,.int .i64 p1_1,.int .i64 p1_2,.int .u32 p1_3,.int .u64 p1_4,.int .u64 p1_5]] w [.one .bool] K:=by
 refine vcFun.of (A:=stream_Stream_may.A) (wr:=false) okf_ok follows h Tryz.func114 ?_
 kernel_rfl
def stream_Stream_Put.A:Ann:=.two .no (.two .no (.two .no (.two .no (.two .no (.two .no (.two (.draw (.take 0 (.take 1 (.take 2 (.take 3 (.take 4 (.take 5 (.take 6 (.take 7 (.take 8 (.take 9 (.take 10 (.eff 11 (.take 12 (.eff 13 (.take 14 (.take 15 (.take 16 (.take 17 (.take 18 (.done))))))))))))))))))))) (.two .no (.two (.two (.draw (.take 0 (.take 1 (.take 2 (.take 3 (.take 4 (.eff 5 (.take 6 (.done))))))))) .no) .no))))))))
def stream_Stream_Put.P (p0:Addr) (p1_0 p1_1 p1_2 p1_3 p1_4 p1_5:Int) (a2:Option Addr) (n2 c2:Nat) (a3:Option Addr) (n3 c3:Nat) (w:World) (K:Int×Unit->World->Prop):Prop:=
 NewV #[.pointer (some p0)] 32 w λb1 w2=>
 NewV #[.int .i64 p1_0,.int .i64 p1_1,.int .i64 p1_2,.int .u32 p1_3,.int .u64 p1_4,.int .u64 p1_5] 62 w2 λb3 w4=>
 NewV #[.slice a2 n2 c2] 63 w4 λb5 w6=>
 NewV #[.slice a3 n3 c3] 63 w6 λb7 w8=>
 LoadS w8 ⟨b1,0,none⟩ .ptr λ(x9:Option Addr)=>
 cond x9.isNone
 (K ((2:Int),()) w8)
 (LoadS w8 ⟨b1,0,none⟩ .ptr λ(x10:Option Addr)=>
 LoadA w8 ⟨b3,0,none⟩ [.int .i64,.int .i64,.int .i64,.int .u32,.int .u64,.int .u64] λ(x11:Int×Int×Int×Int×Int×Int×Unit)=>
 CallV Tryz.prog 114 #[.pointer x10,.agg #[.int .i64 x11.1,.int .i64 x11.2.1,.int .i64 x11.2.2.1,.int .u32 x11.2.2.2.1,.int .u64 x11.2.2.2.2.1,.int .u64 x11.2.2.2.2.2.1]] w8 [.one .bool] λ(r12:Bool×Unit) w13=>
 cond (!r12.1)
 (K ((2:Int),()) w13)
 (LoadS w13 ⟨b1,0,none⟩ .ptr λ(x14:Option Addr)=>
 PtrK x14 λq15=>
 LoadS w13 (q15.add 15) .bool λ(x16:Bool)=>
 cond x16
 (K ((15:Int),()) w13)
 (LoadS w13 ⟨b1,0,none⟩ .ptr λ(x17:Option Addr)=>
 LoadS w13 ⟨b3,1,none⟩ (.int .i64) λ(x18:Int)=>
 CallV Tryz.prog 115 #[.pointer x17,.int .i64 x18,.func (.func 116) #[] #[.pointer (some ⟨b1,0,none⟩),.pointer (some ⟨b3,0,none⟩),.pointer (some ⟨b5,0,none⟩),.pointer (some ⟨b7,0,none⟩)]] w13 [.agg [.int .i64,.int .i64],.one (.int .i64)] λ(r19:(Int×Int×Unit)×Int×Unit) w20=>
 NewV #[.int .i64 0,.int .i64 0] 81 w20 λb21 w22=>
 StoreV w22 ⟨b21,0,none⟩ [.int .i64 r19.1.1,.int .i64 r19.1.2.1] λw23=>
 cond (r19.2.1 != 0)
 (K (r19.2.1,()) w23)
 (LoadS w23 ⟨b21,0,none⟩ (.int .i64) λ(x24:Int)=>
 Rng .i64 (x24-4) /\
 DrawV λD25=>
 (D25 b1/\LoadS w23.drew ⟨b1,0,none⟩ .ptr λ(x26:Option Addr)=>
 PtrK x26 λq27=>
 (D25 (q27.add 1).block/\LoadS w23.drew (q27.add 1) .ptr λ(x28:Option Addr)=>
 (D25 b21/\LoadA w23.drew ⟨b21,0,none⟩ [.int .i64,.int .i64] λ(x29:Int×Int×Unit)=>
 (D25 b3/\LoadA w23.drew ⟨b3,0,none⟩ [.int .i64,.int .i64,.int .i64,.int .u32,.int .u64,.int .u64] λ(x30:Int×Int×Int×Int×Int×Int×Unit)=>
 (D25 b1/\LoadS w23.drew ⟨b1,0,none⟩ .ptr λ(x31:Option Addr)=>
 PtrK x31 λq32=>
 (D25 q32.block/\LoadS w23.drew q32 .ptr λ(x33:Option Addr)=>
 CallV Tryz.prog 119 #[.pointer x33,.int .i64 (x24-4)] w23.drew [.agg [.int .i64,.int .i64,.int .i64,.int .u32,.int .u64,.int .u64]] λ(r34:(Int×Int×Int×Int×Int×Int×Unit)×Unit) w35=>
 KeepOn D25 w23.drew w35 /\
 CallV Tryz.prog 118 #[.pointer x28,.agg #[.int .i64 x29.1,.int .i64 x29.2.1,.int .i64 x30.1,.int .i64 x30.2.1,.int .i64 x30.2.2.1,.int .u32 x30.2.2.2.1,.int .u64 x30.2.2.2.2.1,.int .u64 x30.2.2.2.2.2.1,.int .i64 r34.1.1,.int .i64 r34.1.2.1,.int .i64 r34.1.2.2.1,.int .u32 r34.1.2.2.2.1,.int .u64 r34.1.2.2.2.2.1,.int .u64 r34.1.2.2.2.2.2.1]] w35 [.one .sl,.one (.int .i64)] λ(r36:SlV×Int×Unit) w37=>
 KeepOn D25 w23.drew w37 /\
 cond (r36.2.1 != 0)
 (K (r36.2.1,()) w37)
 (DrawV λD38=>
 (D38 b1/\LoadS w37.drew ⟨b1,0,none⟩ .ptr λ(x39:Option Addr)=>
 PtrK x39 λq40=>
 (D38 (q40.add 1).block/\LoadS w37.drew (q40.add 1) .ptr λ(x41:Option Addr)=>
 (D38 b21/\LoadA w37.drew ⟨b21,0,none⟩ [.int .i64,.int .i64] λ(x42:Int×Int×Unit)=>
 CallV Tryz.prog 120 #[.pointer x41,.agg #[.int .i64 x42.1,.int .i64 x42.2.1]] w37.drew [.one (.int .i64)] λ(r43:Int×Unit) w44=>
 KeepOn D38 w37.drew w44 /\
 cond (decide (r43.1>0))
 (LoadS w44 ⟨b1,0,none⟩ .ptr λ(x45:Option Addr)=>
 PtrK x45 λq46=>
 LoadS w44 q46 .ptr λ(x47:Option Addr)=>
 CallV Tryz.prog 27 #[.pointer x47] w44 [.one .ptr] λ(r48:(Option Addr)×Unit) w49=>
 CallV Tryz.prog 121 #[.pointer r48.1,.int .i64 (x24-4),.int .i64 1] w49 [.one (.int .i64)] λ(r50:Int×Unit) w51=>
 LoadS w51 ⟨b1,0,none⟩ .ptr λ(x52:Option Addr)=>
 CallV Tryz.prog 122 #[.pointer x52,.slice r36.1.a r36.1.n r36.1.c] w51 [] λ(r53:Unit) w54=>
 K ((0:Int),()) w54)
 (LoadS w44 ⟨b1,0,none⟩ .ptr λ(x55:Option Addr)=>
 CallV Tryz.prog 122 #[.pointer x55,.slice r36.1.a r36.1.n r36.1.c] w44 [] λ(r56:Unit) w57=>
 K ((0:Int),()) w57)))))))))))))))
theorem stream_Stream_Put.vc (p0:Addr) (p1_0 p1_1 p1_2 p1_3 p1_4 p1_5:Int) (a2:Option Addr) (n2 c2:Nat) (a3:Option Addr) (n3 c3:Nat) (w:World) (K:Int×Unit->World->Prop) (h:stream_Stream_Put.P p0 p1_0 p1_1 p1_2 p1_3 p1_4 p1_5 a2 n2 c2 a3 n3 c3 w K):CallV Tryz.prog 45 #[.pointer (some p0),.agg #[.int .i64 p1_0,.int .i64 p1_1,.int .i64 p1_2,.int .u32 p1_3,.int .u64 p1_4,.int .u64 p1_5],.slice a2 n2 c2,.slice a3 n3 c3] w [.one (.int .i64)] K:=by
 refine vcFun.of (A:=stream_Stream_Put.A) (wr:=false) okf_ok follows h Tryz.func45 ?_
 kernel_rfl
def stream_Stream_Put_1.A:Ann:=.two .no (.two (.draw (.take 0 (.take 1 (.take 2 (.take 3 (.take 4 (.take 5 (.take 6 (.take 7 (.take 8 (.eff 9 (.take 10 (.done))))))))))))) .no)
def stream_Stream_Put_1.P (p0 p1:Int) (cq0 cq1 cq2 cq3:Addr) (w:World) (K:Int×Unit->World->Prop):Prop:=
 DrawV λD1=>
 (D1 cq0.block/\LoadS w.drew cq0 .ptr λ(x2:Option Addr)=>
 PtrK x2 λq3=>
 (D1 q3.block/\LoadS w.drew q3 .ptr λ(x4:Option Addr)=>
 (D1 cq1.block/\LoadA w.drew cq1 [.int .i64,.int .i64,.int .i64,.int .u32,.int .u64,.int .u64] λ(x5:Int×Int×Int×Int×Int×Int×Unit)=>
 (D1 cq2.block/\LoadS w.drew cq2 .sl λ(x6:SlV)=>
 (D1 cq3.block/\LoadS w.drew cq3 .sl λ(x7:SlV)=>
 CallV Tryz.prog 117 #[.pointer x4,.int .i64 p0,.int .i64 p1,.agg #[.int .i64 x5.1,.int .i64 x5.2.1,.int .i64 x5.2.2.1,.int .u32 x5.2.2.2.1,.int .u64 x5.2.2.2.2.1,.int .u64 x5.2.2.2.2.2.1],.slice x6.a x6.n x6.c,.slice x7.a x7.n x7.c] w.drew [.one (.int .i64)] λ(r8:Int×Unit) w9=>
 KeepOn D1 w.drew w9 /\
 K (r8.1,()) w9)))))
theorem stream_Stream_Put_1.vc (p0 p1:Int) (cq0 cq1 cq2 cq3:Addr) (w:World) (K:Int×Unit->World->Prop) (h:stream_Stream_Put_1.P p0 p1 cq0 cq1 cq2 cq3 w K):CallV Tryz.prog 116 #[.int .i64 p0,.int .i64 p1,.pointer (some cq0),.pointer (some cq1),.pointer (some cq2),.pointer (some cq3)] w [.one (.int .i64)] K:=by
 refine vcFun.of (A:=stream_Stream_Put_1.A) (wr:=false) okf_ok follows h Tryz.func116 ?_
 kernel_rfl
def stream_Stream_has.A:Ann:=.no
def stream_Stream_has.P (p0:Addr) (p1:Int) (w:World) (K:Bool×Unit->World->Prop):Prop:=
 cond (decide (p1≥0))
 (LoadS w p0 .ptr λ(x1:Option Addr)=>
 CallV Tryz.prog 27 #[.pointer x1] w [.one .ptr] λ(r2:(Option Addr)×Unit) w3=>
 CallV Tryz.prog 52 #[.pointer r2.1] w3 [.one (.int .i64)] λ(r4:Int×Unit) w5=>
 K (decide (p1<r4.1),()) w5)
 (K (false,()) w)
theorem stream_Stream_has.vc (p0:Addr) (p1:Int) (w:World) (K:Bool×Unit->World->Prop) (h:stream_Stream_has.P p0 p1 w K):CallV Tryz.prog 123 #[.pointer (some p0),.int .i64 p1] w [.one .bool] K:=by
 refine vcFun.of (A:=stream_Stream_has.A) (wr:=false) okf_ok follows h Tryz.func123 ?_
 kernel_rfl
def stream_Stream_Empty.A:Ann:=.no
def stream_Stream_Empty.P (p0:Addr) (p1:Int) (w:World) (K:Int×Unit->World->Prop):Prop:=
 CallV Tryz.prog 123 #[.pointer (some p0),.int .i64 p1] w [.one .bool] λ(r1:Bool×Unit) w2=>
 cond (!r1.1)
 (K ((2:Int),()) w2)
 (LoadS w2 p0 .ptr λ(x3:Option Addr)=>
 CallV Tryz.prog 27 #[.pointer x3] w2 [.one .ptr] λ(r4:(Option Addr)×Unit) w5=>
 CallV Tryz.prog 54 #[.pointer r4.1,.int .i64 p1] w5 [.agg [.int .i64,.int .i64,.int .i64,.int .i64,.bool,.bool,.bool,.bool,.bool]] λ(r6:(Int×Int×Int×Int×Bool×Bool×Bool×Bool×Bool×Unit)×Unit) w7=>
 NewV #[.int .i64 0,.int .i64 0,.int .i64 0,.int .i64 0,.bool false,.bool false,.bool false,.bool false,.bool false] 103 w7 λb8 w9=>
 StoreV w9 ⟨b8,0,none⟩ [.int .i64 r6.1.1,.int .i64 r6.1.2.1,.int .i64 r6.1.2.2.1,.int .i64 r6.1.2.2.2.1,.bool r6.1.2.2.2.2.1,.bool r6.1.2.2.2.2.2.1,.bool r6.1.2.2.2.2.2.2.1,.bool r6.1.2.2.2.2.2.2.2.1,.bool r6.1.2.2.2.2.2.2.2.2.1] λw10=>
 LoadS w10 ⟨b8,4,none⟩ .bool λ(x11:Bool)=>
 cond (!x11)
 (K ((0:Int),()) w10)
 (LoadS w10 ⟨b8,0,none⟩ (.int .i64) λ(x12:Int)=>
 cond (decide (x12<0))
 (K ((0:Int),()) w10)
 (LoadS w10 ⟨b8,0,none⟩ (.int .i64) λ(x13:Int)=>
 cond (decide (x13≥4))
 (K ((0:Int),()) w10)
 (LoadS w10 ⟨b8,2,none⟩ (.int .i64) λ(x14:Int)=>
 cond (decide (x14>0))
 (LoadS w10 (p0.add 15) .bool λ(x15:Bool)=>
 cond x15
 (K ((15:Int),()) w10)
 (LoadS w10 ⟨b8,0,none⟩ (.int .i64) λ(x16:Int)=>
 CallV Tryz.prog 124 #[.pointer (some p0),.int .i64 p1,.int .i64 x16] w10 [.one (.int .i64)] λ(r17:Int×Unit) w18=>
 K (r17.1,()) w18))
 (LoadS w10 ⟨b8,0,none⟩ (.int .i64) λ(x19:Int)=>
 CallV Tryz.prog 124 #[.pointer (some p0),.int .i64 p1,.int .i64 x19] w10 [.one (.int .i64)] λ(r20:Int×Unit) w21=>
 K (r20.1,()) w21)))))
theorem stream_Stream_Empty.vc (p0:Addr) (p1:Int) (w:World) (K:Int×Unit->World->Prop) (h:stream_Stream_Empty.P p0 p1 w K):CallV Tryz.prog 46 #[.pointer (some p0),.int .i64 p1] w [.one (.int .i64)] K:=by
 refine vcFun.of (A:=stream_Stream_Empty.A) (wr:=false) okf_ok follows h Tryz.func46 ?_
 kernel_rfl
def stream_Stream_Destroy.A:Ann:=.no
def stream_Stream_Destroy.P (p0:Addr) (p1:Int) (w:World) (K:Int×Unit->World->Prop):Prop:=
 CallV Tryz.prog 123 #[.pointer (some p0),.int .i64 p1] w [.one .bool] λ(r1:Bool×Unit) w2=>
 cond (!r1.1)
 (K ((2:Int),()) w2)
 (LoadS w2 p0 .ptr λ(x3:Option Addr)=>
 CallV Tryz.prog 125 #[.pointer x3,.int .i64 p1] w2 [.one (.int .i64)] λ(r4:Int×Unit) w5=>
 CallV Tryz.prog 111 #[.pointer (some p0)] w5 [.one (.int .i64)] λ(r6:Int×Unit) w7=>
 K (r4.1,()) w7)
theorem stream_Stream_Destroy.vc (p0:Addr) (p1:Int) (w:World) (K:Int×Unit->World->Prop) (h:stream_Stream_Destroy.P p0 p1 w K):CallV Tryz.prog 47 #[.pointer (some p0),.int .i64 p1] w [.one (.int .i64)] K:=by
 refine vcFun.of (A:=stream_Stream_Destroy.A) (wr:=false) okf_ok follows h Tryz.func47 ?_
 kernel_rfl
def stream_Stream_Forget.A:Ann:=.two .no (.two .no (.two .no (.two .no (.one (.loop [4,5,33,34,35,36,37,38,39,40,41,42,43,44,45,46,47,48,49,50,51,52,53,54,55,56,57,58] [(33,.one (.int .i64))] .no)))))
def stream_Stream_Forget.P (p0:Addr) (p1:Int) (w:World) (K:Unit->World->Prop):Prop:=
 cond (decide (p1<0))
 (K () w)
 (cond (decide (p1≥4))
 (K () w)
 (LoadS w (p0.add 1) .ptr λ(x1:Option Addr)=>
 CallV Tryz.prog 112 #[.pointer x1,.int .i64 p1] w [.one .sl,.one (.int .i64)] λ(r2:SlV×Int×Unit) w3=>
 (0<=p1/\p1<(4:Int)) /\
 StoreV w3 ((p0.add 8:Addr).add (p1.toNat*1)) [.int .i64 (-1)] λw4=>
 LoadS w4 p0 .ptr λ(x5:Option Addr)=>
 CallV Tryz.prog 27 #[.pointer x5] w4 [.one .ptr] λ(r6:(Option Addr)×Unit) w7=>
 CallV Tryz.prog 52 #[.pointer r6.1] w7 [.one (.int .i64)] λ(r8:Int×Unit) w9=>
 LoopV [.one (.int .i64)] ((0:Int),()) w9 λ(z10:Int×Unit) w11 (K12:Int×Unit->World->Prop)=>
 cond (decide (z10.1<r8.1))
 (LoadS w11 p0 .ptr λ(x13:Option Addr)=>
 CallV Tryz.prog 27 #[.pointer x13] w11 [.one .ptr] λ(r14:(Option Addr)×Unit) w15=>
 CallV Tryz.prog 54 #[.pointer r14.1,.int .i64 z10.1] w15 [.agg [.int .i64,.int .i64,.int .i64,.int .i64,.bool,.bool,.bool,.bool,.bool]] λ(r16:(Int×Int×Int×Int×Bool×Bool×Bool×Bool×Bool×Unit)×Unit) w17=>
 NewV #[.int .i64 0,.int .i64 0,.int .i64 0,.int .i64 0,.bool false,.bool false,.bool false,.bool false,.bool false] 103 w17 λb18 w19=>
 StoreV w19 ⟨b18,0,none⟩ [.int .i64 r16.1.1,.int .i64 r16.1.2.1,.int .i64 r16.1.2.2.1,.int .i64 r16.1.2.2.2.1,.bool r16.1.2.2.2.2.1,.bool r16.1.2.2.2.2.2.1,.bool r16.1.2.2.2.2.2.2.1,.bool r16.1.2.2.2.2.2.2.2.1,.bool r16.1.2.2.2.2.2.2.2.2.1] λw20=>
 LoadS w20 ⟨b18,4,none⟩ .bool λ(x21:Bool)=>
 cond x21
 (LoadS w20 ⟨b18,0,none⟩ (.int .i64) λ(x22:Int)=>
 cond (x22 == p1)
 (LoadS w20 p0 .ptr λ(x23:Option Addr)=>
 CallV Tryz.prog 27 #[.pointer x23] w20 [.one .ptr] λ(r24:(Option Addr)×Unit) w25=>
 CallV Tryz.prog 113 #[.pointer r24.1,.int .i64 z10.1] w25 [.one (.int .i64)] λ(r26:Int×Unit) w27=>
 Rng .i64 (z10.1+1) /\
 K12 (z10.1+1,()) w27)
 (Rng .i64 (z10.1+1) /\
 K12 (z10.1+1,()) w20))
 (Rng .i64 (z10.1+1) /\
 K12 (z10.1+1,()) w20))
 (K () w11)))
set_option maxRecDepth 65536 in
theorem stream_Stream_Forget.vc (p0:Addr) (p1:Int) (w:World) (K:Unit->World->Prop) (h:stream_Stream_Forget.P p0 p1 w K):CallV Tryz.prog 44 #[.pointer (some p0),.int .i64 p1] w [] K:=by
 refine vcFun.of (A:=stream_Stream_Forget.A) (wr:=false) okf_ok follows h Tryz.func44 ?_
 kernel_rfl
def stream_Stream_ReadOnly.A:Ann:=.no
def stream_Stream_ReadOnly.P (p0:Addr) (w:World) (K:Bool×Unit->World->Prop):Prop:=
 LoadS w (p0.add 15) .bool λ(x1:Bool)=>
 K (x1,()) w
theorem stream_Stream_ReadOnly.vc (p0:Addr) (w:World) (K:Bool×Unit->World->Prop) (h:stream_Stream_ReadOnly.P p0 w K):CallV Tryz.prog 48 #[.pointer (some p0)] w [.one .bool] K:=by
 refine vcFun.of (A:=stream_Stream_ReadOnly.A) (wr:=false) okf_ok follows h Tryz.func48 ?_
 kernel_rfl
def stream_Stream_Front.A:Ann:=.no
def stream_Stream_Front.P (p0:Addr) (p1:Int) (w:World) (K:Int×Unit->World->Prop):Prop:=
 cond (decide (p1<0))
 (K (((-1):Int),()) w)
 (cond (decide (p1≥4))
 (K (((-1):Int),()) w)
 ((0<=p1/\p1<(4:Int)) /\
 LoadS w ((p0.add 8:Addr).add (p1.toNat*1)) (.int .i64) λ(x1:Int)=>
 K (x1,()) w))
theorem stream_Stream_Front.vc (p0:Addr) (p1:Int) (w:World) (K:Int×Unit->World->Prop) (h:stream_Stream_Front.P p0 p1 w K):CallV Tryz.prog 49 #[.pointer (some p0),.int .i64 p1] w [.one (.int .i64)] K:=by
 refine vcFun.of (A:=stream_Stream_Front.A) (wr:=false) okf_ok follows h Tryz.func49 ?_
 kernel_rfl
def stream_Stream_Counter.A:Ann:=.no
def stream_Stream_Counter.P (p0:Addr) (w:World) (K:Int×Unit->World->Prop):Prop:=
 LoadS w (p0.add 14) (.int .u64) λ(x1:Int)=>
 K (x1,()) w
theorem stream_Stream_Counter.vc (p0:Addr) (w:World) (K:Int×Unit->World->Prop) (h:stream_Stream_Counter.P p0 w K):CallV Tryz.prog 50 #[.pointer (some p0)] w [.one (.int .u64)] K:=by
 refine vcFun.of (A:=stream_Stream_Counter.A) (wr:=false) okf_ok follows h Tryz.func50 ?_
 kernel_rfl
def stream_Stream_Pool.A:Ann:=.no
def stream_Stream_Pool.P (p0:Addr) (w:World) (K:(Option Addr)×Unit->World->Prop):Prop:=
 LoadS w p0 .ptr λ(x1:Option Addr)=>
 K (x1,()) w
theorem stream_Stream_Pool.vc (p0:Addr) (w:World) (K:(Option Addr)×Unit->World->Prop) (h:stream_Stream_Pool.P p0 w K):CallV Tryz.prog 26 #[.pointer (some p0)] w [.one .ptr] K:=by
 refine vcFun.of (A:=stream_Stream_Pool.A) (wr:=false) okf_ok follows h Tryz.func26 ?_
 kernel_rfl
def stream_Stream_Map.A:Ann:=.no
def stream_Stream_Map.P (p0:Addr) (w:World) (K:(Option Addr)×Unit->World->Prop):Prop:=
 LoadS w (p0.add 1) .ptr λ(x1:Option Addr)=>
 K (x1,()) w
theorem stream_Stream_Map.vc (p0:Addr) (w:World) (K:(Option Addr)×Unit->World->Prop) (h:stream_Stream_Map.P p0 w K):CallV Tryz.prog 24 #[.pointer (some p0)] w [.one .ptr] K:=by
 refine vcFun.of (A:=stream_Stream_Map.A) (wr:=false) okf_ok follows h Tryz.func24 ?_
 kernel_rfl
def slices_Contains_int_int.A:Ann:=.no
def slices_Contains_int_int.P (a0:Option Addr) (n0 c0:Nat) (p1:Int) (w:World) (K:Bool×Unit->World->Prop):Prop:=
 CallV Tryz.prog 207 #[.slice a0 n0 c0,.int .i64 p1] w [.one (.int .i64)] λ(r1:Int×Unit) w2=>
 K (decide (r1.1≥0),()) w2
theorem slices_Contains_int_int.vc (a0:Option Addr) (n0 c0:Nat) (p1:Int) (w:World) (K:Bool×Unit->World->Prop) (h:slices_Contains_int_int.P a0 n0 c0 p1 w K):CallV Tryz.prog 173 #[.slice a0 n0 c0,.int .i64 p1] w [.one .bool] K:=by
 refine vcFun.of (A:=slices_Contains_int_int.A) (wr:=false) okf_ok follows h Tryz.func173 ?_
 kernel_rfl
def slices_Index_int_int.A:Ann:=.two .no (.two (.two .no (.one (.loop [4,5,8,9,10,11,12,13,14,15,16,17,18] [(8,.one (.int .i64))] .no))) .no)
def slices_Index_int_int.P (a0:Option Addr) (n0 c0:Nat) (p1:Int) (w:World) (K:Int×Unit->World->Prop):Prop:=
 LoopV [.one (.int .i64)] ((0:Int),()) w λ(z1:Int×Unit) w2 (K3:Int×Unit->World->Prop)=>
 cond (decide (z1.1<((n0:Nat):Int)))
 ((0<=z1.1/\z1.1<((n0:Nat):Int))/\∃ q4:Addr,a0=some q4 /\
 LoadS w2 (q4.add (z1.1.toNat*1)) (.int .i64) λ(x5:Int)=>
 cond (p1 == x5)
 (K (z1.1,()) w2)
 (Rng .i64 (z1.1+1) /\
 K3 (z1.1+1,()) w2))
 (K (((-1):Int),()) w2)
theorem slices_Index_int_int.vc (a0:Option Addr) (n0 c0:Nat) (p1:Int) (w:World) (K:Int×Unit->World->Prop) (h:slices_Index_int_int.P a0 n0 c0 p1 w K):CallV Tryz.prog 207 #[.slice a0 n0 c0,.int .i64 p1] w [.one (.int .i64)] K:=by
 refine vcFun.of (A:=slices_Index_int_int.A) (wr:=false) okf_ok follows h Tryz.func207 ?_
 kernel_rfl
end Go.Proofs.YtbaojfchlhlaeaaGreat.Vc
namespace Go.Proofs.YtbaojfchlhlaeaaGreat.Vc
open Go Go.Eng Go.RowKit
def mapE (pm:Nat) (X:List (SlP Ce)):Asr:=⟨λw F=>∃ r:Nat,StarP w [boxP pm r X,MapF r (cntX X),ownsA X] F,λh k=>by obtain ⟨r,h1⟩:=h;exact ⟨r,h1.st k⟩⟩
def polE (pp p q:Nat) (g:Geo) (O:List Hd):Asr:=⟨λw F=>∃ y:SlV,StarP w [boxPl pp p q g y,ordP y O] F,λh k=>by obtain ⟨r,h1⟩:=h;exact ⟨r,h1.st k⟩⟩
abbrev stV (pp pm:Nat) (g:Geo) (s:SD):List Value:=.pointer (some ⟨pp,0,none⟩)::.pointer (some ⟨pm,0,none⟩)::.int .i64 g.b::.int .i64 g.p::.int .i64 g.s::.int .i64 g.sp::.int .i64 g.wr::.int .i64 g.ro::(s.fr.map (Value.int .i64)++[.int .u64 s.ep,.int .u64 s.op,.int .u64 s.ct,.bool s.ro])
abbrev boxSt (sp pp pm:Nat) (g:Geo) (s:SD):Asr:=BoxA sp 151 (stV pp pm g s)
abbrev stS (sp pp pm p q:Nat) (g:Geo) (s:SD) (Rs:List Asr):List Asr:=boxSt sp pp pm g s::mapE pm s.X::polE pp p q g s.O::ledE q s.L::chipE p s.C::Rs
theorem stV_at (pp pm:Nat) (g:Geo) {s:SD} (h:s.fr.length=4):(∀ i,i<4->(stV pp pm g s)[8+i]? = some (.int .i64 (fat s i)))/\(stV pp pm g s)[12]? = some (.int .u64 s.ep)/\(stV pp pm g s)[13]? = some (.int .u64 s.op)/\(stV pp pm g s)[14]? = some (.int .u64 s.ct)/\(stV pp pm g s)[15]? = some (.bool s.ro)/\(stV pp pm g s).length=16:=by
 obtain ⟨C,L,O,X,fr,ep,op,ct,ro⟩:=s
 match fr,h with
 | [a,b,c,d],_=>
  refine ⟨λi hi=>?_,rfl,rfl,rfl,rfl,rfl⟩
  match i,hi with
  | 0,_=>rfl
  | 1,_=>rfl
  | 2,_=>rfl
  | 3,_=>rfl
theorem stV_set (pp pm:Nat) (g:Geo) {s:SD} (h:s.fr.length=4):(∀ i v,i<4->(stV pp pm g s).set (8+i) (.int .i64 v)=stV pp pm g {s with fr:=s.fr.set i v})/\(∀ v,(stV pp pm g s).set 13 (.int .u64 v)=stV pp pm g {s with op:=v})/\(∀ v,(stV pp pm g s).set 14 (.int .u64 v)=stV pp pm g {s with ct:=v})/\(∀ v,(stV pp pm g s).set 15 (.bool v)=stV pp pm g {s with ro:=v}):=by
 obtain ⟨C,L,O,X,fr,ep,op,ct,ro⟩:=s
 match fr,h with
 | [a,b,c,d],_=>
  refine ⟨λi v hi=>?_,λv=>rfl,λv=>rfl,λv=>rfl⟩
  match i,hi with
  | 0,_=>rfl
  | 1,_=>rfl
  | 2,_=>rfl
  | 3,_=>rfl
section
variable {E:Nat->Prop} {w0 w:World} {Rs:List Asr} {sp pp pm p q n:Nat} {g:Geo} {s:SD} {X:List (SlP Ce)} {O:List Hd} {L:List Blk} {C:CD}
theorem mapE_in {r:Nat} (S:Sep E w0 w (boxP pm r X::MapF r (cntX X)::ownsA X::Rs)):Sep E w0 w (mapE pm X::Rs):=
 (Sep.fold (Rs:=[boxP pm r X,MapF r (cntX X),ownsA X]) S).conv λF h _=>⟨r,h⟩
theorem mapE_out (S:Sep E w0 w (mapE pm X::Rs)):∃ r:Nat,Sep E w0 w (boxP pm r X::MapF r (cntX X)::ownsA X::Rs):=by
 obtain ⟨F,⟨F1,F2,⟨r,h2⟩,h3⟩,hb⟩:=S.ex
 have S2:Sep E w0 w (StarA [boxP pm r X,MapF r (cntX X),ownsA X]::Rs):=⟨S.fr,F,⟨F1,F2,h2,h3⟩,hb⟩
 exact ⟨r,S2.unfold⟩
theorem polE_in {y:SlV} (S:Sep E w0 w (boxPl pp p q g y::ordP y O::Rs)):Sep E w0 w (polE pp p q g O::Rs):=
 (Sep.fold (Rs:=[boxPl pp p q g y,ordP y O]) S).conv λF h _=>⟨y,h⟩
theorem polE_out (S:Sep E w0 w (polE pp p q g O::Rs)):∃ y:SlV,Sep E w0 w (boxPl pp p q g y::ordP y O::Rs):=by
 obtain ⟨F,⟨F1,F2,⟨r,h2⟩,h3⟩,hb⟩:=S.ex
 have S2:Sep E w0 w (StarA [boxPl pp p q g r,ordP r O]::Rs):=⟨S.fr,F,⟨F1,F2,h2,h3⟩,hb⟩
 exact ⟨r,S2.unfold⟩
theorem Size_m {ns:Int} (hX:X.length=4) (S:Sep E w0 w (mapE pm X::Rs)):CallV Tryz.prog 25 #[.pointer (some ⟨pm,0,none⟩),.int .i64 ns] w [.one (.int .i64)] λr w'=>r.1=(((getX X ns).n:Nat):Int)/\w'=w:=by
 obtain ⟨r,S⟩:=mapE_out S.take1
 exact Size22_c hX (toQ S)
theorem Get_m {ns i:Int} (hX:X.length=4) (S:Sep E w0 w (mapE pm X::Rs)):CallV Tryz.prog 39 #[.pointer (some ⟨pm,0,none⟩),.int .i64 ns,.int .i64 i] w [.agg SH14,.one .bool] λr w'=>r.1=(if (getC X ns i).has then (getC X ns i).s else Sp0).tup/\r.2.1=(getC X ns i).has/\Ext w w':=by
 obtain ⟨r,S⟩:=mapE_out S.take1
 exact Get22_c hX (toQ S)
theorem Refs_m {b k:Int} (hX:X.length=4) (S:Sep E w0 w (mapE pm X::Rs)):CallV Tryz.prog 120 #[.pointer (some ⟨pm,0,none⟩),.agg #[.int .i64 b,.int .i64 k]] w [.one (.int .i64)] λr w'=>r.1=cntX X (b,k)/\Ext w w':=by
 obtain ⟨r,S⟩:=mapE_out S.take1
 exact Refs22_c hX (toQ S)
theorem Move_m {f t:Int×Int} {o:Hh} (hX:XOk X) (S:Sep E w0 w (mapE pm X::Rs)):CallV Tryz.prog 211 #[.pointer (some ⟨pm,0,none⟩),.agg #[.int .i64 f.1,.int .i64 f.2],.agg #[.int .i64 t.1,.int .i64 t.2],o.val] w [.one (.int .i64)] λrr w'=>Sep E w0 w' (mapE pm (mov1 f t o X)::Rs):=by
 obtain ⟨r,S⟩:=mapE_out S
 refine Sep.call [boxP pm r X,MapF r (cntX X),ownsA X] S (λG SG=>Move22_c hX SG) λG fr rr w' hr=>?_
 unfold mov1
 by_cases h:f≠t/\0<cntX X t
 ·rw [if_pos h];exact mapE_in (fr _ _ (hr.1 h).2)
 ·rw [if_neg h];exact mapE_in (fr _ _ (hr.2 h).2)
theorem Use_e {b:Int} (hL:∀ x∈L,0<=x.us/\x.us<=1000000000) (S:Sep E w0 w (ledE q L::Rs)):CallV Tryz.prog 164 #[.pointer (some ⟨q,0,none⟩),.int .i64 b] w [.one (.int .i64)] λr w'=>
  r.1=chE b L.length/\Sep E w0 w' (ledE q (chL b L.length uB L)::Rs):=led_call S λG a c SG=>Use_c hL SG
theorem Count_e {b m:Int} (hL:∀ x∈L,0<=x.li/\x.li<=1000000000) (hm:-9223372036854775808<=m/\m<=1000000) (S:Sep E w0 w (ledE q L::Rs)):CallV Tryz.prog 121 #[.pointer (some ⟨q,0,none⟩),.int .i64 b,.int .i64 m] w [.one (.int .i64)] λr w'=>
  r.1=chE b L.length/\Sep E w0 w' (ledE q (chL b L.length (cB m) L)::Rs):=led_call S λG a c SG=>Count_c hL hm SG
theorem Victim_e {ns bu:Int} (hn:L.length<=1000000) (S:Sep E w0 w (ledE q L::Rs)):CallV Tryz.prog 200 #[.pointer (some ⟨q,0,none⟩),.int .i64 ns,.int .i64 bu] w [.one (.int .i64)] λr w'=>r.1=victT L ns bu L.length/\Ext w w':=by
 obtain ⟨a,c,S⟩:=ledE_out S
 exact Victim_c hn S
theorem Held_e {ns:Int} (hn:L.length<=1000000) (S:Sep E w0 w (ledE q L::Rs)):CallV Tryz.prog 28 #[.pointer (some ⟨q,0,none⟩),.int .i64 ns] w [.one (.int .i64)] λr w'=>r.1=manyT L (ownB ns) L.length/\Ext w w':=by
 obtain ⟨a,c,S⟩:=ledE_out S
 exact Held21_c hn S
theorem Bads_e (hn:L.length<=1000000) (S:Sep E w0 w (ledE q L::Rs)):CallV Tryz.prog 158 #[.pointer (some ⟨q,0,none⟩)] w [.one (.int .i64)] λr w'=>r.1=bads L/\Ext w w':=by
 obtain ⟨a,c,S⟩:=ledE_out S
 exact Bads_c hn S
theorem ldFr (h:s.fr.length=4) {ns:Int} (hn:0<=ns/\ns<4) (S:Sep E w0 w (stS sp pp pm p q g s Rs)) {K:Int->Prop} (hk:K (frG s ns)):LoadS w ⟨sp,8+ns.toNat*1,none⟩ (.int .i64) K:=
 S.ldR (i:=0) rfl (v:=.int .i64 (frG s ns)) (by rw [Nat.mul_one];exact (stV_at pp pm g h).1 ns.toNat (by omega)) rfl hk
theorem ldOp (h:s.fr.length=4) (S:Sep E w0 w (stS sp pp pm p q g s Rs)) {K:Int->Prop} (hk:K s.op):LoadS w ⟨sp,13,none⟩ (.int .u64) K:=S.ldR (i:=0) rfl (stV_at pp pm g h).2.2.1 rfl hk
theorem ldEp (h:s.fr.length=4) (S:Sep E w0 w (stS sp pp pm p q g s Rs)) {K:Int->Prop} (hk:K s.ep):LoadS w ⟨sp,12,none⟩ (.int .u64) K:=S.ldR (i:=0) rfl (stV_at pp pm g h).2.1 rfl hk
theorem ldCt (h:s.fr.length=4) (S:Sep E w0 w (stS sp pp pm p q g s Rs)) {K:Int->Prop} (hk:K s.ct):LoadS w ⟨sp,14,none⟩ (.int .u64) K:=S.ldR (i:=0) rfl (stV_at pp pm g h).2.2.2.1 rfl hk
theorem ldRo (h:s.fr.length=4) (S:Sep E w0 w (stS sp pp pm p q g s Rs)) {K:Bool->Prop} (hk:K s.ro):LoadS w ⟨sp,15,none⟩ .bool K:=S.ldR (i:=0) rfl (stV_at pp pm g h).2.2.2.2.1 rfl hk
theorem suFr (h:s.fr.length=4) {ns v:Int} (hn:0<=ns/\ns<4) (S:Sep E w0 w (stS sp pp pm p q g s Rs)) {K:World->Prop} (hk:∀ w',Sep E w0 w' (stS sp pp pm p q g (frS s ns v) Rs)->Fr (λk=>k=sp) w w'->K w'):StoreV w ⟨sp,8+ns.toNat*1,none⟩ [.int .i64 v] K:=by
 refine S.storeR1 (i:=0) rfl (by rw [(stV_at pp pm g h).2.2.2.2.2];omega) λw' S f=>hk w' ?_ f
 rw [Nat.mul_one,(stV_set pp pm g h).1 _ v (by omega)] at S
 exact S
theorem suOp (h:s.fr.length=4) {v:Int} (S:Sep E w0 w (stS sp pp pm p q g s Rs)) {K:World->Prop} (hk:∀ w',Sep E w0 w' (stS sp pp pm p q g {s with op:=v} Rs)->Fr (λk=>k=sp) w w'->K w'):StoreV w ⟨sp,13,none⟩ [.int .u64 v] K:=by
 refine S.storeR1 (i:=0) rfl (by rw [(stV_at pp pm g h).2.2.2.2.2];omega) λw' S f=>hk w' ?_ f
 rw [(stV_set pp pm g h).2.1 v] at S
 exact S
theorem suCt (h:s.fr.length=4) {v:Int} (S:Sep E w0 w (stS sp pp pm p q g s Rs)) {K:World->Prop} (hk:∀ w',Sep E w0 w' (stS sp pp pm p q g {s with ct:=v} Rs)->Fr (λk=>k=sp) w w'->K w'):StoreV w ⟨sp,14,none⟩ [.int .u64 v] K:=by
 refine S.storeR1 (i:=0) rfl (by rw [(stV_at pp pm g h).2.2.2.2.2];omega) λw' S f=>hk w' ?_ f
 rw [(stV_set pp pm g h).2.2.1 v] at S
 exact S
theorem suRo (h:s.fr.length=4) {v:Bool} (S:Sep E w0 w (stS sp pp pm p q g s Rs)) {K:World->Prop} (hk:∀ w',Sep E w0 w' (stS sp pp pm p q g {s with ro:=v} Rs)->Fr (λk=>k=sp) w w'->K w'):StoreV w ⟨sp,15,none⟩ [.bool v] K:=by
 refine S.storeR1 (i:=0) rfl (by rw [(stV_at pp pm g h).2.2.2.2.2];omega) λw' S f=>hk w' ?_ f
 rw [(stV_set pp pm g h).2.2.2 v] at S
 exact S
theorem ldg (S:Sep E w0 w (stS sp pp pm p q g s Rs)) {K:RT [.one .ptr]->World->Prop} (hk:K (some ⟨q,0,none⟩,()) w):LoadS w ⟨sp,0,none⟩ .ptr λx=>CallV Tryz.prog 27 #[.pointer x] w [.one .ptr] K:=by
 refine S.ld0 (j:=0) rfl rfl ?_
 obtain ⟨y,S⟩:=polE_out (S.fro [2,2,2] rfl)
 refine (Ledger24_c (s:=y) S).mono ?_
 rintro ⟨r,⟨⟩⟩ w' ⟨h1,rfl⟩
 dsimp only at h1
 subst h1
 exact hk
theorem ldg0 (S:Sep E w0 w (stS sp pp pm p q g s Rs)) {K:RT [.one .ptr]->World->Prop} (hk:K (some ⟨q,0,none⟩,()) w):CallV Tryz.prog 27 #[.pointer (some ⟨pp,0,none⟩)] w [.one .ptr] K:=by
 obtain ⟨y,S⟩:=polE_out (S.fro [2,2,2] rfl)
 refine (Ledger24_c (s:=y) S).mono ?_
 rintro ⟨r,⟨⟩⟩ w' ⟨h1,rfl⟩
 dsimp only at h1
 subst h1
 exact hk
theorem SI.len6 (h:SI g n s):s.L.length<=1000000:=by have:=h.ln;have:=h.no;omega
theorem over25_c (h:SI g n s) (S:Sep E w0 w (stS sp pp pm p q g s Rs)):CallV Tryz.prog 111 #[.pointer (some ⟨sp,0,none⟩)] w [.one (.int .i64)] λr w'=>r.1=(overP s).2/\Sep E w0 w' (stS sp pp pm p q g (overP s).1 Rs):=by
 apply stream_Stream_over.vc
 unfold stream_Stream_over.P
 simp only [Addr.add_lit,Nat.zero_add]
 have hgg:=h.pi.gg
 refine S.reg λD hD hkeep S T=>?_
 refine ⟨hD _ S.bl0,S.ld0 (j:=0) rfl rfl ⟨hD _ S.bl0,S.ld0 (j:=5) rfl rfl ?_⟩⟩
 refine ldg0 S ⟨hkeep _ T.fr,?_⟩
 refine (Bads_e h.len6 (S.fro [3] rfl)).mono ?_
 rintro ⟨r,⟨⟩⟩ w1 ⟨h1,x1⟩
 dsimp only at h1 ⊢
 subst h1
 have S:=S.stepE x1
 have T:=T.stepE x1
 refine ⟨hkeep _ T.fr,?_⟩
 unfold overP
 rw [hgg]
 refine cond_d (λhgt=>?_) (λhle=>?_)
 ·rw [if_pos hgt]
  refine suRo h.fl S λw2 S f=>ldRo (s:={s with ro:=true}) h.fl S ?_
  exact cond_t rfl ⟨rfl,S⟩
 ·rw [if_neg hle]
  refine ldRo h.fl S (cond_of (λhr=>?_) (λhr=>?_))
  ·rw [if_pos hr];exact ⟨rfl,S⟩
  ·rw [if_neg (by rw [hr];exact Bool.false_ne_true)];exact ⟨rfl,S⟩
theorem left25_c {e:Int} (h:SI g n s) (S:Sep E w0 w (stS sp pp pm p q g s Rs)):CallV Tryz.prog 176 #[.pointer (some ⟨sp,0,none⟩),.int .i64 e] w [.one (.int .i64)] λr w'=>r.1=(leftP s e).2/\Sep E w0 w' (stS sp pp pm p q g (leftP s e).1 Rs):=by
 apply stream_Stream_left.vc
 unfold stream_Stream_left.P
 simp only [Addr.add_lit,Nat.zero_add]
 unfold leftP
 refine cond_eq (λh4=>?_) (λh4=>?_)
 ·rw [if_pos h4];exact ⟨h4,S⟩
 rw [if_neg h4]
 have fin:∀ {w':World},Sep E w0 w' (stS sp pp pm p q g (roS s e) Rs)->CallV Tryz.prog 111 #[.pointer (some ⟨sp,0,none⟩)] w' [.one (.int .i64)] λ(r2:Int×Unit) w3=>cond (r2.1 != 0) (r2.1=(if (overP (roS s e)).2≠0 then overP (roS s e) else ((overP (roS s e)).1,e)).2/\Sep E w0 w3 (stS sp pp pm p q g (if (overP (roS s e)).2≠0 then overP (roS s e) else ((overP (roS s e)).1,e)).1 Rs)) (e=(if (overP (roS s e)).2≠0 then overP (roS s e) else ((overP (roS s e)).1,e)).2/\Sep E w0 w3 (stS sp pp pm p q g (if (overP (roS s e)).2≠0 then overP (roS s e) else ((overP (roS s e)).1,e)).1 Rs)):=λS=>by
  refine (over25_c (h.roS e).i S).mono ?_
  rintro ⟨r,⟨⟩⟩ w3 ⟨h3,S⟩
  dsimp only at h3 ⊢
  subst h3
  refine cond_ne (λh0=>?_) (λh0=>?_)
  ·rw [if_pos h0];exact ⟨rfl,S⟩
  ·rw [if_neg (λk=>k h0)];exact ⟨rfl,S⟩
 refine cond_eq (λh19=>?_) (λh19=>?_)
 ·refine suRo h.fl S λw2 S f=>fin ?_
  unfold roS
  rw [if_pos h19]
  exact S
 ·refine fin ?_
  unfold roS
  rw [if_neg h19]
  exact S
theorem order25_c (h:SI g n s) (S:Sep E w0 w (stS sp pp pm p q g s Rs)):CallV Tryz.prog 175 #[.pointer (some ⟨sp,0,none⟩)] w [.agg [.int .i64,.int .i64,.int .i64,.int .u32,.int .u64,.int .u64]] λr w'=>r.1=(⟨0,0,0,0,s.ep,u64w (s.op+1)⟩:Hd).tup/\Sep E w0 w' (stS sp pp pm p q g {s with op:=u64w (s.op+1)} Rs):=by
 apply stream_Stream_order.vc
 unfold stream_Stream_order.P
 simp only [Addr.add_lit,Nat.zero_add]
 refine S.newB λb1 w1 S f1 _=>?_
 refine ldOp h.fl (S.fro [1,1,1,1,1] rfl) ?_
 refine suOp h.fl (S.fro [1,1,1,1,1] rfl) λw2 S f2=>?_
 have S:Sep E w0 w2 (BoxA b1 _ _::stS sp pp pm p q g {s with op:=u64w (s.op+1)} Rs):=S.fro [5] rfl
 refine S.regX (λk=>k=b1) λD hD hkeep S T=>?_
 have hne:sp≠b1:=λe=>S.ne (i:=0) (j:=1) (by decide) rfl rfl e.symm
 refine ⟨hD _ S.bl1 hne,ldEp (s:={s with op:=u64w (s.op+1)}) h.fl (S.fro [1,1,1,1,1] rfl) ⟨hD _ S.bl1 hne,ldOp (s:={s with op:=u64w (s.op+1)}) h.fl (S.fro [1,1,1,1,1] rfl) ?_⟩⟩
 refine S.st0 (by rfl) λw3 S f3=>⟨hkeep _ f3,S.la0 rfl ⟨rfl,S.tail⟩⟩
theorem Next25_c {hd:Hd} (h:SI g n s) (S:Sep E w0 w (stS sp pp pm p q g s Rs)):CallV Tryz.prog 51 #[.pointer (some ⟨sp,0,none⟩),hd.val] w [.agg [.int .i64,.int .i64,.int .i64,.int .u32,.int .u64,.int .u64]] λr w'=>r.1=(nxtS s hd).2.tup/\Sep E w0 w' (stS sp pp pm p q g (nxtS s hd).1 Rs):=by
 apply stream_Stream_Next.vc
 unfold stream_Stream_Next.P
 simp only [Addr.add_lit,Nat.zero_add]
 refine S.newB (vs:=hd.vs) λb1 w1 S f1 _=>?_
 refine S.newB λb3 w1 S f3 _=>?_
 refine ldCt h.fl (S.fro [2,2,2,2,2] rfl) ?_
 refine suCt h.fl (S.fro [2,2,2,2,2] rfl) λw2 S f2=>?_
 have S:Sep E w0 w2 (BoxA b1 _ hd.vs::BoxA b3 _ _::stS sp pp pm p q g {s with ct:=u64w (s.ct+1)} Rs):=S.fro [6,5] rfl
 refine S.regX (λk=>k=b1) λD hD hkeep S T=>?_
 have hne:sp≠b1:=λe=>S.ne (i:=0) (j:=2) (by decide) rfl rfl e.symm
 refine ⟨hD _ S.bl2 hne,ldEp (s:={s with ct:=u64w (s.ct+1)}) h.fl (S.fro [2,2,2,2,2] rfl) ⟨hD _ S.bl2 hne,ldCt (s:={s with ct:=u64w (s.ct+1)}) h.fl (S.fro [2,2,2,2,2] rfl) ?_⟩⟩
 refine S.su0 (by rfl) λw3 S f3=>⟨hkeep _ f3,S.su0 (by rfl) λw4 S f4=>⟨hkeep _ (f3.trans f4),?_⟩⟩
 refine S.la0 rfl (S.st1 (by rfl) λw5 S f5=>S.la1 rfl ⟨rfl,S.tail.tail⟩)
theorem has25_c {b:Int} (h:SI g n s) (S:Sep E w0 w (stS sp pp pm p q g s Rs)):CallV Tryz.prog 123 #[.pointer (some ⟨sp,0,none⟩),.int .i64 b] w [.one .bool] λr w'=>r.1=decide (0<=b/\b<(s.L.length:Int))/\w'=w:=by
 apply stream_Stream_has.vc
 unfold stream_Stream_has.P
 refine cond_d (λh0=>?_) (λh0=>?_)
 ·refine ldg S ((Len_e (S.fro [3] rfl)).mono ?_)
  rintro ⟨r,⟨⟩⟩ w' ⟨h1,rfl⟩
  dsimp only at h1 ⊢
  subst h1
  exact ⟨decide_eq_decide.2 ⟨λx=>⟨h0,x⟩,λx=>x.2⟩,rfl⟩
 ·exact ⟨(decide_eq_false λx=>h0 x.1).symm,rfl⟩
theorem ReadOnly_c (h:s.fr.length=4) (S:Sep E w0 w (stS sp pp pm p q g s Rs)):CallV Tryz.prog 48 #[.pointer (some ⟨sp,0,none⟩)] w [.one .bool] λr w'=>r.1=s.ro/\w'=w:=by
 apply stream_Stream_ReadOnly.vc
 unfold stream_Stream_ReadOnly.P
 simp only [Addr.add_lit,Nat.zero_add]
 exact ldRo h S ⟨rfl,trivial⟩
theorem Counter_c (h:s.fr.length=4) (S:Sep E w0 w (stS sp pp pm p q g s Rs)):CallV Tryz.prog 50 #[.pointer (some ⟨sp,0,none⟩)] w [.one (.int .u64)] λr w'=>r.1=s.ct/\w'=w:=by
 apply stream_Stream_Counter.vc
 unfold stream_Stream_Counter.P
 simp only [Addr.add_lit,Nat.zero_add]
 exact ldCt h S ⟨rfl,trivial⟩
theorem Front_c {ns:Int} (h:s.fr.length=4) (S:Sep E w0 w (stS sp pp pm p q g s Rs)):CallV Tryz.prog 49 #[.pointer (some ⟨sp,0,none⟩),.int .i64 ns] w [.one (.int .i64)] λr w'=>r.1=(if 0<=ns/\ns<4 then frG s ns else -1)/\w'=w:=by
 apply stream_Stream_Front.vc
 unfold stream_Stream_Front.P
 simp only [Addr.add_lit,Nat.zero_add]
 refine cond_d (λh0=>⟨(if_neg (by omega)).symm,trivial⟩) (λh0=>?_)
 refine cond_d (λh1=>⟨(if_neg (by omega)).symm,trivial⟩) (λh1=>?_)
 have hn:0<=ns/\ns<4:=by omega
 exact ⟨hn,ldFr h hn S ⟨(if_pos hn).symm,trivial⟩⟩
theorem Pool25_c (S:Sep E w0 w (stS sp pp pm p q g s Rs)):CallV Tryz.prog 26 #[.pointer (some ⟨sp,0,none⟩)] w [.one .ptr] λr w'=>r.1=some ⟨pp,0,none⟩/\w'=w:=by
 apply stream_Stream_Pool.vc
 unfold stream_Stream_Pool.P
 exact S.ld0 (j:=0) rfl rfl ⟨rfl,rfl⟩
theorem Map25_c (S:Sep E w0 w (stS sp pp pm p q g s Rs)):CallV Tryz.prog 24 #[.pointer (some ⟨sp,0,none⟩)] w [.one .ptr] λr w'=>r.1=some ⟨pm,0,none⟩/\w'=w:=by
 apply stream_Stream_Map.vc
 unfold stream_Stream_Map.P
 simp only [Addr.add_lit,Nat.zero_add]
 exact S.ld0 (j:=1) rfl rfl ⟨rfl,trivial⟩
theorem close25_c {ns:Int} (h:SI g n s) (hn:0<=ns/\ns<4) (S:Sep E w0 w (stS sp pp pm p q g s Rs)):CallV Tryz.prog 198 #[.pointer (some ⟨sp,0,none⟩),.int .i64 ns] w [] λr w'=>Sep E w0 w' (stS sp pp pm p q g (closP s ns) Rs):=by
 apply stream_Stream_close.vc
 unfold stream_Stream_close.P
 simp only [Addr.add_lit,Nat.zero_add]
 refine ⟨hn,ldFr h.fl hn S ⟨hn,suFr h.fl hn S λw1 S f1=>?_⟩⟩
 unfold closP
 refine cond_d (λh0=>?_) (λh0=>?_)
 ·have hb:0<=frG s ns/\frG s ns<(s.L.length:Int):=by
   have:=h.fG hn;have:=h.ln;omega
  refine ldg S ((At_e (S.fro [3] rfl) hb).mono ?_)
  rintro ⟨x,⟨⟩⟩ w2 ⟨h2,x2⟩
  dsimp only at h2 ⊢
  subst h2
  have S:=S.stepE x2
  refine cond_eq (λhl=>?_) (λhl=>?_)
  ·rw [if_pos ⟨h0,hl⟩]
   refine ldg S ((Release_e (S.fro [3] rfl)).mono ?_)
   rintro ⟨r,⟨⟩⟩ w3 ⟨-,S⟩
   exact S.fro [1,1,1] rfl
  ·rw [if_neg (λe=>hl e.2)]
   exact S
 ·rw [if_neg (λe=>h0 e.1)]
  exact S
theorem full25_c {ns:Int} (h:SI g n s) (hn:0<=ns/\ns<4) (S:Sep E w0 w (stS sp pp pm p q g s Rs)):CallV Tryz.prog 162 #[.pointer (some ⟨sp,0,none⟩),.int .i64 ns] w [.one .bool] λr w'=>r.1=decide (fulP s ns)/\Ext w w':=by
 apply stream_Stream_full.vc
 unfold stream_Stream_full.P
 simp only [Addr.add_lit,Nat.zero_add]
 refine ⟨hn,ldFr h.fl hn S ?_⟩
 refine S.reg λD hD hkeep S T=>?_
 have hgg:=h.pi.gg
 have hno:=h.no
 refine cond_d (λh0=>⟨(decide_eq_true (.inl h0)).symm,Ext.drew w⟩) (λh0=>?_)
 have hb:0<=frG s ns/\frG s ns<(s.L.length:Int):=by
  have:=h.fG hn;have:=h.ln;omega
 refine ⟨hD _ S.bl0,S.ld0 (j:=0) rfl rfl ⟨hD _ S.bl0,S.ld0 (j:=3) rfl rfl ⟨Rng.i64 (by omega) (by omega),?_⟩⟩⟩
 refine ldg0 S ⟨hkeep _ T.fr,(At_e (S.fro [3] rfl) hb).mono ?_⟩
 rintro ⟨x,⟨⟩⟩ w2 ⟨h2,x2⟩
 dsimp only at h2 ⊢
 subst h2
 refine ⟨hkeep _ (T.stepE x2).fr,decide_eq_decide.2 ?_,(Ext.drew w).trans x2⟩
 unfold fulP
 rw [hgg]
 exact ⟨λe=>.inr e,λe=>e.elim (λe=>absurd e h0) id⟩
theorem may25_c {hd:Hd} (h:SI g n s) (hr:hd.rng) (S:Sep E w0 w (stS sp pp pm p q g s Rs)):CallV Tryz.prog 114 #[.pointer (some ⟨sp,0,none⟩),hd.val] w [.one .bool] λr w'=>r.1=decide (mayP s hd)/\Ext w w':=by
 apply stream_Stream_may.vc
 unfold stream_Stream_may.P
 simp only [Addr.add_lit,Nat.zero_add]
 have T:=Sep.start NoB w
 refine T.newB (vs:=hd.vs) λb1 w1 T f1 _=>?_
 have S:=S.stepE T.ext
 refine T.reg λD hD hkeep T U=>?_
 have hsz:sp<w1.heap.size:=S.bl0
 have S:=S.drew
 refine ⟨hD _ hsz,S.ld0 (j:=1) rfl rfl ⟨hD _ T.bl0,T.ld0 (j:=1) rfl rfl ?_⟩⟩
 refine (Size_m h.xo.four (S.fro [1] rfl)).mono ?_
 rintro ⟨r,⟨⟩⟩ w2 ⟨h2,rfl⟩
 dsimp only at h2 ⊢
 subst h2
 refine ⟨hkeep _ U.fr,?_⟩
 have X:=T.ext
 have hN:=(h.xo.get hd.n).2
 have hrl:=hr.1
 have hl:IntKind.i64.wrap hd.l=hd.l:=wrap_rng (Rng.i64 (by omega) (by omega))
 have no:¬ mayP s hd->(false=decide (mayP s hd)/\Ext w w1.drew):=λh=>⟨(decide_eq_false h).symm,X⟩
 have tail:(hd.k=1\/hd.k=2)->LoadS w1.drew ⟨b1,2,none⟩ (.int .i64) λ(x9:Int)=>cond (decide (x9≥1)) (LoadS w1.drew ⟨b1,2,none⟩ (.int .i64) λ(x10:Int)=>cond (decide (x10<=(((getX s.X hd.n).n:Nat):Int))) (LoadS w1.drew ⟨b1,3,none⟩ (.int .u32) λ(x11:Int)=>LoadS w1.drew ⟨b1,2,none⟩ (.int .i64) λ(x12:Int)=>Rng .i64 ((((getX s.X hd.n).n:Nat):Int)-x12)/\(decide ((IntKind.i64.wrap x11)<=((((getX s.X hd.n).n:Nat):Int)-x12))=decide (mayP s hd)/\Ext w w1.drew)) (false=decide (mayP s hd)/\Ext w w1.drew)) (false=decide (mayP s hd)/\Ext w w1.drew):=λhk=>by
  refine T.ld0 (j:=2) rfl rfl (cond_d (λh1=>?_) (λh1=>no λe=>h1 e.2.1))
  refine T.ld0 (j:=2) rfl rfl (cond_d (λh2=>?_) (λh2=>no λe=>h2 e.2.2.1))
  refine T.ld0 (j:=3) rfl rfl (T.ld0 (j:=2) rfl rfl ⟨Rng.i64 (by omega) (by omega),?_,X⟩)
  rw [hl]
  exact decide_eq_decide.2 ⟨λe=>⟨hk,h1,h2,e⟩,λe=>e.2.2.2⟩
 refine cond_d (λhp=>?_) (λhp=>no λe=>by have:=e.2.1;have:=e.2.2.1;omega)
 refine T.ld0 (j:=0) rfl rfl (cond_eq (λh1=>tail (.inl h1)) (λh1=>?_))
 refine T.ld0 (j:=0) rfl rfl (cond_eq (λh2=>tail (.inr h2)) (λh2=>no λe=>e.1.elim h1 h2))
end
section
variable {g:Geo} {n K J:Nat} {s s' t:SD}
theorem chS_gx (h:SI g n s) (b:Int) (φ:Blk->Blk) (i:Nat):gx (chS s b φ).L i=if (0<=b/\b<(n:Int))/\i=b.toNat then φ (gx s.L i) else gx s.L i:=by
 show gx (chL b s.L.length φ s.L) i=_
 rw [gx_ch rfl,h.ln]
theorem dstS_oth {b:Int} {i:Nat} (hi:i≠b.toNat):gx (dstS s b).1.L i=gx s.L i:=by
 unfold dstS
 split
 ·rw [(over_f _).2.1]
  exact dst_oth s.C rfl b hi
 ·rfl
theorem SI.spo (h:SI g n s) {b:Int} (hb:0<=b/\b<(n:Int)) (h0:(gx s.L b.toNat).li=0) (hf:nfr s b) (ho:s.C.ops+2<=1000000000000) :
  St g n 2 s (spoP s b).1/\(spoP s b).1.X=s.X/\(spoP s b).1.fr=s.fr/\∀ i,i≠b.toNat->gx (spoP s b).1.L i=gx s.L i:=by
 have h1:=h.f b
 have g1:=chS_gx h b fB
 have h2:=h1.i.r b (λ_=>by rw [g1,if_pos ⟨hb,rfl⟩];exact h0) hf
 have g2:=chS_gx h1.i b rB
 obtain ⟨h3,x3,f3⟩:=h2.i.dst (b:=b) (λ_=>by rw [g2,if_pos ⟨hb,rfl⟩];rfl) ho
 have h4:=(h1.trans h2).trans h3
 have g4:∀ i,i≠b.toNat->gx (dstS (chS (chS s b fB) b rB) b).1.L i=gx s.L i:=λi hi=>by
  rw [dstS_oth hi,g2,if_neg (λe=>hi e.2),g1,if_neg (λe=>hi e.2)]
 unfold spoP
 split
 ·exact ⟨h4.up (by omega),x3,f3,g4⟩
 ·have k:=over_f (dstS (chS (chS s b fB) b rB) b).1
  exact ⟨(h4.trans h4.i.over).up (by omega),k.2.2.2.1.trans x3,k.2.2.2.2.1.trans f3,λi hi=>by rw [k.2.1];exact g4 i hi⟩
structure EmI (g:Geo) (n:Nat) (s:SD) (b ns:Int) (l:List (Int×Int)):Prop where
 i:SI g n s
 hn:0<=ns/\ns<4
 hb:0<=b/\b<(n:Int)
 l:inP s.X (4+b)=l
 he:(gx s.L b.toNat).he=true
 ow:(gx s.L b.toNat).ow=ns
 nf:nfr s b
theorem l32 {X:List (SlP Ce)} {p:Int} {L:List Blk} (h:LI X p n L) (bl:Int):(inP X bl).length<=31:=by have:=h.len bl;have:=h.pp;omega
structure BegI (s f:SD) (ns to:Int) (n:Nat):Prop where
 ht:0<=to/\to<(n:Int)
 h0:(gx s.L to.toNat).he=false
 y:∃ y,gx f.L to.toNat=hB ns y/\y.ba=false
theorem SI.beg (h:SI g n s) {ns:Int} (hn:0<=ns/\ns<4) {sl:Bool} (ho:s.C.ops+768<=1000000000000):St g n 768 s (leftP (opnS ns sl s).1 (opnS ns sl s).2.2).1/\(leftP (opnS ns sl s).1 (opnS ns sl s).2.2).1.X=s.X/\(leftP (opnS ns sl s).1 (opnS ns sl s).2.2).1.fr=s.fr /\
  KeptH n s.L (leftP (opnS ns sl s).1 (opnS ns sl s).2.2).1.L/\((opnS ns sl s).2.2=0->BegI s (leftP (opnS ns sl s).1 (opnS ns sl s).2.2).1 ns (opnS ns sl s).2.1 n):=by
 obtain ⟨h1,q,x1,f1⟩:=h.opn hn (sl:=sl) ho
 have k:=left_f (opnS ns sl s).1 (opnS ns sl s).2.2
 refine ⟨(h1.trans (h1.i.left _)).up (by omega),k.2.2.2.1.trans x1,k.2.2.2.2.1.trans f1,by rw [k.2.1];exact q.kp,λe=>?_⟩
 obtain ⟨a1,a2,a3⟩:=q.ok e
 exact ⟨a1,a2,by rw [k.2.1];exact a3⟩
theorem nfr_fr {b:Int} (h:nfr s b) (e:t.fr=s.fr):nfr t b:=λi hi h0=>by
 have:fat t i=fat s i:=by show t.fr.getD i 0=_;rw [e]
 rw [this] at h0 ⊢
 exact h i hi h0
theorem EmI.cop {b ns:Int} {l:List (Int×Int)} (h:EmI g n s b ns l) {f:SD} {to:Int} (hf:SI g n f) (hX:f.X=s.X) (hfr:f.fr=s.fr) (hk:KeptH n s.L f.L) (hB:BegI s f ns to n) (ho:f.C.ops+63<=1000000000000) :
  St g n 63 f (copP to l 1 f).1/\to≠b/\EmI g n (copP to l 1 f).1 b ns l/\nfr (copP to l 1 f).1 to/\(gx (copP to l 1 f).1.L to.toNat).li=0 /\
  ((copP to l 1 f).2=0->St g n 0 (copP to l 1 f).1 (movP (copP to l 1 f).1 b to ns l)):=by
 obtain ⟨y,hy,hyb⟩:=hB.y
 have hlen:=l32 h.i.l (4+b)
 have hlen2:=h.i.l.len (4+b)
 rw [h.l] at hlen hlen2
 obtain ⟨a1,a2,a3,a4,a4',a5,a6,a7,a8,a9,a10,a11⟩:=SI.cop hB.ht l 1 hf (by rw [hy];show (0:Int)+_<=_;omega) (by omega)
 have hne:to≠b:=λe=>by
  have:=hB.h0
  rw [e,h.he] at this
  cases this
 have hb:=h.hb
 have ht:=hB.ht
 have gb:gx (copP to l 1 f).1.L b.toNat=gx s.L b.toNat:=by rw [a6 _ (by omega),hk _ (by omega) h.he]
 have e1:EmI g n (copP to l 1 f).1 b ns l:=⟨a1.i,h.hn,h.hb,by rw [a2,hX];exact h.l,by rw [gb];exact h.he,by rw [gb];exact h.ow,nfr_fr h.nf (a3.trans hfr)⟩
 have hl0:(gx (copP to l 1 f).1.L to.toNat).li=0:=by rw [a9,hy];rfl
 refine ⟨a1.up (by omega),hne,e1,nfr_fr (h.i.nfr_of hB.ht.1 hB.h0) (a3.trans hfr),hl0,λe=>?_⟩
 have h5:=e1.i.mov (b:=b) (to:=to) h.hn h.hb hB.ht (λe=>hne e.symm) e1.ow (by rw [a8,hy];rfl) (by rw [a7,hy];rfl) hl0 (by rw [a11 e,hy,e1.l];show (0:Int)+_=_;omega) e1.nf
 rw [e1.l] at h5
 exact h5
theorem mov_L {b to ns:Int} {l:List (Int×Int)} (h:SI g n s) (hb:0<=b/\b<(n:Int)):(gx (movP s b to ns l).L b.toNat).he=false:=by
 have e:(movP s b to ns l).L=(chS (chS {s with X:=movL to (ordO s.O to).hh l 1 s.X} to (cB (l.length:Int))) b rB).L:=by
  unfold movP
  dsimp only
  split <;> rfl
 rw [e]
 show (gx (chL b (chL to s.L.length _ s.L).length rB (chL to s.L.length _ s.L)) b.toNat).he=false
 rw [gx_ch rfl,if_pos ⟨by rw [chL_len,h.ln];exact hb,rfl⟩]
 rfl
def eC (k:Nat):Nat:=840*k
theorem eCs (k:Nat):eC (k+1)=eC k+840:=by unfold eC;omega
theorem eC256:eC 256=215040:=rfl
def wC (k:Nat):Nat:=215044*k
theorem wCs (k:Nat):wC (k+1)=wC k+215044:=by unfold wC;omega
theorem wC256:wC 256=55051264:=rfl
theorem EmI.emp {b ns:Int} {l:List (Int×Int)}:∀ (k:Nat) {s:SD},EmI g n s b ns l->s.C.ops+eC k<=1000000000000 ->
  St g n (eC k) s (empL b ns l k s).1/\((empL b ns l k s).2=0->(gx (empL b ns l k s).1.L b.toNat).he=false)
 | 0,s,h,_=>⟨.refl h.i,λe=>by cases e⟩
 | k+1,s,h,ho=>by
  have hec:=eCs k
  obtain ⟨h1,x1,f1,k1,b1⟩:=h.i.beg h.hn (sl:=false) (by omega)
  unfold empL
  dsimp only
  generalize hr:opnS ns false s=r at h1 x1 f1 k1 b1 ⊢
  obtain ⟨r1,to,e⟩:=r
  dsimp only at h1 x1 f1 k1 b1 ⊢
  generalize hq:leftP r1 e=q at h1 x1 f1 k1 b1 ⊢
  obtain ⟨f,fe⟩:=q
  dsimp only at h1 x1 f1 k1 b1 ⊢
  have o1:=h1.o2
  by_cases hfe:fe=0
  case neg=>
   rw [if_pos hfe]
   dsimp only
   refine ⟨?_,λe=>absurd e hfe⟩
   split
   ·rename_i he0
    have hB:=b1 he0
    obtain ⟨y,hy,-⟩:=hB.y
    exact (h1.trans (h1.i.r to (λ_=>by rw [hy];rfl) (nfr_fr (h.i.nfr_of hB.ht.1 hB.h0) f1))).up (by omega)
   ·exact h1.up (by omega)
  rw [if_neg (λk=>k hfe)]
  by_cases he0:e=0
  case neg=>
   exfalso
   have:(leftP r1 e).2=fe:=by rw [hq]
   rw [hfe] at this
   unfold leftP at this
   split at this
   ·cases this
   ·split at this
    ·rename_i h2;exact h2 this
    ·exact he0 this
  have hB:=b1 he0
  obtain ⟨a1,hne,e1,nf1,l0,mv⟩:=h.cop h1.i x1 f1 k1 hB (by omega)
  generalize hc:copP to l 1 f=c at a1 e1 nf1 l0 mv ⊢
  obtain ⟨c1,ce⟩:=c
  dsimp only at a1 e1 nf1 l0 mv ⊢
  have o2:=a1.o2
  by_cases hc0:ce=0
  ·rw [if_pos hc0]
   dsimp only
   exact ⟨((h1.trans a1).trans (mv hc0)).up (by omega),λ_=>mov_L e1.i h.hb⟩
  rw [if_neg hc0]
  by_cases hc5:ce=5
  case neg=>
   rw [if_neg hc5]
   exact ⟨(h1.trans a1).up (by omega),λe=>absurd e hc0⟩
  rw [if_pos hc5]
  obtain ⟨s1,sx,sf,sg⟩:=e1.i.spo hB.ht l0 nf1 (by omega)
  by_cases hs:(spoP c1 to).2≠0
  ·rw [if_pos hs]
   exact ⟨((h1.trans a1).trans s1).up (by omega),λe=>absurd e hs⟩
  rw [if_neg hs]
  have hbt:b.toNat≠to.toNat:=by have:=h.hb;have:=hB.ht;omega
  have e2:EmI g n (spoP c1 to).1 b ns l:=⟨s1.i,h.hn,h.hb,by rw [sx];exact e1.l,by rw [sg _ hbt];exact e1.he,by rw [sg _ hbt];exact e1.ow,nfr_fr e1.nf sf⟩
  have o3:=s1.o2
  obtain ⟨z1,z2⟩:=EmI.emp k e2 (by omega)
  exact ⟨(((h1.trans a1).trans s1).trans z1).up (by omega),z2⟩
def fs0 (s:SD) (ns b:Int):SD:=if frG s ns=b then frS s ns (-1) else s
theorem SI.fs0 (h:SI g n s) {ns b:Int} (hn:0<=ns/\ns<4) (ho:0<=b/\b<(n:Int)->(gx s.L b.toNat).ow=ns):St g n 0 s (fs0 s ns b)/\nfr (Vc.fs0 s ns b) b/\(Vc.fs0 s ns b).L=s.L/\(Vc.fs0 s ns b).X=s.X/\(Vc.fs0 s ns b).C=s.C:=by
 unfold Vc.fs0
 have key:∀ i,i<4->0<=fat s i->fat s i=b->frG s ns=b:=λi hi h0 e=>by
  rcases h.fo i hi with k | ⟨k1,-,k3⟩
  ·omega
  ·rw [e] at k1 k3
   have:=ho k1
   rw [k3] at this
   have hi2:ns.toNat=i:=by omega
   show s.fr.getD ns.toNat 0=b
   rw [hi2]
   exact e
 split
 ·rename_i hb
  refine ⟨h.frm hn,λi hi h0 e=>?_,rfl,rfl,rfl⟩
  rw [fat_set h.fl hn] at h0 e
  split at h0
  ·omega
  ·rename_i hne
   rw [if_neg hne] at e
   rcases h.fo i hi with k | ⟨k1,-,k3⟩
   ·omega
   ·rw [e] at k1 k3
    have:=ho k1
    rw [k3] at this
    exact hne this
 ·rename_i hb
  exact ⟨.refl h,λi hi h0 e=>hb (key i hi h0 e),rfl,rfl,rfl⟩
theorem SI.emp (h:SI g n s) {b ns:Int} (hn:0<=ns/\ns<4) (hb:b<(n:Int)) (ho:0<=b/\b<(n:Int)->(gx s.L b.toNat).ow=ns) (hp:s.C.ops+215040<=1000000000000) :
  St g n 215040 s (empP s b ns).1/\((empP s b ns).2=0->0<=b->(gx (empP s b ns).1.L b.toNat).he=false):=by
 obtain ⟨h1,h2,h3,h4,h5⟩:=h.fs0 hn ho
 have e:empP s b ns=if inP s.X (4+b)=[] then (chS (Vc.fs0 s ns b) b rB,0) else empL b ns (inP s.X (4+b)) 256 (Vc.fs0 s ns b):=rfl
 rw [e]
 by_cases hl:inP s.X (4+b)=[]
 ·rw [if_pos hl]
  have l0:0<=b/\b<(n:Int)->(gx (Vc.fs0 s ns b).L b.toNat).li=0:=λhb=>by
   rw [h3,h.l.li _ (by omega),show 4+((b.toNat:Nat):Int)=4+b by omega,hl];rfl
  refine ⟨(h1.trans (h1.i.r b l0 h2)).up (by omega),λ_ h0=>?_⟩
  rw [chS_gx h1.i,if_pos ⟨⟨h0,hb⟩,rfl⟩]
  rfl
 ·rw [if_neg hl]
  have hb0:0<=b:=by
   refine Classical.byContradiction λe=>hl (inP_nil λk hk h1=>?_)
   have:=(h.l.xb k h1).1
   omega
  have hli:(gx s.L b.toNat).li≠0:=by
   rw [h.l.li _ (by omega),show 4+((b.toNat:Nat):Int)=4+b by omega]
   intro e
   exact hl (List.length_eq_zero_iff.1 (by omega))
  have E:EmI g n (Vc.fs0 s ns b) b ns (inP s.X (4+b)):=⟨h1.i,hn,⟨hb0,hb⟩,by rw [h4],by rw [h3];exact h.l.he _ (by omega) hli,by rw [h3];exact ho ⟨hb0,hb⟩,h2⟩
  have hec:=eC256
  obtain ⟨a1,a2⟩:=E.emp 256 (by rw [h5];omega)
  exact ⟨(h1.trans a1).up (by omega),λe _=>a2 e⟩
theorem vict_is {L:List Blk} {ns bu:Int} (hl:L.length=n) (h:0<=victT L ns bu L.length):ownB ns (gx L (victT L ns bu L.length).toNat)=true:=by
 have:=bestT_is (L:=L) (m:=λi x=>decide ((i:Int)≠bu) && ownB ns x) (ah:=λx y=>decide (x.li<y.li)) L.length h
 rw [Bool.and_eq_true] at this
 exact this.2
theorem vict_bd {L:List Blk} {ns bu:Int}:-1<=victT L ns bu L.length/\victT L ns bu L.length<(L.length:Int):=bestT_bd (L:=L) (m:=λi x=>decide ((i:Int)≠bu) && ownB ns x) (ah:=λx y=>decide (x.li<y.li)) L.length
theorem own_is {x:Blk} {ns:Int} (h:ownB ns x=true):x.he=true/\x.ba=false/\x.ow=ns:=by
 unfold ownB at h
 simp only [Bool.and_eq_true,Bool.not_eq_true',beq_iff_eq] at h
 exact ⟨h.1.1,h.1.2,h.2⟩
theorem SI.room (h:SI g n s) {ns:Int} (hn:0<=ns/\ns<4) (hp:s.C.ops+215040<=1000000000000):St g n 215040 s (roomP s ns).1:=by
 have h1:=h.clos hn
 have hc:=clos_f s ns
 unfold roomP
 split
 ·have hv:=vict_bd (L:=(closP s ns).L) (ns:=ns) (bu:=-1)
  rw [h1.i.ln] at hv
  have e:s.L.length=(closP s ns).L.length:=by rw [h1.i.ln,h.ln]
  rw [e]
  refine (h1.trans (h1.i.emp (b:=victT (closP s ns).L ns (-1) (closP s ns).L.length) hn (by rw [h1.i.ln] at *;exact hv.2) (λhb=>?_) (by rw [hc.1];exact hp)).1).up (by omega)
  exact (own_is (vict_is h1.i.ln hb.1)).2.2
 ·obtain ⟨a1,q,x1,f1⟩:=h1.i.opn hn (sl:=true) (by rw [hc.1];omega)
  dsimp only
  have a2:St g n 0 (opnS ns true (closP s ns)).1 (if (opnS ns true (closP s ns)).2.2=0 then frS (opnS ns true (closP s ns)).1 ns (opnS ns true (closP s ns)).2.1 else (opnS ns true (closP s ns)).1):=by
   split
   ·rename_i he
    obtain ⟨b1,b2,y,b3,b4⟩:=q.ok he
    exact a1.i.fr hn (.inr ⟨b1,by rw [b3];rfl,by rw [b3];show ns=_;omega⟩)
   ·exact .refl a1.i
  exact (((h1.trans a1).trans a2).trans (a2.i.left _)).up (by omega)
theorem SI.fai (h:SI g n s) {ns:Int} (hn:0<=ns/\ns<4) (h0:0<=frG s ns) (hp:s.C.ops+215042<=1000000000000):St g n 215042 s (faiP s ns).1:=by
 have hb:=(h.fG hn).resolve_left (by omega)
 have h1:=h.frm hn
 have h2:=h1.i.f (frG s ns)
 have h3:=h2.i.over
 have k3:=over_f (chS (frS s ns (-1)) (frG s ns) fB)
 have g3:gx (overP (chS (frS s ns (-1)) (frG s ns) fB)).1.L (frG s ns).toNat=fB (gx s.L (frG s ns).toNat):=by
  rw [k3.2.1,chS_gx h1.i,if_pos ⟨hb.1,rfl⟩];rfl
 have o3:=((h1.trans h2).trans h3)
 unfold faiP
 dsimp only
 split
 ·exact o3.up (by omega)
 ·have hop:=o3.o2
  obtain ⟨e1,e2⟩:=h3.i.emp (b:=frG s ns) hn hb.1.2 (λ_=>by rw [g3];exact hb.2.2) (by omega)
  split
  ·exact (o3.trans e1).up (by omega)
  ·rename_i he
   have he:(empP (overP (chS (frS s ns (-1)) (frG s ns) fB)).1 (frG s ns) ns).2=0:=Classical.byContradiction he
   have hoe:=e1.o2
   obtain ⟨d1,-,-⟩:=e1.i.dst (b:=frG s ns) (λhb=>e2 he hb.1) (by omega)
   split
   ·exact ((o3.trans e1).trans d1).up (by omega)
   ·exact (((o3.trans e1).trans d1).trans d1.i.over).up (by omega)
theorem PI.wrt {C:CD} {L:List Blk} {O:List Hd} (h:PI g n C L O) {m:Nat} {b pa:Int} {hd:Hd} {xs tg:List Int} (hr:hd.rng) (bx:Byt xs) (bt:Byt tg) (ho:C.ops+2<=1000000000000):PI g n (wrtT m C b pa hd xs tg).1 L O/\(wrtT m C b pa hd xs tg).1.ops<=C.ops+2/\C.ops<=(wrtT m C b pa hd xs tg).1.ops:=by
 unfold wrtT
 split
 ·split
  ·rename_i hR
   exact h.prg _ _ (mkL_byt hr hR bx bt) ho
  ·exact ⟨h,Nat.le_add_right _ _,Nat.le_refl _⟩
 ·exact ⟨h,Nat.le_add_right _ _,Nat.le_refl _⟩
theorem ful_not (h:SI g n s) {ns:Int} (hn:0<=ns/\ns<4) (hf:¬ fulP s ns):(0<=frG s ns/\frG s ns<(n:Int))/\(gx s.L (frG s ns).toNat).he=true/\(gx s.L (frG s ns).toNat).ow=ns/\(gx s.L (frG s ns).toNat).us+1<=g.p-1:=by
 unfold fulP at hf
 rw [h.pi.gg] at hf
 have hb:=(h.fG hn).resolve_left (by omega)
 exact ⟨hb.1,hb.2.1,hb.2.2,by omega⟩
theorem SI.wr1 (h:SI g n s) {ns:Int} (hn:0<=ns/\ns<4) (hf:¬ fulP s ns) {hd:Hd} {xs tg:List Int} (hr:hd.rng) (bx:Byt xs) (bt:Byt tg) (hp:s.C.ops+2<=1000000000000) :
  St g n 2 s (wr1 s ns hd xs tg).1/\(wr1 s ns hd xs tg).1.X=s.X/\(wr1 s ns hd xs tg).1.fr=s.fr/\(wr1 s ns hd xs tg).1.L=chL (frG s ns) n uB s.L:=by
 have hb:=ful_not h hn hf
 have h1:=h.ch1 (frG s ns) (φ:=uB) (λ_=>rfl) (λ_=>rfl) (λ_=>rfl) (h.l.u _ λ_=>hb.2.2.2)
 obtain ⟨p1,p2,p3⟩:=h1.i.pi.wrt (m:=s.L.length) (b:=frG s ns) (pa:=(gx (chS s (frG s ns) uB).L (frG s ns).toNat).us) hr bx bt hp
 exact ⟨h1.trans (h1.i.set_C p1 p3 p2),rfl,rfl,by show chL (frG s ns) s.L.length uB s.L=_;rw [h.ln]⟩
structure LanI (g:Geo) (n:Nat) (s:SD) (ns:Int) (at_:Int×Int):Prop where
 fb:at_.1=4+frG s ns
 hb:0<=frG s ns/\frG s ns<(n:Int)
 he:(gx s.L (frG s ns).toNat).he=true
 ow:(gx s.L (frG s ns).toNat).ow=ns
 us:at_.2=(gx s.L (frG s ns).toNat).us
 p1:1<=at_.2/\at_.2<=g.p-1
 c0:¬ 1<=cntX s.X at_
theorem SI.wr {ns:Int} (hn:0<=ns/\ns<4) {hd:Hd} {xs tg:List Int} (hr:hd.rng) (bx:Byt xs) (bt:Byt tg):∀ (k:Nat) {s:SD},SI g n s->s.C.ops+wC k<=1000000000000 ->
  St g n (wC k) s (wrP ns hd xs tg k s).1/\((wrP ns hd xs tg k s).2.2=0->LanI g n (wrP ns hd xs tg k s).1 ns (wrP ns hd xs tg k s).2.1)
 | 0,s,h,_=>⟨.refl h,λe=>by cases e⟩
 | k+1,s,h,ho=>by
  have hwc:=wCs k
  unfold wrP
  dsimp only
  by_cases hf:fulP s ns
  ·rw [if_pos hf]
   have h1:=h.room hn (by omega)
   have o1:=h1.o2
   split
   ·rename_i he
    exact ⟨h1.up (by omega),λe=>absurd e he⟩
   ·obtain ⟨a1,a2⟩:=SI.wr hn hr bx bt k h1.i (by omega)
    exact ⟨(h1.trans a1).up (by omega),a2⟩
  ·rw [if_neg hf]
   obtain ⟨h1,x1,f1,l1⟩:=h.wr1 hn hf (hd:=hd) hr bx bt (by omega)
   have hb:=ful_not h hn hf
   have fG:frG (Vc.wr1 s ns hd xs tg).1 ns=frG s ns:=by show (Vc.wr1 s ns hd xs tg).1.fr.getD _ _=_;rw [f1];rfl
   have gt:gx (Vc.wr1 s ns hd xs tg).1.L (frG s ns).toNat=uB (gx s.L (frG s ns).toNat):=by rw [l1,gx_ch h.ln,if_pos ⟨hb.1,rfl⟩]
   have o1:=h1.o2
   split
   ·refine ⟨h1.up (by omega),λ_=>?_⟩
    dsimp only
    refine ⟨by rw [fG];rfl,by rw [fG];exact hb.1,by rw [fG,gt];exact hb.2.1,by rw [fG,gt];exact hb.2.2.1,by rw [fG,gt];rfl,?_,?_⟩
    ·have:=(h.l.us (frG s ns).toNat (by omega)).1
     show 1<=(gx s.L (frG s ns).toNat).us+1/\(gx s.L (frG s ns).toNat).us+1<=g.p-1
     omega
    ·rw [x1]
     intro h2
     have:=h.l.pu _ h2
     have e:((plc s ns).1-4).toNat=(frG s ns).toNat:=by show (4+frG s ns-4).toNat=_;omega
     rw [e] at this
     have:(gx s.L (frG s ns).toNat).us+1<=(gx s.L (frG s ns).toNat).us:=this
     omega
   ·rename_i hne
    split
    ·have a1:=h1.i.fai hn (by rw [fG];exact hb.1.1) (by omega)
     have o2:=a1.o2
     split
     ·rename_i he
      exact ⟨(h1.trans a1).up (by omega),λe=>absurd e he⟩
     ·obtain ⟨b1,b2⟩:=SI.wr hn hr bx bt k a1.i (by omega)
      exact ⟨((h1.trans a1).trans b1).up (by omega),b2⟩
    ·exact ⟨h1.up (by omega),λe=>absurd e hne⟩
end
theorem gonP_mem {X Y:List (SlP Ce)} {k:Int×Int}:k∈gonP X Y↔((0<=k.1/\k.1<64)/\(0<=k.2/\k.2<32))/\1<=cntX X k/\cntX Y k=0:=by
 unfold gonP
 rw [List.mem_filter,List.mem_flatMap,decide_eq_true_iff]
 constructor
 ·rintro ⟨⟨b,hb,h1⟩,h2⟩
  obtain ⟨i,hi,rfl⟩:=List.mem_map.1 h1
  have hb:=List.mem_range.1 hb
  have hi:=List.mem_range.1 hi
  exact ⟨⟨by dsimp only;omega,by dsimp only;omega⟩,h2⟩
 ·rintro ⟨⟨h1,h2⟩,h3⟩
  exact ⟨⟨k.1.toNat,List.mem_range.2 (by omega),List.mem_map.2 ⟨k.2.toNat,List.mem_range.2 (by omega),Prod.ext (by dsimp only;omega) (by dsimp only;omega)⟩⟩,h3⟩
theorem gonP_so (X Y:List (SlP Ce)):(gonP X Y).Pairwise plL:=by
 unfold gonP
 refine List.Pairwise.filter _ ?_
 rw [List.pairwise_flatMap]
 refine ⟨λb _=>List.pairwise_map.2 (List.pairwise_lt_range.imp λ{a c} h=>.inr ⟨rfl,by dsimp only;omega⟩),List.pairwise_lt_range.imp λ{a c} h x hx y hy=>?_⟩
 obtain ⟨i,-,rfl⟩:=List.mem_map.1 hx
 obtain ⟨j,-,rfl⟩:=List.mem_map.1 hy
 exact .inl (by dsimp only;omega)
def pend (l:List (Int×Int)) (i:Nat):Int:=(l.countP λk=>decide (k.1=4+(i:Int)):Nat)
structure LP (X:List (SlP Ce)) (p:Int) (n:Nat) (l:List (Int×Int)) (L:List Blk):Prop where
 pp:4<=p/\p<=32
 four:X.length=4
 ll:L.length=n
 xb:∀ k,1<=cntX X k->(4<=k.1/\k.1<4+(n:Int))/\(1<=k.2/\k.2<p)
 us:∀ i,i<n->0<=(gx L i).us/\(gx L i).us<=p-1
 li:∀ i,i<n->(gx L i).li=((inP X (4+(i:Int))).length:Int)+pend l i
 he:∀ i,i<n->(gx L i).li≠0->(gx L i).he=true
 ho:∀ i,i<n->(gx L i).he=true->0<=(gx L i).ow/\(gx L i).ow<4
 pu:∀ k,1<=cntX X k->k.2<=(gx L (k.1-4).toNat).us
 ow:∀ (ns:Int) (j:Nat) (c:Ce),(0<=ns/\ns<4)->(getX X ns).l[j]? = some c->c.has=true->(gx L (c.s.b-4).toNat).ow=ns
 lb:∀ k∈l,4<=k.1/\k.1<4+(n:Int)
structure SP (g:Geo) (n:Nat) (l:List (Int×Int)) (s:SD):Prop where
 pi:PI g n s.C s.L s.O
 xo:XOk s.X
 l:LP s.X g.p n l s.L
 fl:s.fr.length=4
 fo:∀ i,i<4->frOk n s.L i (fat s i)
 ep:u64R s.ep
 op:u64R s.op
 ct:u64R s.ct
section
variable {g:Geo} {n K J:Nat} {s s' t:SD}
theorem SP.fin (h:SP g n [] s):SI g n s:=⟨h.pi,h.xo,⟨h.l.pp,h.l.four,h.l.ll,h.l.xb,h.l.us,λi hi=>by rw [h.l.li i hi];show _+(0:Int)=_;omega,h.l.he,h.l.ho,h.l.pu,h.l.ow⟩,h.fl,h.fo,h.ep,h.op,h.ct⟩
theorem mem_fr (h:s.fr.length=4) {b:Int} (hb:b∉s.fr):∀ i,i<4->fat s i≠b:=λi hi e=>hb (by
 rw [<-e]
 show s.fr.getD i 0∈s.fr
 rw [List.getD_eq_getElem?_getD,List.getElem?_eq_getElem (by omega)]
 exact List.getElem_mem (by omega))
theorem SP.ded {k:Int×Int} {l:List (Int×Int)} (h:SP g n (k::l) s):SP g n l (ded1 s k)/\(ded1 s k).C=s.C/\(ded1 s k).O=s.O/\(ded1 s k).X=s.X/\(ded1 s k).fr=s.fr/\(ded1 s k).ep=s.ep/\(ded1 s k).op=s.op/\(ded1 s k).ct=s.ct/\(ded1 s k).ro=s.ro:=by
 have hkb:=h.l.lb k List.mem_cons_self
 have hln:=h.pi.ll
 obtain ⟨b,hbk⟩:∃ b:Int,b=k.1-4:=⟨_,rfl⟩
 have hb:0<=b/\b<(n:Int):=by omega
 have g1:∀ i,gx (chL b n (cB (-1)) s.L) i=if (0<=b/\b<(n:Int))/\i=b.toNat then cB (-1) (gx s.L i) else gx s.L i:=gx_ch hln
 have l1:(chL b n (cB (-1)) s.L).length=n:=by rw [chL_len];exact hln
 have pc:∀ i:Nat,pend (k::l) i=pend l i+(if i=b.toNat then 1 else 0):=λi=>by
  unfold pend
  rw [List.countP_cons]
  by_cases e:i=b.toNat
  ·rw [if_pos e,if_pos (decide_eq_true (by omega))];push_cast;rfl
  ·rw [if_neg e,if_neg (by rw [decide_eq_true_iff];omega)];push_cast;rfl
 have pp0:∀ i,0<=pend l i:=λi=>by unfold pend;omega
 have hli:(gx s.L b.toNat).li=((inP s.X (4+((b.toNat:Nat):Int))).length:Int)+pend l b.toNat+1:=by
  rw [h.l.li _ (by omega),pc,if_pos rfl];omega
 have c1:(cB (-1) (gx s.L b.toNat)).li=(gx s.L b.toNat).li-1:=by
  have:=pp0 b.toNat
  show (if (-1:Int)<0-(gx s.L b.toNat).li then (0:Int) else (gx s.L b.toNat).li+(-1))=_
  split <;> omega
 have L1:LP s.X g.p n l (chL b n (cB (-1)) s.L):=by
  refine ⟨h.l.pp,h.l.four,l1,h.l.xb,λi hi=>?_,λi hi=>?_,λi hi e=>?_,λi hi e=>?_,λk' hk'=>?_,λms j c hm hj hc=>?_,λk' hk'=>h.l.lb k' (List.mem_cons_of_mem _ hk')⟩
  ·rw [g1];split
   ·exact h.l.us i hi
   ·exact h.l.us i hi
  ·rw [g1];split
   ·rename_i e
    have e2:=e.2
    subst e2
    rw [c1,hli];omega
   ·rename_i e
    rw [h.l.li i hi,pc,if_neg (λe2=>e ⟨hb,e2⟩)];omega
  ·rw [g1] at e⊢;split
   ·rename_i e1
    have e2:=e1.2
    subst e2
    rw [if_pos e1,c1] at e
    exact h.l.he _ hi (by rw [hli] at e⊢;have:=pp0 b.toNat;omega)
   ·rename_i e1;rw [if_neg e1] at e;exact h.l.he i hi e
  ·rw [g1] at e⊢;split
   ·rename_i e1;rw [if_pos e1] at e;exact h.l.ho i hi e
   ·rename_i e1;rw [if_neg e1] at e;exact h.l.ho i hi e
  ·rw [g1];split
   ·exact h.l.pu k' hk'
   ·exact h.l.pu k' hk'
  ·rw [g1];split
   ·exact h.l.ow ms j c hm hj hc
   ·exact h.l.ow ms j c hm hj hc
 have P1:SP g n l (chS s b (cB (-1))):=by
  have hp:=h.pi.chL b (φ:=cB (-1)) (λ_=>rfl)
  refine ⟨hp,h.xo,by show LP s.X g.p n l (chL b s.L.length _ s.L);rw [hln];exact L1,h.fl,λi hi=>?_,h.ep,h.op,h.ct⟩
  show frOk n (chL b s.L.length _ s.L) i (fat s i)
  rw [hln]
  exact (h.fo i hi).ch1 (φ:=cB (-1)) hln (λ_=>rfl) (λ_=>rfl)
 show SP g n l (if (gx (chS s (k.1-4) (cB (-1))).L (k.1-4).toNat).li=0/\(gx (chS s (k.1-4) (cB (-1))).L (k.1-4).toNat).he=true/\(k.1-4)∉s.fr then chS (chS s (k.1-4) (cB (-1))) (k.1-4) rB else chS s (k.1-4) (cB (-1)))/\_
 unfold ded1
 dsimp only
 rw [<-hbk]
 split
 ·rename_i hc
  refine ⟨?_,rfl,rfl,rfl,rfl,rfl,rfl,rfl,rfl⟩
  obtain ⟨hc1,hc2,hc3⟩:=hc
  have hln2:(chS s b (cB (-1))).L.length=n:=P1.pi.ll
  have g2:=gx_ch (b:=b) (φ:=rB) hln2
  have hp:=P1.pi.chL b (φ:=rB) (λ_=>rfl)
  refine ⟨hp,P1.xo,?_,P1.fl,λi hi=>?_,P1.ep,P1.op,P1.ct⟩
  ·show LP s.X g.p n l (chL b (chS s b (cB (-1))).L.length rB (chS s b (cB (-1))).L)
   rw [hln2]
   have P:LP s.X g.p n l (chS s b (cB (-1))).L:=P1.l
   generalize (chS s b (cB (-1))).L=M at hc1 hc2 hln2 g2 P ⊢
   refine ⟨P.pp,P.four,by rw [chL_len];exact hln2,P.xb,λi hi=>?_,λi hi=>?_,λi hi e=>?_,λi hi e=>?_,λk' hk'=>?_,λms j c hm hj hcc=>?_,P.lb⟩
   ·rw [g2];split <;> exact P.us i hi
   ·rw [g2];split
    ·rename_i e;rw [<-P.li i hi,e.2,hc1];rfl
    ·exact P.li i hi
   ·rw [g2] at e⊢;split
    ·rename_i e1;rw [if_pos e1] at e;exact absurd rfl e
    ·rename_i e1;rw [if_neg e1] at e;exact P.he i hi e
   ·rw [g2] at e⊢;split
    ·rename_i e1;rw [if_pos e1] at e;cases e
    ·rename_i e1;rw [if_neg e1] at e;exact P.ho i hi e
   ·rw [g2];split <;> exact P.pu k' hk'
   ·rw [g2];split <;> exact P.ow ms j c hm hj hcc
  ·show frOk n (chL b (chS s b (cB (-1))).L.length rB (chS s b (cB (-1))).L) i (fat (chS s b (cB (-1))) i)
   rw [hln2]
   refine (P1.fo i hi).oth λe=>?_
   rw [g2,if_neg]
   rintro ⟨e1,e2⟩
   have hne:fat (chS s b (cB (-1))) i≠b:=mem_fr h.fl hc3 i hi
   omega
 ·exact ⟨P1,rfl,rfl,rfl,rfl,rfl,rfl,rfl,rfl⟩
theorem SP.dead:∀ (l:List (Int×Int)) {s:SD},SP g n l s->SI g n (dedP l s)/\(dedP l s).C=s.C/\(dedP l s).O=s.O/\(dedP l s).X=s.X/\(dedP l s).fr=s.fr/\(dedP l s).ep=s.ep/\(dedP l s).op=s.op/\(dedP l s).ct=s.ct/\(dedP l s).ro=s.ro
 | [],s,h=>⟨h.fin,rfl,rfl,rfl,rfl,rfl,rfl,rfl,rfl⟩
 | k::l,s,h=>by
  obtain ⟨h1,a1,a2,a3,a4,a5,a6,a7,a8⟩:=h.ded
  obtain ⟨h2,b1,b2,b3,b4,b5,b6,b7,b8⟩:=SP.dead l h1
  exact ⟨h2,b1.trans a1,b2.trans a2,b3.trans a3,b4.trans a4,b5.trans a5,b6.trans a6,b7.trans a7,b8.trans a8⟩
structure PuX (s:SD) (hd:Hd) (at_:Int×Int) (Y:List (SlP Ce)):Prop where
 I:PutI (sptS s hd at_) s.X hd.c.toNat Y (putP (sptS s hd at_) s.X hd.c.toNat).2
 sz:∀ ns,(getX Y ns).n=(getX s.X ns).n
 pos:∀ k,k≠at_->1<=cntX Y k->1<=cntX s.X k
 cl:∀ (ns:Int) (j:Nat) (c:Ce),(getX Y ns).l[j]? = some c->(getX s.X ns).l[j]? = some c\/(ns=hd.n/\c=⟨true,sptS s hd at_⟩)
theorem sz_sl {X Y:List (SlP Ce)} (hY:Y.length=4) (hX:X.length=4) (h:Y.map slM=X.map slM) (ns:Int):(getX Y ns).n=(getX X ns).n:=by
 by_cases hn:0<=ns/\ns<4
 ·have h1:(Y.map slM)[ns.toNat]? = (X.map slM)[ns.toNat]?:=by rw [h]
  rw [List.getElem?_map,List.getElem?_map,getX_at hY hn,getX_at hX hn] at h1
  have h2:=Option.some.inj h1
  unfold slM at h2
  injection h2
 ·unfold getX
  rw [if_neg hn,if_neg hn]
theorem SI.pux (h:SI g n s) {hd:Hd} (hm:mayP s hd) (hr:hd.rng) (hn:0<=hd.n/\hd.n<4) (at_:Int×Int):PuX s hd at_ (putP (sptS s hd at_) s.X hd.c.toNat).1:=by
 have I:=putP_inv (s:=sptS s hd at_) h.xo hn hd.c.toNat (by
  show hd.l.toNat+hd.c.toNat<=(getX s.X hd.n).n
  have:=hm.2.1;have:=hm.2.2.1;have:=hm.2.2.2;have:=hr.1
  omega)
 have cl:∀ (ns:Int) (j:Nat) (c:Ce),(getX (putP (sptS s hd at_) s.X hd.c.toNat).1 ns).l[j]? = some c->(getX s.X ns).l[j]? = some c\/(ns=hd.n/\c=⟨true,sptS s hd at_⟩):=λns j c hj=>by
  rw [I.cell] at hj
  split at hj
  ·rename_i e
   obtain ⟨c0,hc0,rfl⟩:=Option.map_eq_some_iff.1 hj
   unfold putC
   split
   ·exact .inl hc0
   ·exact .inr ⟨e.1,rfl⟩
  ·exact .inl hj
 refine ⟨I,sz_sl I.ok.four h.xo.four I.sl,λk hk h1=>?_,cl⟩
 obtain ⟨ns,j,c,hns,hj,hc,rfl⟩:=cntX_ex I.ok.four h1
 rcases cl ns j c hj with e | ⟨-,e⟩
 ·exact cntX_pos h.xo.four hns e hc
 ·subst e
  exact absurd rfl hk
theorem SI.lnd0 (h:SI g n s) {hd:Hd} {at_:Int×Int} (hA:LanI g n s hd.n at_) (hm:mayP s hd) (hr:hd.rng) (hn:0<=hd.n/\hd.n<4):SP g n (gonP s.X (lndX s hd at_)) (lnd1 s hd at_):=by
 have P:PuX s hd at_ (lndX s hd at_):=h.pux hm hr hn at_
 unfold lnd1
 generalize lndX s hd at_=Y at P ⊢
 have hln:=h.ln
 have hbk:at_.1-4=frG s hd.n:=by rw [hA.fb];omega
 rw [hbk]
 have hb:=hA.hb
 have hno:=h.no
 have gm:∀ k,k∈gonP s.X Y↔1<=cntX s.X k/\cntX Y k=0:=λk=>by
  rw [gonP_mem]
  refine ⟨λe=>e.2,λe=>⟨?_,e⟩⟩
  have:=h.l.xb k e.1
  have:=h.l.pp
  omega
 have c0:=hA.c0
 have yb:∀ k,1<=cntX Y k->(4<=k.1/\k.1<4+(n:Int))/\(1<=k.2/\k.2<g.p):=λk hk=>by
  by_cases e:k=at_
  ·subst e
   have:=hA.fb;have:=hA.p1
   omega
  ·exact h.l.xb k (P.pos k e hk)
 have hcy:=λk=>(cntX_le P.I.ok k).1
 have cnt:∀ i:Nat,((inP Y (4+(i:Int))).length:Int)+pend (gonP s.X Y) i=((inP s.X (4+(i:Int))).length:Int)+(if 0<cntX Y at_/\i=(frG s hd.n).toNat then 1 else 0):=λi=>by
  have e1:(inP Y (4+(i:Int))++(gonP s.X Y).filter λk=>decide (k.1=4+(i:Int))).length=(inP s.X (4+(i:Int))++if 0<cntX Y at_/\i=(frG s hd.n).toNat then [at_] else []).length:=by
   refine len_eq ?_ ?_ λk=>?_
   ·rw [List.nodup_append]
    refine ⟨so_nd (inP_so _ _),(so_nd (gonP_so _ _)).filter _,λa ha b hb e=>?_⟩
    subst e
    have h1:=(inP_mem.1 ha).2.2
    have h2:=((gm a).1 (List.mem_filter.1 hb).1).2
    omega
   ·rw [List.nodup_append]
    refine ⟨so_nd (inP_so _ _),by split <;> simp,λa ha b hb e=>?_⟩
    subst e
    split at hb
    ·rw [List.mem_singleton.1 hb] at ha
     exact c0 (inP_mem.1 ha).2.2
    ·cases hb
   ·rw [List.mem_append,List.mem_append,inP_mem,inP_mem,List.mem_filter,gm,decide_eq_true_iff]
    constructor
    ·rintro (⟨h1,h2,h3⟩ | ⟨⟨h1,h2⟩,h3⟩)
     ·by_cases e:k=at_
      ·subst e
       refine .inr ?_
       rw [if_pos ⟨by omega,by have:=hA.fb;omega⟩]
       exact List.mem_singleton.2 rfl
      ·exact .inl ⟨h1,h2,P.pos k e h3⟩
     ·have:=h.l.xb k h1
      have:=h.l.pp
      exact .inl ⟨h3,by omega,h1⟩
    ·rintro (⟨h1,h2,h3⟩ | h1)
     ·by_cases e:1<=cntX Y k
      ·exact .inl ⟨h1,h2,e⟩
      ·have:=hcy k
       exact .inr ⟨⟨h3,by omega⟩,h1⟩
     ·split at h1
      ·rename_i e
       rw [List.mem_singleton.1 h1]
       have:=yb at_ (by omega)
       have:=h.l.pp
       exact .inl ⟨by have:=hA.fb;omega,by omega,by omega⟩
      ·cases h1
  rw [List.length_append,List.length_append,<- List.countP_eq_length_filter] at e1
  unfold pend
  split at e1
  ·rename_i e;rw [if_pos e];rw [List.length_singleton] at e1;omega
  ·rename_i e;rw [if_neg e];rw [List.length_nil] at e1;omega
 have key:∀ L':List Blk,L'.length=n->(∀ i,i<n->(gx L' i).li=(gx s.L i).li+(if 0<cntX Y at_/\i=(frG s hd.n).toNat then 1 else 0)/\(gx L' i).us=(gx s.L i).us/\(gx L' i).he=(gx s.L i).he/\(gx L' i).ow=(gx s.L i).ow) ->
   LP Y g.p n (gonP s.X Y) L':=λL' hl hg=>by
  have out:∀ {k:Int×Int},(4<=k.1/\k.1<4+(n:Int))->(k.1-4).toNat<n:=λh=>by omega
  refine ⟨h.l.pp,P.I.ok.four,hl,yb,λi hi=>?_,λi hi=>?_,λi hi e=>?_,λi hi e=>?_,λk hk=>?_,λms j c hms hj hc=>?_,λk hk=>(h.l.xb k ((gm k).1 hk).1).1⟩
  ·rw [(hg i hi).2.1];exact h.l.us i hi
  ·rw [(hg i hi).1,h.l.li i hi,cnt i]
  ·rw [(hg i hi).2.2.1]
   by_cases e1:i=(frG s hd.n).toNat
   ·rw [e1];exact hA.he
   ·refine h.l.he i hi λe2=>e ?_
    rw [(hg i hi).1,if_neg (λe3=>e1 e3.2),e2];rfl
  ·rw [(hg i hi).2.2.2];rw [(hg i hi).2.2.1] at e;exact h.l.ho i hi e
  ·have hkb:=yb k hk
   rw [(hg _ (out hkb.1)).2.1]
   by_cases e:k=at_
   ·subst e
    rw [show (k.1-4).toNat=(frG s hd.n).toNat by have:=hA.fb;omega]
    have:=hA.us
    omega
   ·exact h.l.pu k (P.pos k e hk)
  ·have hkb:=yb c.pl (cntX_pos P.I.ok.four hms hj hc)
   have hlt:(c.s.b-4).toNat<n:=out hkb.1
   rw [(hg _ hlt).2.2.2]
   rcases P.cl ms j c hj with e | ⟨e1,e2⟩
   ·exact h.l.ow ms j c hms e hc
   ·subst e2
    show (gx s.L (at_.1-4).toNat).ow=ms
    rw [hbk,hA.ow,e1]
 by_cases hc:0<cntX Y at_
 ·rw [if_pos hc]
  have hp:=h.pi.chL (frG s hd.n) (φ:=cB 1) (λ_=>rfl)
  refine ⟨hp,P.I.ok,?_,h.fl,λi hi=>?_,h.ep,h.op,h.ct⟩
  ·show LP Y g.p n (gonP s.X Y) (chL (frG s hd.n) s.L.length (cB 1) s.L)
   rw [hln]
   refine key _ (by rw [chL_len];exact hln) λi hi=>?_
   rw [gx_ch hln]
   by_cases e:i=(frG s hd.n).toNat
   ·rw [if_pos ⟨hb,e⟩,if_pos ⟨hc,e⟩]
    refine ⟨?_,rfl,rfl,rfl⟩
    have:=h.l.li i hi
    show (if (1:Int)<0-(gx s.L i).li then (0:Int) else (gx s.L i).li+1)=_
    rw [if_neg (by omega)]
   ·rw [if_neg (λe1=>e e1.2),if_neg (λe1=>e e1.2)]
    exact ⟨(Int.add_zero _).symm,rfl,rfl,rfl⟩
  ·show frOk n (chL (frG s hd.n) s.L.length (cB 1) s.L) i (fat s i)
   rw [hln]
   exact (h.fo i hi).ch1 (φ:=cB 1) hln (λ_=>rfl) (λ_=>rfl)
 ·rw [if_neg hc]
  refine ⟨h.pi,P.I.ok,key s.L hln λi hi=>?_,h.fl,h.fo,h.ep,h.op,h.ct⟩
  rw [if_neg (λe=>hc e.1)]
  exact ⟨(Int.add_zero _).symm,rfl,rfl,rfl⟩
theorem lnd1_f (s:SD) (hd:Hd) (at_:Int×Int):(lnd1 s hd at_).C=s.C/\(lnd1 s hd at_).X=lndX s hd at_/\(lnd1 s hd at_).O=s.O/\(lnd1 s hd at_).fr=s.fr/\(lnd1 s hd at_).ep=s.ep/\(lnd1 s hd at_).op=s.op/\(lnd1 s hd at_).ct=s.ct/\(lnd1 s hd at_).ro=s.ro:=by
 unfold lnd1
 split <;> exact ⟨rfl,rfl,rfl,rfl,rfl,rfl,rfl,rfl⟩
theorem SI.lnd (h:SI g n s) {hd:Hd} {at_:Int×Int} (hA:LanI g n s hd.n at_) (hm:mayP s hd) (hr:hd.rng) (hn:0<=hd.n/\hd.n<4) :
  SI g n (lndP s hd at_)/\(lndP s hd at_).C=s.C/\(lndP s hd at_).X=lndX s hd at_/\(lndP s hd at_).O=s.O/\(lndP s hd at_).fr=s.fr/\(lndP s hd at_).ep=s.ep/\(lndP s hd at_).op=s.op/\(lndP s hd at_).ct=s.ct/\(lndP s hd at_).ro=s.ro:=by
 obtain ⟨h2,b1,b2,b3,b4,b5,b6,b7,b8⟩:=SP.dead _ (h.lnd0 hA hm hr hn)
 obtain ⟨e1,e2,e3,e4,e5,e6,e7,e8⟩:=lnd1_f s hd at_
 exact ⟨h2,b1.trans e1,b3.trans e2,b2.trans e3,b4.trans e4,b5.trans e5,b6.trans e6,b7.trans e7,b8.trans e8⟩
theorem may_sz {hd:Hd} (e:∀ ns,(getX t.X ns).n=(getX s.X ns).n):mayP t hd↔mayP s hd:=by unfold mayP;rw [e]
theorem may_ns {hd:Hd} (h:mayP s hd):0<=hd.n/\hd.n<4:=by
 refine Classical.byContradiction λe=>?_
 have h1:=h.2.1
 have h2:=h.2.2.1
 unfold getX at h2
 rw [if_neg e] at h2
 have h2:hd.c<=((0:Nat):Int):=h2
 omega
theorem SI.put (h:SI g n s) {hd:Hd} {xs tg:List Int} (hr:hd.rng) (bx:Byt xs) (bt:Byt tg) (ho:s.C.ops+55051264<=1000000000000):St g n 55051264 s (putS s hd xs tg).1:=by
 unfold putS
 by_cases hm:mayP s hd
 case neg=>rw [if_pos hm];exact (St.refl h).up (by omega)
 rw [if_neg (λk=>k hm)]
 split
 ·exact (St.refl h).up (by omega)
 have hn:=may_ns hm
 have hwc:=wC256
 obtain ⟨a1,a2⟩:=SI.wr hn hr bx bt (xs:=xs) (tg:=tg) 256 h (by omega)
 dsimp only
 split
 ·exact a1.up (by omega)
 ·rename_i he
  have he:(wrP hd.n hd xs tg 256 s).2.2=0:=Classical.byContradiction he
  have hm2:mayP (wrP hd.n hd xs tg 256 s).1 hd:=(may_sz a1.sz).2 hm
  obtain ⟨b0,b1,b2,b3,b4,b5,b6,b7,b8⟩:=a1.i.lnd (a2 he) hm2 hr hn
  have P:=a1.i.pux hm2 hr hn (wrP hd.n hd xs tg 256 s).2.1
  dsimp only
  exact ⟨b0,by rw [b1];exact a1.o1,by rw [b1];have:=a1.o2;omega,λns=>by rw [b2];exact (P.sz ns).trans (a1.sz ns),b5.trans a1.ep,b7.trans a1.ct⟩
theorem SI.nxt (h:SI g n s) (hd:Hd):St g n 0 {s with ct:=s.ct} s/\SI g n (nxtS s hd).1:=⟨.refl h,⟨h.pi,h.xo,h.l,h.fl,h.fo,h.ep,h.op,u64w_R _⟩⟩
theorem SI.emt (h:SI g n s) {b:Int} (ho:s.C.ops+215040<=1000000000000):St g n 215040 s (emtS s b).1/\((emtS s b).2=0->0<=b/\b<(n:Int)->(gx (emtS s b).1.L b.toNat).he=false):=by
 unfold emtS
 rw [h.ln]
 by_cases hb:0<=b/\b<(n:Int)
 case neg=>rw [if_pos hb];exact ⟨(St.refl h).up (by omega),λ_ e=>absurd e hb⟩
 rw [if_neg (λk=>k hb)]
 dsimp only
 by_cases hx:(gx s.L b.toNat).he=false\/(gx s.L b.toNat).ow<0\/4<=(gx s.L b.toNat).ow
 ·rw [if_pos hx]
  refine ⟨(St.refl h).up (by omega),λ_ _=>?_⟩
  rcases hx with e | e
  ·exact e
  ·refine Bool.eq_false_iff.2 λe2=>?_
   have:=h.l.ho _ (by omega) e2
   omega
 rw [if_neg hx]
 by_cases hc:0<(gx s.L b.toNat).li/\s.ro=true
 ·rw [if_pos hc]
  exact ⟨(St.refl h).up (by omega),λe=>by cases e⟩
 rw [if_neg hc]
 obtain ⟨a1,a2⟩:=h.emp (b:=b) (ns:=(gx s.L b.toNat).ow) (by omega) hb.2 (λ_=>rfl) ho
 exact ⟨a1,λe hb=>a2 e hb.1⟩
end
end Go.Proofs.YtbaojfchlhlaeaaGreat.Vc
