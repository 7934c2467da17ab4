/- The law ScanBlocks of layer 23: the call gives true, and what it read stays. -/
import Derived.Test.YtcekmdehjnlkpaaGreatZScanBlocksf
set_option linter.unusedVariables false
set_option linter.unusedSimpArgs false
namespace Go.Proofs.YtcekmdehjnlkpaaGreat.Vc
open Go Go.Eng Go.RowKit
section
variable {w:World} {g:Geo} {z:Sl4} {bad bl ls:Int} {L:SlP TPg.T}
theorem cells_mid {w:World} {p:Addr} {vs:List Value} (hc:CellsAt w p vs) (k m:Nat):CellsAt w (p.add k) ((vs.drop k).take m):=λj v hj=>by
 have h1:(vs.drop k)[j]? = some v:=by
  rw [List.getElem?_take] at hj
  split at hj
  ·exact hj
  ·cases hj
 rw [List.getElem?_drop] at h1
 have:=hc (k+j) v h1
 rw [Addr.add_add]
 exact this
theorem Block23s_c {a:Option Addr} {n c:Nat} (hR:Right g) (hn:(n:Int)<g.p):CallV Tryz.prog 7 #[g.val,.int .i64 bl,.slice a n c] w [.agg [.bool,.int .i64,.int .i64,.int .i64,.int .i64,.int .i64,.int .u32,.int .u64,.int .u64,.sl]] λr w'=>
  r.1=tbT Tb0 ⟨none,0,0⟩/\Ext w w':=by
 apply scan_Block.vc
 unfold scan_Block.P
 have S:=Sep.start NoB w
 refine S.newB λb1 w1 S f1 _=>?_
 refine S.newB λb3 w3 S f3 _=>?_
 refine S.newB λb5 w5 S f5 _=>?_
 refine S.newB λb7 w7 S f7 _=>?_
 refine S.la3 rfl ?_
 refine (Check_c (g:=g)).mono ?_
 rintro ⟨(r:Int),⟨⟩⟩ w8 ⟨h8,x8⟩
 dsimp only at h8 ⊢
 have S:=S.stepE x8
 refine cond_f (by rw [h8];unfold chkE;rw [if_pos hR];rfl) ?_
 refine S.ld1 rfl rfl (S.ld3 (j:=1) rfl rfl (cond_t (decide_eq_true hn) ?_))
 exact S.st0 (by rfl) λw9 S f9=>S.la0 rfl ⟨rfl,S.ext⟩
theorem ScanBlocks_law (hL:LPg.rd w All L) (hbl:Rng .i64 bl) (hls:Rng .i64 ls) :
  CallV Tryz.prog 3 #[.agg (csL g ⟨L.a,L.n,L.c⟩ z bad).toArray,.int .i64 bl,.int .i64 ls] w [.one .bool] λr w'=>r.1=true/\Ext w w':=by
 apply law23_ScanBlocks.vc
 unfold law23_ScanBlocks.P
 have S:=Sep.start NoB w
 refine S.newB (vs:=csL g ⟨L.a,L.n,L.c⟩ z bad) λb1 w1 S f1 _=>?_
 refine S.la0 rfl ?_
 refine (light23_c (g:=g) (P:=⟨L.a,L.n,L.c⟩) (z:=z) (bad:=bad)).mono ?_
 rintro ⟨(r:Bool),⟨⟩⟩ w2 ⟨h2,x2⟩
 dsimp only at h2 ⊢
 have S:=S.stepE x2
 have awk:∀ {w':World},Ext w w'->CallV Tryz.prog 8 #[] w' [.one .bool] λ(r:Bool×Unit) w''=>r.1=true/\Ext w w'':=λe=>awake23_c.mono λr w'' h=>⟨h.1,e.trans h.2⟩
 by_cases hl:lg23 g L.n z
 case neg=>
  refine cond_t (by rw [h2,decide_eq_false hl];rfl) (S.lb0 (o:=0) rfl ?_)
  refine (Block23_c (g:=g) (bl:=bl) (x:=⟨none,0,0,[]⟩) ⟨rfl,Nat.le_refl _,Nat.zero_le _,.inl ⟨rfl,rfl⟩,λy hy=>(List.not_mem_nil hy).elim⟩ hbl).mono ?_
  rintro ⟨_,⟨⟩⟩ w3 ⟨y,h3,S3⟩
  have hT:tdA g bl (pg23 ⟨none,0,0,[]⟩) 0=Tb0:=by unfold tdA;rw [if_neg λk=>by have h0:=k.1;have:=k.2;unfold Right Kept at h0;omega]
  rw [hT] at h3 S3
  dsimp only at h3
  subst h3
  have hy:y.n=0:=((S3.own 0 rfl).lenF Spv_len (by decide)).symm
  have S:=S.frame0 S3
  refine S.newB λb9 w4 S f4 _=>S.st0 (by rfl) λw5 S f5=>S.ld0 (j:=0) rfl rfl (cond_t rfl (S.ld0 (j:=9) rfl rfl (cond_t (by show (((y.n:Nat):Int) == 0)=true;rw [hy];rfl) (awk S.ext))))
 refine cond_f (by rw [h2,decide_eq_true hl];rfl) ?_
 obtain ⟨⟨hR,l1,l2,l3,l4⟩,-⟩:=hl
 refine S.la0 rfl ?_
 refine (array23_c (g:=g) (z:=z) (bad:=bad) (o:=0) (L:=L) hR ⟨by omega,l2,l3⟩ (by omega) (Ty.rd_ext S.ext _ hL)).mono ?_
 rintro ⟨_,rv,⟨⟩⟩ w3 ⟨p,B,h3,h4,hdb,S3⟩
 dsimp only at h3 h4
 subst h3
 subst h4
 have hC0:COk (newC g []):=newC_ok hR ⟨by omega,l2,l3⟩ λf hf=>(List.not_mem_nil hf).elim
 obtain ⟨hC,-,hgC,hpl⟩:=arr23_ok (o:=0) hC0 (L:=L.l) (λz hz=>pg_rng (hL.2.2.2.2 z hz)) L.n (by show 0+2*L.n<=_;omega)
 generalize arr23 (newC g []) L.l 0 L.n=C at S3 hdb hC hgC hpl
 have hgC:C.g=g:=hgC
 have S:=S.frame0 S3
 refine S.newB (vs:=zCH) λb19 w4 S f4 _=>S.st0 (by rfl) λw5 S f5=>?_
 refine cond_d (λ_=>awk S.ext) (λhb0=>S.ld3 (j:=0) rfl rfl (cond_d (λ_=>awk S.ext) (λ(hb1:¬ bl≥g.b)=>?_)))
 have hRR:RefR All w5 B nilF C:=by
  obtain ⟨F1,h1,-⟩:=S.get (i:=1) rfl
  exact ⟨(Ty.sl TBd).rd_mono (λ_ _ _=>trivial) h1,hdb,⟨rfl,Nat.le_refl _,Nat.zero_le _,.inl ⟨rfl,rfl⟩,λy hy=>(List.not_mem_nil hy).elim⟩,hpl.symm⟩
 have hBn:(B.n:Int)=g.b:=by rw [hRR.len,hC.bl,hgC];omega
 obtain ⟨q,x,hq,hc,hxr,-,hbd,hqb⟩:=hRR.nth (i:=bl) (by omega) (by omega)
 refine S.ld0 (j:=6) rfl rfl ⟨⟨by omega,by show bl<(B.n:Int);omega⟩,q,hq,?_⟩
 refine ldp0 hc (h:=.sl) (x:=⟨x.1.a,x.1.n,x.1.c⟩) rfl ?_
 have hP:TBB.rd w5 All x.1:=hxr.1
 have hbk:BOk C.g C.ops (blkC C bl):=hC.bo _ (List.mem_of_getElem? (some_getD (by rw [hC.bl,hgC];omega)))
 have hxl:pg23 x.1=(blkC C bl).pg:=by rw [<-hbd];rfl
 have hxn:(x.1.n:Int)=g.p:=by
  have h1:=hP.1
  have h2:=congrArg List.length hxl
  rw [List.length_map,hbk.pl,hgC] at h2
  have:4<=g.p:=by have h0:=hR;unfold Right Kept at h0;omega
  omega
 refine ⟨λv w'=>v.1=decide (1<=ls/\ls<=(x.1.n:Int))/\TBB.rd w' All x.1/\Sep NoB w w' [BoxA b1 31 (csL g ⟨L.a,L.n,L.c⟩ z bad)],?_,?_⟩
 ·clear S hc hRR
  rintro ⟨(v:Bool),⟨⟩⟩ w6 ⟨hv,hP,S⟩
  dsimp only at hv ⊢
  by_cases hc1:1<=ls/\ls<=(x.1.n:Int)
  ·refine cond_t (hv.trans (decide_eq_true hc1)) ?_
   refine ⟨λv w'=>∃ b:Nat,v.1=some (⟨b,0,none⟩:Addr)/\Sep NoB w w' [BoxA b 38 (tbL false 0 0 Hh0 ⟨none,0,0⟩)],?_,?_⟩
   ·rintro ⟨va,⟨⟩⟩ w7 ⟨b,h1,S⟩
    dsimp only at h1
    subst h1
    refine PtrK.of rfl (S.ld0 (j:=0) rfl rfl (cond_t rfl (PtrK.of rfl ?_)))
    simp only [Addr.add_lit,Nat.zero_add]
    exact S.ld0 (j:=9) rfl rfl (cond_t rfl (awk S.ext))
   ·refine S.reg λD hD hkeep Sd T=>?_
    refine ⟨hD _ S.bl0,Sd.lb0 (o:=0) rfl ⟨⟨by omega,hc1.2⟩,?_⟩⟩
    intro a44 ha44
    have hn:((x.1.n-ls.toNat:Nat):Int)<g.p:=by omega
    refine ⟨?_,?_⟩
    ·refine (Block23s_c hR hn).mono ?_
     rintro ⟨_,⟨⟩⟩ w7 ⟨h7,x7⟩
     dsimp only at h7
     subst h7
     have T:=T.stepE x7
     refine ⟨hkeep _ T.fr,T.newB λb6 w8 T f6 _=>⟨hkeep _ T.fr,T.st0 (by rfl) λw9 T f9=>⟨hkeep _ T.fr,b6,rfl,(Sd.frame0 T).sel [0] rfl⟩⟩⟩
    ·refine T.newB λb6 w8 T f6 _=>⟨hkeep _ T.fr,?_⟩
     refine (Block23s_c hR hn).mono ?_
     rintro ⟨_,⟨⟩⟩ w7 ⟨h7,x7⟩
     dsimp only at h7
     subst h7
     have T:=T.stepE x7
     refine ⟨hkeep _ T.fr,T.st0 (by rfl) λw9 T f9=>⟨hkeep _ T.fr,b6,rfl,(Sd.frame0 T).sel [0] rfl⟩⟩
  refine cond_f (hv.trans (decide_eq_false hc1)) ?_
  have U:=Sep.start NoB w6
  refine S.lb0 (o:=0) rfl ?_
  refine (Block23_c (g:=g) (bl:=bl) hP hbl).mono ?_
  have hT:tdA g bl (pg23 x.1) x.1.n=tdB g bl (pg23 x.1):=by unfold tdA;rw [if_pos ⟨hR,by omega⟩]
  rw [hT]
  rintro ⟨_,⟨⟩⟩ w7 ⟨y,h7,S7⟩
  dsimp only at h7
  subst h7
  have U:=U.frame0 S7
  refine U.newB λb58 w8 U f8 _=>U.st0 (by rfl) λw9 U f9=>?_
  refine (S.stepE U.ext).lb0 (o:=0) rfl ?_
  refine (rBlock23_c (g:=g) (bl:=bl) hR (by omega) (TBB.rd_ext U.ext hP)).mono ?_
  rintro ⟨_,⟨⟩⟩ w10 ⟨y2,h10,S10⟩
  dsimp only at h10
  subst h10
  have U:=U.frame0 S10
  refine U.newB λb64 w11 U f11 _=>U.st0 (by rfl) λw12 U f12=>?_
  generalize tdB g bl (pg23 x.1)=T at U
  have hl1:T.sp.length=y.n:=(U.own 3 rfl).lenF Spv_len (by decide)
  have hl2:T.sp.length=y2.n:=(U.own 1 rfl).lenF Spv_len (by decide)
  have hlim:=(U.own 3 rfl).lim
  refine U.ld2 (j:=0) rfl rfl (U.ld0 (j:=0) rfl rfl (cond_f (by simp) ?_))
  refine U.ld2 (j:=1) rfl rfl (U.ld0 (j:=1) rfl rfl (cond_f (by simp) ?_))
  refine U.ld2 (j:=2) rfl rfl (U.ld0 (j:=2) rfl rfl (cond_f (by simp) ?_))
  refine U.lb2 (o:=3) rfl (U.lb0 (o:=3) rfl ?_)
  refine eqHd (g:=⟨T.od.k,T.od.n,T.od.c,T.od.l,T.od.e,T.od.t⟩) (h:=⟨T.od.k,T.od.n,T.od.c,T.od.l,T.od.e,T.od.t⟩) (cond_f (by simp) ?_)
  refine U.ld2 (j:=9) rfl rfl (U.ld0 (j:=9) rfl rfl (cond_f (by show (((y.n:Nat):Int) != ((y2.n:Nat):Int))=false;rw [<-hl1,<- hl2];simp) ?_))
  refine Loop1 (λ(v:Int×Unit) w'=>∃ i:Nat,v.1=(i:Int)/\i<=y.n/\Sep NoB w6 w' [BoxA b64 54 (tbL T.kn T.ns T.er T.od y2),outR y2.a y2.n y2.c T.sp,BoxA b58 38 (tbL T.kn T.ns T.er T.od y),outS y.a y.n y.c T.sp])
   (λ(v:Int×Unit) _=>((y.n:Int)-v.1).toNat) ⟨0,rfl,by omega,U⟩ ?_
  have X6:Ext w w6:=S.ext
  clear U
  rintro ⟨(v2:Int),⟨⟩⟩ w13 ⟨i,hv2,hi,U⟩
  dsimp only at hv2 ⊢
  subst hv2
  refine U.ld2 (j:=9) rfl rfl (cond_d (λ(hlt:(i:Int)<(y.n:Int))=>?_) (λ(hge:¬ (i:Int)<(y.n:Int))=>awk (X6.trans U.ext)))
  obtain ⟨q1,s1,hq1,hk1,hc1,hb1'⟩:=(U.own 3 rfl).nthF Spv_len (by decide) (j:=(i:Int)) (by omega) hlt
  obtain ⟨q2,s2,hq2,hk2,hc2,hb2'⟩:=(U.own 1 rfl).nthF Spv_len (by decide) (j:=(i:Int)) (by omega) (by omega)
  rw [hk1] at hk2
  cases hk2
  have d1:=(Ext.drew w13).cells hc1
  have d2:=(Ext.drew w13).cells hc2
  refine U.reg λD hD hkeep Ud T=>?_
  refine ⟨hD _ U.bl2,Ud.ld2 (j:=9) rfl rfl ⟨⟨by omega,hlt⟩,q1,hq1,by rw [add_block];exact hD _ hb1',(s1.b,s1.p,()),cells_mid d1 0 2,?_⟩⟩
  refine ⟨hD _ U.bl2,Ud.ld2 (j:=9) rfl rfl ⟨⟨by omega,hlt⟩,q1,hq1,by rw [add_block,add_block];exact hD _ hb1',(s1.h.k,s1.h.n,s1.h.c,s1.h.l,s1.h.e,s1.h.t,()),cells_mid d1 2 6,?_⟩⟩
  refine ⟨hD _ U.bl2,Ud.ld2 (j:=9) rfl rfl ⟨⟨by omega,hlt⟩,q1,hq1,by rw [add_block,add_block];exact hD _ hb1',(s1.o.k,s1.o.n,s1.o.c,s1.o.l,s1.o.e,s1.o.t,()),cells_mid d1 8 6,?_⟩⟩
  refine ⟨hD _ U.bl0,Ud.ld0 (j:=9) rfl rfl ⟨⟨by omega,by show (i:Int)<(y2.n:Int);omega⟩,q2,hq2,by rw [add_block];exact hD _ hb2',s1.tup,d2,?_⟩⟩
  refine eqRp (a:=s1) (b:=s1) (cond_f (by simp) ⟨Rng.i64 (by omega) (by omega),⟨i+1,by push_cast;rfl,by omega,Ud⟩,by show ((y.n:Int)-((i:Int)+1)).toNat<((y.n:Int)-(i:Int)).toNat;omega⟩)
 ·have S:=S.sel [3] rfl
  refine cond_d (λh1=>⟨decide_eq_decide.2 ⟨λh=>⟨h1,h⟩,λh=>h.2⟩,hP,S⟩) (λh1=>⟨(decide_eq_false λh=>h1 h.1).symm,hP,S⟩)
end
abbrev TSl23:Ty:=.cons .bool (.cons (.int .i64) (.cons (.int .u64) (.cons (.int .u64) (.cons (.sl (.int .u8)) .nil))))
abbrev TCs23:Ty:=.cons (.cons (.int .i64) (.cons (.int .i64) (.cons (.int .i64) (.cons (.int .i64) (.cons (.int .i64) (.cons (.int .i64) .nil)))))) (.cons LPg (.cons (.cons TSl23 (.cons TSl23 (.cons TSl23 (.cons TSl23 .nil)))) (.cons (.int .u64) .nil)))
theorem ScanBlocks_of {w:World} {x:TCs23.T} {bl ls:Int} (g0:TCs23.ok w x) (g1:Rng .i64 bl) (g2:Rng .i64 ls) :
  CallV Tryz.prog 3 #[.agg (TCs23.vs x).toArray,.int .i64 bl,.int .i64 ls] w [.one .bool] λr w'=>r.1=true/\Ext w w':=by
 obtain ⟨⟨b,p,s,sp,wr,ro,⟨⟩⟩,l,⟨⟨u0,z0,e0,c0,y0,⟨⟩⟩,⟨u1,z1,e1,c1,y1,⟨⟩⟩,⟨u2,z2,e2,c2,y2,⟨⟩⟩,⟨u3,z3,e3,c3,y3,⟨⟩⟩,⟨⟩⟩,bad,⟨⟩⟩:=x
 exact ScanBlocks_law (g:=⟨b,p,s,sp,wr,ro⟩) (L:=l) (z:=⟨⟨u0,z0,e0,c0,⟨y0.a,y0.n,y0.c⟩⟩,⟨u1,z1,e1,c1,⟨y1.a,y1.n,y1.c⟩⟩,⟨u2,z2,e2,c2,⟨y2.a,y2.n,y2.c⟩⟩,⟨u3,z3,e3,c3,⟨y3.a,y3.n,y3.c⟩⟩⟩) (bad:=bad) (LPg.rd_of g0.2.1) g1 g2
end Go.Proofs.YtcekmdehjnlkpaaGreat.Vc
