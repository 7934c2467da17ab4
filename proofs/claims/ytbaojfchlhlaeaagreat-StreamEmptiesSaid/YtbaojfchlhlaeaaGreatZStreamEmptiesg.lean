/- Texts in one: The contracts of layer 25 (stream): destroyed, copied, moved, spoilt, emptied. The contracts of layer 25 (stream): moved, spoilt, emptied, room made, a front that failed. The contracts of layer 25 (stream): room made, a front that failed, a page written. The contracts of layer 25 (stream): a page written to a namespace's front; places that are live no more; a page put. The contracts of layer 25 (stream): places that are live no more; a page put; a block emptied from outside. Plain laws of layer 25 (stream): a new stream; a namespace forgotten: what is kept. The contracts of layer 22 (pagemap): does the program answer. The contracts of layer 25 (stream): a new stream, a namespace more, a namespace forgotten. What any parameter of a law is known to be, with the sizes of what it holds: structs, arrays and slices of whole numbers, texts, and of each other. What the laws of layer 13 share. The plans of functions as plain statements, printed by wip/tools/vcgen.py; the kernel holds each to the code. The contracts of the laws of layer 25: payloads, a new stream on an array, a step put. Plain laws of layer 25 (stream): a new stream takes a page. The law StreamNil of layer 25: each call gives true, and what it read stays. The contracts of layer 11 (geometry): do namespaces fit, and how much room is left. Steps of the laws of layers 25 and 27, as data. The plans of functions as plain statements, printed by wip/tools/vcgen.py; the kernel holds each to the code. The law HeadMarks of layer 14: each call gives true, and what it read stays. The law PageBack of layer 15: each call gives true, and what it read stays. Plain laws of layer 13: what a trace tells of programs. Plain laws of layer 13: what only clears. Plain laws of layer 24 (pool): what a block has that was destroyed, or opened. Plain laws of layer 25 (stream): without crashes, what of a block is programmed; what may fail. Plain laws of layer 25 (stream): without crashes, a block that is begun, opened, copied to, sealed: what may fail. Plain laws of layer 25 (stream): without crashes, a block that is opened; live places copied, a block sealed; a page written. Plain laws of layer 25 (stream): without crashes, what each operation answers; how many blocks are bad, or held. Plain laws of layer 25 (stream): without crashes, live places copied to a block that was begun, and the block sealed, or spoilt. Plain laws of layer 25 (stream): without crashes, live places copied, and a block sealed. Plain laws of layer 25 (stream): without crashes, a block that was begun and failed; what live pages have; places moved. -/
import Derived.Test.YtbaojfchlhlaeaaGreatZStreamEmptiesf
set_option linter.unusedVariables false
set_option linter.unusedSimpArgs false
namespace Go.Proofs.YtbaojfchlhlaeaaGreat.Vc
open Go Go.Eng Go.RowKit
section
variable {E:Nat->Prop} {w0 w:World} {Rs:List Asr} {sp pp pm p q n:Nat} {g:Geo} {s:SD}
theorem SI.us9 (h:SI g n s):∀ x∈s.L,0<=x.us/\x.us<=1000000000:=λx hx=>by
 obtain ⟨i,hi,rfl⟩:=mem_gx hx
 have:=h.l.us i (by have:=h.ln;omega)
 have:=h.no
 omega
theorem SI.li9 (h:SI g n s):∀ x∈s.L,0<=x.li/\x.li<=1000000000:=λx hx=>by
 obtain ⟨i,hi,rfl⟩:=mem_gx hx
 rw [h.l.li i (by have:=h.ln;omega)]
 have:=l32 h.l (4+(i:Int))
 omega
theorem Destroy25_c {b:Int} (h:SI g n s) (hh:0<=b/\b<(n:Int)->(gx s.L b.toNat).he=false) (ho:s.C.ops+2<=1000000000000) (S:Sep E w0 w (stS sp pp pm p q g s Rs)) :
  CallV Tryz.prog 47 #[.pointer (some ⟨sp,0,none⟩),.int .i64 b] w [.one (.int .i64)] λr w'=>r.1=(dstS s b).2/\Sep E w0 w' (stS sp pp pm p q g (dstS s b).1 Rs):=by
 apply stream_Stream_Destroy.vc
 unfold stream_Stream_Destroy.P
 refine (has25_c (b:=b) h S).mono ?_
 rintro ⟨r,⟨⟩⟩ w1 ⟨h1,rfl⟩
 dsimp only at h1 ⊢
 subst h1
 have hln:=h.ln
 unfold dstS
 by_cases hb:0<=b/\b<(n:Int)
 case neg=>
  rw [if_neg (by rw [hln];exact hb)]
  exact cond_t (by rw [decide_eq_false (by rw [hln];exact hb)];rfl) ⟨rfl,S⟩
 rw [if_pos (by rw [hln];exact hb)]
 refine cond_f (by rw [decide_eq_true (by rw [hln];exact hb)];rfl) ?_
 refine S.ld0 (j:=0) rfl rfl ?_
 obtain ⟨y,S⟩:=polE_out (S.fro [2,2,2] rfl)
 refine (Destroy24_c (b:=b) h.pi ho S).mono ?_
 rintro ⟨r,⟨⟩⟩ w2 ⟨h2,S⟩
 dsimp only at h2 ⊢
 rw [show dsC n s.C s.L b=dstP s.C s.L b from if_pos hb] at h2 S
 subst h2
 have S:Sep E w0 w2 (stS sp pp pm p q g {s with C:=(dstP s.C s.L b).1,L:=(dstP s.C s.L b).2.1} Rs):=(polE_in S).fro [3,3] rfl
 refine (over25_c (h.dst0 hb (hh hb) ho).i S).mono ?_
 rintro ⟨r,⟨⟩⟩ w3 ⟨-,S⟩
 exact ⟨rfl,S⟩
theorem Order_p {b:Int} (S:Sep E w0 w (stS sp pp pm p q g s Rs)):CallV Tryz.prog 119 #[.pointer (some ⟨pp,0,none⟩),.int .i64 b] w [.agg [.int .i64,.int .i64,.int .i64,.int .u32,.int .u64,.int .u64]] λr w'=>r.1=(ordO s.O b).tup/\Ext w w':=by
 obtain ⟨y,S⟩:=polE_out (S.fro [2,2,2] rfl)
 exact Order24_c (b:=b) S
theorem outS_n {a:Option Addr} {nn c:Nat} {Os:List Sp} (S:Sep E w0 w (outS a nn c Os::Rs)):Os.length=nn:=(S.own 0 rfl).lenF Spv_len (by decide)
theorem copied25_c {to:Int} {Os:List Sp} {a:Option Addr} {nn c:Nat} (h:SI g n s) (ht:0<=to/\to<(n:Int)) (hu:(gx s.L to.toNat).us+(Os.length:Int)<=g.p-1) (ho:s.C.ops+(2*Os.length+1)<=1000000000000) (S:Sep E w0 w (outS a nn c Os::stS sp pp pm p q g s Rs)) :
  CallV Tryz.prog 177 #[.pointer (some ⟨sp,0,none⟩),.int .i64 to,.slice a nn c] w [.one (.int .i64)] λr w'=>r.1=(copP to (Os.map Sp.pk) 1 s).2/\Sep E w0 w' (outS a nn c Os::stS sp pp pm p q g (copP to (Os.map Sp.pk) 1 s).1 Rs):=by
 apply stream_Stream_copied.vc
 unfold stream_Stream_copied.P
 have hnn:=outS_n S
 have hno:=h.no
 have hus:=(h.l.us to.toNat (by omega)).1
 refine Loop1 (λ(v:Int×Unit) w'=>∃ (i:Nat) (t:SD),v.1=(i:Int)/\i<=Os.length/\copP to ((Os.map Sp.pk).drop i) ((i:Int)+1) t=copP to (Os.map Sp.pk) 1 s/\SI g n t/\(gx t.L to.toNat).us+((Os.length:Int)-i)<=g.p-1/\t.C.ops+(2*(Os.length-i)+1)<=1000000000000/\Sep E w0 w' (outS a nn c Os::stS sp pp pm p q g t Rs)) (λ(v:Int×Unit) _=>((nn:Int)-v.1).toNat)
  ⟨0,s,rfl,Nat.zero_le _,by rw [List.drop_zero];rfl,h,by omega,by omega,S⟩ ?_
 clear S
 rintro ⟨(v:Int),⟨⟩⟩ w1 ⟨i,t,hv,hi,hX,h1,hu1,ho1,S⟩
 dsimp only at hv
 subst hv
 refine cond_d (λhlt=>?_) (λhge=>?_)
 case refine_2=>
  have hie:i=Os.length:=by omega
  subst hie
  rw [List.drop_of_length_le (by rw [List.length_map];exact Nat.le_refl _)] at hX
  rw [<-hX]
  refine S.ld1 (j:=0) rfl rfl ?_
  obtain ⟨y,S⟩:=polE_out (S.fro [3,3,3] rfl)
  refine (Seal24_c (b:=to) h1.pi (by omega) S).mono ?_
  rintro ⟨r,⟨⟩⟩ w2 ⟨h2,S⟩
  dsimp only at h2 ⊢
  show r=(slC t.L.length t.C to).2/\_
  rw [h1.ln]
  refine ⟨h2,?_⟩
  have S:Sep E w0 w2 (outS a nn c Os::stS sp pp pm p q g {t with C:=(slC n t.C to).1} Rs):=(polE_in S).fro [3,3,3] rfl
  show Sep E w0 w2 (outS a nn c Os::stS sp pp pm p q g {t with C:=(slC t.L.length t.C to).1} Rs)
  rw [h1.ln]
  exact S
 obtain ⟨qa,x,hq,hx,hc⟩:=S.nthF (f:=Sp.vs) (m:=14) 0 rfl Spv_len (by decide) (j:=(i:Int)) (by omega) hlt
 rw [Int.toNat_natCast] at hx
 refine ⟨⟨by omega,hlt⟩,qa,hq,x.tup,hc,?_⟩
 refine S.newB λb6 w2 S f2 _=>S.st0 (by rfl) λw3 S f3=>?_
 have S:Sep E w0 w3 (stS sp pp pm p q g t (BoxA b6 _ x.vs::outS a nn c Os::Rs)):=S.fro [2,2,2,2,2] rfl
 refine ldg S ((Use_e h1.us9 (S.fro [3] rfl)).mono ?_)
 rintro ⟨r,⟨⟩⟩ w4 ⟨-,S⟩
 have S:=S.fro [1,1,1] rfl
 have hi2:i<Os.length:=by omega
 have hrg:Rng .i64 ((i:Int)+1):=Rng.i64 (by omega) (by omega)
 have S:Sep E w0 w4 ([polE pp p q g t.O,ledE q (chL to t.L.length uB t.L),chipE p t.C]++(boxSt sp pp pm g t::mapE pm t.X::BoxA b6 _ x.vs::outS a nn c Os::Rs)):=S.fro [2,2,2] rfl
 refine Sep.regC [polE pp p q g t.O,ledE q (chL to t.L.length uB t.L),chipE p t.C] S λG D hG T S hDt hDo hkeep back=>?_
 refine ⟨hDt 0 _ _ _ rfl,S.ld3 (j:=0) rfl rfl ⟨hrg,hDt 2 _ _ _ rfl,S.lb5 (o:=0) rfl ?_⟩⟩
 obtain ⟨y,T⟩:=polE_out T
 have hu2:=h1.ch1 to (φ:=uB) (λ_=>rfl) (λ_=>rfl) (λ_=>rfl) (h1.l.u to λ_=>by omega)
 refine (Copy24_c (b:=to) (pa:=(i:Int)+1) (fb:=x.b) (fp:=x.p) hu2.i.pi (by show t.C.ops+2<=_;omega) T).mono ?_
 rintro ⟨r,⟨⟩⟩ w5 ⟨h5,T⟩
 dsimp only at h5 ⊢
 refine ⟨hkeep _ T.fr,?_⟩
 have S:Sep E w0 w5 (outS a nn c Os::stS sp pp pm p q g (cpyS t to ((i:Int)+1) x.pk).1 Rs):=by
  have S:=((back _ _ (polE_in T)).fro [5,5,3,3] rfl).tail
  show Sep E w0 w5 (outS a nn c Os::boxSt sp pp pm g t::mapE pm t.X::polE pp p q g t.O::ledE q (chL to t.L.length uB t.L)::chipE p (cpyC t.L.length t.C to ((i:Int)+1) x.b x.p).1::Rs)
  rw [show cpyC t.L.length t.C to ((i:Int)+1) x.b x.p=cpyC n t.C to ((i:Int)+1) x.b x.p by rw [h1.ln]]
  exact S
 have hd:(Os.map Sp.pk).drop i=x.pk::(Os.map Sp.pk).drop (i+1):=by
  rw [List.drop_eq_getElem_cons (by rw [List.length_map];exact hi2)]
  congr 1
  rw [List.getElem_map]
  rw [List.getElem?_eq_getElem hi2] at hx
  rw [Option.some.inj hx]
 have hr5:r=(cpyS t to ((i:Int)+1) x.pk).2:=by
  show r=(cpyC t.L.length t.C to ((i:Int)+1) x.b x.p).2
  rw [h1.ln];exact h5
 rw [hd] at hX
 have hX:(if (cpyS t to ((i:Int)+1) x.pk).2≠0 then cpyS t to ((i:Int)+1) x.pk else copP to ((Os.map Sp.pk).drop (i+1)) ((i:Int)+1+1) (cpyS t to ((i:Int)+1) x.pk).1)=copP to (Os.map Sp.pk) 1 s:=hX
 subst hr5
 refine cond_ne (λhne=>?_) (λhe=>?_)
 ·rw [if_pos hne] at hX
  rw [<-hX]
  exact ⟨rfl,S⟩
 ·rw [if_neg (λk=>k he)] at hX
  have h6:=h1.cpy (to:=to) (pa:=(i:Int)+1) (k:=x.pk) (λ_=>by omega) (by omega)
  have gt:gx (cpyS t to ((i:Int)+1) x.pk).1.L to.toNat=uB (gx t.L to.toNat):=by
   show gx (chL to t.L.length uB t.L) to.toNat=_
   rw [gx_ch rfl,if_pos ⟨by rw [h1.ln];exact ht,rfl⟩]
  have o6:=h6.o2
  exact ⟨hrg,⟨i+1,_,by push_cast;rfl,by omega,by push_cast;exact hX,h6.i,by rw [gt];show (gx t.L to.toNat).us+1+_<=_;push_cast;omega,by omega,S⟩,by omega⟩
end
theorem so_eq {L M:List (Int×Int)} (h1:L.Pairwise plL) (h2:M.Pairwise plL) (h:∀ k,k∈L↔k∈M):L=M:=by
 have hp:L.Perm M:=(List.perm_ext_iff_of_nodup (so_nd h1) (so_nd h2)).2 h
 refine List.Perm.eq_of_pairwise (le:=plL) (λa b _ _ h1 h2=>?_) h1 h2 hp
 unfold plL at h1 h2
 omega
section
variable {E:Nat->Prop} {w0 w:World} {Rs:List Asr} {sp pp pm p q n:Nat} {g:Geo} {s:SD}
theorem SI.bd (h:SI g n s):∀ (ns:Int) (j:Nat) (c:Ce),(0<=ns/\ns<4)->(getX s.X ns).l[j]? = some c->c.has=true->Bd c.s.pk:=λns j c hn hj hc=>by
 have h1:(4<=c.s.b/\c.s.b<4+(n:Int))/\(1<=c.s.p/\c.s.p<g.p):=h.l.xb c.pl (cntX_pos h.xo.four hn hj hc)
 have:=h.no
 unfold Bd
 show -1000<c.s.b/\c.s.b<1000/\-1000<c.s.p/\c.s.p<1000
 omega
theorem In_m {bl:Int} (h:SI g n s) (S:Sep E w0 w (mapE pm s.X::Rs)):CallV Tryz.prog 53 #[.pointer (some ⟨pm,0,none⟩),.int .i64 bl] w [.one .sl] λr w'=>∃ Os:List Sp,Os.map Sp.pk=inP s.X bl/\Sep E w0 w' (outS r.1.a r.1.n r.1.c Os::mapE pm s.X::Rs):=by
 obtain ⟨r,S⟩:=mapE_out S
 refine Sep.call [boxP pm r s.X,MapF r (cntX s.X),ownsA s.X] S (λG SG=>In22_c (blk:=bl) h.xo h.bd SG) λG fr rr w' hr=>?_
 obtain ⟨Os,hI,-,S'⟩:=hr
 refine ⟨Os,so_eq (List.pairwise_map.2 hI.so) (inP_so _ _) λk=>?_,((mapE_in (((fr _ _ S').fro [1,1,1] rfl))).fro [1] rfl)⟩
 rw [inP_mem]
 constructor
 ·intro hk
  obtain ⟨x,hx,rfl⟩:=List.mem_map.1 hk
  have h1:=hI.ok x hx
  have:=h.l.xb _ h1.2
  have:=h.no
  exact ⟨h1.1,by omega,h1.2⟩
 ·rintro ⟨h1,-,h2⟩
  obtain ⟨ns,j,c,hn,hj,hc,rfl⟩:=cntX_ex h.xo.four h2
  exact hI.all c (List.mem_flatMap.2 ⟨_,List.mem_of_getElem? (getX_at h.xo.four hn),List.mem_of_getElem? hj⟩) hc h1
theorem moved25_c {b to ns:Int} {Os:List Sp} {a:Option Addr} {nn c:Nat} (h:SI g n s) (hn:0<=ns/\ns<4) (ht:-4<=to/\to<=1000000) (hOl:Os.length<=100) (S:Sep E w0 w (outS a nn c Os::stS sp pp pm p q g s Rs)) :
  CallV Tryz.prog 178 #[.pointer (some ⟨sp,0,none⟩),.int .i64 b,.int .i64 to,.int .i64 ns,.slice a nn c] w [] λr w'=>Sep E w0 w' (outS a nn c Os::stS sp pp pm p q g (movP s b to ns (Os.map Sp.pk)) Rs):=by
 apply stream_Stream_moved.vc
 unfold stream_Stream_moved.P
 simp only [Addr.add_lit,Nat.zero_add]
 have hnn:=outS_n S
 have hno:=h.no
 refine Loop1 (λ(v:Int×Unit) w'=>∃ (i:Nat) (X:List (SlP Ce)),v.1=(i:Int)/\i<=Os.length/\movL to (ordO s.O to).hh ((Os.map Sp.pk).drop i) ((i:Int)+1) X=movL to (ordO s.O to).hh (Os.map Sp.pk) 1 s.X/\XOk X/\Sep E w0 w' (outS a nn c Os::stS sp pp pm p q g {s with X:=X} Rs)) (λ(v:Int×Unit) _=>((nn:Int)-v.1).toNat)
  ⟨0,s.X,rfl,Nat.zero_le _,by rw [List.drop_zero];rfl,h.xo,S⟩ ?_
 clear S
 rintro ⟨(v:Int),⟨⟩⟩ w1 ⟨i,X,hv,hi,hX,hok,S⟩
 dsimp only at hv
 subst hv
 refine cond_d (λhlt=>?_) (λhge=>?_)
 case refine_2=>
  have hie:i=Os.length:=by omega
  subst hie
  rw [List.drop_of_length_le (by rw [List.length_map];exact Nat.le_refl _)] at hX
  have hX:X=movL to (ordO s.O to).hh (Os.map Sp.pk) 1 s.X:=hX
  subst hX
  have S:=S.fro [1,1,1,1,1] rfl
  refine ldg S ((Count_e (L:=s.L) h.li9 (by omega) (S.fro [3] rfl)).mono ?_)
  rintro ⟨r,⟨⟩⟩ w2 ⟨-,S⟩
  have S:Sep E w0 w2 (stS sp pp pm p q g (chS {s with X:=movL to (ordO s.O to).hh (Os.map Sp.pk) 1 s.X} to (cB (nn:Int))) (outS a nn c Os::Rs)):=S.fro [1,1,1] rfl
  refine ldg S ((Release_e (S.fro [3] rfl)).mono ?_)
  rintro ⟨r,⟨⟩⟩ w3 ⟨-,S⟩
  have S:Sep E w0 w3 (stS sp pp pm p q g (chS (chS {s with X:=movL to (ordO s.O to).hh (Os.map Sp.pk) 1 s.X} to (cB (nn:Int))) b rB) (outS a nn c Os::Rs)):=S.fro [1,1,1] rfl
  have e:movP s b to ns (Os.map Sp.pk)=if frG (chS (chS {s with X:=movL to (ordO s.O to).hh (Os.map Sp.pk) 1 s.X} to (cB (nn:Int))) b rB) ns<0 then frS (chS (chS {s with X:=movL to (ordO s.O to).hh (Os.map Sp.pk) 1 s.X} to (cB (nn:Int))) b rB) ns to else chS (chS {s with X:=movL to (ordO s.O to).hh (Os.map Sp.pk) 1 s.X} to (cB (nn:Int))) b rB:=by
   unfold movP
   dsimp only
   rw [List.length_map,hnn]
  rw [e]
  have ht4:(chS (chS {s with X:=movL to (ordO s.O to).hh (Os.map Sp.pk) 1 s.X} to (cB (nn:Int))) b rB).fr.length=4:=h.fl
  generalize chS (chS {s with X:=movL to (ordO s.O to).hh (Os.map Sp.pk) 1 s.X} to (cB (nn:Int))) b rB=t at S ht4 ⊢
  refine ⟨hn,ldFr ht4 hn S (cond_d (λhlt=>⟨hn,suFr ht4 hn S λw4 S f=>?_⟩) (λhge=>?_))⟩
  ·rw [if_pos hlt]
   exact S.fro [5] rfl
  ·rw [if_neg hge]
   exact S.fro [5] rfl
 obtain ⟨qa,x,hq,hx,hc⟩:=S.nthF (f:=Sp.vs) (m:=14) 0 rfl Spv_len (by decide) (j:=(i:Int)) (by omega) hlt
 rw [Int.toNat_natCast] at hx
 refine ⟨⟨by omega,hlt⟩,qa,hq,x.tup,hc,?_⟩
 refine S.newB λb6 w2 S f2 _=>S.st0 (by rfl) λw3 S f3=>?_
 have hi2:i<Os.length:=by omega
 have hrg:Rng .i64 ((i:Int)+1):=Rng.i64 (by omega) (by omega)
 have S:Sep E w0 w3 ([mapE pm X]++(boxSt sp pp pm g {s with X:=X}::polE pp p q g s.O::ledE q s.L::chipE p s.C::BoxA b6 _ x.vs::outS a nn c Os::Rs)):=S.fro [3,2,2,2,2] rfl
 refine Sep.regC [mapE pm X] S λG D hG T S hDt hDo hkeep back=>?_
 refine ⟨hDt 0 _ _ _ rfl,S.ld1 (j:=1) rfl rfl ⟨hDt 4 _ _ _ rfl,S.lb5 (o:=0) rfl ⟨hDt 0 _ _ _ rfl,S.ld1 (j:=0) rfl rfl ⟨hrg,hDt 0 _ _ _ rfl,S.ld1 (j:=0) rfl rfl ?_⟩⟩⟩⟩
 refine (Place24_c (pp:=pp) (b:=to) (i:=(i:Int)+1) ht).mono ?_
 rintro ⟨r,⟨⟩⟩ w5 ⟨h5,x5⟩
 dsimp only at h5 ⊢
 subst h5
 have T:=T.stepE x5
 have S5:=S.stepE x5
 refine ⟨hkeep _ T.fr,?_⟩
 refine (Order_p (s:={s with X:=X}) (sp:=sp) (pm:=pm) (b:=to) (Rs:=BoxA b6 _ x.vs::outS a nn c Os::Rs) (S5.fro [1] rfl)).mono ?_
 rintro ⟨r,⟨⟩⟩ w6 ⟨h6,x6⟩
 dsimp only at h6 ⊢
 subst h6
 have T:=T.stepE x6
 refine ⟨hkeep _ T.fr,?_⟩
 refine (Move_m (f:=x.pk) (t:=(4+to,(i:Int)+1)) (o:=(ordO s.O to).hh) hok T).mono ?_
 rintro ⟨r,⟨⟩⟩ w7 T
 refine ⟨hkeep _ T.fr,hrg,?_⟩
 have S:=((back _ _ T).fro [5,5,1] rfl).tail
 have hd:(Os.map Sp.pk).drop i=x.pk::(Os.map Sp.pk).drop (i+1):=by
  rw [List.drop_eq_getElem_cons (by rw [List.length_map];exact hi2)]
  congr 1
  rw [List.getElem_map]
  rw [List.getElem?_eq_getElem hi2] at hx
  rw [Option.some.inj hx]
 rw [hd] at hX
 refine ⟨⟨i+1,mov1 x.pk (4+to,(i:Int)+1) (ordO s.O to).hh X,by push_cast;rfl,by omega,by push_cast;exact hX,?_,S⟩,by omega⟩
 unfold mov1
 split
 ·exact hok
 ·exact movX_ok hok
theorem spoilt25_c {b:Int} (h:SI g n s) (hb:0<=b/\b<(n:Int)) (h0:(gx s.L b.toNat).li=0) (hf:nfr s b) (ho:s.C.ops+2<=1000000000000) (S:Sep E w0 w (stS sp pp pm p q g s Rs)) :
  CallV Tryz.prog 179 #[.pointer (some ⟨sp,0,none⟩),.int .i64 b] w [.one (.int .i64)] λr w'=>r.1=(spoP s b).2/\Sep E w0 w' (stS sp pp pm p q g (spoP s b).1 Rs):=by
 apply stream_Stream_spoilt.vc
 unfold stream_Stream_spoilt.P
 refine ldg S ((Failed_e (S.fro [3] rfl)).mono ?_)
 rintro ⟨r,⟨⟩⟩ w1 ⟨-,S⟩
 have S:Sep E w0 w1 (stS sp pp pm p q g (chS s b fB) Rs):=S.fro [1,1,1] rfl
 refine ldg S ((Release_e (S.fro [3] rfl)).mono ?_)
 rintro ⟨r,⟨⟩⟩ w2 ⟨-,S⟩
 have S:Sep E w0 w2 (stS sp pp pm p q g (chS (chS s b fB) b rB) Rs):=S.fro [1,1,1] rfl
 have h1:=h.f b
 have g1:=chS_gx h b fB
 have h2:=h1.i.r b (λ_=>by rw [g1,if_pos ⟨hb,rfl⟩];exact h0) hf
 have g2:=chS_gx h1.i b rB
 have hh:0<=b/\b<(n:Int)->(gx (chS (chS s b fB) b rB).L b.toNat).he=false:=λ_=>by rw [g2,if_pos ⟨hb,rfl⟩];rfl
 refine (Destroy25_c h2.i hh ho S).mono ?_
 rintro ⟨r,⟨⟩⟩ w3 ⟨h3,S⟩
 dsimp only at h3 ⊢
 subst h3
 unfold spoP
 refine cond_eq (λh4=>?_) (λh4=>?_)
 ·rw [if_pos h4];exact ⟨h4,S⟩
 ·rw [if_neg h4]
  obtain ⟨d1,-,-⟩:=h2.i.dst hh ho
  refine (over25_c d1.i S).mono ?_
  rintro ⟨r,⟨⟩⟩ w4 h4
  exact h4
theorem Order_b {sl:Bool} {ns:Int} (h:SI g n s) (hn:0<=ns/\ns<4) (ho:s.C.ops+768<=1000000000000) {fn:FuncId} (hfn:fn=if sl=true then 201 else 174)
  (S:Sep E w0 w (stS sp pp pm p q g {s with op:=u64w (s.op+1)} Rs)):CallV Tryz.prog fn #[.pointer (some ⟨pp,0,none⟩),.int .i64 ns,.agg #[.int .i64 0,.int .i64 0,.int .i64 0,.int .u32 0,.int .u64 s.ep,.int .u64 (u64w (s.op+1))]] w [.one (.int .i64),.one (.int .i64)] λr w'=>
   r.1=(opnS ns sl s).2.1/\r.2.1=(opnS ns sl s).2.2/\Sep E w0 w' (stS sp pp pm p q g (opnS ns sl s).1 Rs):=by
 have hr:(⟨0,0,0,0,s.ep,u64w (s.op+1)⟩:Hd).rng:=⟨⟨Int.le_refl _,by show (0:Int)<4294967296;decide⟩,h.ep,u64w_R _⟩
 obtain ⟨y,S⟩:=polE_out (S.fro [2,2,2] rfl)
 cases sl with
 | true=>
  subst hfn
  refine (Open24_c (ns:=ns) (o:=⟨0,0,0,0,s.ep,u64w (s.op+1)⟩) h.pi hr ho S).mono ?_
  rintro ⟨r1,r2,⟨⟩⟩ w2 ⟨h1,h2,S⟩
  exact ⟨h1,h2,(polE_in S).fro [3,3] rfl⟩
 | false=>
  subst hfn
  refine (Begin24_c (ns:=ns) (o:=⟨0,0,0,0,s.ep,u64w (s.op+1)⟩) h.pi hr ho S).mono ?_
  rintro ⟨r1,r2,⟨⟩⟩ w2 ⟨h1,h2,S⟩
  exact ⟨h1,h2,(polE_in S).fro [3,3] rfl⟩
theorem empty25_c {b ns:Int} (h:SI g n s) (hn:0<=ns/\ns<4) (hb:-1<=b/\b<(n:Int)) (ho:0<=b/\b<(n:Int)->(gx s.L b.toNat).ow=ns) (hp:s.C.ops+215040<=1000000000000) (S:Sep E w0 w (stS sp pp pm p q g s Rs)) :
  CallV Tryz.prog 124 #[.pointer (some ⟨sp,0,none⟩),.int .i64 b,.int .i64 ns] w [.one (.int .i64)] λr w'=>r.1=(empP s b ns).2/\Sep E w0 w' (stS sp pp pm p q g (empP s b ns).1 Rs):=by
 apply stream_Stream_empty.vc
 unfold stream_Stream_empty.P
 simp only [Addr.add_lit,Nat.zero_add]
 have hno:=h.no
 obtain ⟨h0,nf0,L0,X0,C0⟩:=h.fs0 hn ho
 refine ⟨λv w'=>Sep E w0 w' (stS sp pp pm p q g (fs0 s ns b) Rs),?_,?_⟩
 case refine_2=>
  refine ⟨hn,ldFr h.fl hn S ?_⟩
  unfold fs0
  refine cond_eq (λe=>⟨hn,suFr h.fl hn S λw1 S f=>?_⟩) (λe=>?_)
  ·rw [if_pos e];exact S
  ·rw [if_neg e];exact S
 clear S
 rintro v w1 S
 have e:empP s b ns=if inP s.X (4+b)=[] then (chS (fs0 s ns b) b rB,0) else empL b ns (inP s.X (4+b)) 256 (fs0 s ns b):=rfl
 rw [e]
 have hl':inP s.X (4+b)=inP (fs0 s ns b).X (4+b):=by rw [X0]
 have hops:(fs0 s ns b).C.ops+215040<=1000000000000:=by rw [C0];exact hp
 refine S.ld0 (j:=1) rfl rfl ⟨Rng.i64 (by omega) (by omega),?_⟩
 refine (In_m (bl:=4+b) h0.i (S.fro [1] rfl)).mono ?_
 rintro ⟨⟨ra,rn,rc⟩,⟨⟩⟩ w2 ⟨Os,hOs,S⟩
 dsimp only at hOs S ⊢
 have hnn:=outS_n S
 have hll:(inP s.X (4+b)).length=rn:=by rw [hl',<- hOs,List.length_map,hnn]
 have S:Sep E w0 w2 (outS ra rn rc Os::stS sp pp pm p q g (fs0 s ns b) Rs):=S.fro [0,1] rfl
 refine cond_eq (λhz=>?_) (λhz=>?_)
 ·have hz:rn=0:=by have hz:((rn:Nat):Int)=0:=hz;omega
  rw [if_pos (List.length_eq_zero_iff.1 (hll.trans hz))]
  refine ldg S.tail ((Release_e (S.tail.fro [3] rfl)).mono ?_)
  rintro ⟨r,⟨⟩⟩ w3 ⟨-,S⟩
  exact ⟨rfl,S.fro [1,1,1] rfl⟩
 have hz:rn≠0:=by have hz:((rn:Nat):Int)≠0:=hz;omega
 have hne:inP s.X (4+b)≠[]:=λe=>hz (by rw [<-hll,e];rfl)
 rw [if_neg hne]
 have hb0:0<=b:=by
  refine Classical.byContradiction λe=>hne (inP_nil λk hk h1=>?_)
  have:=(h.l.xb k h1).1
  omega
 have hli:(gx s.L b.toNat).li≠0:=by
  rw [h.l.li _ (by omega),show 4+((b.toNat:Nat):Int)=4+b by omega]
  omega
 have E0:EmI g n (fs0 s ns b) b ns (inP s.X (4+b)):=⟨h0.i,hn,⟨hb0,hb.2⟩,hl'.symm,by rw [L0];exact h.l.he _ (by omega) hli,by rw [L0];exact ho ⟨hb0,hb.2⟩,nf0⟩
 rw [<-hl'] at hOs
 have hec:=eC256
 clear e hl' L0 X0 C0 nf0 hli hne
 generalize inP s.X (4+b)=l at hOs E0 hll ⊢
 generalize fs0 s ns b=t0 at S E0 hops ⊢
 clear h0 h
 refine Loop1 (λ(v:Int×Unit) w'=>∃ (k:Nat) (t:SD),v.1=256-(k:Int)/\k<=256/\EmI g n t b ns l/\t.C.ops+eC k<=1000000000000/\empL b ns l k t=empL b ns l 256 t0/\Sep E w0 w' (outS ra rn rc Os::stS sp pp pm p q g t Rs)) (λ(v:Int×Unit) _=>(256-v.1).toNat)
  ⟨256,t0,by decide,Nat.le_refl _,E0,by omega,rfl,S⟩ ?_
 clear S
 rintro ⟨(v:Int),⟨⟩⟩ w3 ⟨k,t,hv,hk,Et,hop,hX,S⟩
 dsimp only at hv
 subst hv
 refine cond_d (λhlt=>?_) (λhge=>?_)
 case refine_2=>
  have hk0:k=0:=by omega
  subst hk0
  rw [<-hX]
  exact ⟨rfl,S.tail⟩
 obtain ⟨m,rfl⟩:∃ m,k=m+1:=⟨k-1,by omega⟩
 have hes:=eCs m
 rw [<-hX]
 have hrg:Rng .i64 (256-((m+1:Nat):Int)+1):=Rng.i64 (by omega) (by omega)
 obtain ⟨h1,x1,f1,k1,b1⟩:=Et.i.beg hn (sl:=false) (by omega)
 refine ⟨λv w'=>v.1=(opnS ns false t).2.1/\v.2.1=(opnS ns false t).2.2/\Sep E w0 w' (outS ra rn rc Os::stS sp pp pm p q g (opnS ns false t).1 Rs),?_,?_⟩
 case refine_2=>
  refine ⟨λ_=>False,?_⟩
  have ko:∀ w',KeepOn (λ_=>False) w3.drew w':=λw' k hk=>hk.elim
  have S:=S.drew
  have fin:∀ {w4:World},Sep E w0 w4 (stS sp pp pm p q g {t with op:=u64w (t.op+1)} (outS ra rn rc Os::Rs))->CallV Tryz.prog 174 #[.pointer (some ⟨pp,0,none⟩),.int .i64 ns,.agg #[.int .i64 0,.int .i64 0,.int .i64 0,.int .u32 0,.int .u64 t.ep,.int .u64 (u64w (t.op+1))]] w4 [.one (.int .i64),.one (.int .i64)] λ(r:Int×Int×Unit) w5=>KeepOn (λ_=>False) w3.drew w5/\r.1=(opnS ns false t).2.1/\r.2.1=(opnS ns false t).2.2/\Sep E w0 w5 (outS ra rn rc Os::stS sp pp pm p q g (opnS ns false t).1 Rs):=λS=>by
   refine (Order_b (sl:=false) Et.i hn (by omega) rfl S).mono ?_
   rintro ⟨r1,r2,⟨⟩⟩ w5 ⟨e1,e2,S⟩
   exact ⟨ko _,e1,e2,S.fro [5] rfl⟩
  refine ⟨?_,?_⟩
  ·refine S.ld1 (j:=0) rfl rfl ⟨ko _,?_⟩
   refine (order25_c Et.i (S.fro [1,1,1,1,1] rfl)).mono ?_
   rintro ⟨r,⟨⟩⟩ w4 ⟨h4,S⟩
   dsimp only at h4 ⊢
   subst h4
   exact ⟨ko _,fin S⟩
  ·refine (order25_c Et.i (S.fro [1,1,1,1,1] rfl)).mono ?_
   rintro ⟨r,⟨⟩⟩ w4 ⟨h4,S⟩
   dsimp only at h4 ⊢
   subst h4
   exact ⟨ko _,S.ld0 (j:=0) rfl rfl ⟨ko _,fin S⟩⟩
 clear S
 rintro ⟨(to:Int),(e:Int),⟨⟩⟩ w4 ⟨hto,he,S⟩
 dsimp only at hto he ⊢
 obtain ⟨o1,-,-,-⟩:=Et.i.opn hn (sl:=false) (by omega)
 refine (left25_c (e:=e) o1.i (S.fro [1,1,1,1,1] rfl)).mono ?_
 rintro ⟨(r:Int),⟨⟩⟩ w5 ⟨h5,S⟩
 dsimp only at h5 ⊢
 have hun:empL b ns l (m+1) t=if (leftP (opnS ns false t).1 (opnS ns false t).2.2).2≠0 then (if (opnS ns false t).2.2=0 then chS (leftP (opnS ns false t).1 (opnS ns false t).2.2).1 (opnS ns false t).2.1 rB else (leftP (opnS ns false t).1 (opnS ns false t).2.2).1,(leftP (opnS ns false t).1 (opnS ns false t).2.2).2) else
   if (copP (opnS ns false t).2.1 l 1 (leftP (opnS ns false t).1 (opnS ns false t).2.2).1).2=0 then (movP (copP (opnS ns false t).2.1 l 1 (leftP (opnS ns false t).1 (opnS ns false t).2.2).1).1 b (opnS ns false t).2.1 ns l,0) else
   if (copP (opnS ns false t).2.1 l 1 (leftP (opnS ns false t).1 (opnS ns false t).2.2).1).2=5 then (if (spoP (copP (opnS ns false t).2.1 l 1 (leftP (opnS ns false t).1 (opnS ns false t).2.2).1).1 (opnS ns false t).2.1).2≠0 then spoP (copP (opnS ns false t).2.1 l 1 (leftP (opnS ns false t).1 (opnS ns false t).2.2).1).1 (opnS ns false t).2.1 else empL b ns l m (spoP (copP (opnS ns false t).2.1 l 1 (leftP (opnS ns false t).1 (opnS ns false t).2.2).1).1 (opnS ns false t).2.1).1) else copP (opnS ns false t).2.1 l 1 (leftP (opnS ns false t).1 (opnS ns false t).2.2).1:=rfl
 rw [hun] at hX ⊢
 simp only [<-hto,<- he] at hX b1 h1 x1 f1 k1 ⊢
 clear hun o1
 have hl0:=left0 (opnS ns false t).1 e
 generalize leftP (opnS ns false t).1 e=F at h5 S hX b1 h1 x1 f1 k1 hl0 ⊢
 obtain ⟨f,fe⟩:=F
 dsimp only at h5 S hX b1 h1 x1 f1 k1 hl0 ⊢
 subst h5
 have o1:=h1.o2
 refine cond_ne (λhfe=>?_) (λhfe=>?_)
 ·rw [if_pos hfe]
  refine cond_eq (λhe0=>?_) (λhe0=>?_)
  ·rw [if_pos he0]
   refine ldg S ((Release_e (S.fro [3] rfl)).mono ?_)
   rintro ⟨r2,⟨⟩⟩ w6 ⟨-,S⟩
   exact ⟨rfl,(S.fro [5,1,1,1] rfl).tail⟩
  ·rw [if_neg he0]
   exact ⟨rfl,(S.fro [5] rfl).tail⟩
 rw [if_neg (λk=>k hfe)] at hX ⊢
 have he0:e=0:=hl0 hfe
 have hB:=b1 he0
 obtain ⟨a1,hne,e1,nf1,l0,mv⟩:=Et.cop h1.i x1 f1 k1 hB (by omega)
 obtain ⟨y,hy,hyb⟩:=hB.y
 have hlen:=h1.i.l.len (4+b)
 rw [x1,Et.l] at hlen
 have hOl:Os.length=l.length:=by rw [<-hOs,List.length_map]
 have hpp:=h1.i.no
 refine (copied25_c h1.i hB.ht (by rw [hy,hOl];show (0:Int)+_<=_;omega) (by omega) (S.fro [5] rfl)).mono ?_
 rintro ⟨(r:Int),⟨⟩⟩ w6 ⟨h6,S⟩
 dsimp only at h6 ⊢
 rw [hOs] at h6 S
 generalize copP to l 1 f=Cc at h6 S hX a1 e1 nf1 l0 mv ⊢
 obtain ⟨c,ce⟩:=Cc
 dsimp only at h6 S hX a1 e1 nf1 l0 mv ⊢
 subst h6
 have o2:=a1.o2
 refine cond_eq (λhc0=>?_) (λhc0=>?_)
 ·rw [if_pos hc0]
  refine (moved25_c (b:=b) (to:=to) e1.i hn (by have:=hB.ht;omega) (by omega) S).mono ?_
  rintro ⟨⟩ w7 S
  rw [hOs] at S
  exact ⟨rfl,S.tail⟩
 rw [if_neg hc0] at hX ⊢
 refine cond_eq (λhc5=>?_) (λhc5=>?_)
 ·rw [if_pos hc5] at hX ⊢
  refine (spoilt25_c (b:=to) e1.i hB.ht l0 nf1 (by omega) (S.fro [1,1,1,1,1] rfl)).mono ?_
  rintro ⟨(r:Int),⟨⟩⟩ w7 ⟨h7,S⟩
  dsimp only at h7 ⊢
  subst h7
  obtain ⟨s1,sx,sf,sg⟩:=e1.i.spo hB.ht l0 nf1 (by omega)
  refine cond_ne (λhs=>?_) (λhs=>?_)
  ·rw [if_pos hs]
   exact ⟨rfl,(S.fro [5] rfl).tail⟩
  ·rw [if_neg (λk=>k hs)] at hX ⊢
   have hbt:b.toNat≠to.toNat:=by have:=hB.ht;omega
   have e2:EmI g n (spoP c to).1 b ns l:=⟨s1.i,hn,⟨hb0,hb.2⟩,by rw [sx];exact e1.l,by rw [sg _ hbt];exact e1.he,by rw [sg _ hbt];exact e1.ow,nfr_fr e1.nf sf⟩
   have o3:=s1.o2
   exact ⟨hrg,⟨m,(spoP c to).1,by push_cast;omega,by omega,e2,by omega,rfl,S.fro [5] rfl⟩,by omega⟩
 ·rw [if_neg hc5]
  exact ⟨rfl,S.tail⟩
end
section
variable {E:Nat->Prop} {w0 w:World} {Rs:List Asr} {sp pp pm p q n:Nat} {g:Geo} {s:SD}
theorem room25_c {ns:Int} (h:SI g n s) (hn:0<=ns/\ns<4) (h1:1<=(getX s.X ns).n) (hp:s.C.ops+215040<=1000000000000) (S:Sep E w0 w (stS sp pp pm p q g s Rs)) :
  CallV Tryz.prog 163 #[.pointer (some ⟨sp,0,none⟩),.int .i64 ns] w [.one (.int .i64)] λr w'=>r.1=(roomP s ns).2/\Sep E w0 w' (stS sp pp pm p q g (roomP s ns).1 Rs):=by
 apply stream_Stream_room.vc
 unfold stream_Stream_room.P
 simp only [Addr.add_lit,Nat.zero_add]
 refine (close25_c h hn S).mono ?_
 rintro ⟨⟩ w1 S
 have hc:=h.clos hn
 have kc:=clos_f s ns
 have hR:Right g:=h.pi.R
 have hgg:=h.pi.gg
 refine S.reg λD hD hkeep S T=>?_
 refine ⟨hD _ S.bl0,S.lb0 (o:=2) rfl ⟨hD _ S.bl0,S.ld0 (j:=1) rfl rfl ?_⟩⟩
 refine (Size_m (ns:=ns) hc.i.xo.four (S.fro [1] rfl)).mono ?_
 rintro ⟨(r:Int),⟨⟩⟩ w2 ⟨h2,rfl⟩
 dsimp only at h2 ⊢
 subst h2
 refine ⟨hkeep _ T.fr,?_⟩
 refine (Quota_c (g:=g)).mono ?_
 rintro ⟨(r:Int),(e:Int),⟨⟩⟩ w3 ⟨h3,h4,x3⟩
 dsimp only at h3 h4 ⊢
 have hsz:=hc.sz ns
 have hN:=(h.xo.get ns).2
 have hq0:quoE g (((getX (closP s ns).X ns).n:Nat):Int)=0:=by unfold quoE;rw [if_pos hR,if_pos (by rw [hsz];omega)]
 rw [hq0] at h3 h4
 rw [if_pos rfl] at h3
 subst h3;subst h4
 have S:=S.stepE x3
 refine ⟨hkeep _ (T.stepE x3).fr,cond_f rfl ?_⟩
 have hqb:=quo_bd hR (m:=(((getX (closP s ns).X ns).n:Nat):Int)) (by rw [hsz];omega)
 have hqs:quo g (((getX (closP s ns).X ns).n:Nat):Int)=quoS s ns:=by unfold quoS;rw [hgg,hsz]
 rw [hqs] at hqb ⊢
 refine ldg S ((Held_e hc.i.len6 (S.fro [3] rfl)).mono ?_)
 rintro ⟨(r:Int),⟨⟩⟩ w4 ⟨h4,x4⟩
 dsimp only at h4 ⊢
 subst h4
 have S:=S.stepE x4
 refine ⟨Rng.i64 (by omega) (by omega),?_⟩
 have hln:s.L.length=(closP s ns).L.length:=by rw [hc.i.ln,h.ln]
 unfold roomP
 refine cond_d (λhge=>?_) (λhlt=>?_)
 ·rw [if_pos (show quoS s ns-1<=heldS (closP s ns) ns from hge)]
  refine ldg S ((Victim_e hc.i.len6 (S.fro [3] rfl)).mono ?_)
  rintro ⟨(r:Int),⟨⟩⟩ w5 ⟨h5,x5⟩
  dsimp only at h5 ⊢
  subst h5
  have S:=S.stepE x5
  have hv:=vict_bd (L:=(closP s ns).L) (ns:=ns) (bu:=-1)
  have hcl:=hc.i.ln
  rw [hln]
  refine (empty25_c (b:=victT (closP s ns).L ns (-1) (closP s ns).L.length) hc.i hn (by omega) (λhb=>(own_is (vict_is hcl hb.1)).2.2) (by rw [kc.1];exact hp) S).mono ?_
  rintro ⟨r,⟨⟩⟩ w6 h6
  exact h6
 ·rw [if_neg (show ¬ quoS s ns-1<=heldS (closP s ns) ns from hlt)]
  obtain ⟨a1,qI,x1,f1⟩:=hc.i.opn hn (sl:=true) (by rw [kc.1];omega)
  refine ⟨λv w'=>v.2.1=(opnS ns true (closP s ns)).2.1/\v.1=(opnS ns true (closP s ns)).2.2/\Sep E w0 w' (stS sp pp pm p q g (opnS ns true (closP s ns)).1 Rs),?_,?_⟩
  case refine_2=>
   refine ⟨λ_=>False,?_⟩
   have ko:∀ w',KeepOn (λ_=>False) w4.drew w':=λw' k hk=>hk.elim
   have S:=S.drew
   have fin:∀ {w5:World},Sep E w0 w5 (stS sp pp pm p q g {closP s ns with op:=u64w ((closP s ns).op+1)} Rs)->CallV Tryz.prog 201 #[.pointer (some ⟨pp,0,none⟩),.int .i64 ns,.agg #[.int .i64 0,.int .i64 0,.int .i64 0,.int .u32 0,.int .u64 (closP s ns).ep,.int .u64 (u64w ((closP s ns).op+1))]] w5 [.one (.int .i64),.one (.int .i64)] λ(r:Int×Int×Unit) w6=>KeepOn (λ_=>False) w4.drew w6/\r.1=(opnS ns true (closP s ns)).2.1/\r.2.1=(opnS ns true (closP s ns)).2.2/\Sep E w0 w6 (stS sp pp pm p q g (opnS ns true (closP s ns)).1 Rs):=λS=>by
    refine (Order_b (sl:=true) hc.i hn (by rw [kc.1];omega) rfl S).mono ?_
    rintro ⟨r1,r2,⟨⟩⟩ w6 ⟨e1,e2,S⟩
    exact ⟨ko _,e1,e2,S⟩
   refine ⟨?_,?_⟩
   ·refine S.ld0 (j:=0) rfl rfl ⟨ko _,?_⟩
    refine (order25_c hc.i S).mono ?_
    rintro ⟨r,⟨⟩⟩ w5 ⟨h5,S⟩
    dsimp only at h5 ⊢
    subst h5
    exact ⟨ko _,fin S⟩
   ·refine (order25_c hc.i S).mono ?_
    rintro ⟨r,⟨⟩⟩ w5 ⟨h5,S⟩
    dsimp only at h5 ⊢
    subst h5
    exact ⟨ko _,S.ld0 (j:=0) rfl rfl ⟨ko _,fin S⟩⟩
  clear S
  rintro ⟨(e:Int),(b:Int),⟨⟩⟩ w5 ⟨hb,he,S⟩
  dsimp only at hb he ⊢
  rw [<-hb,<- he] at qI
  simp only [<-hb,<- he]
  have fin:∀ {t:SD} {w':World},SI g n t->Sep E w0 w' (stS sp pp pm p q g t Rs)->CallV Tryz.prog 176 #[.pointer (some ⟨sp,0,none⟩),.int .i64 e] w' [.one (.int .i64)] λ(r:Int×Unit) w3=>r.1=(leftP t e).2/\Sep E w0 w3 (stS sp pp pm p q g (leftP t e).1 Rs):=λht S=>left25_c ht S
  refine cond_eq (λh0=>⟨hn,suFr a1.i.fl hn S λw6 S f=>?_⟩) (λh0=>?_)
  ·rw [if_pos h0]
   obtain ⟨b1,b2,y,b3,b4⟩:=qI.ok h0
   exact fin (a1.i.fr hn (.inr ⟨b1,by rw [b3];rfl,by rw [b3];show ns=_;omega⟩)).i S
  ·rw [if_neg h0]
   exact fin a1.i S
theorem failed25_c {ns:Int} (h:SI g n s) (hn:0<=ns/\ns<4) (h0:0<=frG s ns) (hp:s.C.ops+215042<=1000000000000) (S:Sep E w0 w (stS sp pp pm p q g s Rs)) :
  CallV Tryz.prog 166 #[.pointer (some ⟨sp,0,none⟩),.int .i64 ns] w [.one (.int .i64)] λr w'=>r.1=(faiP s ns).2/\Sep E w0 w' (stS sp pp pm p q g (faiP s ns).1 Rs):=by
 apply stream_Stream_failed.vc
 unfold stream_Stream_failed.P
 simp only [Addr.add_lit,Nat.zero_add]
 have hb:=(h.fG hn).resolve_left (by omega)
 refine ⟨hn,ldFr h.fl hn S ⟨hn,suFr h.fl hn S λw1 S f1=>?_⟩⟩
 have h1:=h.frm hn
 refine ldg S ((Failed_e (b:=frG s ns) (S.fro [3] rfl)).mono ?_)
 rintro ⟨r,⟨⟩⟩ w2 ⟨-,S⟩
 have S:Sep E w0 w2 (stS sp pp pm p q g (chS (frS s ns (-1)) (frG s ns) fB) Rs):=S.fro [1,1,1] rfl
 have h2:=h1.i.f (frG s ns)
 have h3:=h2.i.over
 have k3:=over_f (chS (frS s ns (-1)) (frG s ns) fB)
 have g3:gx (overP (chS (frS s ns (-1)) (frG s ns) fB)).1.L (frG s ns).toNat=fB (gx s.L (frG s ns).toNat):=by
  rw [k3.2.1,chS_gx h1.i,if_pos ⟨hb.1,rfl⟩];rfl
 refine (over25_c h2.i S).mono ?_
 rintro ⟨(r:Int),⟨⟩⟩ w3 ⟨h4,S⟩
 dsimp only at h4 ⊢
 subst h4
 unfold faiP
 dsimp only
 refine cond_ne (λhe=>?_) (λhe=>?_)
 ·rw [if_pos he];exact ⟨rfl,S⟩
 rw [if_neg (λk=>k he)]
 have o3:=((h1.trans h2).trans h3).o2
 refine (empty25_c (b:=frG s ns) h3.i hn (by omega) (λ_=>by rw [g3];exact hb.2.2) (by omega) S).mono ?_
 rintro ⟨(r:Int),⟨⟩⟩ w4 ⟨h5,S⟩
 dsimp only at h5 ⊢
 subst h5
 obtain ⟨e1,e2⟩:=h3.i.emp (b:=frG s ns) hn hb.1.2 (λ_=>by rw [g3];exact hb.2.2) (by omega)
 have oe:=e1.o2
 refine cond_ne (λhe=>?_) (λhe=>?_)
 ·rw [if_pos he];exact ⟨rfl,S⟩
 rw [if_neg (λk=>k he)]
 have hh:0<=frG s ns/\frG s ns<(n:Int)->(gx (empP (overP (chS (frS s ns (-1)) (frG s ns) fB)).1 (frG s ns) ns).1.L (frG s ns).toNat).he=false:=λhb=>e2 he hb.1
 refine (Destroy25_c e1.i hh (by omega) S).mono ?_
 rintro ⟨(r:Int),⟨⟩⟩ w5 ⟨h6,S⟩
 dsimp only at h6 ⊢
 subst h6
 refine cond_eq (λh4=>?_) (λh4=>?_)
 ·rw [if_pos h4];exact ⟨h4,S⟩
 ·rw [if_neg h4]
  refine (over25_c (e1.i.dst hh (by omega)).1.i S).mono ?_
  rintro ⟨r,⟨⟩⟩ w6 h6
  exact h6
theorem Write24t_c {y:SlV} {O:List Hd} {C:CD} {L:List Blk} {b pa:Int} {hd:Hd} {dd tt:SlP Int} {D:List (SlP Int)} (hdD:dd∈D) (htD:tt∈D) (h:PI g n C L O) (hr:hd.rng) (hlen:dd.n=0\/(dd.n:Int)=g.s) (htl:tt.n=0\/tt.n=32) (ho:C.ops+2<=1000000000000) (S:Sep E w0 w (plS pp p q g y O C L (RdL D::Rs))) :
  CallV Tryz.prog 117 #[.pointer (some ⟨pp,0,none⟩),.int .i64 b,.int .i64 pa,hd.val,.slice dd.a dd.n dd.c,.slice tt.a tt.n tt.c] w [.one (.int .i64)] λr w'=>
   r.1=(wrtT n C b pa hd dd.l tt.l).2/\Sep E w0 w' (plS pp p q g y O (wrtT n C b pa hd dd.l tt.l).1 L (RdL D::Rs)):=by
 apply pool_Pool_Write.vc
 unfold pool_Pool_Write.P
 simp only [Addr.add_lit,Nat.zero_add]
 have hnn:=plS_n S
 have hol:=h.ol
 have hle:=h.le
 have hR:=h.R
 have hx:(Ints w .u8 dd.a dd.n dd.c dd.l/\Byt dd.l)/\(Ints w .u8 tt.a tt.n tt.c tt.l/\Byt tt.l):=by
  obtain ⟨G,hG,-⟩:=S.get (i:=4) rfl
  exact ⟨⟨Ty.ints (hG _ hdD),Ty.byt (hG _ hdD)⟩,⟨Ty.ints (hG _ htD),Ty.byt (hG _ htD)⟩⟩
 refine S.newB λb1 w1 S f1 _=>?_
 refine (has24_c (b:=b) (S.fro [1,1,1,1] rfl)).mono ?_
 rintro ⟨(r:Bool),⟨⟩⟩ w2 ⟨h2,rfl⟩
 dsimp only at h2 ⊢
 subst h2
 unfold wrtT
 by_cases hb:0<=b/\b<(n:Int)
 case neg=>exact cond_t (by rw [decide_eq_false (by omega)];rfl) (by rw [if_neg hb];exact ⟨rfl,S.tail⟩)
 refine cond_f (by rw [decide_eq_true (by omega)];rfl) ?_
 rw [if_pos hb]
 refine S.reg λD' hD hkeep S T=>?_
 refine ⟨hD _ S.bl1,S.lb1 (o:=1) rfl ⟨hD _ S.bl0,S.la0 rfl ?_⟩⟩
 have hI:Ints w2.drew .u8 dd.a dd.n dd.c dd.l:=(hx.1.1.ext f1.ext).drew
 have hI2:Ints w2.drew .u8 tt.a tt.n tt.c tt.l:=(hx.2.1.ext f1.ext).drew
 refine (Make_c (g:=g) (h:=hd) hr hI hI2).mono ?_
 rintro ⟨⟨va,vn,vc⟩,(e:Int),⟨⟩⟩ w3 ⟨x3,h3,h3'⟩
 dsimp only at h3 h3' ⊢
 refine ⟨hkeep _ (T.stepE x3).fr,?_⟩
 by_cases hH:HRight hd
 case neg=>
  obtain ⟨-,he⟩:=h3' (λx=>hH x.2.1.1)
  subst he
  exact cond_t rfl (by rw [if_neg hH];exact ⟨rfl,(S.stepE x3).tail⟩)
 obtain ⟨r3,he⟩:=h3 ⟨hR,⟨hH,htl⟩,hlen⟩
 subst he
 refine cond_f rfl ?_
 rw [if_pos hH]
 have bm:Byt (mkL g hd dd.l tt.l):=mkL_byt hr hH hx.1.2 hx.2.2
 have S:=res_rdL S r3 bm
 have htl2:tt.l.length=0\/tt.l.length=32:=by have:=hI2.len;omega
 have hvn:vn<=100000:=by
  have h8:=r3.own.ints.len
  have h9:(mkL g hd dd.l tt.l).length<=g.s.toNat+88:=by
   unfold mkL payL
   rw [List.length_append,endL_length _ htl2]
   have:=hI.len
   split
   ·rw [List.length_replicate];omega
   ·omega
  have h7:=hR.sec
  dsimp only at h8
  omega
 refine (Place24_c (pp:=pp) (b:=b) (i:=pa) (by omega)).mono ?_
 rintro ⟨x,⟨⟩⟩ w4 ⟨h4,x4⟩
 dsimp only at h4 ⊢
 subst h4
 have S:=S.stepE x4
 refine (programmed_c (bl:=4+b) (pa:=pa) (dd:=⟨va,vn,vc,mkL g hd dd.l tt.l⟩) h bm ho hvn (S.fro [2,2,2,2] rfl)).mono ?_
 rintro ⟨e,⟨⟩⟩ w5 ⟨h5,S⟩
 dsimp only at h5 S
 rw [h.gg]
 exact ⟨h5,(S.fro [4,4] rfl).tail.tail⟩
abbrev putB (b1 b3 b5 b7:Nat) (sp:Nat) (hd:Hd) (dd tt:SlP Int) (Rs:List Asr):List Asr:=BoxA b1 32 [.pointer (some ⟨sp,0,none⟩)]::BoxA b3 62 hd.vs::BoxA b5 63 [.slice dd.a dd.n dd.c]::BoxA b7 63 [.slice tt.a tt.n tt.c]::RdL [dd,tt]::Rs
end
section
variable {E:Nat->Prop} {w0 w:World} {Rs:List Asr} {sp pp pm p q n:Nat} {g:Geo} {s:SD}
theorem Put1_c {b pa:Int} {b1 b3 b5 b7:Nat} {hd:Hd} {dd tt:SlP Int} (h:SI g n s) (hr:hd.rng) (hlen:dd.n=0\/(dd.n:Int)=g.s) (htl:tt.n=0\/tt.n=32) (ho:s.C.ops+2<=1000000000000) (S:Sep E w0 w (stS sp pp pm p q g s (putB b1 b3 b5 b7 sp hd dd tt Rs))) :
  CallV Tryz.prog 116 #[.int .i64 b,.int .i64 pa,.pointer (some ⟨b1,0,none⟩),.pointer (some ⟨b3,0,none⟩),.pointer (some ⟨b5,0,none⟩),.pointer (some ⟨b7,0,none⟩)] w [.one (.int .i64)] λr w'=>
   r.1=(wrtT n s.C b pa hd dd.l tt.l).2/\Sep E w0 w' (stS sp pp pm p q g {s with C:=(wrtT n s.C b pa hd dd.l tt.l).1} (putB b1 b3 b5 b7 sp hd dd tt Rs)):=by
 apply stream_Stream_Put_1.vc
 unfold stream_Stream_Put_1.P
 simp only [Addr.add_lit,Nat.zero_add]
 have S:Sep E w0 w ([polE pp p q g s.O,ledE q s.L,chipE p s.C,RdL [dd,tt]]++(boxSt sp pp pm g s::mapE pm s.X::BoxA b1 _ [.pointer (some ⟨sp,0,none⟩)]::BoxA b3 _ hd.vs::BoxA b5 _ [.slice dd.a dd.n dd.c]::BoxA b7 _ [.slice tt.a tt.n tt.c]::Rs)):=S.fro [2,2,2,6] rfl
 refine Sep.regC [polE pp p q g s.O,ledE q s.L,chipE p s.C,RdL [dd,tt]] S λG D hG T S hDt hDo hkeep back=>?_
 refine ⟨hDt 2 _ _ _ rfl,S.ld6 (j:=0) rfl rfl (PtrK.of rfl ⟨hDt 0 _ _ _ rfl,S.ld4 (j:=0) rfl rfl ⟨hDt 3 _ _ _ rfl,S.la7 rfl ⟨hDt 4 _ _ _ rfl,S.ld8 (j:=0) rfl rfl ⟨hDt 5 _ _ _ rfl,S.ld9 (j:=0) rfl rfl ?_⟩⟩⟩⟩)⟩
 obtain ⟨y,T⟩:=polE_out T
 refine (Write24t_c (b:=b) (pa:=pa) (dd:=dd) (tt:=tt) (D:=[dd,tt]) List.mem_cons_self (List.mem_cons_of_mem _ List.mem_cons_self) h.pi hr hlen htl ho T).mono ?_
 rintro ⟨r,⟨⟩⟩ w2 ⟨h2,T⟩
 dsimp only at h2 ⊢
 exact ⟨hkeep _ T.fr,h2,(back _ _ (polE_in T)).fro [4,4,0,0,0,1,1,1,1] rfl⟩
theorem okf_put:okf 116=true:=by kernel_rfl
theorem write25_c {b1 b3 b5 b7:Nat} {hd:Hd} {dd tt:SlP Int} (h:SI g n s) (hn:0<=hd.n/\hd.n<4) (h1:1<=(getX s.X hd.n).n) (hr:hd.rng) (hlen:dd.n=0\/(dd.n:Int)=g.s) (htl:tt.n=0\/tt.n=32) (bx:Byt dd.l) (bt:Byt tt.l) (hp:s.C.ops+wC 256<=1000000000000) (S:Sep E w0 w (stS sp pp pm p q g s (putB b1 b3 b5 b7 sp hd dd tt Rs))) :
  CallV Tryz.prog 115 #[.pointer (some ⟨sp,0,none⟩),.int .i64 hd.n,.func (.func 116) #[] #[.pointer (some ⟨b1,0,none⟩),.pointer (some ⟨b3,0,none⟩),.pointer (some ⟨b5,0,none⟩),.pointer (some ⟨b7,0,none⟩)]] w [.agg [.int .i64,.int .i64],.one (.int .i64)] λr w'=>
   r.1=((wrP hd.n hd dd.l tt.l 256 s).2.1.1,(wrP hd.n hd dd.l tt.l 256 s).2.1.2,())/\r.2.1=(wrP hd.n hd dd.l tt.l 256 s).2.2/\Sep E w0 w' (stS sp pp pm p q g (wrP hd.n hd dd.l tt.l 256 s).1 (putB b1 b3 b5 b7 sp hd dd tt Rs)):=by
 apply stream_Stream_write.vc
 unfold stream_Stream_write.P
 simp only [Addr.add_lit,Nat.zero_add]
 refine S.newB λb0 w1 S f1 _=>?_
 have done:∀ {w':World} {a c e:Int} {v:List Value} {t:SD},v.length=2->t=(wrP hd.n hd dd.l tt.l 256 s).1->(a,c)=(wrP hd.n hd dd.l tt.l 256 s).2.1->e=(wrP hd.n hd dd.l tt.l 256 s).2.2->Sep E w0 w' (BoxA b0 81 v::stS sp pp pm p q g t (putB b1 b3 b5 b7 sp hd dd tt Rs)) ->
   StoreV w' ⟨b0,0,none⟩ [.int .i64 a,.int .i64 c] λw2=>LoadA w2 ⟨b0,0,none⟩ [.int .i64,.int .i64] λ(x:Int×Int×Unit)=>(x.1,x.2.1,())=((wrP hd.n hd dd.l tt.l 256 s).2.1.1,(wrP hd.n hd dd.l tt.l 256 s).2.1.2,())/\e=(wrP hd.n hd dd.l tt.l 256 s).2.2/\Sep E w0 w2 (stS sp pp pm p q g (wrP hd.n hd dd.l tt.l 256 s).1 (putB b1 b3 b5 b7 sp hd dd tt Rs)):=@λw' a c e v t hv ht ha he S=>by
  subst ht
  refine S.st0 (news:=[.int .i64 a,.int .i64 c]) hv λw2 S f=>S.la0 rfl ⟨?_,he,S.tail⟩
  rw [<-ha]
 refine Loop1 (λ(v:Int×Unit) w'=>∃ (k:Nat) (t:SD),v.1=256-(k:Int)/\k<=256/\SI g n t/\1<=(getX t.X hd.n).n/\t.C.ops+wC k<=1000000000000/\wrP hd.n hd dd.l tt.l k t=wrP hd.n hd dd.l tt.l 256 s/\Sep E w0 w' (BoxA b0 81 [.int .i64 0,.int .i64 0]::stS sp pp pm p q g t (putB b1 b3 b5 b7 sp hd dd tt Rs))) (λ(v:Int×Unit) _=>(256-v.1).toNat)
  ⟨256,s,by decide,Nat.le_refl _,h,h1,hp,rfl,S⟩ ?_
 clear S
 rintro ⟨(v:Int),⟨⟩⟩ w3 ⟨k,t,hv,hk,ht,h1t,hop,hX,S⟩
 dsimp only at hv
 subst hv
 refine cond_d (λhlt=>?_) (λhge=>?_)
 case refine_2=>
  have hk0:k=0:=by omega
  subst hk0
  exact done rfl (by rw [<-hX];rfl) (by rw [<-hX];rfl) (by rw [<-hX];rfl) S
 obtain ⟨m,rfl⟩:∃ m,k=m+1:=⟨k-1,by omega⟩
 have hes:=wCs m
 have hrg:Rng .i64 (256-((m+1:Nat):Int)+1):=Rng.i64 (by omega) (by omega)
 have hX:(if fulP t hd.n then (if (roomP t hd.n).2≠0 then ((roomP t hd.n).1,(0,0),(roomP t hd.n).2) else wrP hd.n hd dd.l tt.l m (roomP t hd.n).1) else
  if (wr1 t hd.n hd dd.l tt.l).2=0 then ((wr1 t hd.n hd dd.l tt.l).1,plc t hd.n,0) else
  if (wr1 t hd.n hd dd.l tt.l).2=5 then (if (faiP (wr1 t hd.n hd dd.l tt.l).1 hd.n).2≠0 then ((faiP (wr1 t hd.n hd dd.l tt.l).1 hd.n).1,(0,0),(faiP (wr1 t hd.n hd dd.l tt.l).1 hd.n).2) else wrP hd.n hd dd.l tt.l m (faiP (wr1 t hd.n hd dd.l tt.l).1 hd.n).1) else ((wr1 t hd.n hd dd.l tt.l).1,(0,0),(wr1 t hd.n hd dd.l tt.l).2))=wrP hd.n hd dd.l tt.l 256 s:=hX
 refine (full25_c ht hn (S.fro [1,1,1,1,1] rfl)).mono ?_
 rintro ⟨(r:Bool),⟨⟩⟩ w4 ⟨h4,x4⟩
 dsimp only at h4 ⊢
 subst h4
 have S:=S.stepE x4
 refine cond_d (λhf=>?_) (λhf=>?_)
 ·rw [if_pos hf] at hX
  have hr1:=ht.room hn (by omega)
  have o1:=hr1.o2
  refine (room25_c ht hn h1t (by omega) (S.fro [1,1,1,1,1] rfl)).mono ?_
  rintro ⟨(r:Int),⟨⟩⟩ w5 ⟨h5,S⟩
  dsimp only at h5 ⊢
  subst h5
  refine cond_ne (λhe=>?_) (λhe=>?_)
  ·rw [if_pos he] at hX
   exact done rfl (by rw [<-hX]) (by rw [<-hX]) (by rw [<-hX]) (S.fro [5] rfl)
  ·rw [if_neg (λk=>k he)] at hX
   exact ⟨hrg,⟨m,(roomP t hd.n).1,by push_cast;omega,by omega,hr1.i,by rw [hr1.sz];exact h1t,by omega,hX,S.fro [5] rfl⟩,by omega⟩
 rw [if_neg hf] at hX
 obtain ⟨a1,x1,f1,l1⟩:=ht.wr1 hn hf (hd:=hd) hr bx bt (by omega)
 have hb:=ful_not ht hn hf
 have o1:=a1.o2
 have S:=S.fro [1,1,1,1,1] rfl
 refine ⟨hn,ldFr ht.fl hn S ?_⟩
 refine ldg S ((Use_e ht.us9 (S.fro [3] rfl)).mono ?_)
 rintro ⟨r,⟨⟩⟩ w5 ⟨-,S⟩
 have S:Sep E w0 w5 (stS sp pp pm p q g (chS t (frG t hd.n) uB) (BoxA b0 81 [.int .i64 0,.int .i64 0]::putB b1 b3 b5 b7 sp hd dd tt Rs)):=S.fro [1,1,1] rfl
 have hu:=ht.ch1 (frG t hd.n) (φ:=uB) (λ_=>rfl) (λ_=>rfl) (λ_=>rfl) (ht.l.u _ λ_=>hb.2.2.2)
 refine ldg S ((At_e (S.fro [3] rfl) (by have:=hu.i.ln;have:=hb.1;exact ⟨by omega,by show frG t hd.n<((chS t (frG t hd.n) uB).L.length:Int);omega⟩)).mono ?_)
 rintro ⟨x,⟨⟩⟩ w6 ⟨h6,x6⟩
 dsimp only at h6 ⊢
 subst h6
 have S:=S.stepE x6
 refine cond_t okf_put ?_
 refine (Put1_c (b:=frG t hd.n) (pa:=(gx (chS t (frG t hd.n) uB).L (frG t hd.n).toNat).us) hu.i hr hlen htl (by show t.C.ops+2<=_;omega) (S.fro [0,0,0,0,0,1,1,1,1,1] rfl)).mono ?_
 rintro ⟨(r:Int),⟨⟩⟩ w7 ⟨h7,S⟩
 dsimp only at h7 ⊢
 have e1:wr1 t hd.n hd dd.l tt.l=({chS t (frG t hd.n) uB with C:=(wrtT n t.C (frG t hd.n) (gx (chS t (frG t hd.n) uB).L (frG t hd.n).toNat).us hd dd.l tt.l).1},(wrtT n t.C (frG t hd.n) (gx (chS t (frG t hd.n) uB).L (frG t hd.n).toNat).us hd dd.l tt.l).2):=by
  show ({chS t (frG t hd.n) uB with C:=(wrtT t.L.length t.C (frG t hd.n) (gx (chS t (frG t hd.n) uB).L (frG t hd.n).toNat).us hd dd.l tt.l).1},(wrtT t.L.length t.C (frG t hd.n) (gx (chS t (frG t hd.n) uB).L (frG t hd.n).toNat).us hd dd.l tt.l).2)=_
  rw [ht.ln]
 have hp2:(gx (chS t (frG t hd.n) uB).L (frG t hd.n).toNat).us=(gx t.L (frG t hd.n).toNat).us+1:=by
  rw [chS_gx ht,if_pos ⟨hb.1,rfl⟩];rfl
 have fG:frG (wr1 t hd.n hd dd.l tt.l).1 hd.n=frG t hd.n:=by show (wr1 t hd.n hd dd.l tt.l).1.fr.getD _ _=_;rw [f1];rfl
 have h7:r=(wr1 t hd.n hd dd.l tt.l).2:=by rw [e1];exact h7
 have S:Sep E w0 w7 (stS sp pp pm p q g (wr1 t hd.n hd dd.l tt.l).1 (putB b1 b3 b5 b7 sp hd dd tt (BoxA b0 81 [.int .i64 0,.int .i64 0]::Rs))):=by rw [e1];exact S
 rw [hp2]
 subst h7
 clear e1
 have S:Sep E w0 w7 (BoxA b0 81 [.int .i64 0,.int .i64 0]::stS sp pp pm p q g (wr1 t hd.n hd dd.l tt.l).1 (putB b1 b3 b5 b7 sp hd dd tt Rs)):=S.fro [10] rfl
 have hno:=ht.no
 have hbu:=hb.2.2.2
 have hb1:=hb.1
 refine cond_eq (λh0=>?_) (λh0=>?_)
 ·rw [if_pos h0] at hX
  refine S.ld1 (j:=0) rfl rfl ?_
  refine (Place24_c (pp:=pp) (b:=frG t hd.n) (i:=(gx t.L (frG t hd.n).toNat).us+1) (by omega)).mono ?_
  rintro ⟨r,⟨⟩⟩ w8 ⟨h8,x8⟩
  dsimp only at h8 ⊢
  subst h8
  exact done rfl (by rw [<-hX]) (by rw [<-hX];rfl) (by rw [<-hX]) (S.stepE x8)
 rw [if_neg h0] at hX
 refine cond_eq (λh5=>?_) (λh5=>?_)
 ·rw [if_pos h5] at hX
  have a2:=a1.i.fai hn (by rw [fG];omega) (by omega)
  have o2:=a2.o2
  refine (failed25_c a1.i hn (by rw [fG];omega) (by omega) (S.fro [1,1,1,1,1] rfl)).mono ?_
  rintro ⟨(r:Int),⟨⟩⟩ w8 ⟨h8,S⟩
  dsimp only at h8 ⊢
  subst h8
  refine cond_ne (λhe=>?_) (λhe=>?_)
  ·rw [if_pos he] at hX
   exact done rfl (by rw [<-hX]) (by rw [<-hX]) (by rw [<-hX]) (S.fro [5] rfl)
  ·rw [if_neg (λk=>k he)] at hX
   exact ⟨hrg,⟨m,_,by push_cast;omega,by omega,a2.i,by rw [a2.sz,a1.sz];exact h1t,by omega,hX,S.fro [5] rfl⟩,by omega⟩
 ·rw [if_neg h5] at hX
  exact done rfl (by rw [<-hX]) (by rw [<-hX]) (by rw [<-hX]) S
end
section
variable {E:Nat->Prop} {w0 w:World} {Rs:List Asr} {sp pp pm p q n:Nat} {g:Geo} {s:SD} {X:List (SlP Ce)}
theorem SlIndex_c {c:Nat} {b:Int} (h4:s.fr.length=4) (S:Sep E w0 w (stS sp pp pm p q g s Rs)):CallV Tryz.prog 207 #[.slice (some ⟨sp,8,none⟩) 4 c,.int .i64 b] w [.one (.int .i64)] λ(r:Int×Unit) w'=>(0<=r.1↔b∈s.fr)/\w'=w:=by
 apply slices_Index_int_int.vc
 unfold slices_Index_int_int.P
 refine Loop1 (λ(v:Int×Unit) w'=>(∃ i:Nat,v.1=(i:Int)/\i<=4/\∀ j,j<i->fat s j≠b)/\w'=w) (λ(v:Int×Unit) _=>(4-v.1).toNat) ⟨⟨0,rfl,by omega,λj hj=>by omega⟩,rfl⟩ ?_
 rintro ⟨(v:Int),⟨⟩⟩ w1 ⟨⟨i,hv,hi,hno⟩,rfl⟩
 dsimp only at hv
 subst hv
 have mem:∀ j,j<4->fat s j∈s.fr:=λj hj=>by
  show s.fr.getD j 0∈s.fr
  rw [List.getD_eq_getElem?_getD,List.getElem?_eq_getElem (by omega)]
  exact List.getElem_mem (by omega)
 refine cond_d (λhlt=>?_) (λhge=>?_)
 ·have hi4:i<4:=by have hlt:(i:Int)<((4:Nat):Int):=hlt;omega
  refine ⟨⟨by omega,hlt⟩,⟨sp,8,none⟩,rfl,?_⟩
  have e:(⟨sp,8,none⟩:Addr).add ((i:Int).toNat*1)=⟨sp,8+(i:Int).toNat*1,none⟩:=by rw [Addr.add_lit]
  rw [e]
  refine ldFr (ns:=(i:Int)) h4 (by omega) S ?_
  have e2:frG s (i:Int)=fat s i:=by unfold frG;rw [Int.toNat_natCast]
  rw [e2]
  refine cond_eq (λhb=>⟨⟨λ_=>by rw [show b=fat s i from hb];exact mem i hi4,λ_=>by omega⟩,rfl⟩) (λhb=>⟨Rng.i64 (by omega) (by omega),⟨⟨i+1,by push_cast;rfl,by omega,λj hj=>?_⟩,rfl⟩,by omega⟩)
  by_cases e3:j=i
  ·rw [e3];exact λe4=>hb e4.symm
  ·exact hno j (by omega)
 ·have hi4:i=4:=by have hge:¬ (i:Int)<((4:Nat):Int):=hge;omega
  refine ⟨⟨λh=>by omega,λhm=>?_⟩,rfl⟩
  obtain ⟨j,hj,e⟩:=List.getElem_of_mem hm
  exact absurd (show fat s j=b by show s.fr.getD j 0=b;rw [List.getD_eq_getElem?_getD,List.getElem?_eq_getElem hj];exact e) (hno j (by omega))
theorem Cont_c {c:Nat} {b:Int} (h4:s.fr.length=4) (S:Sep E w0 w (stS sp pp pm p q g s Rs)):CallV Tryz.prog 173 #[.slice (some ⟨sp,8,none⟩) 4 c,.int .i64 b] w [.one .bool] λr w'=>r.1=decide (b∈s.fr)/\w'=w:=by
 apply slices_Contains_int_int.vc
 unfold slices_Contains_int_int.P
 refine (SlIndex_c (c:=c) (b:=b) h4 S).mono ?_
 rintro ⟨(r:Int),⟨⟩⟩ w1 ⟨h1,rfl⟩
 exact ⟨decide_eq_decide.2 h1,rfl⟩
theorem SP.li9 {l:List (Int×Int)} (h:SP g n l s) (hl:l.length<=100000):∀ x∈s.L,0<=x.li/\x.li<=1000000000:=λx hx=>by
 obtain ⟨i,hi,rfl⟩:=mem_gx hx
 rw [h.l.li i (by have:=h.l.ll;omega)]
 have h1:(inP s.X (4+(i:Int))).length<=32:=by
  unfold inP
  refine Nat.le_trans (List.length_filter_le _ _) ?_
  rw [List.length_map,List.length_range]
  exact Nat.le_refl _
 have h2:pend l i<=(l.length:Int):=by
  unfold pend
  have:=List.countP_le_length (p:=λk:Int×Int=>decide (k.1=4+(i:Int))) (l:=l)
  omega
 have h3:0<=pend l i:=by unfold pend;omega
 omega
theorem dead25_c {l:List (Int×Int)} {a:Option Addr} {nn c:Nat} (h:SP g n l s) (hl:l.length<=100000) (S:Sep E w0 w (outA a nn c l::stS sp pp pm p q g s Rs)) :
  CallV Tryz.prog 122 #[.pointer (some ⟨sp,0,none⟩),.slice a nn c] w [] λr w'=>Sep E w0 w' (outA a nn c l::stS sp pp pm p q g (dedP l s) Rs):=by
 apply stream_Stream_dead.vc
 unfold stream_Stream_dead.P
 simp only [Addr.add_lit,Nat.zero_add]
 have hnn:l.length=nn:=by have:=(S.own 0 rfl).len;rw [flatF_len plV_len] at this;omega
 refine Loop1 (λ(v:Int×Unit) w'=>∃ (i:Nat) (t:SD),v.1=(i:Int)/\i<=l.length/\SP g n (l.drop i) t/\dedP (l.drop i) t=dedP l s/\Sep E w0 w' (outA a nn c l::stS sp pp pm p q g t Rs)) (λ(v:Int×Unit) _=>((nn:Int)-v.1).toNat)
  ⟨0,s,rfl,Nat.zero_le _,by rw [List.drop_zero];exact h,by rw [List.drop_zero],S⟩ ?_
 clear S
 rintro ⟨(v:Int),⟨⟩⟩ w1 ⟨i,t,hv,hi,ht,hX,S⟩
 dsimp only at hv
 subst hv
 refine cond_d (λhlt=>?_) (λhge=>?_)
 case refine_2=>
  have hie:i=l.length:=by omega
  subst hie
  rw [List.drop_of_length_le (Nat.le_refl _)] at hX
  have hX:t=dedP l s:=hX
  rw [<-hX]
  exact S
 obtain ⟨qa,k,hq,hk,hc⟩:=S.nthF (f:=plV) (m:=2) 0 rfl plV_len (by decide) (j:=(i:Int)) (by omega) hlt
 rw [Int.toNat_natCast] at hk
 have hi2:i<l.length:=by omega
 have hd:l.drop i=k::l.drop (i+1):=by
  rw [List.drop_eq_getElem_cons hi2]
  rw [List.getElem?_eq_getElem hi2] at hk
  rw [Option.some.inj hk]
 rw [hd] at hX ht
 have hX:dedP (l.drop (i+1)) (ded1 t k)=dedP l s:=hX
 have hkb:=ht.l.lb k List.mem_cons_self
 have hno:(n:Int)<=60:=ht.pi.le
 have h9:=ht.li9 (by rw [List.length_cons,List.length_drop];omega)
 have hrg:Rng .i64 ((i:Int)+1):=Rng.i64 (by omega) (by omega)
 refine ⟨⟨by omega,hlt⟩,qa,hq,(k.1,k.2,()),hc,?_⟩
 refine S.newB λb6 w2 S f2 _=>S.st0 (by rfl) λw3 S f3=>S.ld0 (j:=0) rfl rfl ⟨Rng.i64 (by omega) (by omega),?_⟩
 obtain ⟨hD,d1,d2,d3,d4,d5,d6,d7,d8⟩:=ht.ded
 have S:Sep E w0 w3 (stS sp pp pm p q g t (BoxA b6 _ [.int .i64 k.1,.int .i64 k.2]::outA a nn c l::Rs)):=S.fro [2,2,2,2,2] rfl
 refine ldg S ((Count_e (b:=k.1-4) (m:=-1) h9 (by decide) (S.fro [3] rfl)).mono ?_)
 rintro ⟨r,⟨⟩⟩ w4 ⟨-,S⟩
 have S:Sep E w0 w4 (stS sp pp pm p q g (chS t (k.1-4) (cB (-1))) (BoxA b6 _ [.int .i64 k.1,.int .i64 k.2]::outA a nn c l::Rs)):=S.fro [1,1,1] rfl
 have hln2:(chS t (k.1-4) (cB (-1))).L.length=n:=by show (chL _ _ _ _).length=n;rw [chL_len];exact ht.pi.ll
 refine ldg S ((At_e (b:=k.1-4) (S.fro [3] rfl) (by rw [hln2];omega)).mono ?_)
 rintro ⟨x,⟨⟩⟩ w5 ⟨h5,x5⟩
 dsimp only at h5 ⊢
 subst h5
 have S:=S.stepE x5
 refine S.newB λb20 w6 S f6 _=>S.st0 (by rfl) λw7 S f7=>?_
 have S:Sep E w0 w7 (BoxA b20 103 (gx (chS t (k.1-4) (cB (-1))).L (k.1-4).toNat).vs::stS sp pp pm p q g (chS t (k.1-4) (cB (-1))) (BoxA b6 _ [.int .i64 k.1,.int .i64 k.2]::outA a nn c l::Rs)):=S
 have e1:ded1 t k=if (gx (chS t (k.1-4) (cB (-1))).L (k.1-4).toNat).li=0/\(gx (chS t (k.1-4) (cB (-1))).L (k.1-4).toNat).he=true/\(k.1-4)∉t.fr then chS (chS t (k.1-4) (cB (-1))) (k.1-4) rB else chS t (k.1-4) (cB (-1)):=rfl
 have nxt:∀ {w':World} {t2:SD},t2=ded1 t k->Sep E w0 w' (outA a nn c l::stS sp pp pm p q g t2 Rs)->(∃ (i':Nat) (t:SD),(i:Int)+1=(i':Int)/\i'<=l.length/\SP g n (l.drop i') t/\dedP (l.drop i') t=dedP l s/\Sep E w0 w' (outA a nn c l::stS sp pp pm p q g t Rs))/\((nn:Int)-((i:Int)+1)).toNat<((nn:Int)-(i:Int)).toNat:=λ{w' t2} e S=>by
  subst e
  exact ⟨⟨i+1,_,by push_cast;rfl,by omega,hD,hX,S⟩,by omega⟩
 refine S.ld0 (j:=2) rfl rfl ?_
 refine cond_eq (λhz=>?_) (λhz=>⟨hrg,nxt (by rw [e1,if_neg (λe=>hz e.1)]) (S.tail.fro [5,5] rfl).tail⟩)
 refine S.ld0 (j:=4) rfl rfl (cond_of (λhh=>?_) (λhh=>⟨hrg,nxt (by rw [e1,if_neg (λe=>by rw [hh] at e;cases e.2.1)]) (S.tail.fro [5,5] rfl).tail⟩))
 intro a' ha
 have ha:a'=some ⟨sp,8,none⟩:=by rw [ha];rfl
 subst ha
 have S:=S.tail
 refine (Cont_c (s:=chS t (k.1-4) (cB (-1))) (c:=4-0) (b:=k.1-4) ht.fl S).mono ?_
 rintro ⟨(r:Bool),⟨⟩⟩ w8 ⟨h8,rfl⟩
 dsimp only at h8 ⊢
 subst h8
 by_cases hm:(k.1-4)∈t.fr
 ·refine cond_f (by rw [decide_eq_true (show (k.1-4)∈(chS t (k.1-4) (cB (-1))).fr from hm)];rfl) ⟨hrg,nxt (by rw [e1,if_neg (λe=>e.2.2 hm)]) (S.fro [5,5] rfl).tail⟩
 ·refine cond_t (by rw [decide_eq_false (show ¬ (k.1-4)∈(chS t (k.1-4) (cB (-1))).fr from hm)];rfl) ?_
  refine ldg S ((Release_e (b:=k.1-4) (S.fro [3] rfl)).mono ?_)
  rintro ⟨r,⟨⟩⟩ w9 ⟨-,S⟩
  exact ⟨hrg,nxt (by rw [e1,if_pos ⟨hz,hh,hm⟩]) ((S.fro [5,5,1,1,1] rfl).tail)⟩
theorem Put_m {hd:Hd} {at_:Int×Int} (h:SI g n s) (hm:mayP s hd) (hr:hd.rng) (S:Sep E w0 w (mapE pm s.X::Rs)) :
  CallV Tryz.prog 118 #[.pointer (some ⟨pm,0,none⟩),(sptS s hd at_).val] w [.one .sl,.one (.int .i64)] λr w'=>r.2.1=(0:Int)/\(gonP s.X (lndX s hd at_)).length<=100000/\Sep E w0 w' (outA r.1.a r.1.n r.1.c (gonP s.X (lndX s hd at_))::mapE pm (lndX s hd at_)::Rs):=by
 have hn:=may_ns hm
 have P:PuX s hd at_ (lndX s hd at_):=h.pux hm hr hn at_
 have hno:=h.no
 have bnd:∀ k,1<=cntX s.X k->(0<=k.1/\k.1<64)/\(0<=k.2/\k.2<32):=λk hk=>by have:=h.l.xb k hk;omega
 have hgl:(gonP s.X (lndX s hd at_)).length<=2048:=by
  unfold gonP
  refine Nat.le_trans (List.length_filter_le _ _) ?_
  rw [List.length_flatMap]
  simp only [List.length_map,List.length_range]
  decide
 have gm:∀ k,k∈(putP (sptS s hd at_) s.X hd.c.toNat).2↔k∈gonP s.X (lndX s hd at_):=λk=>by
  rw [P.I.mem,gonP_mem]
  exact ⟨λe=>⟨bnd k e.1,e⟩,λe=>e.2⟩
 have hL:(putP (sptS s hd at_) s.X hd.c.toNat).2.length<=2048:=Nat.le_trans (nodup_sub _ _ P.I.nd λk hk=>(gm k).1 hk) hgl
 have hT:Told (λL L'=>L'.Perm L/\L'.Pairwise λx y=>¬ plL y x) (putP (sptS s hd at_) s.X hd.c.toNat).2:=Told.all (λk hk=>by
  have:=bnd k ((P.I.mem k).1 hk).1
  unfold Bd
  omega) (by omega)
 obtain ⟨r,S⟩:=mapE_out S
 have hok:okT s.X (sptS s hd at_):=hm
 refine Sep.call [boxP pm r s.X,MapF r (cntX s.X),ownsA s.X] S (λG SG=>Put22_c (s:=sptS s hd at_) (T:=λL L'=>L'.Perm L/\L'.Pairwise λx y=>¬ plL y x) hr.1 h.xo (λ_=>hT) SG) λG fr rr w' hr2=>?_
 obtain ⟨h1,L',⟨hp,hs⟩,S'⟩:=hr2.2 hok
 have e:L'=gonP s.X (lndX s hd at_):=by
  have hnd:L'.Nodup:=(hp.nodup_iff).2 P.I.nd
  have so:L'.Pairwise plL:=(hs.and hnd).imp λ{x y} ⟨h1,h2⟩=>by
   have h3:¬ (x.1=y.1/\x.2=y.2):=λe=>h2 (Prod.ext e.1 e.2)
   unfold plL at h1 ⊢
   omega
  exact so_eq so (gonP_so _ _) λk=>by rw [hp.mem_iff];exact gm k
 subst e
 exact ⟨h1,by omega,(mapE_in ((fr _ _ S').fro [1,1,1] rfl)).fro [1] rfl⟩
theorem Put25_c {hd:Hd} {dd tt:SlP Int} (h:SI g n s) (hr:hd.rng) (hlen:dd.n=0\/(dd.n:Int)=g.s) (htl:tt.n=0\/tt.n=32) (bx:Byt dd.l) (bt:Byt tt.l) (hp:s.C.ops+wC 256<=1000000000000) (S:Sep E w0 w (stS sp pp pm p q g s (RdL [dd,tt]::Rs))) :
  CallV Tryz.prog 45 #[.pointer (some ⟨sp,0,none⟩),hd.val,.slice dd.a dd.n dd.c,.slice tt.a tt.n tt.c] w [.one (.int .i64)] λr w'=>r.1=(putS s hd dd.l tt.l).2/\Sep E w0 w' (stS sp pp pm p q g (putS s hd dd.l tt.l).1 (RdL [dd,tt]::Rs)):=by
 apply stream_Stream_Put.vc
 unfold stream_Stream_Put.P
 simp only [Addr.add_lit,Nat.zero_add]
 refine S.newB λb1 w1 S f1 _=>S.newB (vs:=hd.vs) λb3 w2 S f2 _=>S.newB λb5 w3 S f3 _=>S.newB λb7 w4 S f4 _=>?_
 have S:Sep E w0 w4 (stS sp pp pm p q g s (putB b1 b3 b5 b7 sp hd dd tt Rs)):=S.fro [4,4,4,4,4,3,2,1,0] rfl
 have fin:∀ {w':World} {t:SD} {Ts:List Asr},Sep E w0 w' (stS sp pp pm p q g t (putB b1 b3 b5 b7 sp hd dd tt Rs))->Sep E w0 w' (stS sp pp pm p q g t (RdL [dd,tt]::Rs)):=λS=>((S.fro [5,5,5,5] rfl).tail.tail.tail.tail)
 refine S.ld5 (j:=0) rfl rfl (cond_f rfl ?_)
 refine S.ld5 (j:=0) rfl rfl (S.la6 rfl ?_)
 refine (may25_c (hd:=hd) h hr S).mono ?_
 rintro ⟨(r:Bool),⟨⟩⟩ w5 ⟨h5,x5⟩
 dsimp only at h5 ⊢
 subst h5
 have S:=S.stepE x5
 unfold putS
 by_cases hm:mayP s hd
 case neg=>
  rw [if_pos hm]
  exact cond_t (by rw [decide_eq_false hm];rfl) ⟨rfl,fin (Ts:=[]) S⟩
 rw [if_neg (λk=>k hm)]
 refine cond_f (by rw [decide_eq_true hm];rfl) ?_
 refine S.ld5 (j:=0) rfl rfl (PtrK.of rfl ?_)
 simp only [Addr.add_lit,Nat.zero_add]
 refine ldRo h.fl S (cond_of (λhro=>?_) (λhro=>?_))
 ·rw [if_pos hro];exact ⟨rfl,fin (Ts:=[]) S⟩
 rw [if_neg (by rw [hro];exact Bool.false_ne_true)]
 have hn:=may_ns hm
 refine S.ld5 (j:=0) rfl rfl (S.ld6 (j:=1) rfl rfl ?_)
 obtain ⟨a1,a2⟩:=SI.wr hn hr bx bt (xs:=dd.l) (tg:=tt.l) 256 h hp
 refine (write25_c (b1:=b1) (b3:=b3) (b5:=b5) (b7:=b7) (hd:=hd) (dd:=dd) (tt:=tt) h hn (by have:=hm.2.1;have:=hm.2.2.1;omega) hr hlen htl bx bt hp S).mono ?_
 rintro ⟨r,(e:Int),⟨⟩⟩ w6 ⟨h6,h7,S⟩
 dsimp only at h6 h7 ⊢
 subst h6
 generalize wrP hd.n hd dd.l tt.l 256 s=W at h7 S a1 a2 ⊢
 obtain ⟨t,at_,we⟩:=W
 dsimp only at h7 S a1 a2 ⊢
 subst h7
 refine S.newB λb21 w7 S f7 _=>S.st0 (by rfl) λw8 S f8=>?_
 have S:Sep E w0 w8 (BoxA b21 81 [.int .i64 at_.1,.int .i64 at_.2]::stS sp pp pm p q g t (putB b1 b3 b5 b7 sp hd dd tt Rs)):=S
 refine cond_ne (λhe=>?_) (λhe=>?_)
 ·rw [if_pos he];exact ⟨rfl,fin (Ts:=[]) S.tail⟩
 rw [if_neg (λk=>k he)]
 have hA:=a2 he
 have hm2:mayP t hd:=(may_sz a1.sz).2 hm
 have hno:=a1.i.no
 have hat:-4<=at_.1/\at_.1<=100:=by have:=hA.fb;have:=hA.hb;omega
 refine S.ld0 (j:=0) rfl rfl ⟨Rng.i64 (by omega) (by omega),?_⟩
 have S:Sep E w0 w8 ([mapE pm t.X]++(BoxA b21 81 [.int .i64 at_.1,.int .i64 at_.2]::boxSt sp pp pm g t::polE pp p q g t.O::ledE q t.L::chipE p t.C::putB b1 b3 b5 b7 sp hd dd tt Rs)):=S.fro [2] rfl
 refine Sep.regC [mapE pm t.X] S λG D hG T S hDt hDo hkeep back=>?_
 refine ⟨hDt 5 _ _ _ rfl,S.ld6 (j:=0) rfl rfl (PtrK.of rfl ?_)⟩
 simp only [Addr.add_lit,Nat.zero_add]
 refine ⟨hDt 1 _ _ _ rfl,S.ld2 (j:=1) rfl rfl ⟨hDt 0 _ _ _ rfl,S.la1 rfl ⟨hDt 6 _ _ _ rfl,S.la7 rfl ⟨hDt 5 _ _ _ rfl,S.ld6 (j:=0) rfl rfl (PtrK.of rfl ⟨hDt 1 _ _ _ rfl,S.ld2 (j:=0) rfl rfl ?_⟩)⟩⟩⟩⟩
 refine (Order_p (s:=t) (sp:=sp) (pm:=pm) (b:=at_.1-4) (S.fro [2,0,1,1,1] rfl)).mono ?_
 rintro ⟨r,⟨⟩⟩ w9 ⟨h9,x9⟩
 dsimp only at h9 ⊢
 subst h9
 have T:=T.stepE x9
 refine ⟨hkeep _ T.fr,?_⟩
 refine (Put_m (hd:=hd) (at_:=at_) a1.i hm2 hr T).mono ?_
 rintro ⟨⟨va,vn,vc⟩,(e:Int),⟨⟩⟩ w10 ⟨h10,hgl,T⟩
 dsimp only at h10 hgl T ⊢
 subst h10
 refine ⟨hkeep _ T.fr,cond_f rfl ?_⟩
 have S:Sep E w0 w10 (outA va vn vc (gonP t.X (lndX t hd at_))::stS sp pp pm p q g {t with X:=lndX t hd at_} (BoxA b21 81 [.int .i64 at_.1,.int .i64 at_.2]::putB b1 b3 b5 b7 sp hd dd tt Rs)):=(back _ _ T).fro [0,2,0,1,1,1] rfl
 have hL0:=a1.i.lnd0 hA hm2 hr hn
 have ded:∀ {w':World} {t2:SD},t2=lnd1 t hd at_->Sep E w0 w' (outA va vn vc (gonP t.X (lndX t hd at_))::stS sp pp pm p q g t2 (BoxA b21 81 [.int .i64 at_.1,.int .i64 at_.2]::putB b1 b3 b5 b7 sp hd dd tt Rs))->CallV Tryz.prog 122 #[.pointer (some ⟨sp,0,none⟩),.slice va vn vc] w' [] λ_ w2=>(0:Int)=0/\Sep E w0 w2 (stS sp pp pm p q g (lndP t hd at_) (RdL [dd,tt]::Rs)):=λ{w' t2} e S=>by
  subst e
  refine (dead25_c hL0 hgl S).mono ?_
  rintro ⟨⟩ w2 S
  exact ⟨rfl,fin (Ts:=[]) ((S.tail.fro [5] rfl).tail)⟩
 refine S.reg λD hD hkeep S U=>?_
 refine ⟨hD _ S.bl7,S.ld7 (j:=0) rfl rfl (PtrK.of rfl ?_)⟩
 simp only [Addr.add_lit,Nat.zero_add]
 refine ⟨hD _ S.bl1,S.ld1 (j:=1) rfl rfl ⟨hD _ S.bl6,S.la6 rfl ?_⟩⟩
 have hX4:(lndX t hd at_).length=4:=(a1.i.pux hm2 hr hn at_).I.ok.four
 refine (Refs_m (b:=at_.1) (k:=at_.2) hX4 (S.fro [2] rfl)).mono ?_
 rintro ⟨(r:Int),⟨⟩⟩ w11 ⟨h11,x11⟩
 dsimp only at h11 ⊢
 subst h11
 have S:=S.stepE x11
 refine ⟨hkeep _ (U.stepE x11).fr,?_⟩
 refine cond_d (λ(hgt:cntX (lndX t hd at_) at_>0)=>?_) (λ(hle:¬ cntX (lndX t hd at_) at_>0)=>?_)
 ·refine S.ld7 (j:=0) rfl rfl (PtrK.of rfl ?_)
  refine ldg (S.fro [1,1,1,1,1] rfl) ((Count_e (L:=t.L) a1.i.li9 (by decide) (S.fro [4] rfl)).mono ?_)
  rintro ⟨r,⟨⟩⟩ w12 ⟨-,S⟩
  have S:Sep E w0 w12 (outA va vn vc (gonP t.X (lndX t hd at_))::stS sp pp pm p q g (chS {t with X:=lndX t hd at_} (at_.1-4) (cB 1)) (BoxA b21 81 [.int .i64 at_.1,.int .i64 at_.2]::putB b1 b3 b5 b7 sp hd dd tt Rs)):=S.fro [1,1,1,1] rfl
  refine S.ld7 (j:=0) rfl rfl ?_
  exact ded (by unfold lnd1;rw [if_pos hgt]) S
 ·refine S.ld7 (j:=0) rfl rfl ?_
  exact ded (by unfold lnd1;rw [if_neg hle]) S
theorem Empty25_c {b:Int} (h:SI g n s) (hp:s.C.ops+215040<=1000000000000) (S:Sep E w0 w (stS sp pp pm p q g s Rs)) :
  CallV Tryz.prog 46 #[.pointer (some ⟨sp,0,none⟩),.int .i64 b] w [.one (.int .i64)] λr w'=>r.1=(emtS s b).2/\Sep E w0 w' (stS sp pp pm p q g (emtS s b).1 Rs):=by
 apply stream_Stream_Empty.vc
 unfold stream_Stream_Empty.P
 simp only [Addr.add_lit,Nat.zero_add]
 refine (has25_c (b:=b) h S).mono ?_
 rintro ⟨(r:Bool),⟨⟩⟩ w1 ⟨h1,rfl⟩
 dsimp only at h1 ⊢
 subst h1
 unfold emtS
 have hln:=h.ln
 by_cases hb:0<=b/\b<(s.L.length:Int)
 case neg=>rw [if_pos hb];exact cond_t (by rw [decide_eq_false hb];rfl) ⟨rfl,S⟩
 rw [if_neg (λk=>k hb)]
 refine cond_f (by rw [decide_eq_true hb];rfl) ?_
 refine ldg S ((At_e (b:=b) (S.fro [3] rfl) hb).mono ?_)
 rintro ⟨x,⟨⟩⟩ w2 ⟨h2,x2⟩
 dsimp only at h2 ⊢
 subst h2
 have S:=S.stepE x2
 refine S.newB λb8 w3 S f3 _=>S.st0 (by rfl) λw4 S f4=>?_
 have S:Sep E w0 w4 (BoxA b8 103 (gx s.L b.toNat).vs::stS sp pp pm p q g s Rs):=S
 refine S.ld0 (j:=4) rfl rfl ?_
 by_cases hh:(gx s.L b.toNat).he=false
 ·rw [if_pos (.inl hh)]
  exact cond_t (by rw [hh];rfl) ⟨rfl,S.tail⟩
 have hh2:(gx s.L b.toNat).he=true:=by simpa using hh
 refine cond_f (by rw [hh2];rfl) ?_
 refine S.ld0 (j:=0) rfl rfl (cond_d (λh1=>?_) (λh1=>?_))
 ·rw [if_pos (.inr (.inl h1))];exact ⟨rfl,S.tail⟩
 refine S.ld0 (j:=0) rfl rfl (cond_d (λh3=>?_) (λh3=>?_))
 ·rw [if_pos (.inr (.inr h3))];exact ⟨rfl,S.tail⟩
 rw [if_neg (λe=>by rcases e with e | e | e;exact hh e;exact h1 e;exact h3 e)]
 have hno:0<=(gx s.L b.toNat).ow/\(gx s.L b.toNat).ow<4:=by omega
 have emp:∀ {w':World},Sep E w0 w' (BoxA b8 103 (gx s.L b.toNat).vs::stS sp pp pm p q g s Rs)->LoadS w' ⟨b8,0,none⟩ (.int .i64) λ(x:Int)=>CallV Tryz.prog 124 #[.pointer (some ⟨sp,0,none⟩),.int .i64 b,.int .i64 x] w' [.one (.int .i64)] λ(r:Int×Unit) w2=>r.1=(empP s b (gx s.L b.toNat).ow).2/\Sep E w0 w2 (stS sp pp pm p q g (empP s b (gx s.L b.toNat).ow).1 Rs):=λS=>by
  refine S.ld0 (j:=0) rfl rfl ?_
  exact empty25_c (b:=b) h hno (by omega) (λ_=>rfl) hp S.tail
 refine S.ld0 (j:=2) rfl rfl (cond_d (λh4=>?_) (λh4=>?_))
 ·refine ldRo h.fl (S.fro [1,1,1,1,1] rfl) (cond_of (λhr=>?_) (λhr=>?_))
  ·rw [if_pos ⟨h4,hr⟩];exact ⟨rfl,S.tail⟩
  ·rw [if_neg (λe=>by rw [hr] at e;cases e.2)];exact emp S
 ·rw [if_neg (λe=>h4 e.1)];exact emp S
end
theorem gx_ext {L M:List Blk} (hl:L.length=M.length) (h:∀ i,i<L.length->gx L i=gx M i):L=M:=by
 refine List.ext_getElem hl λi h1 h2=>?_
 have:=h i h1
 change L.getD i default=M.getD i default at this
 rw [List.getD_eq_getElem?_getD,List.getD_eq_getElem?_getD,List.getElem?_eq_getElem h1,List.getElem?_eq_getElem h2] at this
 exact this
theorem gx_map (f:Blk->Blk) {L:List Blk} {i:Nat} (h:i<L.length):gx (L.map f) i=f (gx L i):=by
 show (L.map f).getD i default=f (L.getD i default)
 rw [List.getD_eq_getElem?_getD,List.getD_eq_getElem?_getD,List.getElem?_map,List.getElem?_eq_getElem h]
 rfl
theorem relO_f (ns:Int) (x:Blk):(relO ns x).er=x.er/\(relO ns x).us=x.us/\(relO ns x).ow=x.ow/\(relO ns x).ba=x.ba:=by unfold relO;split <;> exact ⟨rfl,rfl,rfl,rfl⟩
def drpX (X:List (SlP Ce)) (ns:Int):List (SlP Ce):=if (getX X ns).n=0 then X else X.set ns.toNat noC
theorem drp_get {X:List (SlP Ce)} (hX:XOk X) {ns:Int} (hn:0<=ns/\ns<4) (m:Int):(getX (drpX X ns) m).l=(if m=ns then [] else (getX X m).l)/\(getX (drpX X ns) m).n=(if m=ns then 0 else (getX X m).n):=by
 unfold drpX
 split
 ·rename_i h0
  by_cases e:m=ns
  ·subst e
   rw [if_pos rfl,if_pos rfl]
   exact ⟨List.length_eq_zero_iff.1 (by rw [(hX.get m).1];exact h0),h0⟩
  ·rw [if_neg e,if_neg e];exact ⟨rfl,rfl⟩
 ·rw [getX_put hX.four hn]
  by_cases e:m=ns
  ·rw [if_pos e,if_pos e,if_pos e];exact ⟨rfl,rfl⟩
  ·rw [if_neg e,if_neg e,if_neg e];exact ⟨rfl,rfl⟩
theorem drp_ok {X:List (SlP Ce)} (hX:XOk X) (ns:Int):XOk (drpX X ns):=by
 unfold drpX
 split
 ·exact hX
 ·exact ⟨by rw [List.length_set];exact hX.four,λx hx=>(List.mem_or_eq_of_mem_set hx).elim (hX.len x) λe=>by rw [e];exact ⟨rfl,Nat.zero_le _⟩⟩
section
variable {g:Geo} {n K J:Nat} {s s' t:SD}
theorem SI.fgt (h:SI g n s) {ns:Int} (hn:0<=ns/\ns<4):SI g n (fgtS s ns):=by
 have hln:=h.ln
 have hX:=h.xo
 have gD:=drp_get hX hn
 have oD:=drp_ok hX ns
 have e:fgtS s ns={frS s ns (-1) with X:=drpX s.X ns,L:=s.L.map (relO ns)}:=if_neg (λk=>k hn)
 rw [e]
 have gm:∀ i,i<n->gx (s.L.map (relO ns)) i=relO ns (gx s.L i):=λi hi=>gx_map _ (by rw [hln];exact hi)
 have pos:∀ k,1<=cntX (drpX s.X ns) k↔1<=cntX s.X k/\(gx s.L (k.1-4).toNat).ow≠ns:=λk=>by
  constructor
  ·intro h1
   obtain ⟨m,j,c,hm,hj,hc,rfl⟩:=cntX_ex oD.four h1
   rw [(gD m).1] at hj
   split at hj
   ·simp at hj
   ·rename_i hne
    refine ⟨cntX_pos hX.four hm hj hc,λe=>hne ?_⟩
    have:=h.l.ow m j c hm hj hc
    exact this.symm.trans e
  ·rintro ⟨h1,h2⟩
   obtain ⟨m,j,c,hm,hj,hc,rfl⟩:=cntX_ex hX.four h1
   have h3:=h.l.ow m j c hm hj hc
   refine cntX_pos oD.four hm (j:=j) (c:=c) ?_ hc
   rw [(gD m).1,if_neg (λe=>h2 (by rw [<-e];exact h3))]
   exact hj
 have inD:∀ i,i<n->inP (drpX s.X ns) (4+(i:Int))=if (gx s.L i).ow=ns then [] else inP s.X (4+(i:Int)):=λi hi=>by
  have e4:∀ k:Int×Int,k.1=4+(i:Int)->(k.1-4).toNat=i:=λk hk=>by omega
  split
  ·rename_i ho
   refine inP_nil λk hk h1=>?_
   have:=(pos k).1 h1
   rw [e4 k hk] at this
   exact this.2 ho
  ·rename_i ho
   refine inP_congr λk hk=>?_
   rw [pos,e4 k hk]
   exact ⟨λh=>h.1,λh=>⟨h,ho⟩⟩
 refine ⟨⟨h.pi.ok,h.pi.gg,h.pi.nn,by show (s.L.map _).length=n;rw [List.length_map];exact hln,h.pi.ol,λx hx=>?_⟩,oD,⟨h.l.pp,oD.four,by show (s.L.map _).length=n;rw [List.length_map];exact hln,λk hk=>h.l.xb k ((pos k).1 hk).1,λi hi=>?_,λi hi=>?_,λi hi e=>?_,λi hi e=>?_,λk hk=>?_,λm j c hm hj hc=>?_⟩,?_,λi hi=>?_,h.ep,h.op,h.ct⟩
 ·obtain ⟨y,hy,rfl⟩:=List.mem_map.1 hx
  rw [(relO_f ns y).1]
  exact h.pi.er y hy
 ·rw [gm i hi,(relO_f ns _).2.1];exact h.l.us i hi
 ·rw [gm i hi,inD i hi]
  have h1:=h.l.li i hi
  unfold relO
  by_cases hh:(gx s.L i).he=true/\(gx s.L i).ow=ns
  ·rw [if_pos hh,if_pos hh.2];rfl
  ·rw [if_neg hh]
   split
   ·rename_i ho
    have:(gx s.L i).he=false:=by
     cases e:(gx s.L i).he
     ·rfl
     ·exact absurd ⟨e,ho⟩ hh
    rw [h.l.free hi this];rfl
   ·exact h1
 ·rw [gm i hi] at e ⊢
  unfold relO at e ⊢
  split
  ·rename_i hh;rw [if_pos hh] at e;exact absurd rfl e
  ·rename_i hh;rw [if_neg hh] at e;exact h.l.he i hi e
 ·rw [gm i hi] at e ⊢
  unfold relO at e ⊢
  split
  ·rename_i hh;rw [if_pos hh] at e;cases e
  ·rename_i hh;rw [if_neg hh] at e;exact h.l.ho i hi e
 ·have h1:=((pos k).1 hk).1
  have hb:=h.l.xb k h1
  rw [gm _ (by omega),(relO_f ns _).2.1]
  exact h.l.pu k h1
 ·have hb:=h.l.xb c.pl ((pos _).1 (cntX_pos oD.four hm hj hc)).1
  rw [(gD m).1] at hj
  split at hj
  ·simp at hj
  ·have hlt:(c.s.b-4).toNat<n:=by
    have hb1:4<=c.s.b/\c.s.b<4+(n:Int):=hb.1
    omega
   show (gx (s.L.map (relO ns)) (c.s.b-4).toNat).ow=m
   rw [gm _ hlt,(relO_f ns _).2.2.1]
   exact h.l.ow m j c hm hj hc
 ·show (s.fr.set _ _).length=4
  rw [List.length_set];exact h.fl
 ·have e2:fat {frS s ns (-1) with X:=drpX s.X ns,L:=s.L.map (relO ns)} i=if (i:Int)=ns then -1 else fat s i:=fat_set h.fl hn (-1) i
  rw [e2]
  split
  ·exact .inl rfl
  ·rename_i hne
   refine (h.fo i hi).oth λhb=>?_
   show gx (s.L.map (relO ns)) (fat s i).toNat=_
   rw [gm _ (by omega)]
   unfold relO
   rw [if_neg]
   rintro ⟨-,ho⟩
   rcases h.fo i hi with k | ⟨-,-,k⟩
   ·omega
   ·rw [ho] at k;exact hne k.symm
theorem fgt_held (h:SI g n s) {ns:Int} (hn:0<=ns/\ns<4):heldS (fgtS s ns) ns=0:=by
 have e:fgtS s ns={frS s ns (-1) with X:=drpX s.X ns,L:=s.L.map (relO ns)}:=if_neg (λk=>k hn)
 rw [e]
 show manyT (s.L.map (relO ns)) (ownB ns) (s.L.map (relO ns)).length=0
 refine manyT_none _ λj hj=>?_
 rw [List.length_map] at hj
 rw [gx_map _ hj]
 unfold relO
 split
 ·unfold ownB rB;rfl
 ·rename_i hh
  unfold ownB
  cases e1:(gx s.L j).he
  ·rfl
  ·have hne:((gx s.L j).ow == ns)=false:=by
    rw [beq_eq_false_iff_ne]
    exact λe=>hh ⟨e1,e⟩
   rw [hne,Bool.and_false]
theorem fgt_f (h:SI g n s) {ns:Int} (hn:0<=ns/\ns<4):(fgtS s ns).X=drpX s.X ns/\(fgtS s ns).C=s.C/\(fgtS s ns).ro=s.ro/\frG (fgtS s ns) ns=-1:=by
 have e:fgtS s ns={frS s ns (-1) with X:=drpX s.X ns,L:=s.L.map (relO ns)}:=if_neg (λk=>k hn)
 rw [e]
 refine ⟨rfl,rfl,rfl,?_⟩
 have:=fat_set h.fl hn (-1) ns.toNat
 rw [if_pos (by omega)] at this
 exact this
end
abbrev nG (g:Geo):Nat:=(g.b-4).toNat
def s00 (g:Geo) (pl:List FD) (X:List (SlP Ce)):SD:=⟨newC g pl,List.replicate (nG g) Blk.new,List.replicate (nG g) zHd,X,[-1,-1,-1,-1],1,0,0,false⟩
structure New0 (X:List (SlP Ce)) (z0 z1:Nat):Prop where
 ok:XOk X
 l:∀ ns,(getX X ns).l=List.replicate (if ns=0 then z0 else if ns=1 then z1 else 0) Ce0
 n:∀ ns,(getX X ns).n=if ns=0 then z0 else if ns=1 then z1 else 0
theorem New0.cnt {X:List (SlP Ce)} {z0 z1:Nat} (h:New0 X z0 z1) (k:Int×Int):¬ 1<=cntX X k:=λh1=>by
 obtain ⟨m,j,c,hm,hj,hc,-⟩:=cntX_ex h.ok.four h1
 rw [h.l] at hj
 have:=List.eq_of_mem_replicate (List.mem_of_getElem? hj)
 rw [this] at hc
 cases hc
theorem rep_gx (n:Nat) {i:Nat} (h:i<n):gx (List.replicate n Blk.new) i=Blk.new:=by
 show (List.replicate n Blk.new).getD i default=_
 rw [List.getD_eq_getElem?_getD,List.getElem?_replicate,if_pos h]
 rfl
theorem s00_I {g:Geo} {pl:List FD} {X:List (SlP Ce)} {z0 z1:Nat} (hR:Right g) (hg:LG g) (hp:∀ f∈pl,Byt f.2.2.1/\f.2.2.1.length<=140737488351232) (hX:New0 X z0 z1):SI g (nG g) (s00 g pl X):=by
 have hk:=hR.1
 unfold Kept at hk
 have hnil:∀ b:Int,inP X b=[]:=λb=>inP_nil λk _=>hX.cnt k
 have gr:=λ{i:Nat} (hi:i<nG g)=>rep_gx (nG g) hi
 refine ⟨⟨newC_ok hR hg hp,rfl,by show (((g.b-4).toNat:Nat):Int)=_;omega,List.length_replicate,List.length_replicate,λx hx=>?_⟩,hX.ok,⟨⟨by omega,by omega⟩,hX.ok.four,List.length_replicate,λk hk=>absurd hk (hX.cnt k),λi hi=>?_,λi hi=>?_,λi hi e=>?_,λi hi e=>?_,λk hk=>absurd hk (hX.cnt k),λm j c hm hj hc=>?_⟩,rfl,λi hi=>?_,⟨by show (0:Int)<=1;decide,by show (1:Int)<_;decide⟩,⟨Int.le_refl _,by show (0:Int)<_;decide⟩,⟨Int.le_refl _,by show (0:Int)<_;decide⟩⟩
 ·rw [(List.mem_replicate.1 hx).2]
  exact ⟨Int.le_refl _,Int.natCast_nonneg _⟩
 ·show 0<=(gx (List.replicate (nG g) Blk.new) i).us/\(gx (List.replicate (nG g) Blk.new) i).us<=g.p-1
  rw [gr hi]
  exact ⟨Int.le_refl _,by show (0:Int)<=g.p-1;omega⟩
 ·show (gx (List.replicate (nG g) Blk.new) i).li=((inP X (4+(i:Int))).length:Int)
  rw [gr hi,hnil];rfl
 ·change (gx (List.replicate (nG g) Blk.new) i).li≠0 at e
  rw [gr hi] at e
  exact absurd rfl e
 ·change (gx (List.replicate (nG g) Blk.new) i).he=true at e
  rw [gr hi] at e
  cases e
 ·exact absurd (cntX_pos hX.ok.four hm hj hc) (hX.cnt _)
 ·refine .inl ?_
  match i,hi with
  | 0,_=>rfl
  | 1,_=>rfl
  | 2,_=>rfl
  | 3,_=>rfl
theorem s00_over {g:Geo} {pl:List FD} {X:List (SlP Ce)} (hR:Right g):overP (s00 g pl X)=(s00 g pl X,0):=by
 have hk:=hR.1
 unfold Kept at hk
 have hb:bads (s00 g pl X).L=0:=manyT_none _ λj hj=>by
  have hj:j<nG g:=by have:(s00 g pl X).L.length=nG g:=List.length_replicate;omega
  show (gx (List.replicate (nG g) Blk.new) j).ba=false
  rw [rep_gx (nG g) hj]
  rfl
 unfold overP
 rw [if_neg]
 ·rfl
 ·rw [hb]
  show ¬ g.sp<0
  omega
abbrev X0:List (SlP Ce):=[noC,noC,noC,noC]
theorem X0_ok:XOk X0:=⟨rfl,λx hx=>by simp at hx;rw [hx];exact ⟨rfl,Nat.zero_le _⟩⟩
theorem cnt_new {X:List (SlP Ce)} (hX:X.length=4) {ns:Int} (hn:0<=ns/\ns<4) {x:SlP Ce} {n:Nat} (hx:x.l=List.replicate n Ce0) (h0:(getX X ns).l=[]):cntX (X.set ns.toNat x)=cntX X:=by
 funext k
 unfold cntX
 obtain ⟨m1,m2⟩:=flat_mid (f:=λx:SlP Ce=>x.l) (z:=x) (getX_at hX hn)
 have h1:flatX X=_:=m1
 have h2:flatX (X.set ns.toNat x)=_:=m2
 rw [h1,h2,hx,h0]
 unfold cntC
 simp only [List.countP_append,List.countP_replicate]
 have:isP k Ce0=false:=rfl
 rw [this]
 simp
theorem ok_new {X:List (SlP Ce)} (h:XOk X) {i:Nat} {x:SlP Ce} (hx:x.l.length=x.n/\x.n<=65535):XOk (X.set i x):=
 ⟨by rw [List.length_set];exact h.four,λy hy=>(List.mem_or_eq_of_mem_set hy).elim (h.len y) λe=>by rw [e];exact hx⟩
theorem getX_set {X:List (SlP Ce)} (hX:X.length=4) {ns:Int} (hn:0<=ns/\ns<4) {x:SlP Ce} (ns':Int):getX (X.set ns.toNat x) ns'=if ns'=ns then x else getX X ns':=by
 by_cases hn':0<=ns'/\ns'<4
 ·have h1:=getX_at (X:=X.set ns.toNat x) (by rw [List.length_set];exact hX) hn'
  rw [List.getElem?_set] at h1
  by_cases h:ns'=ns
  ·subst h
   rw [if_pos rfl,if_pos (by omega)] at h1
   rw [if_pos rfl]
   exact (Option.some.inj h1).symm
  ·rw [if_neg (by omega),getX_at hX hn'] at h1
   rw [if_neg h]
   exact (Option.some.inj h1).symm
 ·have h:ns'≠ns:=λe=>hn' (e ▸ hn)
  rw [if_neg h]
  unfold getX
  rw [if_neg hn',if_neg hn']
section
variable {E:Nat->Prop} {w0 w:World} {Rs:List Asr} {sp pp pm p q n:Nat} {g:Geo} {s:SD} {X:List (SlP Ce)}
theorem New_m (S:Sep E w0 w Rs):CallV Tryz.prog 43 #[] w [.one .ptr] λr w'=>∃ pm:Nat,r.1=some (⟨pm,0,none⟩:Addr)/\Sep E w0 w' (mapE pm X0::Rs):=by
 refine New22_c.mono ?_
 rintro ⟨r,⟨⟩⟩ w1 ⟨pm,rr,h1,S1⟩
 refine ⟨pm,h1,?_⟩
 have S2:=S.frame0 (fromQ (X:=X0) S1)
 exact mapE_in (r:=rr) (X:=X0) S2
theorem Add_m {ns size:Int} (hX:XOk X) (hn:0<=ns/\ns<4) (h0:(getX X ns).n=0) (hz:1<=size/\size<=65535) (S:Sep E w0 w (mapE pm X::Rs)) :
  CallV Tryz.prog 81 #[.pointer (some ⟨pm,0,none⟩),.int .i64 ns,.int .i64 size] w [.one (.int .i64)] λ(rr:Int×Unit) w'=>rr.1=0/\∃ x:SlP Ce,x.l=List.replicate size.toNat Ce0/\x.n=size.toNat/\Sep E w0 w' (mapE pm (X.set ns.toNat x)::Rs):=by
 obtain ⟨r,S⟩:=mapE_out S
 have hl:(getX X ns).l=[]:=List.length_eq_zero_iff.1 (by rw [(hX.get ns).1];exact h0)
 have ha:addE X ns size=0:=by
  unfold addE
  rw [if_neg (λk=>k hn),if_neg (λk=>k hz),if_neg (by omega)]
 refine Sep.call [boxP pm r X,MapF r (cntX X),ownsA X] S (λG SG=>Add22_c (ns:=ns) (size:=size) hX.four (toQ SG)) λG fr rr w' hr=>?_
 obtain ⟨h1,-,h2⟩:=hr
 obtain ⟨x,hx1,hx2,S'⟩:=h2 ha
 refine ⟨h1.trans ha,x,hx1,hx2,?_⟩
 have S3:=fr _ _ (fromQ (X:=X.set ns.toNat x) S')
 rw [<-cnt_new hX.four hn hx1 hl] at S3
 exact mapE_in (r:=r) S3
theorem New0.zero:New0 X0 0 0:=⟨X0_ok,λns=>by
 have:getX X0 ns=noC:=by
  unfold getX
  split
  ·rename_i h
   obtain ⟨h1,h2⟩:=h
   have:ns.toNat<4:=by omega
   show X0.getD ns.toNat noC=noC
   match ns.toNat,this with
   | 0,_=>rfl
   | 1,_=>rfl
   | 2,_=>rfl
   | 3,_=>rfl
  ·rfl
 rw [this]
 split
 ·rfl
 ·split <;> rfl,λns=>by
 have:getX X0 ns=noC:=by
  unfold getX
  split
  ·rename_i h
   obtain ⟨h1,h2⟩:=h
   have:ns.toNat<4:=by omega
   show X0.getD ns.toNat noC=noC
   match ns.toNat,this with
   | 0,_=>rfl
   | 1,_=>rfl
   | 2,_=>rfl
   | 3,_=>rfl
  ·rfl
 rw [this]
 split
 ·rfl
 ·split <;> rfl⟩
theorem New0.add0 {z:Nat} {x:SlP Ce} (h:New0 X 0 0) (hx1:x.l=List.replicate z Ce0) (hx2:x.n=z) (hz:z<=65535):New0 (X.set (0:Int).toNat x) z 0:=
 ⟨ok_new h.ok ⟨by rw [hx1,List.length_replicate,hx2],by omega⟩,λns=>by
  rw [getX_set h.ok.four (by decide)]
  by_cases e:ns=0
  ·rw [if_pos e,if_pos e];exact hx1
  ·rw [if_neg e,h.l,if_neg e,if_neg e],λns=>by
  rw [getX_set h.ok.four (by decide)]
  by_cases e:ns=0
  ·rw [if_pos e,if_pos e];exact hx2
  ·rw [if_neg e,h.n,if_neg e,if_neg e]⟩
theorem New0.add1 {y z:Nat} {x:SlP Ce} (h:New0 X y 0) (hx1:x.l=List.replicate z Ce0) (hx2:x.n=z) (hz:z<=65535):New0 (X.set (1:Int).toNat x) y z:=
 ⟨ok_new h.ok ⟨by rw [hx1,List.length_replicate,hx2],by omega⟩,λns=>by
  rw [getX_set h.ok.four (by decide)]
  by_cases e:ns=1
  ·subst e;exact hx1
  ·rw [if_neg e,h.l,if_neg e,if_neg e],λns=>by
  rw [getX_set h.ok.four (by decide)]
  by_cases e:ns=1
  ·subst e;exact hx2
  ·rw [if_neg e,h.n,if_neg e,if_neg e]⟩
theorem New25_c {pl:List FD} {z0 z1:Nat} (hR:Right g) (hg:LG g) (hp:∀ f∈pl,Byt f.2.2.1/\f.2.2.1.length<=140737488351232) (hX:New0 X z0 z1) (S:Sep E w0 w (mapE pm X::polE pp p q g (List.replicate (nG g) zHd)::ledE q (List.replicate (nG g) Blk.new)::chipE p (newC g pl)::Rs)) :
  CallV Tryz.prog 42 #[.pointer (some ⟨pp,0,none⟩),.pointer (some ⟨pm,0,none⟩),g.val,.int .u64 1] w [.one .ptr,.one (.int .i64)] λr w'=>∃ sp:Nat,r.1=some (⟨sp,0,none⟩:Addr)/\r.2.1=(0:Int)/\Sep E w0 w' (stS sp pp pm p q g (s00 g pl X) Rs):=by
 apply stream_New.vc
 unfold stream_New.P
 refine S.newB (vs:=g.vs) λb1 w1 S f1 _=>S.la0 rfl ?_
 refine (Check_c (g:=g)).mono ?_
 rintro ⟨(e:Int),⟨⟩⟩ w2 ⟨h2,x2⟩
 dsimp only at h2 ⊢
 have h2:e=0:=by rw [h2];unfold chkE;rw [if_pos hR]
 subst h2
 have S:=S.stepE x2
 refine cond_f rfl (S.la0 rfl ?_)
 refine S.newB (vs:=stV pp pm g {s00 g pl X with fr:=[0,0,0,0]}) λb7 w3 S f3 _=>?_
 have S:Sep E w0 w3 (stS b7 pp pm p q g {s00 g pl X with fr:=[0,0,0,0]} (BoxA b1 23 g.vs::Rs)):=S.fro [0,1,1,1,1] rfl
 refine Loop1 (λ(v:Int×Unit) w'=>∃ (i:Nat) (f:List Int),v.1=(i:Int)/\i<=4/\f.length=4/\(∀ j,j<i->f.getD j 0=-1)/\Sep E w0 w' (stS b7 pp pm p q g {s00 g pl X with fr:=f} (BoxA b1 23 g.vs::Rs))) (λ(v:Int×Unit) _=>(4-v.1).toNat)
  ⟨0,[0,0,0,0],rfl,by omega,rfl,λj hj=>by omega,S⟩ ?_
 clear S
 rintro ⟨(v:Int),⟨⟩⟩ w4 ⟨i,f,hv,hi,hf,hj,S⟩
 dsimp only at hv
 subst hv
 refine cond_d (λhlt=>?_) (λhge=>?_)
 ·have hi4:i<4:=by have hlt:(i:Int)<4:=hlt;omega
  refine ⟨⟨by omega,hlt⟩,?_⟩
  simp only [Addr.add_lit]
  refine suFr (ns:=(i:Int)) hf (by omega) S λw5 S f5=>⟨Rng.i64 (by omega) (by omega),⟨i+1,f.set i (-1),by push_cast;rfl,by omega,by rw [List.length_set];exact hf,λj hj2=>?_,?_⟩,by omega⟩
  ·rw [List.getD_eq_getElem?_getD,List.getElem?_set]
   by_cases e:i=j
   ·rw [if_pos e,if_pos (by omega)];rfl
   ·rw [if_neg e,<- List.getD_eq_getElem?_getD];exact hj j (by omega)
  ·have:frS {s00 g pl X with fr:=f} (i:Int) (-1)={s00 g pl X with fr:=f.set i (-1)}:=by unfold frS;rw [Int.toNat_natCast]
   rw [this] at S
   exact S
 ·have hi4:i=4:=by have hge:¬ (i:Int)<4:=hge;omega
  subst hi4
  have ef:f=[-1,-1,-1,-1]:=by
   match f,hf with
   | [a,b,c,d],_=>
    have h0:a=-1:=hj 0 (by omega)
    have h1:b=-1:=hj 1 (by omega)
    have h2:c=-1:=hj 2 (by omega)
    have h3:d=-1:=hj 3 (by omega)
    rw [h0,h1,h2,h3]
  subst ef
  have S:Sep E w0 w4 (stS b7 pp pm p q g (s00 g pl X) (BoxA b1 23 g.vs::Rs)):=S
  refine (over25_c (s00_I hR hg hp hX) S).mono ?_
  rintro ⟨(e:Int),⟨⟩⟩ w5 ⟨-,S⟩
  rw [s00_over hR] at S
  exact ⟨b7,rfl,rfl,(S.fro [5] rfl).tail⟩
theorem Drop_m {ns:Int} (h:SI g n s) (S:Sep E w0 w (mapE pm s.X::Rs)):CallV Tryz.prog 112 #[.pointer (some ⟨pm,0,none⟩),.int .i64 ns] w [.one .sl,.one (.int .i64)] λr w'=>Sep E w0 w' (mapE pm (drpX s.X ns)::Rs):=by
 obtain ⟨r,S⟩:=mapE_out S
 have hno:=h.no
 have bnd:∀ k,1<=cntX s.X k->(0<=k.1/\k.1<64)/\(0<=k.2/\k.2<32):=λk hk=>by have:=h.l.xb k hk;omega
 have hT:∀ M:List (Int×Int),M.Nodup->(∀ k,k∈M↔1<=cntX s.X k/\cntX (s.X.set ns.toNat noC) k=0)->Told (λL L'=>L'.Perm L/\L'.Pairwise λx y=>¬ plL y x) M:=λM hnd hM=>Told.all (λk hk=>by
  have:=bnd k ((hM k).1 hk).1
  unfold Bd
  omega) (by
  have h1:=nodup_sub M ((List.range 64).flatMap λb:Nat=>(List.range 32).map λi:Nat=>((b:Int),(i:Int))) hnd λk hk=>by
   have:=bnd k ((hM k).1 hk).1
   exact List.mem_flatMap.2 ⟨k.1.toNat,List.mem_range.2 (by omega),List.mem_map.2 ⟨k.2.toNat,List.mem_range.2 (by omega),Prod.ext (by dsimp only;omega) (by dsimp only;omega)⟩⟩
  have h2:((List.range 64).flatMap λb:Nat=>(List.range 32).map λi:Nat=>((b:Int),(i:Int))).length=2048:=by
   rw [List.length_flatMap]
   simp only [List.length_map,List.length_range]
   decide
  omega)
 refine Sep.call [boxP pm r s.X,MapF r (cntX s.X),ownsA s.X] S (λG SG=>Drop22_c (ns:=ns) (T:=λL L'=>L'.Perm L/\L'.Pairwise λx y=>¬ plL y x) h.xo hT SG) λG fr rr w' hr=>?_
 unfold drpX
 by_cases h0:(getX s.X ns).n=0
 ·rw [if_pos h0]
  exact mapE_in (fr _ _ (hr.1 h0).2.2)
 ·rw [if_neg h0]
  obtain ⟨-,M,L',-,-,-,S'⟩:=hr.2 h0
  exact mapE_in ((fr _ _ S').tail)
theorem Forget25_c {ns:Int} (h:SI g n s) (S:Sep E w0 w (stS sp pp pm p q g s Rs)) :
  CallV Tryz.prog 44 #[.pointer (some ⟨sp,0,none⟩),.int .i64 ns] w [] λr w'=>Sep E w0 w' (stS sp pp pm p q g (fgtS s ns) Rs):=by
 apply stream_Stream_Forget.vc
 unfold stream_Stream_Forget.P
 simp only [Addr.add_lit,Nat.zero_add]
 have out:¬ (0<=ns/\ns<4)->Sep E w0 w (stS sp pp pm p q g (fgtS s ns) Rs):=λe=>by
  rw [show fgtS s ns=s from if_pos e]
  exact S
 refine cond_d (λh1=>out (by omega)) (λh1=>cond_d (λh2=>out (by omega)) (λh2=>?_))
 clear out
 have hn:0<=ns/\ns<4:=by omega
 have hln:=h.ln
 have hno:=h.no
 refine S.ld0 (j:=1) rfl rfl ?_
 refine (Drop_m (ns:=ns) h (S.fro [1] rfl)).mono ?_
 rintro ⟨r,(e:Int),⟨⟩⟩ w1 S
 have S:Sep E w0 w1 (stS sp pp pm p q g {s with X:=drpX s.X ns} Rs):=S.fro [1] rfl
 refine ⟨hn,suFr (s:={s with X:=drpX s.X ns}) h.fl hn S λw2 S f2=>?_⟩
 refine ldg S ((Len_e (S.fro [3] rfl)).mono ?_)
 rintro ⟨(r:Int),⟨⟩⟩ w3 ⟨h3,rfl⟩
 dsimp only at h3 ⊢
 have h3:r=(n:Int):=by rw [h3];show (s.L.length:Int)=_;rw [hln]
 subst h3
 have efg:fgtS s ns={frS s ns (-1) with X:=drpX s.X ns,L:=s.L.map (relO ns)}:=if_neg (λk=>k hn)
 refine Loop1 (λ(v:Int×Unit) w'=>∃ (i:Nat) (M:List Blk),v.1=(i:Int)/\i<=n/\M.length=n/\(∀ j,j<n->gx M j=if j<i then relO ns (gx s.L j) else gx s.L j)/\Sep E w0 w' (stS sp pp pm p q g {frS s ns (-1) with X:=drpX s.X ns,L:=M} Rs)) (λ(v:Int×Unit) _=>((n:Int)-v.1).toNat)
  ⟨0,s.L,rfl,Nat.zero_le _,hln,λj hj=>by rw [if_neg (by omega)],S⟩ ?_
 clear S
 rintro ⟨(v:Int),⟨⟩⟩ w4 ⟨i,M,hv,hi,hM,hg,S⟩
 dsimp only at hv
 subst hv
 refine cond_d (λhlt=>?_) (λhge=>?_)
 case refine_2=>
  have hin:i=n:=by omega
  subst hin
  have eM:M=s.L.map (relO ns):=gx_ext (by rw [hM,List.length_map,hln]) λj hj=>by
   rw [hg j (by omega),if_pos (by omega),gx_map _ (by omega)]
  rw [efg,<- eM]
  exact S
 have hin:i<n:=by omega
 have hgi:=hg i hin
 rw [if_neg (Nat.lt_irrefl i)] at hgi
 have hrg:Rng .i64 ((i:Int)+1):=Rng.i64 (by omega) (by omega)
 refine ldg S ((At_e (b:=(i:Int)) (S.fro [3] rfl) (by show 0<=(i:Int)/\(i:Int)<(M.length:Int);omega)).mono ?_)
 rintro ⟨x,⟨⟩⟩ w5 ⟨h5,x5⟩
 dsimp only at h5 ⊢
 rw [Int.toNat_natCast,hgi] at h5
 subst h5
 have S:=S.stepE x5
 refine S.newB λb18 w6 S f6 _=>S.st0 (by rfl) λw7 S f7=>?_
 have S:Sep E w0 w7 (BoxA b18 103 (gx s.L i).vs::stS sp pp pm p q g {frS s ns (-1) with X:=drpX s.X ns,L:=M} Rs):=S
 have nxt:∀ {w':World} {M':List Blk},M'.length=n->(∀ j,j<n->gx M' j=if j=i then relO ns (gx s.L i) else gx M j)->Sep E w0 w' (stS sp pp pm p q g {frS s ns (-1) with X:=drpX s.X ns,L:=M'} Rs)->(∃ (i':Nat) (M:List Blk),(i:Int)+1=(i':Int)/\i'<=n/\M.length=n/\(∀ j,j<n->gx M j=if j<i' then relO ns (gx s.L j) else gx s.L j)/\Sep E w0 w' (stS sp pp pm p q g {frS s ns (-1) with X:=drpX s.X ns,L:=M} Rs))/\((n:Int)-((i:Int)+1)).toNat<((n:Int)-(i:Int)).toNat:=λ{w' M'} hM' hg' S=>by
  refine ⟨⟨i+1,M',by push_cast;rfl,by omega,hM',λj hj=>?_,S⟩,by omega⟩
  rw [hg' j hj]
  by_cases e:j=i
  ·subst e;rw [if_pos rfl,if_pos (by omega)]
  ·rw [if_neg e,hg j hj]
   by_cases e2:j<i
   ·rw [if_pos e2,if_pos (by omega)]
   ·rw [if_neg e2,if_neg (by omega)]
 have stay:¬ ((gx s.L i).he=true/\(gx s.L i).ow=ns)->∀ j,j<n->gx M j=if j=i then relO ns (gx s.L i) else gx M j:=λhne j hj=>by
  by_cases e:j=i
  ·subst e
   rw [if_pos rfl,hgi]
   unfold relO
   rw [if_neg hne]
  ·rw [if_neg e]
 refine S.ld0 (j:=4) rfl rfl (cond_of (λhh=>?_) (λhh=>⟨hrg,nxt hM (stay λe=>by rw [hh] at e;cases e.1) S.tail⟩))
 refine S.ld0 (j:=0) rfl rfl (cond_eq (λ(ho:(gx s.L i).ow=ns)=>?_) (λ(ho:(gx s.L i).ow≠ns)=>⟨hrg,nxt hM (stay λe=>ho e.2) S.tail⟩))
 refine ldg S.tail ((Release_e (b:=(i:Int)) (S.tail.fro [3] rfl)).mono ?_)
 rintro ⟨r,⟨⟩⟩ w8 ⟨-,S⟩
 refine ⟨hrg,nxt (M':=chL (i:Int) M.length rB M) (by rw [chL_len];exact hM) (λj hj=>?_) (S.fro [1,1,1] rfl)⟩
 rw [gx_ch rfl]
 by_cases e:j=i
 ·rw [if_pos ⟨by omega,by omega⟩,if_pos e,e,hgi]
  unfold relO
  rw [if_pos ⟨hh,ho⟩]
 ·rw [if_neg (by omega),if_neg e]
end
end Go.Proofs.YtbaojfchlhlaeaaGreat.Vc
namespace Go.Proofs.YtbaojfchlhlaeaaGreat.Vc
open Go Go.Eng Go.RowKit Go.ChangeShapes
def Ty.big:(t:Ty)->t.T->Prop
 | .int _,_=>True
 | .bool,_=>True
 | .str,(x:ByteArray)=>x.size<=140737488351232
 | .sl e,(x:SlP e.T)=>x.n<=140737488351232/\∀ y∈x.l,e.big y
 | .nil,_=>True
 | .cons a r,(x:a.T×r.T)=>a.big x.1/\r.big x.2
def posF (P:Program) (cf:Ty->TypeId->Bool):Ty->List Field->Bool
 | .cons a r,f::fs=>cf a f.type && posF P cf r fs
 | _,_=>true
def posA (cf:Ty->TypeId->Bool) (e:TypeId):Ty->Nat->Bool
 | .cons a r,n+1=>cf a e && posA cf e r n
 | _,_=>true
def pos (P:Program):Nat->Ty->TypeId->Bool
 | 0,_,_=>false
 | d+1,t,i=>
  match P.underlying i,t with
  | some (.slice e),.sl t=>pos P d t e && Nat.ble 1 (P.bytesOf e)
  | some (.struct fs),t=>posF P (pos P d) t fs.toList
  | some (.array n e),t=>posA (pos P d) e t n
  | _,_=>true
end Go.Proofs.YtbaojfchlhlaeaaGreat.Vc
namespace Go.Proofs.YtbaojfchlhlaeaaGreat.Vc
open Go Go.Eng Go.RowKit
theorem fds_byt {w:World} {G:Nat->Prop} {f:SlP TF.T} (hf:LF.rd w G f):∀ F∈fds f,Byt F.2.2.1:=λF hF=>by
 obtain ⟨x,hx,rfl⟩:=List.mem_map.1 hF
 rw [TF_dat]
 exact λv hv=>rng_u8 ((hf.2.2.2.2 x hx).2.2.1.2.2.2.2 v hv)
end Go.Proofs.YtbaojfchlhlaeaaGreat.Vc
namespace Go.Proofs.YtbaojfchlhlaeaaGreat.Vc
open Go Go.Eng
def law25_light.A:Ann:=.two .no (.two (.two .no (.one (.loop [2,3,4,5,6,7,8,9,10,11,12,13,14,15,16,17,18,19,20,21,22,23,24,25,26] [(3,.one (.int .i64))] .no))) (.two (.draw (.take 0 (.take 1 (.eff 2 (.take 3 (.take 4 (.take 5 (.eff 6 (.take 7 (.take 8 (.take 9 (.take 10 (.take 11 (.take 12 (.take 13 (.take 14 (.take 15 (.take 16 (.take 17 (.take 18 (.take 19 (.take 20 (.take 21 (.take 22 (.take 23 (.take 24 (.take 25 (.take 26 (.take 27 (.take 28 (.take 29 (.take 30 (.take 31 (.take 32 (.take 33 (.take 34 (.take 35 (.take 36 (.eff 37 (.take 38 (.take 39 (.take 40 (.done))))))))))))))))))))))))))))))))))))))))))) .no))
def law25_light.P (p0_0 p0_1 p0_2 p0_3 p0_4 p0_5:Int) (a0_6:Option Addr) (n0_6 c0_6:Nat) (p0_7 p0_8:Int) (a0_9:Option Addr) (n0_9 c0_9:Nat) (w:World) (K:Bool×Unit->World->Prop):Prop:=
 NewV #[.int .i64 p0_0,.int .i64 p0_1,.int .i64 p0_2,.int .i64 p0_3,.int .i64 p0_4,.int .i64 p0_5,.slice a0_6 n0_6 c0_6,.int .i64 p0_7,.int .i64 p0_8,.slice a0_9 n0_9 c0_9] 53 w λb1 w2=>
 LoopV [.one (.int .i64)] ((0:Int),()) w2 λ(z3:Int×Unit) w4 (K5:Int×Unit->World->Prop)=>
 LoadS w4 ⟨b1,9,none⟩ .sl λ(x6:SlV)=>
 cond (decide (z3.1<((x6.n:Nat):Int)))
 (LoadS w4 ⟨b1,9,none⟩ .sl λ(x7:SlV)=>
 (0<=z3.1/\z3.1<((x7.n:Nat):Int))/\∃ q8:Addr,x7.a=some q8 /\
 LoadS w4 ((q8.add (z3.1.toNat*5)).add 1) (.int .i64) λ(x9:Int)=>
 cond (decide (x9<0))
 (K (false,()) w4)
 (LoadS w4 ⟨b1,9,none⟩ .sl λ(x10:SlV)=>
 (0<=z3.1/\z3.1<((x10.n:Nat):Int))/\∃ q11:Addr,x10.a=some q11 /\
 LoadS w4 ((q11.add (z3.1.toNat*5)).add 1) (.int .i64) λ(x12:Int)=>
 cond (decide (x12>100000))
 (K (false,()) w4)
 (Rng .i64 (z3.1+1) /\
 K5 (z3.1+1,()) w4)))
 (DrawV λD13=>
 (D13 b1/\LoadA w4.drew ⟨b1,0,none⟩ [.int .i64,.int .i64,.int .i64,.int .i64,.int .i64,.int .i64] λ(x14:Int×Int×Int×Int×Int×Int×Unit)=>
 CallV Tryz.prog 75 #[.agg #[.int .i64 x14.1,.int .i64 x14.2.1,.int .i64 x14.2.2.1,.int .i64 x14.2.2.2.1,.int .i64 x14.2.2.2.2.1,.int .i64 x14.2.2.2.2.2.1]] w4.drew [.one .bool] λ(r15:Bool×Unit) w16=>
 KeepOn D13 w4.drew w16 /\
 cond r15.1
 ((D13 b1/\LoadS w4.drew ⟨b1,6,none⟩ .sl λ(x17:SlV)=>
 CallV Tryz.prog 76 #[.slice x17.a x17.n x17.c] w16 [.one .bool] λ(r18:Bool×Unit) w19=>
 KeepOn D13 w4.drew w19 /\
 cond r18.1
 ((D13 b1/\LoadS w4.drew ⟨b1,0,none⟩ (.int .i64) λ(x20:Int)=>
 cond (decide (x20<=16))
 ((D13 b1/\LoadS w4.drew ⟨b1,1,none⟩ (.int .i64) λ(x21:Int)=>
 cond (decide (x21<=16))
 ((D13 b1/\LoadS w4.drew ⟨b1,2,none⟩ (.int .i64) λ(x22:Int)=>
 cond (decide (x22<=128))
 ((D13 b1/\LoadS w4.drew ⟨b1,9,none⟩ .sl λ(x23:SlV)=>
 cond (decide (((x23.n:Nat):Int)<=150))
 ((D13 b1/\LoadA w4.drew ⟨b1,0,none⟩ [.int .i64,.int .i64,.int .i64,.int .i64,.int .i64,.int .i64] λ(x24:Int×Int×Int×Int×Int×Int×Unit)=>
 SubK (some ⟨b1,7,none⟩) 0 2 1 λa25=>
 CallV Tryz.prog 77 #[.agg #[.int .i64 x24.1,.int .i64 x24.2.1,.int .i64 x24.2.2.1,.int .i64 x24.2.2.2.1,.int .i64 x24.2.2.2.2.1,.int .i64 x24.2.2.2.2.2.1],.slice a25 (2-0) (2-0)] w19 [.one (.int .i64)] λ(r26:Int×Unit) w27=>
 KeepOn D13 w4.drew w27 /\
 K ((r26.1 == 0),()) w27))
 (K (false,()) w19)))
 (K (false,()) w19)))
 (K (false,()) w19)))
 (K (false,()) w19)))
 (K (false,()) w19)))
 (K (false,()) w16)))
theorem law25_light.vc (p0_0 p0_1 p0_2 p0_3 p0_4 p0_5:Int) (a0_6:Option Addr) (n0_6 c0_6:Nat) (p0_7 p0_8:Int) (a0_9:Option Addr) (n0_9 c0_9:Nat) (w:World) (K:Bool×Unit->World->Prop) (h:law25_light.P p0_0 p0_1 p0_2 p0_3 p0_4 p0_5 a0_6 n0_6 c0_6 p0_7 p0_8 a0_9 n0_9 c0_9 w K):CallV Tryz.prog 29 #[.agg #[.int .i64 p0_0,.int .i64 p0_1,.int .i64 p0_2,.int .i64 p0_3,.int .i64 p0_4,.int .i64 p0_5,.slice a0_6 n0_6 c0_6,.int .i64 p0_7,.int .i64 p0_8,.slice a0_9 n0_9 c0_9]] w [.one .bool] K:=by
 refine vcFun.of (A:=law25_light.A) (wr:=false) okf_ok follows h Tryz.func29 ?_
 kernel_rfl
def law25_payload.A:Ann:=.two .no (.two .no (.two (.two .no (.one (.loop [5,6,8,9,10,11,12,13,14,15,16,17,18,19,20] [(5,.one .sl),(6,.one (.int .i64))] .no))) .no))
def law25_payload.P (p0 p1:Int) (w:World) (K:SlV×Unit->World->Prop):Prop:=
 NewV #[] 5 w λb1 w2=>
 LoopV [.one .sl,.one (.int .i64)] ((⟨(some ⟨b1,0,none⟩),0,0⟩:SlV),(0:Int),()) w2 λ(z3:SlV×Int×Unit) w4 (K5:SlV×Int×Unit->World->Prop)=>
 cond (decide (z3.2.1<p0))
 (NewV #[.int .u8 (Go.bits .xor .u8 (IntKind.u8.wrap ((IntKind.u8.wrap z3.2.1)*5)) p1)] 5 w4 λb6 w7=>
 AppS w7 (some ⟨b6,0,none⟩) 1 1 λns12=>
 AppV w7 5 1 1 z3.1.a z3.1.n z3.1.c ns12 1 λa8 n9 c10 w11=>
 Rng .i64 (z3.2.1+1) /\
 K5 ((⟨a8,n9,c10⟩:SlV),z3.2.1+1,()) w11)
 (K (z3.1,()) w4)
theorem law25_payload.vc (p0 p1:Int) (w:World) (K:SlV×Unit->World->Prop) (h:law25_payload.P p0 p1 w K):CallV Tryz.prog 97 #[.int .i64 p0,.int .u8 p1] w [.one .sl] K:=by
 refine vcFun.of (A:=law25_payload.A) (wr:=false) okf_ok follows h Tryz.func97 ?_
 kernel_rfl
def law25_made.A:Ann:=.no
def law25_made.P (p0_0 p0_1 p0_2 p0_3 p0_4 p0_5:Int) (a0_6:Option Addr) (n0_6 c0_6:Nat) (p0_7 p0_8:Int) (a0_9:Option Addr) (n0_9 c0_9:Nat) (w:World) (K:(Option Addr)×(Option Addr)×Unit->World->Prop):Prop:=
 NewV #[.int .i64 p0_0,.int .i64 p0_1,.int .i64 p0_2,.int .i64 p0_3,.int .i64 p0_4,.int .i64 p0_5,.slice a0_6 n0_6 c0_6,.int .i64 p0_7,.int .i64 p0_8,.slice a0_9 n0_9 c0_9] 53 w λb1 w2=>
 LoadA w2 ⟨b1,0,none⟩ [.int .i64,.int .i64,.int .i64,.int .i64,.int .i64,.int .i64] λ(x3:Int×Int×Int×Int×Int×Int×Unit)=>
 LoadS w2 ⟨b1,6,none⟩ .sl λ(x4:SlV)=>
 CallV Tryz.prog 78 #[.agg #[.int .i64 x3.1,.int .i64 x3.2.1,.int .i64 x3.2.2.1,.int .i64 x3.2.2.2.1,.int .i64 x3.2.2.2.2.1,.int .i64 x3.2.2.2.2.2.1],.slice x4.a x4.n x4.c] w2 [.one .ptr,.one (.int .i64)] λ(r5:(Option Addr)×Int×Unit) w6=>
 LoadA w6 ⟨b1,0,none⟩ [.int .i64,.int .i64,.int .i64,.int .i64,.int .i64,.int .i64] λ(x7:Int×Int×Int×Int×Int×Int×Unit)=>
 CallV Tryz.prog 80 #[.agg #[.int .i64 x7.1,.int .i64 x7.2.1,.int .i64 x7.2.2.1,.int .i64 x7.2.2.2.1,.int .i64 x7.2.2.2.2.1,.int .i64 x7.2.2.2.2.2.1]] w6 [.one (.int .i64)] λ(r8:Int×Unit) w9=>
 CallV Tryz.prog 79 #[.int .i64 r8.1] w9 [.one .ptr,.one (.int .i64)] λ(r10:(Option Addr)×Int×Unit) w11=>
 CallV Tryz.prog 43 #[] w11 [.one .ptr] λ(r12:(Option Addr)×Unit) w13=>
 (0<=(0:Int)/\0<(2:Int)) /\
 LoadS w13 ⟨b1,7,none⟩ (.int .i64) λ(x14:Int)=>
 CallV Tryz.prog 81 #[.pointer r12.1,.int .i64 0,.int .i64 x14] w13 [.one (.int .i64)] λ(r15:Int×Unit) w16=>
 (0<=(1:Int)/\1<(2:Int)) /\
 LoadS w16 ⟨b1,8,none⟩ (.int .i64) λ(x17:Int)=>
 CallV Tryz.prog 81 #[.pointer r12.1,.int .i64 1,.int .i64 x17] w16 [.one (.int .i64)] λ(r18:Int×Unit) w19=>
 CallV Tryz.prog 52 #[.pointer r10.1] w19 [.one (.int .i64)] λ(r20:Int×Unit) w21=>
 ((0:Int)<=(r20.1:Int)/\(r20.1:Int)<=(r20.1:Int)/\(r20.1:Int)<=9223372036854775807/\((48:Nat):Int)*(r20.1:Int)<=140737488355328) /\
 NewV (List.replicate r20.1.toNat [.int .i64 0,.int .i64 0,.int .i64 0,.int .u32 0,.int .u64 0,.int .u64 0]).flatten.toArray 62 w21 λb22 w23=>
 CallV Tryz.prog 82 #[.pointer r5.1,.pointer r10.1,.slice (some ⟨b22,0,none⟩) r20.1.toNat r20.1.toNat] w23 [.one .ptr,.one (.int .i64)] λ(r24:(Option Addr)×Int×Unit) w25=>
 LoadA w25 ⟨b1,0,none⟩ [.int .i64,.int .i64,.int .i64,.int .i64,.int .i64,.int .i64] λ(x26:Int×Int×Int×Int×Int×Int×Unit)=>
 CallV Tryz.prog 42 #[.pointer r24.1,.pointer r12.1,.agg #[.int .i64 x26.1,.int .i64 x26.2.1,.int .i64 x26.2.2.1,.int .i64 x26.2.2.2.1,.int .i64 x26.2.2.2.2.1,.int .i64 x26.2.2.2.2.2.1],.int .u64 1] w25 [.one .ptr,.one (.int .i64)] λ(r27:(Option Addr)×Int×Unit) w28=>
 K (r27.1,r5.1,()) w28
theorem law25_made.vc (p0_0 p0_1 p0_2 p0_3 p0_4 p0_5:Int) (a0_6:Option Addr) (n0_6 c0_6:Nat) (p0_7 p0_8:Int) (a0_9:Option Addr) (n0_9 c0_9:Nat) (w:World) (K:(Option Addr)×(Option Addr)×Unit->World->Prop) (h:law25_made.P p0_0 p0_1 p0_2 p0_3 p0_4 p0_5 a0_6 n0_6 c0_6 p0_7 p0_8 a0_9 n0_9 c0_9 w K):CallV Tryz.prog 31 #[.agg #[.int .i64 p0_0,.int .i64 p0_1,.int .i64 p0_2,.int .i64 p0_3,.int .i64 p0_4,.int .i64 p0_5,.slice a0_6 n0_6 c0_6,.int .i64 p0_7,.int .i64 p0_8,.slice a0_9 n0_9 c0_9]] w [.one .ptr,.one .ptr] K:=by
 refine vcFun.of (A:=law25_made.A) (wr:=false) okf_ok follows h Tryz.func31 ?_
 kernel_rfl
def law25_put.A:Ann:=.no
def law25_put.P (p0:Addr) (p1_0 p1_1 p1_2 p1_3 p1_4 p1_5 p2_0 p2_1 p2_2:Int) (p2_3:Bool) (p2_4:Int) (w:World) (K:(Int×Int×Int×Int×Int×Int×SlV×Bool×Unit)×Int×Unit->World->Prop):Prop:=
 NewV #[.int .i64 p1_0,.int .i64 p1_1,.int .i64 p1_2,.int .i64 p1_3,.int .i64 p1_4,.int .i64 p1_5] 23 w λb1 w2=>
 NewV #[.int .i64 p2_0,.int .i64 p2_1,.int .i64 p2_2,.bool p2_3,.int .u8 p2_4] 58 w2 λb3 w4=>
 NewV #[.int .i64 0,.int .i64 0,.int .i64 0,.int .u32 0,.int .u64 0,.int .u64 0,.slice none 0 0,.bool false] 65 w4 λb5 w6=>
 LoadS w6 ⟨b3,0,none⟩ (.int .i64) λ(x7:Int)=>
 LoadS w6 ⟨b3,1,none⟩ (.int .i64) λ(x8:Int)=>
 NewV #[.int .i64 0,.int .i64 0,.int .i64 0,.int .u32 0,.int .u64 0,.int .u64 0] 62 w6 λb9 w10=>
 StoreV w10 ⟨b9,0,none⟩ [.int .i64 1,.int .i64 x7,.int .i64 1,.int .u32 (IntKind.u32.wrap x8),.int .u64 0,.int .u64 0] λw11=>
 LoadS w11 ⟨b1,2,none⟩ (.int .i64) λ(x12:Int)=>
 LoadS w11 ⟨b3,4,none⟩ (.int .u8) λ(x13:Int)=>
 CallV Tryz.prog 97 #[.int .i64 x12,.int .u8 x13] w11 [.one .sl] λ(r14:SlV×Unit) w15=>
 LoadS w15 ⟨b3,3,none⟩ .bool λ(x16:Bool)=>
 cond x16
 (StoreV w15 ⟨b9,0,none⟩ [.int .i64 2] λw17=>
 LoadS w17 ⟨b3,2,none⟩ (.int .i64) λ(x18:Int)=>
 StoreV w17 ⟨b9,2,none⟩ [.int .i64 x18] λw19=>
 LoadA w19 ⟨b9,0,none⟩ [.int .i64,.int .i64,.int .i64,.int .u32,.int .u64,.int .u64] λ(x20:Int×Int×Int×Int×Int×Int×Unit)=>
 CallV Tryz.prog 51 #[.pointer (some p0),.agg #[.int .i64 x20.1,.int .i64 x20.2.1,.int .i64 x20.2.2.1,.int .u32 x20.2.2.2.1,.int .u64 x20.2.2.2.2.1,.int .u64 x20.2.2.2.2.2.1]] w19 [.agg [.int .i64,.int .i64,.int .i64,.int .u32,.int .u64,.int .u64]] λ(r21:(Int×Int×Int×Int×Int×Int×Unit)×Unit) w22=>
 StoreV w22 ⟨b9,0,none⟩ [.int .i64 r21.1.1,.int .i64 r21.1.2.1,.int .i64 r21.1.2.2.1,.int .u32 r21.1.2.2.2.1,.int .u64 r21.1.2.2.2.2.1,.int .u64 r21.1.2.2.2.2.2.1] λw23=>
 LoadA w23 ⟨b9,0,none⟩ [.int .i64,.int .i64,.int .i64,.int .u32,.int .u64,.int .u64] λ(x24:Int×Int×Int×Int×Int×Int×Unit)=>
 CallV Tryz.prog 45 #[.pointer (some p0),.agg #[.int .i64 x24.1,.int .i64 x24.2.1,.int .i64 x24.2.2.1,.int .u32 x24.2.2.2.1,.int .u64 x24.2.2.2.2.1,.int .u64 x24.2.2.2.2.2.1],.slice none 0 0,.slice none 0 0] w23 [.one (.int .i64)] λ(r25:Int×Unit) w26=>
 LoadA w26 ⟨b9,0,none⟩ [.int .i64,.int .i64,.int .i64,.int .u32,.int .u64,.int .u64] λ(x27:Int×Int×Int×Int×Int×Int×Unit)=>
 StoreV w26 ⟨b5,0,none⟩ [.int .i64 x27.1,.int .i64 x27.2.1,.int .i64 x27.2.2.1,.int .u32 x27.2.2.2.1,.int .u64 x27.2.2.2.2.1,.int .u64 x27.2.2.2.2.2.1,.slice none 0 0,.bool (r25.1 == 0)] λw28=>
 LoadA w28 ⟨b5,0,none⟩ [.int .i64,.int .i64,.int .i64,.int .u32,.int .u64,.int .u64,.sl,.bool] λ(x29:Int×Int×Int×Int×Int×Int×SlV×Bool×Unit)=>
 K ((x29.1,x29.2.1,x29.2.2.1,x29.2.2.2.1,x29.2.2.2.2.1,x29.2.2.2.2.2.1,x29.2.2.2.2.2.2.1,x29.2.2.2.2.2.2.2.1,()),r25.1,()) w28)
 (LoadA w15 ⟨b9,0,none⟩ [.int .i64,.int .i64,.int .i64,.int .u32,.int .u64,.int .u64] λ(x30:Int×Int×Int×Int×Int×Int×Unit)=>
 CallV Tryz.prog 51 #[.pointer (some p0),.agg #[.int .i64 x30.1,.int .i64 x30.2.1,.int .i64 x30.2.2.1,.int .u32 x30.2.2.2.1,.int .u64 x30.2.2.2.2.1,.int .u64 x30.2.2.2.2.2.1]] w15 [.agg [.int .i64,.int .i64,.int .i64,.int .u32,.int .u64,.int .u64]] λ(r31:(Int×Int×Int×Int×Int×Int×Unit)×Unit) w32=>
 StoreV w32 ⟨b9,0,none⟩ [.int .i64 r31.1.1,.int .i64 r31.1.2.1,.int .i64 r31.1.2.2.1,.int .u32 r31.1.2.2.2.1,.int .u64 r31.1.2.2.2.2.1,.int .u64 r31.1.2.2.2.2.2.1] λw33=>
 LoadA w33 ⟨b9,0,none⟩ [.int .i64,.int .i64,.int .i64,.int .u32,.int .u64,.int .u64] λ(x34:Int×Int×Int×Int×Int×Int×Unit)=>
 CallV Tryz.prog 45 #[.pointer (some p0),.agg #[.int .i64 x34.1,.int .i64 x34.2.1,.int .i64 x34.2.2.1,.int .u32 x34.2.2.2.1,.int .u64 x34.2.2.2.2.1,.int .u64 x34.2.2.2.2.2.1],.slice r14.1.a r14.1.n r14.1.c,.slice none 0 0] w33 [.one (.int .i64)] λ(r35:Int×Unit) w36=>
 LoadA w36 ⟨b9,0,none⟩ [.int .i64,.int .i64,.int .i64,.int .u32,.int .u64,.int .u64] λ(x37:Int×Int×Int×Int×Int×Int×Unit)=>
 StoreV w36 ⟨b5,0,none⟩ [.int .i64 x37.1,.int .i64 x37.2.1,.int .i64 x37.2.2.1,.int .u32 x37.2.2.2.1,.int .u64 x37.2.2.2.2.1,.int .u64 x37.2.2.2.2.2.1,.slice r14.1.a r14.1.n r14.1.c,.bool (r35.1 == 0)] λw38=>
 LoadA w38 ⟨b5,0,none⟩ [.int .i64,.int .i64,.int .i64,.int .u32,.int .u64,.int .u64,.sl,.bool] λ(x39:Int×Int×Int×Int×Int×Int×SlV×Bool×Unit)=>
 K ((x39.1,x39.2.1,x39.2.2.1,x39.2.2.2.1,x39.2.2.2.2.1,x39.2.2.2.2.2.1,x39.2.2.2.2.2.2.1,x39.2.2.2.2.2.2.2.1,()),r35.1,()) w38)
theorem law25_put.vc (p0:Addr) (p1_0 p1_1 p1_2 p1_3 p1_4 p1_5 p2_0 p2_1 p2_2:Int) (p2_3:Bool) (p2_4:Int) (w:World) (K:(Int×Int×Int×Int×Int×Int×SlV×Bool×Unit)×Int×Unit->World->Prop) (h:law25_put.P p0 p1_0 p1_1 p1_2 p1_3 p1_4 p1_5 p2_0 p2_1 p2_2 p2_3 p2_4 w K):CallV Tryz.prog 33 #[.pointer (some p0),.agg #[.int .i64 p1_0,.int .i64 p1_1,.int .i64 p1_2,.int .i64 p1_3,.int .i64 p1_4,.int .i64 p1_5],.agg #[.int .i64 p2_0,.int .i64 p2_1,.int .i64 p2_2,.bool p2_3,.int .u8 p2_4]] w [.agg [.int .i64,.int .i64,.int .i64,.int .u32,.int .u64,.int .u64,.sl,.bool],.one (.int .i64)] K:=by
 refine vcFun.of (A:=law25_put.A) (wr:=false) okf_ok follows h Tryz.func33 ?_
 kernel_rfl
def law25_right.A:Ann:=.two .no (.two .no (.two .no (.two (.draw (.take 0 (.take 1 (.take 2 (.take 3 (.take 4 (.take 5 (.take 6 (.take 7 (.take 8 (.take 9 (.take 10 (.take 11 (.take 12 (.take 13 (.take 14 (.take 15 (.take 16 (.take 17 (.take 18 (.take 19 (.take 20 (.take 21 (.take 22 (.take 23 (.take 24 (.take 25 (.take 26 (.take 27 (.take 28 (.take 29 (.take 30 (.take 31 (.take 32 (.take 33 (.take 34 (.take 35 (.take 36 (.take 37 (.take 38 (.done))))))))))))))))))))))))))))))))))))))))) .no)))
def law25_right.P (p0_0 p0_1 p0_2 p0_3 p0_4 p0_5:Int) (a0_6:Option Addr) (n0_6 c0_6:Nat) (p0_7 p0_8:Int) (a0_9:Option Addr) (n0_9 c0_9:Nat) (p1_0 p1_1 p1_2:Int) (p1_3:Bool) (p1_4:Int) (w:World) (K:Bool×Unit->World->Prop):Prop:=
 NewV #[.int .i64 p0_0,.int .i64 p0_1,.int .i64 p0_2,.int .i64 p0_3,.int .i64 p0_4,.int .i64 p0_5,.slice a0_6 n0_6 c0_6,.int .i64 p0_7,.int .i64 p0_8,.slice a0_9 n0_9 c0_9] 53 w λb1 w2=>
 NewV #[.int .i64 p1_0,.int .i64 p1_1,.int .i64 p1_2,.bool p1_3,.int .u8 p1_4] 58 w2 λb3 w4=>
 LoadS w4 ⟨b3,3,none⟩ .bool λ(x5:Bool)=>
 cond x5
 (LoadS w4 ⟨b3,2,none⟩ (.int .i64) λ(x6:Int)=>
 DrawV λD7=>
 (D7 b3/\LoadS w4.drew ⟨b3,0,none⟩ (.int .i64) λ(x8:Int)=>
 cond (decide (x8≥0))
 ((D7 b3/\LoadS w4.drew ⟨b3,0,none⟩ (.int .i64) λ(x9:Int)=>
 cond (decide (x9<=1))
 (cond (decide (x6≥1))
 ((D7 b3/\LoadS w4.drew ⟨b3,0,none⟩ (.int .i64) λ(x10:Int)=>
 (0<=x10/\x10<(2:Int)) /\
 (D7 ((⟨b1,7,none⟩:Addr).add (x10.toNat*1)).block/\LoadS w4.drew ((⟨b1,7,none⟩:Addr).add (x10.toNat*1)) (.int .i64) λ(x11:Int)=>
 cond (decide (x6<=x11))
 ((D7 b3/\LoadS w4.drew ⟨b3,1,none⟩ (.int .i64) λ(x12:Int)=>
 cond (decide (x12≥0))
 ((D7 b3/\LoadS w4.drew ⟨b3,1,none⟩ (.int .i64) λ(x13:Int)=>
 (D7 b3/\LoadS w4.drew ⟨b3,0,none⟩ (.int .i64) λ(x14:Int)=>
 (0<=x14/\x14<(2:Int)) /\
 (D7 ((⟨b1,7,none⟩:Addr).add (x14.toNat*1)).block/\LoadS w4.drew ((⟨b1,7,none⟩:Addr).add (x14.toNat*1)) (.int .i64) λ(x15:Int)=>
 Rng .i64 (x15-x6) /\
 K (decide (x13<=(x15-x6)),()) w4.drew))))
 (K (false,()) w4.drew)))
 (K (false,()) w4.drew))))
 (K (false,()) w4.drew))
 (K (false,()) w4.drew)))
 (K (false,()) w4.drew)))
 (DrawV λD16=>
 (D16 b3/\LoadS w4.drew ⟨b3,0,none⟩ (.int .i64) λ(x17:Int)=>
 cond (decide (x17≥0))
 ((D16 b3/\LoadS w4.drew ⟨b3,0,none⟩ (.int .i64) λ(x18:Int)=>
 cond (decide (x18<=1))
 ((D16 b3/\LoadS w4.drew ⟨b3,0,none⟩ (.int .i64) λ(x19:Int)=>
 (0<=x19/\x19<(2:Int)) /\
 (D16 ((⟨b1,7,none⟩:Addr).add (x19.toNat*1)).block/\LoadS w4.drew ((⟨b1,7,none⟩:Addr).add (x19.toNat*1)) (.int .i64) λ(x20:Int)=>
 cond (decide ((1:Int)<=x20))
 ((D16 b3/\LoadS w4.drew ⟨b3,1,none⟩ (.int .i64) λ(x21:Int)=>
 cond (decide (x21≥0))
 ((D16 b3/\LoadS w4.drew ⟨b3,1,none⟩ (.int .i64) λ(x22:Int)=>
 (D16 b3/\LoadS w4.drew ⟨b3,0,none⟩ (.int .i64) λ(x23:Int)=>
 (0<=x23/\x23<(2:Int)) /\
 (D16 ((⟨b1,7,none⟩:Addr).add (x23.toNat*1)).block/\LoadS w4.drew ((⟨b1,7,none⟩:Addr).add (x23.toNat*1)) (.int .i64) λ(x24:Int)=>
 Rng .i64 (x24-1) /\
 K (decide (x22<=(x24-1)),()) w4.drew))))
 (K (false,()) w4.drew)))
 (K (false,()) w4.drew))))
 (K (false,()) w4.drew)))
 (K (false,()) w4.drew)))
theorem law25_right.vc (p0_0 p0_1 p0_2 p0_3 p0_4 p0_5:Int) (a0_6:Option Addr) (n0_6 c0_6:Nat) (p0_7 p0_8:Int) (a0_9:Option Addr) (n0_9 c0_9:Nat) (p1_0 p1_1 p1_2:Int) (p1_3:Bool) (p1_4:Int) (w:World) (K:Bool×Unit->World->Prop) (h:law25_right.P p0_0 p0_1 p0_2 p0_3 p0_4 p0_5 a0_6 n0_6 c0_6 p0_7 p0_8 a0_9 n0_9 c0_9 p1_0 p1_1 p1_2 p1_3 p1_4 w K):CallV Tryz.prog 32 #[.agg #[.int .i64 p0_0,.int .i64 p0_1,.int .i64 p0_2,.int .i64 p0_3,.int .i64 p0_4,.int .i64 p0_5,.slice a0_6 n0_6 c0_6,.int .i64 p0_7,.int .i64 p0_8,.slice a0_9 n0_9 c0_9],.agg #[.int .i64 p1_0,.int .i64 p1_1,.int .i64 p1_2,.bool p1_3,.int .u8 p1_4]] w [.one .bool] K:=by
 refine vcFun.of (A:=law25_right.A) (wr:=false) okf_ok follows h Tryz.func32 ?_
 kernel_rfl
def law25_awake.A:Ann:=.no
def law25_awake.P  (w:World) (K:Bool×Unit->World->Prop):Prop:=
 NewV #[.int .i64 0,.int .i64 0,.int .i64 0,.int .i64 0,.int .i64 0,.int .i64 0,.slice none 0 0,.int .i64 0,.int .i64 0,.slice none 0 0] 53 w λb1 w2=>
 StoreV w2 ⟨b1,0,none⟩ [.int .i64 11,.int .i64 10,.int .i64 64,.int .i64 0,.int .i64 1,.int .i64 1,.slice none 0 0,.int .i64 5,.int .i64 5,.slice none 0 0] λw3=>
 LoadA w3 ⟨b1,0,none⟩ [.int .i64,.int .i64,.int .i64,.int .i64,.int .i64,.int .i64,.sl,.int .i64,.int .i64,.sl] λ(x4:Int×Int×Int×Int×Int×Int×SlV×Int×Int×SlV×Unit)=>
 CallV Tryz.prog 31 #[.agg #[.int .i64 x4.1,.int .i64 x4.2.1,.int .i64 x4.2.2.1,.int .i64 x4.2.2.2.1,.int .i64 x4.2.2.2.2.1,.int .i64 x4.2.2.2.2.2.1,.slice x4.2.2.2.2.2.2.1.a x4.2.2.2.2.2.2.1.n x4.2.2.2.2.2.2.1.c,.int .i64 x4.2.2.2.2.2.2.2.1,.int .i64 x4.2.2.2.2.2.2.2.2.1,.slice x4.2.2.2.2.2.2.2.2.2.1.a x4.2.2.2.2.2.2.2.2.2.1.n x4.2.2.2.2.2.2.2.2.2.1.c]] w3 [.one .ptr,.one .ptr] λ(r5:(Option Addr)×(Option Addr)×Unit) w6=>
 LoadA w6 ⟨b1,0,none⟩ [.int .i64,.int .i64,.int .i64,.int .i64,.int .i64,.int .i64] λ(x7:Int×Int×Int×Int×Int×Int×Unit)=>
 CallV Tryz.prog 33 #[.pointer r5.1,.agg #[.int .i64 x7.1,.int .i64 x7.2.1,.int .i64 x7.2.2.1,.int .i64 x7.2.2.2.1,.int .i64 x7.2.2.2.2.1,.int .i64 x7.2.2.2.2.2.1],.agg #[.int .i64 0,.int .i64 0,.int .i64 0,.bool false,.int .u8 3]] w6 [.agg [.int .i64,.int .i64,.int .i64,.int .u32,.int .u64,.int .u64,.sl,.bool],.one (.int .i64)] λ(r8:(Int×Int×Int×Int×Int×Int×SlV×Bool×Unit)×Int×Unit) w9=>
 NewV #[.int .i64 0,.int .i64 0,.int .i64 0,.int .u32 0,.int .u64 0,.int .u64 0,.slice none 0 0,.bool false] 65 w9 λb10 w11=>
 StoreV w11 ⟨b10,0,none⟩ [.int .i64 r8.1.1,.int .i64 r8.1.2.1,.int .i64 r8.1.2.2.1,.int .u32 r8.1.2.2.2.1,.int .u64 r8.1.2.2.2.2.1,.int .u64 r8.1.2.2.2.2.2.1,.slice r8.1.2.2.2.2.2.2.1.a r8.1.2.2.2.2.2.2.1.n r8.1.2.2.2.2.2.2.1.c,.bool r8.1.2.2.2.2.2.2.2.1] λw12=>
 cond (r8.2.1 == 0)
 (LoadS w12 ⟨b10,5,none⟩ (.int .u64) λ(x13:Int)=>
 cond (x13 == 1)
 (CallV Tryz.prog 96 #[.pointer r5.2.1] w12 [.one (.int .i64)] λ(r14:Int×Unit) w15=>
 cond (r14.1 == 5)
 (CallV Tryz.prog 49 #[.pointer r5.1,.int .i64 0] w15 [.one (.int .i64)] λ(r16:Int×Unit) w17=>
 cond (r16.1 == 0)
 (CallV Tryz.prog 49 #[.pointer r5.1,.int .i64 1] w17 [.one (.int .i64)] λ(r18:Int×Unit) w19=>
 cond (r18.1 == (-1))
 (CallV Tryz.prog 50 #[.pointer r5.1] w19 [.one (.int .u64)] λ(r20:Int×Unit) w21=>
 K ((r20.1 == 1),()) w21)
 (K (false,()) w19))
 (K (false,()) w17))
 (K (false,()) w15))
 (K (false,()) w12))
 (K (false,()) w12)
theorem law25_awake.vc  (w:World) (K:Bool×Unit->World->Prop) (h:law25_awake.P  w K):CallV Tryz.prog 30 #[] w [.one .bool] K:=by
 refine vcFun.of (A:=law25_awake.A) (wr:=false) okf_ok follows h Tryz.func30 ?_
 kernel_rfl
end Go.Proofs.YtbaojfchlhlaeaaGreat.Vc
namespace Go.Proofs.YtbaojfchlhlaeaaGreat.Vc
open Go Go.Eng Go.RowKit
def payM (m:Int) (n:Nat) (sd:Int):List Int:=(List.range n).map λ(i:Nat)=>Go.bits .xor .u8 (IntKind.u8.wrap (IntKind.u8.wrap (i:Int)*m)) sd
theorem payM_len (m:Int) (n:Nat) (sd:Int):(payM m n sd).length=n:=by simp [payM]
theorem payM_byt (m:Int) (n:Nat) (sd:Int):Byt (payM m n sd):=λv hv=>by
 obtain ⟨i,-,rfl⟩:=List.mem_map.1 hv
 exact bits8_byt _ _ _
theorem zHd_rep' (m:Nat):(List.replicate m [Value.int .i64 0,.int .i64 0,.int .i64 0,.int .u32 0,.int .u64 0,.int .u64 0]).flatten=(List.replicate m zHd).flatMap Hd.vs:=by
 rw [List.flatMap_def,List.map_replicate]
 rfl
abbrev casV25 (g:Geo) (f:SlP TF.T) (z0 z1:Int) (st:SlV):List Value:=[.int .i64 g.b,.int .i64 g.p,.int .i64 g.s,.int .i64 g.sp,.int .i64 g.wr,.int .i64 g.ro,.slice f.a f.n f.c,.int .i64 z0,.int .i64 z1,.slice st.a st.n st.c]
theorem _root_.Go.Eng.Sep.rdNil {E:Nat->Prop} {w0 w:World} {Rs:List Asr} (S:Sep E w0 w Rs):Sep E w0 w (RdL [⟨none,0,0,[]⟩]::Rs):=
 (S.nilOwn 5 1).conv λF hF _ x hx=>by
  rw [List.mem_singleton.1 hx]
  exact own_rdB (xs:=[]) hF (λk hk=>hk) Byt.nil
theorem rd_two {E:Nat->Prop} {w0 w:World} {Rs:List Asr} {a b:SlP Int} (S:Sep E w0 w (RdL [a]::RdL [b]::Rs)):Sep E w0 w (RdL [a,b]::Rs):=
 S.conv2 λF1 F2 h1 h2 _ x hx=>by
  rcases List.mem_cons.1 hx with e | e
  ·rw [e];exact TB.rd_mono (λk hk _=>.inl hk) (h1 a (List.mem_singleton.2 rfl))
  ·rw [List.mem_singleton.1 e];exact TB.rd_mono (λk hk _=>.inr hk) (h2 b (List.mem_singleton.2 rfl))
theorem rd_one {E:Nat->Prop} {w0 w:World} {Rs:List Asr} {a:SlP Int} {l:List (SlP Int)} (S:Sep E w0 w (RdL (a::l)::Rs)):Sep E w0 w (RdL [a]::Rs):=
 S.conv λF h _ x hx=>by rw [List.mem_singleton.1 hx];exact h a List.mem_cons_self
theorem chip_new {w w':World} {p:Nat} {y:Lay} {g:Geo} {pl:List FD} {Rs:List Asr} {w0:World} {E:Nat->Prop} (hF:fds y.F=pl) (S:Sep E w0 w' (ChipP p y (newC g pl) []++Rs)):Sep E w0 w' (chipE p (newC g pl)::Rs):=
 chipE_in (C:=newC g pl) ⟨hF,rfl,λo ho=>(List.not_mem_nil ho).elim⟩ S
section
variable {E:Nat->Prop} {w0 w:World} {Rs:List Asr} {sp pp pm p q n:Nat} {g:Geo} {s:SD}
theorem payload25_c {n sd:Int} (hn:0<=n/\n<=1000):CallV Tryz.prog 97 #[.int .i64 n,.int .u8 sd] w [.one .sl] λr w'=>Res w w' r.1 (payM 5 n.toNat sd):=by
 apply law25_payload.vc
 unfold law25_payload.P
 have S:=Sep.start NoB w
 refine S.newB λb1 w1 S f1 _=>?_
 have S:=S.asOwn (sz:=1) (n:=0) rfl (by omega) oneAll.nil
 refine Loop1 (λ(v:SlV×Int×Unit) w'=>∃ i:Nat,v.2.1=(i:Int)/\(i:Int)<=n/\v.1.n=i/\Sep NoB w w' [OwnA 5 1 v.1.a v.1.n v.1.c ((payM 5 i sd).map (Value.int .u8))]) (λ(v:SlV×Int×Unit) _=>(n-v.2.1).toNat) ⟨0,rfl,by omega,rfl,S⟩ ?_
 rintro ⟨⟨a,m,c⟩,(v:Int),⟨⟩⟩ w4 ⟨i,hv,hi,hm,S⟩
 dsimp only at hv hm S ⊢
 subst hv
 subst hm
 refine cond_d (λhlt=>?_) (λhge=>?_)
 ·refine S.newB λb6 w5 S f5 _=>?_
  refine AppS.of (news:=[.int .u8 (Go.bits .xor .u8 (IntKind.u8.wrap (IntKind.u8.wrap (m:Int)*5)) sd)]) rfl (.inr ⟨_,rfl,S.cells 0 rfl⟩) ?_
  refine S.ap1 rfl (λu hu=>by rw [List.mem_singleton.1 hu];rfl) (by omega) (by omega) λa' c' w6 S f6=>⟨Rng.i64 (by omega) (by omega),⟨m+1,by push_cast;rfl,by omega,rfl,?_⟩,by omega⟩
  have e:(payM 5 (m+1) sd).map (Value.int .u8)=(payM 5 m sd).map (Value.int .u8)++[.int .u8 (Go.bits .xor .u8 (IntKind.u8.wrap (IntKind.u8.wrap (m:Int)*5)) sd)]:=by
   unfold payM
   rw [List.range_succ,List.map_append,List.map_append]
   rfl
  rw [e]
  exact S.sel [1] rfl
 ·have:n.toNat=m:=by omega
  rw [this]
  exact S.out
theorem made25_c {f:SlP TF.T} {z0 z1:Int} {st:SlV} (hf:LF.rd w All f) (hR:Right g) (hFR:FRight (fds f)) (hg:LG g) (hz0:1<=z0/\z0<=65535) (hz1:1<=z1/\z1<=65535) :
  CallV Tryz.prog 31 #[.agg (casV25 g f z0 z1 st).toArray] w [.one .ptr,.one .ptr] λr w'=>∃ (sp pp pm p q:Nat) (X:List (SlP Ce)),r.1=some (⟨sp,0,none⟩:Addr)/\r.2.1=some (⟨p,0,none⟩:Addr)/\New0 X z0.toNat z1.toNat/\Sep NoB w w' (stS sp pp pm p q g (s00 g (fds f) X) []):=by
 apply law25_made.vc
 unfold law25_made.P
 have S:=Sep.start NoB w
 have hk:=hR.1
 unfold Kept at hk
 have hpF:∀ F∈fds f,Byt F.2.2.1/\F.2.2.1.length<=140737488351232:=λF hF=>⟨fds_byt hf F hF,hFR.fit F hF⟩
 have hC0:COk (newC g (fds f)):=newC_ok hR hg hpF
 refine S.newB (vs:=casV25 g f z0 z1 st) λb1 w1 S f1 _=>?_
 refine S.lb0 (o:=0) rfl (S.ld0 (j:=6) rfl rfl ?_)
 refine (New13_c (g:=g) (x:=f) (Ty.rd_ext S.ext _ hf) hFR.fit).mono ?_
 rintro ⟨pv,(e:Int),⟨⟩⟩ w2 ⟨x2,-,hgood⟩
 obtain ⟨-,p,y,hp,hyF,S2⟩:=hgood ⟨hR,hFR⟩
 dsimp only at hp
 subst hp
 have S:=chip_new (w:=w) hyF (S.frame0 S2)
 clear S2
 refine S.lb1 (o:=0) rfl ?_
 refine (Data_c (g:=g)).mono ?_
 rintro ⟨(d:Int),⟨⟩⟩ w3 ⟨h3,x3⟩
 dsimp only at h3 ⊢
 rw [if_pos hR] at h3
 subst h3
 have S:=S.stepE x3
 refine (New21_c (n:=g.b-4) (by omega)).mono ?_
 rintro ⟨qv,(e:Int),⟨⟩⟩ w4 ⟨-,q,a6,c6,hq,S4⟩
 dsimp only at hq
 subst hq
 have S:=ledE_in (q:=q) (L:=List.replicate (nG g) Blk.new) (S.frame0 S4)
 clear S4
 refine (New_m S).mono ?_
 rintro ⟨mv,⟨⟩⟩ w5 ⟨pm,hm,S⟩
 dsimp only at hm
 subst hm
 refine ⟨⟨by decide,by decide⟩,S.ld3 (j:=7) rfl rfl ?_⟩
 refine (Add_m (ns:=0) (size:=z0) X0_ok (by decide) (New0.zero.n 0) hz0 S).mono ?_
 rintro ⟨(r:Int),⟨⟩⟩ w6 ⟨-,x0,hx1,hx2,S⟩
 have hN1:=New0.zero.add0 hx1 hx2 (by omega)
 refine ⟨⟨by decide,by decide⟩,S.ld3 (j:=8) rfl rfl ?_⟩
 refine (Add_m (ns:=1) (size:=z1) hN1.ok (by decide) (hN1.n 1) hz1 S).mono ?_
 rintro ⟨(r:Int),⟨⟩⟩ w7 ⟨-,x1,hy1,hy2,S⟩
 have hN2:=hN1.add1 hy1 hy2 (by omega)
 refine (Len_e (S.fro [1] rfl)).mono ?_
 rintro ⟨(r:Int),⟨⟩⟩ w8 ⟨h8,rfl⟩
 dsimp only at h8 ⊢
 rw [List.length_replicate] at h8
 subst h8
 have hnG:((nG g:Nat):Int)=g.b-4:=by unfold nG;omega
 refine ⟨⟨by omega,by omega,by omega,by push_cast;omega⟩,?_⟩
 rw [Int.toNat_natCast]
 refine S.newB λb22 w9 S f9 _=>?_
 rw [zHd_rep'] at S
 refine (New24_c (y:=⟨some ⟨b22,0,none⟩,nG g,nG g⟩) (O:=List.replicate (nG g) zHd) hC0 (by rw [List.length_replicate];omega) (by show nG g<=1000;omega) (.inr ⟨_,rfl,S.cells 0 rfl⟩) List.length_replicate (S.fro [3,2] rfl)).mono ?_
 rintro ⟨pv2,(e:Int),⟨⟩⟩ w10 ⟨-,h8⟩
 obtain ⟨-,pp,t,hpp,x8,S⟩:=h8 ⟨by rw [List.length_replicate];exact hnG,hnG⟩
 dsimp only at hpp
 subst hpp
 have S:=polE_in S
 refine (S.fro [5] rfl).lb0 (o:=0) rfl ?_
 have hgC:(newC g (fds f)).g=g:=rfl
 rw [hgC] at S
 refine (New25_c (pl:=fds f) hR hg hpF hN2 (S.fro [4,0,0,0] rfl)).mono ?_
 rintro ⟨sv,(e:Int),⟨⟩⟩ w11 ⟨sp,hsp,-,S⟩
 exact ⟨sp,pp,pm,p,q,_,hsp,rfl,hN2,S.take (Rs:=stS sp pp pm p q g (s00 g (fds f) _) [])⟩
structure St25 where
 ns:Int
 lba:Int
 c:Int
 t:Bool
 sd:Int
abbrev St25.val (x:St25):Value:=.agg #[.int .i64 x.ns,.int .i64 x.lba,.int .i64 x.c,.bool x.t,.int .u8 x.sd]
def hd25 (x:St25):Hd:=if x.t=true then ⟨2,x.ns,x.c,IntKind.u32.wrap x.lba,0,0⟩ else ⟨1,x.ns,1,IntKind.u32.wrap x.lba,0,0⟩
def pl25 (g:Geo) (x:St25):List Int:=if x.t=true then [] else payM 5 g.s.toNat x.sd
def do25 (g:Geo) (s:SD) (x:St25):SD×Int:=putS (nxtS s (hd25 x)).1 (nxtS s (hd25 x)).2 (pl25 g x) []
theorem hd25_rng (x:St25):(hd25 x).rng:=by
 have:0<=IntKind.u32.wrap x.lba/\IntKind.u32.wrap x.lba<4294967296:=by rw [u32_wrap];omega
 unfold hd25
 split <;> exact ⟨this,⟨Int.le_refl _,by show (0:Int)<_;decide⟩,⟨Int.le_refl _,by show (0:Int)<_;decide⟩⟩
theorem nxt_rng (h:SI g n s) {hd:Hd} (hr:hd.rng):(nxtS s hd).2.rng:=⟨hr.1,h.ep,u64w_R _⟩
theorem SI.do25 (h:SI g n s) (x:St25) (ho:s.C.ops+55051264<=1000000000000):SI g n (do25 g s x).1/\s.C.ops<=(do25 g s x).1.C.ops/\(do25 g s x).1.C.ops<=s.C.ops+55051264/\(∀ ns,(getX (do25 g s x).1.X ns).n=(getX s.X ns).n):=by
 have h1:=(h.nxt (hd25 x)).2
 have hb:Byt (pl25 g x):=by unfold pl25;split;exact Byt.nil;exact payM_byt _ _ _
 have a:=h1.put (xs:=pl25 g x) (tg:=[]) (nxt_rng h (hd25_rng x)) hb Byt.nil ho
 exact ⟨a.i,a.o1,a.o2,a.sz⟩
abbrev pt25 (h:Hd) (y:SlV) (ok:Bool):Int×Int×Int×Int×Int×Int×SlV×Bool×Unit:=(h.k,h.n,h.c,h.l,h.e,h.t,y,ok,())
theorem put25_c {x:St25} (h:SI g n s) (ho:s.C.ops+55051264<=1000000000000) (S:Sep E w0 w (stS sp pp pm p q g s Rs)) :
  CallV Tryz.prog 33 #[.pointer (some ⟨sp,0,none⟩),g.val,x.val] w [.agg [.int .i64,.int .i64,.int .i64,.int .u32,.int .u64,.int .u64,.sl,.bool],.one (.int .i64)] λr w'=>∃ y:SlP Int,y.l=pl25 g x/\r.1=pt25 (nxtS s (hd25 x)).2 ⟨y.a,y.n,y.c⟩ ((do25 g s x).2 == 0)/\r.2.1=(do25 g s x).2/\Sep E w0 w' (stS sp pp pm p q g (do25 g s x).1 (RdL [y]::Rs)):=by
 apply law25_put.vc
 unfold law25_put.P
 have hwc:=wC256
 have hR:=h.pi.R
 have hs:=hR.sec
 have h1:=(h.nxt (hd25 x)).2
 have hr:=nxt_rng h (hd25_rng x)
 have hln:g.s<=1000:=by have:=h.pi.ok.lg;rw [h.pi.gg] at this;unfold LG at this;omega
 have hb:Byt (pl25 g x):=by unfold pl25;split;exact Byt.nil;exact payM_byt _ _ _
 have fin:∀ {w':World} {b9 b5:Nat} {v5:List Value} {hd:Hd} {dd:SlP Int},v5.length=8->hd=hd25 x->dd.l=pl25 g x->(dd.n=0\/(dd.n:Int)=g.s)->Sep E w0 w' (RdL [dd]::BoxA b9 62 hd.vs::BoxA b5 65 v5::stS sp pp pm p q g s Rs) ->
   LoadA w' ⟨b9,0,none⟩ [.int .i64,.int .i64,.int .i64,.int .u32,.int .u64,.int .u64] λ(x20:Int×Int×Int×Int×Int×Int×Unit)=>
   CallV Tryz.prog 51 #[.pointer (some ⟨sp,0,none⟩),.agg #[.int .i64 x20.1,.int .i64 x20.2.1,.int .i64 x20.2.2.1,.int .u32 x20.2.2.2.1,.int .u64 x20.2.2.2.2.1,.int .u64 x20.2.2.2.2.2.1]] w' [.agg [.int .i64,.int .i64,.int .i64,.int .u32,.int .u64,.int .u64]] λ(r21:(Int×Int×Int×Int×Int×Int×Unit)×Unit) w22=>
   StoreV w22 ⟨b9,0,none⟩ [.int .i64 r21.1.1,.int .i64 r21.1.2.1,.int .i64 r21.1.2.2.1,.int .u32 r21.1.2.2.2.1,.int .u64 r21.1.2.2.2.2.1,.int .u64 r21.1.2.2.2.2.2.1] λw23=>
   LoadA w23 ⟨b9,0,none⟩ [.int .i64,.int .i64,.int .i64,.int .u32,.int .u64,.int .u64] λ(x24:Int×Int×Int×Int×Int×Int×Unit)=>
   CallV Tryz.prog 45 #[.pointer (some ⟨sp,0,none⟩),.agg #[.int .i64 x24.1,.int .i64 x24.2.1,.int .i64 x24.2.2.1,.int .u32 x24.2.2.2.1,.int .u64 x24.2.2.2.2.1,.int .u64 x24.2.2.2.2.2.1],.slice dd.a dd.n dd.c,.slice none 0 0] w23 [.one (.int .i64)] λ(r25:Int×Unit) w26=>
   LoadA w26 ⟨b9,0,none⟩ [.int .i64,.int .i64,.int .i64,.int .u32,.int .u64,.int .u64] λ(x27:Int×Int×Int×Int×Int×Int×Unit)=>
   StoreV w26 ⟨b5,0,none⟩ [.int .i64 x27.1,.int .i64 x27.2.1,.int .i64 x27.2.2.1,.int .u32 x27.2.2.2.1,.int .u64 x27.2.2.2.2.1,.int .u64 x27.2.2.2.2.2.1,.slice dd.a dd.n dd.c,.bool (r25.1 == 0)] λw28=>
   LoadA w28 ⟨b5,0,none⟩ [.int .i64,.int .i64,.int .i64,.int .u32,.int .u64,.int .u64,.sl,.bool] λ(x29:Int×Int×Int×Int×Int×Int×SlV×Bool×Unit)=>
   ∃ y:SlP Int,y.l=pl25 g x/\(x29.1,x29.2.1,x29.2.2.1,x29.2.2.2.1,x29.2.2.2.2.1,x29.2.2.2.2.2.1,x29.2.2.2.2.2.2.1,x29.2.2.2.2.2.2.2.1,())=pt25 (nxtS s (hd25 x)).2 ⟨y.a,y.n,y.c⟩ ((do25 g s x).2 == 0)/\r25.1=(do25 g s x).2/\Sep E w0 w28 (stS sp pp pm p q g (do25 g s x).1 (RdL [y]::Rs)):=@λw' b9 b5 v5 hd dd hv5 eh ep hl S=>by
  subst eh
  refine S.la1 rfl ?_
  refine (Next25_c (hd:=hd25 x) h (S.fro [3,3,3,3,3] rfl)).mono ?_
  rintro ⟨r,⟨⟩⟩ w22 ⟨h22,S⟩
  dsimp only at h22 ⊢
  subst h22
  have S:Sep E w0 w22 (RdL [dd]::BoxA b9 62 (hd25 x).vs::BoxA b5 65 v5::stS sp pp pm p q g (nxtS s (hd25 x)).1 Rs):=S.fro [5,5,5] rfl
  refine S.st1 (by rfl) λw23 S f23=>?_
  have S:Sep E w0 w23 (RdL [dd]::BoxA b9 62 (nxtS s (hd25 x)).2.vs::BoxA b5 65 v5::stS sp pp pm p q g (nxtS s (hd25 x)).1 Rs):=S
  refine S.la1 rfl ?_
  have S:=rd_two (S.rdNil.fro [1,0] rfl)
  have S:Sep E w0 w23 (stS sp pp pm p q g (nxtS s (hd25 x)).1 (RdL [dd,⟨none,0,0,[]⟩]::BoxA b9 62 (nxtS s (hd25 x)).2.vs::BoxA b5 65 v5::Rs)):=S.fro [3,3,3,3,3] rfl
  refine (Put25_c (hd:=(nxtS s (hd25 x)).2) (dd:=dd) (tt:=⟨none,0,0,[]⟩) h1 hr hl (.inl rfl) (by rw [ep];exact hb) Byt.nil (by rw [hwc];exact ho) S).mono ?_
  rintro ⟨(r:Int),⟨⟩⟩ w26 ⟨h26,S⟩
  dsimp only at h26 ⊢
  rw [ep] at h26 S
  have S:Sep E w0 w26 (RdL [dd,⟨none,0,0,[]⟩]::BoxA b9 62 (nxtS s (hd25 x)).2.vs::BoxA b5 65 v5::stS sp pp pm p q g (do25 g s x).1 Rs):=S.fro [5,5,5] rfl
  have h26:r=(do25 g s x).2:=h26
  subst h26
  refine S.la1 rfl ?_
  refine S.st2 (by rw [hv5];rfl) λw28 S f28=>S.la2 rfl ⟨dd,ep,rfl,rfl,?_⟩
  have S:=(rd_one S).fro [1,1] rfl |>.tail |>.tail
  exact S.fro [1,1,1,1,1] rfl
 refine S.newB (vs:=g.vs) λb1 w1 S f1 _=>S.newB λb3 w2 S f2 _=>S.newB λb5 w3 S f3 _=>S.ld1 (j:=0) rfl rfl (S.ld1 (j:=1) rfl rfl ?_)
 refine S.newB λb9 w4 S f4 _=>S.st0 (by rfl) λw5 S f5=>S.ld3 (j:=2) rfl rfl (S.ld2 (j:=4) rfl rfl ?_)
 refine (payload25_c (n:=g.s) (sd:=x.sd) (by omega)).mono ?_
 rintro ⟨⟨va,vn,vc⟩,⟨⟩⟩ w6 R6
 have S:=res_rdL S R6 (payM_byt _ _ _)
 have hvn:(vn:Int)=g.s:=by have:=R6.own.ints.len;dsimp only at this;rw [payM_len] at this;omega
 clear R6
 refine S.ld3 (j:=3) rfl rfl (cond_of (λht=>?_) (λht=>?_))
 ·refine S.su1 (by rfl) λw7 S f7=>S.ld3 (j:=2) rfl rfl (S.su1 (by rfl) λw8 S f8=>?_)
  exact fin (hd:=⟨2,x.ns,x.c,IntKind.u32.wrap x.lba,0,0⟩) (dd:=⟨none,0,0,[]⟩) rfl (by unfold hd25;rw [if_pos ht]) (by unfold pl25;rw [if_pos ht]) (.inl rfl) ((S.fro [3,3] rfl).tail.tail.tail.rdNil)
 ·exact fin (hd:=⟨1,x.ns,1,IntKind.u32.wrap x.lba,0,0⟩) (dd:=⟨va,vn,vc,payM 5 g.s.toNat x.sd⟩) rfl (by unfold hd25;rw [if_neg (by rw [ht];exact Bool.false_ne_true)]) (by unfold pl25;rw [if_neg (by rw [ht];exact Bool.false_ne_true)]) (.inr hvn) ((S.fro [3,3] rfl).tail.tail)
end
theorem ded1_f (s:SD) (k:Int×Int):(ded1 s k).C=s.C/\(ded1 s k).O=s.O/\(ded1 s k).X=s.X/\(ded1 s k).fr=s.fr/\(ded1 s k).ep=s.ep/\(ded1 s k).op=s.op/\(ded1 s k).ct=s.ct/\(ded1 s k).ro=s.ro:=by
 unfold ded1;dsimp only;split <;> exact ⟨rfl,rfl,rfl,rfl,rfl,rfl,rfl,rfl⟩
theorem dedP_f:∀ (l:List (Int×Int)) (s:SD),(dedP l s).C=s.C/\(dedP l s).O=s.O/\(dedP l s).X=s.X/\(dedP l s).fr=s.fr/\(dedP l s).ep=s.ep/\(dedP l s).op=s.op/\(dedP l s).ct=s.ct/\(dedP l s).ro=s.ro
 | [],s=>⟨rfl,rfl,rfl,rfl,rfl,rfl,rfl,rfl⟩
 | k::l,s=>by
  obtain ⟨a1,a2,a3,a4,a5,a6,a7,a8⟩:=ded1_f s k
  obtain ⟨b1,b2,b3,b4,b5,b6,b7,b8⟩:=dedP_f l (ded1 s k)
  exact ⟨b1.trans a1,b2.trans a2,b3.trans a3,b4.trans a4,b5.trans a5,b6.trans a6,b7.trans a7,b8.trans a8⟩
theorem lndP_f (s:SD) (h:Hd) (at_:Int×Int):(lndP s h at_).C=s.C/\(lndP s h at_).O=s.O/\(lndP s h at_).X=lndX s h at_/\(lndP s h at_).fr=s.fr/\(lndP s h at_).ep=s.ep/\(lndP s h at_).op=s.op/\(lndP s h at_).ct=s.ct/\(lndP s h at_).ro=s.ro:=by
 obtain ⟨b1,b2,b3,b4,b5,b6,b7,b8⟩:=dedP_f (gonP s.X (lndX s h at_)) (lnd1 s h at_)
 obtain ⟨e1,e2,e3,e4,e5,e6,e7,e8⟩:=lnd1_f s h at_
 exact ⟨b1.trans e1,b2.trans e3,b3.trans e2,b4.trans e4,b5.trans e5,b6.trans e6,b7.trans e7,b8.trans e8⟩
abbrev gA25:Geo:=⟨11,10,64,0,1,1⟩
structure Aw25 (R:(CD×List Blk×List Hd)×Int×Int):Prop where
 o:opC 0 ⟨0,0,0,0,1,u64w (0+1)⟩ true (newC gA25 []) (List.replicate (nG gA25) Blk.new) (List.replicate (nG gA25) zHd)=R
 b:R.2.1=0
 e:R.2.2=0
 sp:R.1.1.g.sp=0
 p:R.1.1.g.p=10
 ba:bads R.1.2.1=0
 us:(gx R.1.2.1 0).us=0
 l:R.1.2.1.length=7
abbrev sR (X:List (SlP Ce)) (ct:Int) (R:(CD×List Blk×List Hd)×Int×Int) (C:CD) (L:List Blk):SD:=⟨C,L,R.1.2.2,X,[0,-1,-1,-1],1,u64w (0+1),ct,false⟩
abbrev sN (X:List (SlP Ce)) (ct:Int):SD:=⟨newC gA25 [],List.replicate (nG gA25) Blk.new,List.replicate (nG gA25) zHd,X,[-1,-1,-1,-1],1,0,ct,false⟩
section
variable {X:List (SlP Ce)} {ct:Int} {R:(CD×List Blk×List Hd)×Int×Int}
theorem aw_room (hX:New0 X 5 5) (h:Aw25 R):roomP (sN X ct) 0=(sR X ct R R.1.1 R.1.2.1,0):=by
 have hc:closP (sN X ct) 0=sN X ct:=if_neg (λe=>absurd (show (0:Int)<=-1 from e.1) (by decide))
 have hq:quoS (sN X ct) 0=3:=by
  unfold quoS
  show quo gA25 (((getX X 0).n:Nat):Int)=3
  rw [hX.n]
  decide
 have hh:heldS (sN X ct) 0=0:=by
  show manyT (List.replicate (nG gA25) Blk.new) (ownB 0) (List.replicate (nG gA25) Blk.new).length=0
  decide
 unfold roomP
 rw [hc,hq,hh,if_neg (by decide)]
 have ho:opnS 0 true (sN X ct)=(⟨R.1.1,R.1.2.1,R.1.2.2,X,[-1,-1,-1,-1],1,u64w (0+1),ct,false⟩,R.2.1,R.2.2):=by
  unfold opnS
  dsimp only
  rw [h.o]
 dsimp only
 rw [ho]
 dsimp only
 rw [h.b,h.e,if_pos rfl]
 have hf:frS ⟨R.1.1,R.1.2.1,R.1.2.2,X,[-1,-1,-1,-1],1,u64w (0+1),ct,false⟩ 0 0=sR X ct R R.1.1 R.1.2.1:=rfl
 rw [hf]
 unfold leftP
 rw [if_neg (by decide)]
 have hr:roS (sR X ct R R.1.1 R.1.2.1) 0=sR X ct R R.1.1 R.1.2.1:=if_neg (by decide)
 rw [hr]
 have hov:overP (sR X ct R R.1.1 R.1.2.1)=(sR X ct R R.1.1 R.1.2.1,0):=by
  unfold overP
  dsimp only
  rw [h.sp,h.ba,if_neg (by decide),if_neg (by decide)]
 rw [hov,if_neg (λk=>k rfl)]
theorem aw_wr (hX:New0 X 5 5) (h:Aw25 R) {hd:Hd} {xs tg:List Int} (hw:(wrtT 7 R.1.1 0 1 hd xs tg).2=0) :
  wrP 0 hd xs tg 256 (sN X ct)=(sR X ct R (wrtT 7 R.1.1 0 1 hd xs tg).1 (chL 0 7 uB R.1.2.1),(4,1),0):=by
 have h1:fulP (sN X ct) 0:=.inl (show (-1:Int)<0 by decide)
 show (if fulP (sN X ct) 0 then (if (roomP (sN X ct) 0).2≠0 then ((roomP (sN X ct) 0).1,(0,0),(roomP (sN X ct) 0).2) else wrP 0 hd xs tg 255 (roomP (sN X ct) 0).1) else _)=_
 rw [if_pos h1,aw_room hX h,if_neg (λk=>k rfl)]
 dsimp only
 have h2:¬ fulP (sR X ct R R.1.1 R.1.2.1) 0:=by
  unfold fulP
  dsimp only
  rw [h.p]
  intro k
  rcases k with k | k
  ·exact absurd (show (0:Int)<0 from k) (by decide)
  ·have k:(10:Int)-1<=(gx R.1.2.1 0).us:=k
   rw [h.us] at k
   exact absurd k (by decide)
 have e2:(gx (chL 0 7 uB R.1.2.1) 0).us=1:=by
  rw [gx_ch h.l,if_pos ⟨by decide,rfl⟩]
  show (gx R.1.2.1 0).us+1=1
  rw [h.us];rfl
 have e1:wr1 (sR X ct R R.1.1 R.1.2.1) 0 hd xs tg=(sR X ct R (wrtT 7 R.1.1 0 1 hd xs tg).1 (chL 0 7 uB R.1.2.1),(wrtT 7 R.1.1 0 1 hd xs tg).2):=by
  show (sR X ct R (wrtT R.1.2.1.length R.1.1 0 (gx (chL 0 R.1.2.1.length uB R.1.2.1) 0).us hd xs tg).1 (chL 0 R.1.2.1.length uB R.1.2.1),(wrtT R.1.2.1.length R.1.1 0 (gx (chL 0 R.1.2.1.length uB R.1.2.1) 0).us hd xs tg).2)=_
  rw [h.l,e2]
 show (if fulP (sR X ct R R.1.1 R.1.2.1) 0 then (if (roomP (sR X ct R R.1.1 R.1.2.1) 0).2≠0 then ((roomP (sR X ct R R.1.1 R.1.2.1) 0).1,(0,0),(roomP (sR X ct R R.1.1 R.1.2.1) 0).2) else wrP 0 hd xs tg 254 (roomP (sR X ct R R.1.1 R.1.2.1) 0).1) else if (wr1 (sR X ct R R.1.1 R.1.2.1) 0 hd xs tg).2=0 then ((wr1 (sR X ct R R.1.1 R.1.2.1) 0 hd xs tg).1,plc (sR X ct R R.1.1 R.1.2.1) 0,0) else _)=_
 rw [if_neg h2,e1]
 dsimp only
 rw [if_pos hw]
 have e3:plc (sR X ct R R.1.1 R.1.2.1) 0=(4,1):=by
  show ((4:Int)+0,(gx R.1.2.1 0).us+1)=(4,1)
  rw [h.us];rfl
 rw [e3]
theorem aw_put (hX:New0 X 5 5) (h:Aw25 R) {xs tg:List Int} (hw:(wrtT 7 R.1.1 0 1 ⟨1,0,1,IntKind.u32.wrap 0,1,u64w (0+1)⟩ xs tg).2=0) :
  putS (sN X ct) ⟨1,0,1,IntKind.u32.wrap 0,1,u64w (0+1)⟩ xs tg=(lndP (sR X ct R (wrtT 7 R.1.1 0 1 ⟨1,0,1,IntKind.u32.wrap 0,1,u64w (0+1)⟩ xs tg).1 (chL 0 7 uB R.1.2.1)) ⟨1,0,1,IntKind.u32.wrap 0,1,u64w (0+1)⟩ (4,1),0):=by
 have hm:mayP (sN X ct) ⟨1,0,1,IntKind.u32.wrap 0,1,u64w (0+1)⟩:=by
  unfold mayP
  have:(getX X 0).n=5:=hX.n 0
  dsimp only
  rw [this]
  refine ⟨.inl rfl,by decide,by decide,by decide⟩
 unfold putS
 rw [if_neg (λk=>k hm),if_neg (λk=>by cases k)]
 dsimp only
 rw [aw_wr hX h hw]
 dsimp only
 rw [if_neg (λk=>k rfl)]
end
def R25:(CD×List Blk×List Hd)×Int×Int:=opC 0 ⟨0,0,0,0,1,u64w (0+1)⟩ true (newC gA25 []) (List.replicate (nG gA25) Blk.new) (List.replicate (nG gA25) zHd)
theorem R25_e:R25.2.1=0/\R25.2.2=0/\R25.1.1.g.sp=0/\R25.1.1.g.p=10/\bads R25.1.2.1=0/\(gx R25.1.2.1 0).us=0/\R25.1.2.1.length=7:=by decide +kernel
theorem R25_A:Aw25 R25:=⟨rfl,R25_e.1,R25_e.2.1,R25_e.2.2.1,R25_e.2.2.2.1,R25_e.2.2.2.2.1,R25_e.2.2.2.2.2.1,R25_e.2.2.2.2.2.2⟩
abbrev x025:St25:=⟨0,0,0,false,3⟩
theorem aw_w25:(wrtT 7 R25.1.1 0 1 ⟨1,0,1,IntKind.u32.wrap 0,1,u64w (0+1)⟩ (payM 5 64 3) []).2=0/\(wrtT 7 R25.1.1 0 1 ⟨1,0,1,IntKind.u32.wrap 0,1,u64w (0+1)⟩ (payM 5 64 3) []).1.ops=5:=by decide +kernel
theorem aw_do25 {X:List (SlP Ce)} (hX:New0 X 5 5):(do25 gA25 (s00 gA25 [] X) x025).2=0/\(do25 gA25 (s00 gA25 [] X) x025).1.C.ops=5/\(do25 gA25 (s00 gA25 [] X) x025).1.fr=[0,-1,-1,-1]/\(do25 gA25 (s00 gA25 [] X) x025).1.ct=1/\(nxtS (s00 gA25 [] X) (hd25 x025)).2.t=1:=by
 obtain ⟨w1,w2⟩:=aw_w25
 have e0:do25 gA25 (s00 gA25 [] X) x025=putS (sN X (u64w (0+1))) ⟨1,0,1,IntKind.u32.wrap 0,1,u64w (0+1)⟩ (payM 5 64 3) []:=by
  unfold do25 nxtS pl25 hd25
  rw [if_neg (by decide),if_neg (by decide)]
  rfl
 rw [e0,aw_put hX R25_A w1]
 clear e0 w1
 generalize wrtT 7 R25.1.1 0 1 ⟨1,0,1,IntKind.u32.wrap 0,1,u64w (0+1)⟩ (payM 5 64 3) []=W at w2 ⊢
 generalize R25=R
 have hl:=lndP_f (sR X (u64w (0+1)) R W.1 (chL 0 7 uB R.1.2.1)) ⟨1,0,1,IntKind.u32.wrap 0,1,u64w (0+1)⟩ (4,1)
 refine ⟨rfl,(congrArg CD.ops hl.1).trans w2,hl.2.2.2.1,hl.2.2.2.2.2.2.1.trans (show u64w (0+1)=1 by decide),show u64w (0+1)=1 by decide⟩
abbrev fA25:SlP TF.T:=⟨none,0,0,[]⟩
theorem LF_nil25 {w:World} {G:Nat->Prop}:LF.rd w G fA25:=⟨rfl,Nat.le_refl _,by show 0<=maxLen;exact Nat.zero_le _,.inl ⟨rfl,rfl⟩,λy hy=>(List.not_mem_nil hy).elim⟩
theorem awake25_c {w:World}:CallV Tryz.prog 30 #[] w [.one .bool] λr w'=>r.1=true/\Ext w w':=by
 apply law25_awake.vc
 unfold law25_awake.P
 have S0:=Sep.start NoB w
 have hR:Right gA25:=by decide
 have hFR:FRight (fds fA25):=⟨λf hf=>(List.not_mem_nil hf).elim,by decide⟩
 refine S0.newB λb1 w1 S f1 _=>S.st0 (by rfl) λw2 S f2=>S.la0 rfl ?_
 refine (made25_c (g:=gA25) (f:=fA25) (z0:=5) (z1:=5) (st:=⟨none,0,0⟩) LF_nil25 hR hFR (by decide) (by decide) (by decide)).mono ?_
 rintro ⟨sv,cv,⟨⟩⟩ w3 ⟨sp,pp,pm,p,q,X,h1,h2,hX,S3⟩
 dsimp only at h1 h2 ⊢
 subst h1;subst h2
 have hX:New0 X 5 5:=hX
 have S:=S.frame0 S3
 clear S3
 have S:Sep NoB w w3 (BoxA b1 53 (casV25 gA25 fA25 5 5 ⟨none,0,0⟩)::stS sp pp pm p q gA25 (s00 gA25 [] X) []):=S.fro [5] rfl
 have hI:SI gA25 7 (s00 gA25 [] X):=s00_I hR (by decide) (λf hf=>(List.not_mem_nil hf).elim) hX
 refine S.lb0 (o:=0) rfl ?_
 refine (put25_c (x:=x025) hI (by show 0+55051264<=1000000000000;decide) (S.fro [1,1,1,1,1] rfl)).mono ?_
 rintro ⟨r,(e:Int),⟨⟩⟩ w4 ⟨y,hy,h4,h5,S⟩
 dsimp only at h4 h5 ⊢
 subst h4;subst h5
 obtain ⟨a1,a2,a3,a4,a5⟩:=aw_do25 hX
 obtain ⟨hI2,-⟩:=hI.do25 x025 (by show 0+55051264<=1000000000000;decide)
 generalize do25 gA25 (s00 gA25 [] X) x025=D at S a1 a2 a3 a4 hI2 ⊢
 generalize (nxtS (s00 gA25 [] X) (hd25 x025)).2=H at a5 ⊢
 refine S.newB λb10 w5 S f5 _=>S.st0 (by rfl) λw6 S f6=>?_
 rw [a1]
 refine cond_t rfl (S.ld0 (j:=5) rfl rfl ?_)
 refine cond_t (show (H.t == 1)=true by rw [a5];rfl) ?_
 refine (Ops_e (S.fro [5] rfl)).mono ?_
 rintro ⟨(r:Int),⟨⟩⟩ w7 ⟨h7,rfl⟩
 dsimp only at h7 ⊢
 rw [a2] at h7
 subst h7
 refine cond_t rfl ?_
 have S':=S.fro [1,1,1,1,1] rfl
 refine (Front_c (ns:=0) hI2.fl S').mono ?_
 rintro ⟨(r:Int),⟨⟩⟩ w8 ⟨h8,rfl⟩
 dsimp only at h8 ⊢
 have h8:r=0:=by rw [h8,if_pos (by decide)];unfold frG;rw [a3];rfl
 subst h8
 refine cond_t rfl ?_
 refine (Front_c (ns:=1) hI2.fl S').mono ?_
 rintro ⟨(r:Int),⟨⟩⟩ w9 ⟨h9,rfl⟩
 dsimp only at h9 ⊢
 have h9:r=-1:=by rw [h9,if_pos (by decide)];unfold frG;rw [a3];rfl
 subst h9
 refine cond_t rfl ?_
 refine (Counter_c hI2.fl S').mono ?_
 rintro ⟨(r:Int),⟨⟩⟩ w10 ⟨h10,rfl⟩
 dsimp only at h10 ⊢
 rw [a4] at h10
 subst h10
 exact ⟨rfl,S.ext⟩
def szOk (l:List Int):Prop:=∀ x∈l,1<=x/\x<=65535
instance (l:List Int):Decidable (szOk l):=by unfold szOk;infer_instance
def qs (g:Geo):List Int->Int
 | []=>0
 | x::l=>quo g x+qs g l
theorem qs_append (g:Geo) (l m:List Int):qs g (l++m)=qs g l+qs g m:=by
 induction l with
 | nil=>simp [qs]
 | cons x l ih=>simp only [List.cons_append,qs,ih];omega
theorem szOk_append {l m:List Int}:szOk (l++m)↔szOk l/\szOk m:=by
 unfold szOk
 simp only [List.mem_append]
 exact ⟨λh=>⟨λx hx=>h x (.inl hx),λx hx=>h x (.inr hx)⟩,λ⟨h,h'⟩ x hx=>hx.elim (h x) (h' x)⟩
theorem szOk_one {x:Int}:szOk [x]↔1<=x/\x<=65535:=by unfold szOk;simp
theorem qs_one (g:Geo) (x:Int):qs g [x]=quo g x:=by simp [qs]
def fitE (g:Geo) (l:List Int):Int:=if Right g then (if szOk l then (if l.length<=4/\g.sp+qs g l<=g.b-4 then 0 else 14) else 13) else 2
theorem fitE_zero {g:Geo} {l:List Int}:fitE g l=0↔Right g/\szOk l/\l.length<=4/\g.sp+qs g l<=g.b-4:=by
 unfold fitE
 split
 ·split
  ·split
   ·simp [*]
   ·simp [*]
  ·simp [*]
 ·simp [*]
theorem take_snoc {l:List Int} {i:Nat} (h:i<l.length):l.take (i+1)=l.take i++[l.getD i 0]:=by
 rw [List.take_succ_eq_append_getElem h,getD_get h]
theorem rFit_c {w:World} {g:Geo} {a:Option Addr} {n c:Nat} {l:List Int} (hr:Right g) (hl:Ints w .i64 a n c l) :
  CallV Tryz.prog 77 #[g.val,.slice a n c] w [.one (.int .i64)] λr w'=>r.1=fitE g l/\Ext w w':=by
 refine ref11_Fit.vc _ _ _ _ _ _ _ _ _ _ _ ?_
 unfold ref11_Fit.P
 have hr':=hr
 unfold Right Kept at hr'
 have ln:=hl.len
 have lim:=hl.lim
 refine newG λb1 w1 e1 hb=>?_
 refine hb.ld (i:=3) (h:=.int .i64) (x:=g.sp) rfl ?_
 refine Loop1 (λ(y:Int×Int×Unit) w'=>∃ i:Nat,y.2.1=(i:Int)/\i<=n/\szOk (l.take i)/\(y.1<=64->y.1=g.sp+qs g (l.take i))/\(64<y.1->64<g.sp+qs g (l.take i))/\0<=y.1/\y.1<=65601/\Ext w1 w')
  (λ(y:Int×Int×Unit) _=>((n:Int)-y.2.1).toNat) ⟨0,rfl,by omega,λx hx=>by simp at hx,λ_=>by simp [qs],λh=>by dsimp only at h;omega,by dsimp only;omega,by dsimp only;omega,Ext.refl _⟩ ?_
 rintro ⟨(s:Int),(y:Int),⟨⟩⟩ w2 ⟨i,hy,hi,hok,hs1,hs2,hs0,hsb,e2⟩
 dsimp only at hy hs1 hs2 hs0 hsb ⊢
 subst hy
 refine cond_d (λhlt=>?_) (λhge=>?_)
 ·refine (hl.ext (e1.trans e2)).idx (by omega) hlt ?_
  rw [Int.toNat_natCast]
  have hmem:l.getD i 0∈l:=by rw [getD_get (by omega)];exact List.getElem_mem _
  have ht:=take_snoc (l:=l) (i:=i) (by omega)
  have hq:=qs_append g (l.take i) [l.getD i 0]
  rw [qs_one] at hq
  refine in11_c.mono ?_
  rintro ⟨(r3:Bool),⟨⟩⟩ w3 ⟨h3,rfl⟩
  dsimp only at h3 ⊢
  subst h3
  by_cases hin:1<=l.getD i 0/\l.getD i 0<=65535
  ·refine cond_f (by rw [decide_eq_true hin];rfl) ?_
   have hqb:=quo_bd hr hin
   have hok':szOk (l.take (i+1)):=by rw [ht];exact szOk_append.2 ⟨hok,szOk_one.2 hin⟩
   refine cond_d (λh64=>?_) (λh64=>?_)
   ·refine DrawV.old w3 λD hD hkeep=>?_
    have hb3:=hb.ext e2
    have hD1:=hD _ hb3.lt
    refine ⟨hD1,ldG (hb3.ext (Ext.drew w3)) ?_⟩
    refine (hl.ext (e1.trans e2)).idxD (Ext.drew w3) (by omega) hlt hD ?_
    rw [Int.toNat_natCast]
    refine (rQuota_c (g:=g) (by omega) hin).mono ?_
    rintro ⟨(r4:Int),⟨⟩⟩ w4 ⟨h4,e4⟩
    dsimp only at h4 ⊢
    have h4':r4=quo g (l.getD i 0):=h4
    have E4:=(Ext.drew w3).trans e4
    have:=hs1 h64
    refine ⟨hkeep _ E4,Rng.i64 (by omega) (by omega),Rng.i64 (by omega) (by omega),⟨i+1,by push_cast;rfl,by omega,hok',λh=>?_,λh=>?_,by omega,by omega,e2.trans E4⟩,by omega⟩
    ·show s+r4=_
     rw [ht,hq];omega
    ·have h':64<s+r4:=h
     rw [ht,hq];omega
   ·have:=hs2 (by omega)
    refine ⟨Rng.i64 (by omega) (by omega),⟨i+1,by push_cast;rfl,by omega,hok',λh=>absurd h h64,λh=>?_,hs0,hsb,e2⟩,by omega⟩
    rw [ht,hq];omega
  ·refine cond_t (by rw [decide_eq_false hin];rfl) ⟨?_,e1.trans e2⟩
   show (13:Int)=_
   unfold fitE
   rw [if_pos hr,if_neg (λh=>hin (h _ hmem))]
 ·have:i=n:=by omega
  subst this
  rw [List.take_of_length_le (by omega)] at hok hs1 hs2
  have e14:¬ (l.length<=4/\g.sp+qs g l<=g.b-4)->((14:Int)=fitE g l/\Ext w w2):=λh=>⟨by unfold fitE;rw [if_pos hr,if_pos hok,if_neg h],e1.trans e2⟩
  refine cond_d (λh4=>e14 (by omega)) (λh4=>?_)
  refine (hb.ext e2).ld (i:=0) (h:=.int .i64) (x:=g.b) rfl ⟨Rng.i64 (by omega) (by omega),?_⟩
  refine cond_d (λh5=>e14 (λh=>?_)) (λh5=>⟨?_,e1.trans e2⟩)
  ·by_cases h64:s<=64
   ·have:=hs1 h64;omega
   ·have:=hs2 (by omega);omega
  ·have:=hs1 (by omega)
   show (0:Int)=_
   exact (fitE_zero.2 ⟨hr,hok,by omega,by omega⟩).symm
abbrev TSt25:Ty:=.cons (.int .i64) (.cons (.int .i64) (.cons (.int .i64) (.cons .bool (.cons (.int .u8) .nil))))
abbrev LSt25:Ty:=.sl TSt25
abbrev stOf (z:TSt25.T):St25:=⟨z.1,z.2.1,z.2.2.1,z.2.2.2.1,z.2.2.2.2.1⟩
abbrev szOf (z0 z1 ns:Int):Int:=if ns=0 then z0 else z1
theorem add7 (b:Nat):(⟨b,7,none⟩:Addr).add ((0:Int).toNat*1)=⟨b,7,none⟩/\(⟨b,7,none⟩:Addr).add ((1:Int).toNat*1)=⟨b,8,none⟩:=by
 constructor <;> rw [Addr.add_lit] <;> rfl
end Go.Proofs.YtbaojfchlhlaeaaGreat.Vc
namespace Go.Proofs.YtbaojfchlhlaeaaGreat.Vc
open Go Go.Eng
def law25_counted.A:Ann:=.two .no (.two (.two .no (.one (.loop [4,5,6,7,9,10,11,12,13,14,15,16,17,18,19,20,21,22,23,24,25,26,27,28,29,30,31,32,33,34,35,36,37,38,39,40,41,42,43,44,45,46,47,48,49] [(5,.one (.int .i64))] .no))) (.two (.two .no (.one (.loop [4,8,50,51,52,53,54,55,56,57,58,59,60,61,62,63,64,65,66,67,68,69,70,71,72] [(8,.one (.int .i64))] (.two .no (.two (.one (.two (.draw (.take 0 (.eff 1 (.take 2 (.take 3 (.take 4 (.take 7 (.take 9 (.take 10 (.take 11 (.take 12 (.take 13 (.take 14 (.eff 5 (.eff 6 (.eff 8 (.eff 15 (.take 16 (.take 17 (.take 18 (.done))))))))))))))))))))) .no)) .no))))) .no))
def law25_counted.P (p0:Addr) (p1_0 p1_1 p1_2 p1_3 p1_4 p1_5:Int) (a1_6:Option Addr) (n1_6 c1_6:Nat) (p1_7 p1_8:Int) (a1_9:Option Addr) (n1_9 c1_9:Nat) (w:World) (K:Bool×Unit->World->Prop):Prop:=
 NewV #[.int .i64 p1_0,.int .i64 p1_1,.int .i64 p1_2,.int .i64 p1_3,.int .i64 p1_4,.int .i64 p1_5,.slice a1_6 n1_6 c1_6,.int .i64 p1_7,.int .i64 p1_8,.slice a1_9 n1_9 c1_9] 53 w λb1 w2=>
 LoopV [.one (.int .i64)] ((0:Int),()) w2 λ(z3:Int×Unit) w4 (K5:Int×Unit->World->Prop)=>
 CallV Tryz.prog 26 #[.pointer (some p0)] w4 [.one .ptr] λ(r6:(Option Addr)×Unit) w7=>
 CallV Tryz.prog 27 #[.pointer r6.1] w7 [.one .ptr] λ(r8:(Option Addr)×Unit) w9=>
 CallV Tryz.prog 52 #[.pointer r8.1] w9 [.one (.int .i64)] λ(r10:Int×Unit) w11=>
 cond (decide (z3.1<r10.1))
 (CallV Tryz.prog 26 #[.pointer (some p0)] w11 [.one .ptr] λ(r12:(Option Addr)×Unit) w13=>
 CallV Tryz.prog 27 #[.pointer r12.1] w13 [.one .ptr] λ(r14:(Option Addr)×Unit) w15=>
 CallV Tryz.prog 54 #[.pointer r14.1,.int .i64 z3.1] w15 [.agg [.int .i64,.int .i64,.int .i64,.int .i64,.bool,.bool,.bool,.bool,.bool]] λ(r16:(Int×Int×Int×Int×Bool×Bool×Bool×Bool×Bool×Unit)×Unit) w17=>
 NewV #[.int .i64 0,.int .i64 0,.int .i64 0,.int .i64 0,.bool false,.bool false,.bool false,.bool false,.bool false] 103 w17 λb18 w19=>
 StoreV w19 ⟨b18,0,none⟩ [.int .i64 r16.1.1,.int .i64 r16.1.2.1,.int .i64 r16.1.2.2.1,.int .i64 r16.1.2.2.2.1,.bool r16.1.2.2.2.2.1,.bool r16.1.2.2.2.2.2.1,.bool r16.1.2.2.2.2.2.2.1,.bool r16.1.2.2.2.2.2.2.2.1,.bool r16.1.2.2.2.2.2.2.2.2.1] λw20=>
 CallV Tryz.prog 24 #[.pointer (some p0)] w20 [.one .ptr] λ(r21:(Option Addr)×Unit) w22=>
 Rng .i64 ((4:Int)+z3.1) /\
 CallV Tryz.prog 53 #[.pointer r21.1,.int .i64 ((4:Int)+z3.1)] w22 [.one .sl] λ(r23:SlV×Unit) w24=>
 LoadS w24 ⟨b18,2,none⟩ (.int .i64) λ(x25:Int)=>
 cond (x25 != ((r23.1.n:Nat):Int))
 (K (false,()) w24)
 (cond (decide (((r23.1.n:Nat):Int)>0))
 (LoadS w24 ⟨b18,4,none⟩ .bool λ(x26:Bool)=>
 cond (!x26)
 (K (false,()) w24)
 (LoadS w24 ⟨b18,1,none⟩ (.int .i64) λ(x27:Int)=>
 LoadS w24 ⟨b1,1,none⟩ (.int .i64) λ(x28:Int)=>
 Rng .i64 (x28-1) /\
 cond (decide (x27>(x28-1)))
 (K (false,()) w24)
 (Rng .i64 (z3.1+1) /\
 K5 (z3.1+1,()) w24)))
 (LoadS w24 ⟨b18,1,none⟩ (.int .i64) λ(x29:Int)=>
 LoadS w24 ⟨b1,1,none⟩ (.int .i64) λ(x30:Int)=>
 Rng .i64 (x30-1) /\
 cond (decide (x29>(x30-1)))
 (K (false,()) w24)
 (Rng .i64 (z3.1+1) /\
 K5 (z3.1+1,()) w24))))
 (LoopV [.one (.int .i64)] ((0:Int),()) w11 λ(z31:Int×Unit) w32 (K33:Int×Unit->World->Prop)=>
 cond (decide (z31.1<2))
 (DrawV λD34=>
 CallV Tryz.prog 48 #[.pointer (some p0)] w32.drew [.one .bool] λ(r35:Bool×Unit) w36=>
 KeepOn D34 w32.drew w36 /\
 cond (!r35.1)
 ((D34 b1/\LoadA w32.drew ⟨b1,0,none⟩ [.int .i64,.int .i64,.int .i64,.int .i64,.int .i64,.int .i64] λ(x37:Int×Int×Int×Int×Int×Int×Unit)=>
 (0<=z31.1/\z31.1<(2:Int)) /\
 (D34 ((⟨b1,7,none⟩:Addr).add (z31.1.toNat*1)).block/\LoadS w32.drew ((⟨b1,7,none⟩:Addr).add (z31.1.toNat*1)) (.int .i64) λ(x38:Int)=>
 CallV Tryz.prog 26 #[.pointer (some p0)] w36 [.one .ptr] λ(r39:(Option Addr)×Unit) w40=>
 KeepOn D34 w32.drew w40 /\
 CallV Tryz.prog 27 #[.pointer r39.1] w40 [.one .ptr] λ(r41:(Option Addr)×Unit) w42=>
 KeepOn D34 w32.drew w42 /\
 CallV Tryz.prog 28 #[.pointer r41.1,.int .i64 z31.1] w42 [.one (.int .i64)] λ(r43:Int×Unit) w44=>
 KeepOn D34 w32.drew w44 /\
 CallV Tryz.prog 38 #[.agg #[.int .i64 x37.1,.int .i64 x37.2.1,.int .i64 x37.2.2.1,.int .i64 x37.2.2.2.1,.int .i64 x37.2.2.2.2.1,.int .i64 x37.2.2.2.2.2.1],.int .i64 x38] w44 [.one (.int .i64)] λ(r45:Int×Unit) w46=>
 KeepOn D34 w32.drew w46 /\
 Rng .i64 (r45.1-1) /\
 cond (decide (r43.1>(r45.1-1)))
 (K (false,()) w46)
 (Rng .i64 (z31.1+1) /\
 K33 (z31.1+1,()) w46))))
 (Rng .i64 (z31.1+1) /\
 K33 (z31.1+1,()) w36))
 (K (true,()) w32))
theorem law25_counted.vc (p0:Addr) (p1_0 p1_1 p1_2 p1_3 p1_4 p1_5:Int) (a1_6:Option Addr) (n1_6 c1_6:Nat) (p1_7 p1_8:Int) (a1_9:Option Addr) (n1_9 c1_9:Nat) (w:World) (K:Bool×Unit->World->Prop) (h:law25_counted.P p0 p1_0 p1_1 p1_2 p1_3 p1_4 p1_5 a1_6 n1_6 c1_6 p1_7 p1_8 a1_9 n1_9 c1_9 w K):CallV Tryz.prog 41 #[.pointer (some p0),.agg #[.int .i64 p1_0,.int .i64 p1_1,.int .i64 p1_2,.int .i64 p1_3,.int .i64 p1_4,.int .i64 p1_5,.slice a1_6 n1_6 c1_6,.int .i64 p1_7,.int .i64 p1_8,.slice a1_9 n1_9 c1_9]] w [.one .bool] K:=by
 refine vcFun.of (A:=law25_counted.A) (wr:=false) okf_ok follows h Tryz.func41 ?_
 kernel_rfl
end Go.Proofs.YtbaojfchlhlaeaaGreat.Vc
namespace Go.Proofs.YtbaojfchlhlaeaaGreat.Vc
open Go Go.Eng Go.RowKit
def core (h:Hd) (tg:List Int):List Int:=(hdL h++invL (hdL h))++tagL tg
def markL (h:Hd) (tg:List Int):List Int:=core h tg++List.replicate 8 0
theorem core_length (h:Hd) {tg:List Int} (hl:tg.length=0\/tg.length=32):(core h tg).length=80:=by
 unfold core
 rw [List.length_append,List.length_append,invL_length,hdL_length,tagL_length hl]
theorem core_byt {h:Hd} (hR:HRight h) {tg:List Int} (bt:Byt tg):Byt (core h tg):=by
 unfold core
 refine ((hdL_byt hR).append (invL_byt _)).append ?_
 unfold tagL
 split
 ·exact Byt.replicate (by omega) (by omega) _
 ·exact bt
theorem markL_length (h:Hd) {tg:List Int} (hl:tg.length=0\/tg.length=32):(markL h tg).length=88:=by
 unfold markL
 rw [List.length_append,core_length h hl,List.length_replicate]
theorem markL_byt {h:Hd} (hR:HRight h) {tg:List Int} (bt:Byt tg):Byt (markL h tg):=(core_byt hR bt).append (Byt.replicate (by omega) (by omega) _)
theorem markL_hd (h:Hd) (hg:h.rng) (tg:List Int):hdOf (markL h tg)=h:=by
 unfold markL core
 rw [List.append_assoc,List.append_assoc]
 exact part_hdL h hg _
theorem markL_ok (h:Hd) {tg:List Int} (hR:HRight h):okR (markL h tg):=by
 refine ⟨hR.1,rfl,?_⟩
 have p1:part (markL h tg) 0 24=hdL h:=by
  unfold part markL core
  rw [List.drop_zero,List.append_assoc,List.append_assoc,List.take_left' (by rw [hdL_length])]
 have p2:part (markL h tg) 24 48=invL (hdL h):=by
  unfold part markL core
  rw [List.append_assoc,List.append_assoc,List.drop_left' (by rw [hdL_length]),List.take_left' (by rw [invL_length,hdL_length])]
 rw [p1,p2]
theorem markL_comm (h:Hd) {tg:List Int} (hl:tg.length=0\/tg.length=32):comm (markL h tg)=true:=by
 refine decide_eq_true ⟨markL_length h hl,?_⟩
 unfold markL
 rw [List.drop_left' (by rw [core_length h hl])]
theorem and255:∀ x:Fin 256,Go.bits .and .u8 ((x.val:Nat):Int) 255=((x.val:Nat):Int):=by decide +kernel
theorem getD_left {xs ys:List Int} {i:Nat} (h:i<xs.length):(xs++ys).getD i 0=xs.getD i 0:=by
 rw [List.getD_eq_getElem?_getD,List.getElem?_append_left h,<- List.getD_eq_getElem?_getD]
theorem getD_right {xs ys:List Int} {i:Nat} (h:xs.length<=i):(xs++ys).getD i 0=ys.getD (i-xs.length) 0:=by
 rw [List.getD_eq_getElem?_getD,List.getElem?_append_right h,<- List.getD_eq_getElem?_getD]
theorem and_mark {h:Hd} (hR:HRight h) {tg:List Int} (bt:Byt tg) (hl:tg.length=0\/tg.length=32):andL (endL h tg) (List.replicate 80 255++List.replicate 8 0)=markL h tg:=by
 refine List.ext_getElem (by rw [andL_length,endL_length h hl,markL_length h hl]) λi h1 h2=>?_
 have hc:=core_length h hl
 rw [<-getD_get h2]
 rw [markL_length h hl] at h2
 rw [show (andL (endL h tg) (List.replicate 80 255++List.replicate 8 0))[i]=Go.bits .and .u8 ((endL h tg).getD i 0) ((List.replicate 80 255++List.replicate 8 0:List Int).getD i 0) by simp [andL]]
 unfold endL markL
 rw [show ((hdL h++invL (hdL h))++tagL tg)=core h tg from rfl]
 by_cases hi:i<80
 ·rw [getD_left (xs:=core h tg) (by omega),getD_left (xs:=List.replicate 80 255) (by simpa using hi),getD_left (xs:=core h tg) (by omega),getD_get (xs:=List.replicate 80 255) (by simpa using hi),List.getElem_replicate,getD_get (xs:=core h tg) (by omega)]
  obtain ⟨x,hx⟩:=byte_nat ((core_byt hR bt) _ (List.getElem_mem (by omega:i<(core h tg).length)))
  rw [hx]
  exact and255 x
 ·rw [getD_right (xs:=core h tg) (by omega),getD_right (xs:=List.replicate 80 255) (by simp;omega),getD_right (xs:=core h tg) (by omega),hc,List.length_replicate,
   getD_get (xs:=List.replicate 8 (255:Int)) (by simp;omega),List.getElem_replicate,getD_get (xs:=List.replicate 8 (0:Int)) (by simp;omega),List.getElem_replicate]
  decide +kernel
theorem payL_length {g:Geo} {xs:List Int} (hs:32<=g.s/\g.s<=4096) (h:xs.length=0\/(xs.length:Int)=g.s):(payL g xs).length=g.s.toNat:=by
 unfold payL
 split
 ·rw [List.length_replicate]
 ·omega
theorem and_full {x:Int} (h:0<=x/\x<256):Go.bits .and .u8 x 255=x:=by
 obtain ⟨y,rfl⟩:=byte_nat h
 exact and255 y
theorem andL_append {xs ys zs us:List Int} (h:xs.length=zs.length):andL (xs++ys) (zs++us)=andL xs zs++andL ys us:=by
 refine List.ext_getElem (by simp [andL]) λi h1 h2=>?_
 simp only [andL,List.getElem_map,List.getElem_range,List.getElem_append,List.length_map,List.length_range]
 split
 ·rename_i hi
  rw [getD_left hi,getD_left (by omega)]
 ·rename_i hi
  rw [getD_right (by omega),getD_right (by omega),h]
theorem andL_ones {xs:List Int} (bx:Byt xs) {n:Nat} (h:xs.length=n):andL xs (List.replicate n 255)=xs:=by
 refine List.ext_getElem (by simp [andL]) λi h1 h2=>?_
 simp only [andL,List.getElem_map,List.getElem_range]
 rw [getD_get (xs:=List.replicate n 255) (by simp;omega),List.getElem_replicate,and_full (bx.getD i),getD_get h2]
theorem and_mk {g:Geo} {h:Hd} {xs ts:List Int} (hs:32<=g.s/\g.s<=4096) (hx:xs.length=0\/(xs.length:Int)=g.s) (hR:HRight h) (bx:Byt xs) (bt:Byt ts) (ht:ts.length=0\/ts.length=32):andL (mkL g h xs ts) (comL g)=payL g xs++markL h ts:=by
 unfold mkL comL
 rw [show (g.s+80).toNat=g.s.toNat+80 by omega,<- List.replicate_append_replicate,List.append_assoc,andL_append (by rw [payL_length hs hx,List.length_replicate]),and_mark hR bt ht,andL_ones _ (payL_length hs hx)]
 unfold payL
 split
 ·exact Byt.replicate (by omega) (by omega) _
 ·exact bx
theorem end_mark {g:Geo} {h:Hd} {xs ts:List Int} (hs:32<=g.s/\g.s<=4096) (hx:xs.length=0\/(xs.length:Int)=g.s):endP g (payL g xs++markL h ts)=markL h ts:=by
 unfold endP
 rw [List.drop_append_of_le_length (by rw [payL_length hs hx];omega),List.drop_eq_nil_of_le (by rw [payL_length hs hx];omega),List.nil_append]
theorem pays_mark {g:Geo} {h:Hd} {xs ts:List Int} (hs:32<=g.s/\g.s<=4096) (hx:xs.length=0\/(xs.length:Int)=g.s):pays g (payL g xs++markL h ts)=payL g xs:=by
 unfold pays
 rw [List.take_append_of_le_length (by rw [payL_length hs hx];omega),List.take_of_length_le (by rw [payL_length hs hx];omega)]
theorem ref_in {C:CD} {bl pa:Int} {n:Nat} (h:refC C bl pa n=0):inC C bl pa/\n=szP C.g/\usC C bl pa<=1:=by
 unfold refC at h
 split at h
 ·cases h
 split at h
 ·cases h
 rename_i h2
 have h2:=Classical.not_not.1 h2
 split at h
 ·cases h
 rename_i h3
 exact ⟨h2.1,h2.2,by omega⟩
theorem cl_of {xs ys:List Int} (bx:Byt xs) (by':Byt ys) (hl:ys.length=xs.length) (h:∀ i,i<8*xs.length->hasL ys i=true->hasL xs i=true):andL xs ys=ys:=by
 refine bits_ext (andL_byt _ _) by' (by rw [andL_length,hl]) λi hi=>?_
 rw [andL_length] at hi
 rw [hasL_and bx by' hi]
 cases hy:hasL ys i
 ·exact Bool.and_false _
 ·rw [h i hi hy];rfl
theorem blk_set {C C':CD} {n:Int} {x:BD} (hC:COk C) (hn:0<=n/\n<C.g.b) (hb:C'.bs=C.bs.set n.toNat x):blkC C' n=x:=by
 unfold blkC
 rw [hb,List.getD_eq_getElem?_getD,List.getElem?_set_self (by rw [hC.bl];omega)]
 rfl
theorem blk_oth {C C':CD} {n m:Int} {x:BD} (hb:C'.bs=C.bs.set n.toNat x) (hne:m.toNat≠n.toNat):blkC C' m=blkC C m:=by
 unfold blkC
 rw [hb,List.getD_eq_getElem?_getD,List.getD_eq_getElem?_getD,List.getElem?_set_ne (λh=>hne h.symm)]
theorem era_zero {C:CD} (hC:COk C) {n:Int} (hn:0<=n/\n<C.g.b) (h:(eraC C n).2=0):blkC (eraC C n).1 n={blankB C.g with er:=(blkC C n).er+1}:=by
 unfold eraC at h ⊢
 by_cases hm:mayC C n=0
 ·rw [if_pos hm] at h ⊢
  have h:(codeC C).1=0:=h
  refine blk_set hC hn (x:={blankB C.g with er:=(blkC C n).er+1}) ?_
  show C.bs.set n.toNat (if (codeC C).1=0 then _ else _)=_
  rw [if_pos h]
 ·rw [if_neg hm] at h
  exact absurd h hm
theorem scr_zero {C:CD} (hC:COk C) {n:Int} (hn:0<=n/\n<C.g.b) (h:(scrC C n).2=0):allC (scrC C n).1 n=List.replicate (bszC C) 0:=by
 unfold scrC at h ⊢
 by_cases hm:mayC C n=0
 ·rw [if_pos hm] at h ⊢
  have h:(codeC C).1=0:=h
  obtain ⟨-,⟨n3,n4⟩,-,n7,n8⟩:=hC.num
  have hall:=(hC.blk hn).2.all
  have hb:(scrX C n).bs=C.bs.set n.toNat {blkC C n with sc:=true,pg:=cutL (if (codeC C).1=0 then List.replicate (blkC C n).pg.flatten.length 0 else progL (blkC C n).pg.flatten (List.replicate (blkC C n).pg.flatten.length 0) (codeC C).2.1 false) C.g.p.toNat}:=rfl
  have h2:=blk_set hC hn hb
  show (blkC (scrX C n) n).pg.flatten=_
  rw [h2,if_pos h]
  dsimp only
  rw [(cutL_flat (z:=szP C.g) (by omega) (by rw [List.length_replicate];exact hall.1)).1,hall.1]
 ·rw [if_neg hm] at h
  exact absurd h hm
def BIn (C:CD):Prop:=∀ x∈C.bs,x.sc=false->∀ (i:Nat) (q:List Int),x.la<(i:Int)->x.pg[i]? = some q->q=List.replicate (szP C.g) 255
theorem BIn.upd {C C':CD} {n:Int} {x:BD} (h:BIn C) (hg:C'.g=C.g) (hb:C'.bs=C.bs.set n.toNat x) (hx:x.sc=false->∀ (i:Nat) (q:List Int),x.la<(i:Int)->x.pg[i]? = some q->q=List.replicate (szP C.g) 255):BIn C':=λy hy=>by
 rw [hb] at hy
 rw [hg]
 rcases List.mem_or_eq_of_mem_set hy with k | k
 ·exact h y k
 ·rw [k];exact hx
theorem BIn.new (g:Geo) (pl:List FD):BIn (newC g pl):=λx hx _ i q _ hq=>by
 rw [(List.mem_replicate.1 hx).2] at hq
 exact (List.mem_replicate.1 (List.mem_of_getElem? hq)).2
theorem BIn.off {C:CD} (h:BIn C) (b:Bool):BIn {C with off:=b}:=h
theorem BIn.prog {C:CD} (hC:COk C) (h:BIn C) (bl pa:Int) (xs:List Int):BIn (progC C bl pa xs).1:=by
 unfold progC
 split
 case isFalse=>exact h
 rename_i hr
 obtain ⟨hi,-,-⟩:=ref_in hr
 obtain ⟨hbk,-⟩:=hC.blk hi.1
 refine h.upd (C':=progX C bl pa xs) (n:=bl) rfl rfl λhs i q hla hq=>?_
 have hla:max (blkC C bl).la pa<(i:Int):=hla
 have hne:pa.toNat≠i:=by have:=hi.2.1;omega
 have hq:((blkC C bl).pg.set pa.toNat _)[i]? = some q:=hq
 rw [List.getElem?_set_ne hne] at hq
 exact h _ (List.mem_of_getElem? hbk) hs i q (by omega) hq
theorem BIn.scr {C:CD} (h:BIn C) (n:Int):BIn (scrC C n).1:=by
 unfold scrC
 split
 ·exact h.upd (C':=scrX C n) (n:=n) rfl rfl λhs=>by cases hs
 ·exact h
theorem turn_at {xs:List Int} {f:Nat->Bool} {k:Nat} (hf:∀ i,i / 8=k->f i=false):∀ m,(turn xs f m)[k]? = xs[k]?
 | 0=>rfl
 | m+1=>by
  unfold turn
  split
  ·rename_i hm
   unfold flip1
   rw [List.getElem?_set_ne (λe=>by rw [hf m e] at hm;cases hm)]
   exact turn_at hf m
  ·exact turn_at hf m
theorem bit255:∀ j:Fin 8,bitB 255 j.val=true:=by decide
theorem era_at {xs ms:List Int} {k:Nat} (h:xs[k]? = some 255):(eraL xs ms)[k]? = some 255:=by
 unfold eraL
 rw [turn_at (λi hi=>?_)]
 ·exact h
 ·unfold erF hasL
  subst hi
  rw [List.getD_eq_getElem?_getD,h]
  show (!bitB 255 (i % 8) && _)=false
  rw [bit255 ⟨i % 8,Nat.mod_lt _ (by decide)⟩]
  rfl
theorem BIn.era {C:CD} (hC:COk C) (h:BIn C) (n:Int):BIn (eraC C n).1:=by
 unfold eraC
 split
 case isFalse=>exact h
 rename_i hm
 obtain ⟨-,hn⟩:=may_zero hm
 obtain ⟨hbk,hbo⟩:=hC.blk hn
 obtain ⟨-,⟨n3,n4⟩,-,n7,n8⟩:=hC.num
 by_cases hc:(codeC C).1=0
 ·refine h.upd (C':=eraX C n) (n:=n) (x:={blankB C.g with er:=(blkC C n).er+1}) rfl (by show C.bs.set n.toNat (if (codeC C).1=0 then _ else _)=_;rw [if_pos hc]) λ_ i q _ hq=>?_
  exact (List.mem_replicate.1 (List.mem_of_getElem? hq)).2
 ·refine h.upd (C':=eraX C n) (n:=n) (x:={blkC C n with pg:=cutL (eraL (blkC C n).pg.flatten (codeC C).2.1) C.g.p.toNat,er:=(blkC C n).er+1}) rfl (by show C.bs.set n.toNat (if (codeC C).1=0 then _ else _)=_;rw [if_neg hc]) λhs i q hla hq=>?_
  have hla:(blkC C n).la<(i:Int):=hla
  have hq:(cutL (eraL (blkC C n).pg.flatten (codeC C).2.1) C.g.p.toNat)[i]? = some q:=hq
  have hlen:(eraL (blkC C n).pg.flatten (codeC C).2.1).length=C.g.p.toNat*szP C.g:=by unfold eraL;rw [turn_len];exact hbo.all.1
  have hz:C.g.p.toNat*szP C.g / C.g.p.toNat=szP C.g:=Nat.mul_div_cancel_left _ (by omega)
  have hip:i<C.g.p.toNat:=by
   have:=(List.getElem?_eq_some_iff.1 hq).1
   rwa [(cutL_flat (z:=szP C.g) (by omega) hlen).2.1] at this
  have hpi:i<(blkC C n).pg.length:=by rw [hbo.pl];exact hip
  have hold:=h _ (List.mem_of_getElem? hbk) hs i _ hla (List.getElem?_eq_getElem hpi)
  have hql:=(cutL_flat (z:=szP C.g) (by omega) hlen).2.2 q (List.mem_of_getElem? hq)
  have hqe:q=((eraL (blkC C n).pg.flatten (codeC C).2.1).drop (i*szP C.g)).take (szP C.g):=by
   unfold cutL at hq
   rw [List.getElem?_map,List.getElem?_range hip,hlen,hz] at hq
   exact (Option.some.inj hq).symm
  refine List.ext_getElem? λj=>?_
  by_cases hj:j<szP C.g
  ·rw [hqe,List.getElem?_take_of_lt hj,List.getElem?_drop,List.getElem?_replicate,if_pos hj]
   refine era_at ?_
   have hf:=fl_get (f:=id) (m:=szP C.g) (l:=(blkC C n).pg) (λx hx=>(hbo.pb x hx).1) (List.getElem?_eq_getElem hpi) hj
   rw [List.flatMap_id] at hf
   rw [hf,hold]
   show (List.replicate (szP C.g) (255:Int))[j]? = _
   rw [List.getElem?_replicate,if_pos hj]
  ·rw [List.getElem?_eq_none (by omega),List.getElem?_eq_none (by rw [List.length_replicate];omega)]
theorem BIn.fst {C:CD} (hC:COk C) (ho:C.ops+2<=1000000000000) (h:BIn C) (b:Int) {hd:Hd} (hr:hd.rng) (hR:HRight hd) (sl:Bool):BIn (fstP C b hd sl).1:=by
 obtain ⟨o1,-,-⟩:=progC_ok hC (4+b) 0 (mkL_byt (g:=C.g) hr hR Byt.nil Byt.nil) (by omega)
 have h1:=h.prog hC (4+b) 0 (mkL C.g hd [] [])
 unfold fstP
 split
 ·exact h1.prog o1 _ _ _
 ·exact h1
def NF (C:CD):Prop:=C.off=false/\∀ f∈C.pl,f.2.1=false
theorem code_nc {C:CD} (h:NF C):((codeC C).1=0\/(codeC C).1=5)/\(codeC C).2.2=false:=by
 unfold codeC
 split
 ·exact ⟨.inl rfl,rfl⟩
 ·rename_i f hf
  have:f.2.1=false:=h.2 f (List.mem_of_find?_eq_some hf)
  rw [this]
  exact ⟨.inr rfl,rfl⟩
structure BkI (x:Blk) (y:BD):Prop where
 cl:x.cl=true->x.he=false/\y.sc=false/\y.la=-1/\∀ j:Nat,y.us.getD j 0=0
 he:x.he=true->x.ba=false->x.cl=false/\y.sc=false/\y.la<=x.us/\∀ j:Nat,x.us<(j:Int)->y.us.getD j 0=0
 go:x.go=true->x.ba=true/\x.he=false/\∀ q∈y.pg,∀ v∈q,v=0
 le:x.le=true->x.ba=true
theorem BkI.r {x:Blk} {y:BD} (h:BkI x y):BkI (rB x) y:=⟨λk=>⟨rfl,(h.cl k).2⟩,λk=>(by cases k),λk=>⟨(h.go k).1,rfl,(h.go k).2.2⟩,h.le⟩
theorem BkI.f {x:Blk} {y:BD} (h:BkI x y):BkI (fB x) y:=⟨h.cl,λ_ k=>(by cases k),λk=>⟨rfl,(h.go k).2⟩,λ_=>rfl⟩
theorem BkI.c {x:Blk} {y:BD} (h:BkI x y) (m:Int):BkI (cB m x) y:=⟨h.cl,h.he,h.go,h.le⟩
structure CI (n:Nat) (u:Int) (C:CD) (L:List Blk):Prop where
 nf:NF C
 bi:BIn C
 bk:∀ i,i<n->(i:Int)≠u->BkI (gx L i) (blkC C (4+(i:Int)))
section
variable {g:Geo} {n:Nat} {u b:Int} {C:CD} {L:List Blk} {O:List Hd}
theorem CI.ch (h:CI n u C L) (hl:L.length=n) (b:Int) {φ:Blk->Blk} (k:∀ x y,BkI x y->BkI (φ x) y):CI n u C (chL b n φ L):=⟨h.nf,h.bi,λi hi hu=>by
 rw [gx_ch hl]
 split
 ·exact k _ _ (h.bk i hi hu)
 ·exact h.bk i hi hu⟩
theorem prog_nc (hC:COk C) (h:NF C) {bl pa:Int} {xs:List Int} (hi:inC C bl pa) (hx:xs.length=szP C.g) (hs:(blkC C bl).sc=false) (hu:usC C bl pa<2) (hl:usC C bl pa=0->(blkC C bl).la<pa) :
  (progC C bl pa xs).1=progX C bl pa xs/\(progC C bl pa xs).2=(codeC C).1/\((progC C bl pa xs).2=0\/(progC C bl pa xs).2=5)/\NF (progC C bl pa xs).1:=by
 have hr:refC C bl pa xs.length=0:=by
  unfold refC
  rw [h.1,if_neg Bool.false_ne_true,if_neg (λk=>k ⟨hi,hx⟩),if_neg,if_neg]
  ·rintro ⟨h0,h1⟩
   have:=hl h0
   omega
  ·rintro (k | k)
   ·rw [hs] at k;cases k
   ·omega
 have e:progC C bl pa xs=(progX C bl pa xs,(codeC C).1):=if_pos hr
 rw [e]
 exact ⟨rfl,rfl,(code_nc h).1,(code_nc h).2,h.2⟩
theorem prog_oth (C:CD) (bl pa:Int) (xs:List Int) {m:Int} (hm:m.toNat≠bl.toNat):blkC (progC C bl pa xs).1 m=blkC C m:=by
 unfold progC
 split
 ·exact blk_oth (C':=progX C bl pa xs) rfl hm
 ·rfl
theorem era_NF (h:NF C) (n:Int):NF (eraC C n).1:=by
 unfold eraC
 split
 ·exact ⟨(code_nc h).2,h.2⟩
 ·exact h
theorem scr_NF (h:NF C) (n:Int):NF (scrC C n).1:=by
 unfold scrC
 split
 ·exact ⟨(code_nc h).2,h.2⟩
 ·exact h
theorem era_oth (C:CD) (bl:Int) {m:Int} (hm:m.toNat≠bl.toNat):blkC (eraC C bl).1 m=blkC C m:=by
 unfold eraC
 split
 ·exact blk_oth (C':=eraX C bl) rfl hm
 ·rfl
theorem scr_oth (C:CD) (bl:Int) {m:Int} (hm:m.toNat≠bl.toNat):blkC (scrC C bl).1 m=blkC C m:=by
 unfold scrC
 split
 ·exact blk_oth (C':=scrX C bl) rfl hm
 ·rfl
theorem may_nc (h:NF C) {m:Int} (hm:0<=m/\m<C.g.b):mayC C m=0:=by
 unfold mayC
 rw [h.1,if_neg Bool.false_ne_true,if_neg (λk=>k hm)]
theorem CI.dst (h:CI n u C L) (hp:PI g n C L O) (ho:C.ops+2<=1000000000000) (hb:0<=b/\b<(n:Int)) (hu:u=-1\/u=b) (hh:(gx L b.toNat).he=false) :
  CI n (-1) (dstP C L b).1 (dstP C L b).2.1/\((dstP C L b).2.2=0\/(dstP C L b).2.2=5\/(dstP C L b).2.2=17)/\((dstP C L b).2.2=0->(dstP C L b).2.1=chL b n eB L) /\
  ((dstP C L b).2.2≠0->∃ m,(dstP C L b).2.1=chL b n (sB m) (chL b n fB L)):=by
 have hnn:=hp.nn
 have hgg:=hp.gg
 have hll:=hp.ll
 have hin:0<=4+b/\4+b<C.g.b:=by rw [hgg];omega
 have hm:=may_nc h.nf hin
 have hc:=(code_nc h.nf).1
 obtain ⟨o1,-,-⟩:=eraC_ok hp.ok (4+b) (by omega)
 have he:eraC C (4+b)=(eraX C (4+b),(codeC C).1):=if_pos hm
 have n1:=era_NF h.nf (4+b)
 have bi1:=h.bi.era hp.ok (4+b)
 have k1:=(eraC_k C (4+b)).1
 have oth1:∀ i,i<n->(i:Int)≠b->blkC (eraC C (4+b)).1 (4+(i:Int))=blkC C (4+(i:Int)):=λi hi hne=>era_oth C _ (by omega)
 have old:∀ i,i<n->(i:Int)≠b->BkI (gx L i) (blkC C (4+(i:Int))):=λi hi hne=>h.bk i hi (by omega)
 unfold dstP
 by_cases h5:(eraC C (4+b)).2=5
 ·rw [if_pos h5]
  have hin1:0<=4+b/\4+b<(eraC C (4+b)).1.g.b:=by rw [k1];exact hin
  have hm1:=may_nc n1 hin1
  have hc1:=(code_nc n1).1
  have es:scrC (eraC C (4+b)).1 (4+b)=(scrX (eraC C (4+b)).1 (4+b),(codeC (eraC C (4+b)).1).1):=if_pos hm1
  have n2:=scr_NF n1 (4+b)
  have bi2:=bi1.scr (4+b)
  rw [if_neg (by rw [es];show ¬ (codeC _).1=4;omega)]
  dsimp only
  rw [hll]
  refine ⟨⟨n2,bi2,λi hi _=>?_⟩,?_,?_,λ_=>⟨_,rfl⟩⟩
  ·rw [gx_ch (by rw [chL_len];exact hll),gx_ch hll]
   by_cases e:(i:Int)=b
   ·rw [if_pos ⟨hb,by omega⟩,if_pos ⟨hb,by omega⟩]
    refine ⟨λk=>(by cases k),λk=>(by cases k),λk=>⟨rfl,rfl,?_⟩,λ_=>rfl⟩
    have k:((scrC (eraC C (4+b)).1 (4+b)).2 == 0)=true:=k
    have k0:(scrC (eraC C (4+b)).1 (4+b)).2=0:=by simpa using k
    have hz:=scr_zero o1 hin1 k0
    intro q hq v hv
    have:v∈allC (scrC (eraC C (4+b)).1 (4+b)).1 (4+b):=by
     rw [show 4+b=4+(i:Int) by omega] at *
     exact List.mem_flatten.2 ⟨q,hq,hv⟩
    rw [hz] at this
    exact (List.mem_replicate.1 this).2
   ·rw [if_neg (by omega),if_neg (by omega),scr_oth _ _ (by omega),oth1 i hi e]
    exact old i hi e
  ·split <;> omega
  ·intro k
   split at k <;> omega
 ·rw [if_neg h5]
  dsimp only
  have h0:(eraC C (4+b)).2=0:=by rw [he] at h5⊢;exact hc.resolve_right h5
  rw [if_pos h0,hll]
  refine ⟨⟨n1,bi1,λi hi _=>?_⟩,.inl h0,λ_=>rfl,λk=>absurd h0 k⟩
  rw [gx_ch hll]
  by_cases e:(i:Int)=b
  ·rw [if_pos ⟨hb,by omega⟩,show 4+(i:Int)=4+b by omega,era_zero hp.ok hin h0]
   refine ⟨λ_=>⟨rfl,rfl,rfl,λj=>?_⟩,λk=>(by cases k),λk=>(by cases k),λk=>(by cases k)⟩
   show (List.replicate C.g.p.toNat (0:Int)).getD j 0=0
   rw [List.getD_eq_getElem?_getD,List.getElem?_replicate]
   split <;> rfl
  ·rw [if_neg (by omega),oth1 i hi e]
   exact old i hi e
end
section
variable {g:Geo} {n:Nat} {u b:Int} {C:CD} {L:List Blk} {O:List Hd}
theorem ul_set (l:List Int) (i j:Nat) (x:Int) (hj:j<l.length):(l.set j x).getD i 0=if i=j then x else l.getD i 0:=by
 rw [List.getD_eq_getElem?_getD,List.getElem?_set]
 by_cases e:i=j
 ·subst e
  rw [if_pos rfl,if_pos hj,if_pos rfl]
  rfl
 ·rw [if_neg (λk=>e k.symm),if_neg e,List.getD_eq_getElem?_getD]
theorem pgl_set (l:List (List Int)) (i j:Nat) (x:List Int) (hj:j<l.length):(l.set j x).getD i []=if i=j then x else l.getD i []:=by
 rw [List.getD_eq_getElem?_getD,List.getElem?_set]
 by_cases e:i=j
 ·subst e
  rw [if_pos rfl,if_pos hj,if_pos rfl]
  rfl
 ·rw [if_neg (λk=>e k.symm),if_neg e,List.getD_eq_getElem?_getD]
theorem progX_v (hC:COk C) {bl pa:Int} (hi:inC C bl pa) (xs:List Int) :
  (blkC (progX C bl pa xs) bl).sc=(blkC C bl).sc/\(blkC (progX C bl pa xs) bl).la=max (blkC C bl).la pa/\(∀ j:Nat,(blkC (progX C bl pa xs) bl).us.getD j 0=if j=pa.toNat then usC C bl pa+1 else (blkC C bl).us.getD j 0) /\
  (∀ j:Nat,(blkC (progX C bl pa xs) bl).pg.getD j []=if j=pa.toNat then (if (codeC C).1=0 then andL (pgC13 C bl pa) xs else progL (pgC13 C bl pa) xs (codeC C).2.1 (!(codeC C).2.2)) else (blkC C bl).pg.getD j []):=by
 have hb:=blk_set (C':=progX C bl pa xs) hC hi.1 rfl
 obtain ⟨-,hbo⟩:=hC.blk hi.1
 have h2:=hi.2
 rw [hb]
 refine ⟨rfl,rfl,λj=>ul_set _ _ _ _ (by rw [hbo.ul];omega),λj=>pgl_set _ _ _ _ (by rw [hbo.pl];omega)⟩
theorem fst_nc (hp:PI g n C L O) (h:NF C) (ho:C.ops+2<=1000000000000) (hb:0<=b/\b<(n:Int)) {hd:Hd} (hr:hd.rng) (hR:HRight hd) (sl:Bool) (h1:(blkC C (4+b)).sc=false) (h2:(blkC C (4+b)).la=-1) (h3:∀ j:Nat,(blkC C (4+b)).us.getD j 0=0) :
  ((fstP C b hd sl).2=0\/(fstP C b hd sl).2=5)/\NF (fstP C b hd sl).1/\(∀ m:Int,m.toNat≠(4+b).toNat->blkC (fstP C b hd sl).1 m=blkC C m) /\
  ((fstP C b hd sl).2=0->(blkC (fstP C b hd sl).1 (4+b)).sc=false/\(blkC (fstP C b hd sl).1 (4+b)).la=0/\∀ j:Nat,(blkC (fstP C b hd sl).1 (4+b)).us.getD j 0=if j=0 then (if sl=true then 2 else 1) else 0):=by
 have hnn:=hp.nn
 have hgg:=hp.gg
 have hnum:=hp.ok.num
 have hin:inC C (4+b) 0:=⟨by rw [hgg];omega,by omega⟩
 have bm:Byt (mkL C.g hd [] []):=mkL_byt hr hR Byt.nil Byt.nil
 have hlm:(mkL C.g hd [] []).length=szP C.g:=by have:=mkL_len13 C.g hd;omega
 have hu0:usC C (4+b) 0=0:=h3 0
 obtain ⟨a1,a2,a3,a4⟩:=prog_nc (xs:=mkL C.g hd [] []) hp.ok h hin hlm h1 (by omega) (λ_=>by omega)
 obtain ⟨o1,-,-⟩:=progC_ok hp.ok (4+b) 0 bm (by omega)
 obtain ⟨v1,v2,v3,-⟩:=progX_v hp.ok hin (mkL C.g hd [] [])
 have oth:=λm hm=>prog_oth C (4+b) 0 (mkL C.g hd [] []) (m:=m) hm
 rw [<-a1] at v1 v2 v3
 have kg:=(progC_k C (4+b) 0 (mkL C.g hd [] [])).1
 unfold fstP
 by_cases hc:(progC C (4+b) 0 (mkL C.g hd [] [])).2=0/\sl=true
 ·rw [if_pos hc]
  unfold selP
  generalize (progC C (4+b) 0 (mkL C.g hd [] [])).1=D at a1 a4 o1 v1 v2 v3 oth kg ⊢
  have hin2:inC D (4+b) 0:=by unfold inC;rw [kg];exact hin
  have hl2:(comL D.g).length=szP D.g:=by rw [comL_len,kg];omega
  have hu1:usC D (4+b) 0=1:=by
   have:=v3 0
   rw [if_pos (by rfl),hu0] at this
   exact this
  obtain ⟨b1,b2,b3,b4⟩:=prog_nc (xs:=comL D.g) o1 a4 hin2 hl2 (v1.trans h1) (by omega) (λk=>by omega)
  obtain ⟨w1,w2,w3,-⟩:=progX_v o1 hin2 (comL D.g)
  rw [<-b1] at w1 w2 w3
  refine ⟨b3,b4,λm hm=>(prog_oth D (4+b) 0 (comL D.g) hm).trans (oth m hm),λ_=>⟨w1.trans (v1.trans h1),by rw [w2,v2,h2];decide,λj=>?_⟩⟩
  rw [w3,v3]
  by_cases e:j=0
  ·rw [if_pos (by rw [e];rfl),if_pos e,hu1,if_pos hc.2];rfl
  ·rw [if_neg (by intro k;exact e k),if_neg (by intro k;exact e k),if_neg e];exact h3 j
 ·rw [if_neg hc]
  refine ⟨a3,a4,oth,λh0=>⟨v1.trans h1,by rw [v2,h2];decide,λj=>?_⟩⟩
  have hs:¬ sl=true:=λk=>hc ⟨h0,k⟩
  rw [v3]
  by_cases e:j=0
  ·rw [if_pos (by rw [e];rfl),if_pos e,hu0,if_neg hs];rfl
  ·rw [if_neg (by intro k;exact e k),if_neg e];exact h3 j
structure Bgn (C:CD) (b:Int) (sl:Bool):Prop where
 sc:(blkC C (4+b)).sc=false
 la:(blkC C (4+b)).la=0
 us:∀ j:Nat,(blkC C (4+b)).us.getD j 0=if j=0 then (if sl=true then 2 else 1) else 0
theorem beg_nc {ns:Int} {o:Hd} (h:CI n (-1) C L) (hp:PI g n C L O) (ho:C.ops+2<=1000000000000) (hb:0<=b/\b<(n:Int)) (hn:0<=ns/\ns<4) (hr:o.rng) (sl:Bool) (hcl:(gx L b.toNat).cl=true) (hba:(gx L b.toNat).ba=false) :
  ((begP C L O b ns o sl).2.2.2=0/\CI n (-1) (begP C L O b ns o sl).1 (begP C L O b ns o sl).2.1/\(begP C L O b ns o sl).2.1=chL b n (hB ns) L/\Bgn (begP C L O b ns o sl).1 b sl) \/
  ((begP C L O b ns o sl).2.2.2=5/\CI n b (begP C L O b ns o sl).1 L/\(begP C L O b ns o sl).2.1=L):=by
 have hbi:b.toNat<n:=by omega
 have eb:4+((b.toNat:Nat):Int)=4+b:=by omega
 have hK:=h.bk b.toNat hbi (by omega)
 rw [eb] at hK
 obtain ⟨-,k1,k2,k3⟩:=hK.cl hcl
 obtain ⟨f1,f2,f3,f4⟩:=fst_nc hp h.nf ho hb (begH_rng L b hn hr) (begH_right L b (o:=o) hn) sl k1 k2 k3
 have bi:=h.bi.fst hp.ok ho b (begH_rng L b hn hr) (begH_right L b (o:=o) hn) sl
 have hll:=hp.ll
 unfold begP
 rcases f1 with h0 | h5
 ·rw [if_pos h0]
  obtain ⟨q1,q2,q3⟩:=f4 h0
  refine .inl ⟨rfl,⟨f2,bi,λi hi _=>?_⟩,by rw [hll],⟨q1,q2,q3⟩⟩
  dsimp only
  rw [hll,gx_ch hll]
  by_cases e:(i:Int)=b
  ·rw [if_pos ⟨hb,by omega⟩,show 4+(i:Int)=4+b by omega]
   refine ⟨λk=>(by cases k),λ_ _=>⟨rfl,q1,by show _<=(0:Int);omega,λj hj=>?_⟩,λk=>?_,λk=>by rw [show i=b.toNat by omega] at k⊢;exact hK.le k⟩
   ·have hj:(0:Int)<(j:Int):=hj
    rw [q3,if_neg (by omega)]
   ·have k:(gx L i).go=true:=k
    rw [show i=b.toNat by omega] at k
    have:=(hK.go k).1
    rw [hba] at this
    cases this
  ·rw [if_neg (by omega),f3 _ (by omega)]
   exact h.bk i hi (by omega)
 ·rw [if_neg (by omega)]
  refine .inr ⟨h5,⟨f2,bi,λi hi hne=>?_⟩,rfl⟩
  dsimp only
  rw [f3 _ (by omega)]
  exact h.bk i hi (by omega)
structure Gro (n:Nat) (b:Int) (L L':List Blk):Prop where
 ba:∀ i,i<n->(gx L i).ba=true->(gx L' i).ba=true
 he:∀ i,i<n->(i:Int)≠b->(gx L' i).he=true->(gx L i).he=true
theorem Gro.refl (b:Int) (L:List Blk):Gro n b L L:=⟨λ_ _ h=>h,λ_ _ _ h=>h⟩
theorem Gro.trans {L1 L2:List Blk} (h:Gro n (-1) L L1) (k:Gro n b L1 L2):Gro n b L L2:=⟨λi hi a=>k.ba i hi (h.ba i hi a),λi hi hne a=>h.he i hi (by omega) (k.he i hi hne a)⟩
theorem Gro.ch (hl:L.length=n) (b:Int) {φ:Blk->Blk} (h1:∀ x,x.ba=true->(φ x).ba=true) (h2:∀ x,(φ x).he=true->x.he=true):Gro n (-1) L (chL b n φ L):=⟨λi hi a=>by
 rw [gx_ch hl];split
 ·exact h1 _ a
 ·exact a,λi hi _ a=>by
 rw [gx_ch hl] at a;split at a
 ·exact h2 _ a
 ·exact a⟩
end
section
variable {g:Geo} {n:Nat} {u b:Int} {C:CD} {L:List Blk} {O:List Hd}
structure OpN (n:Nat) (sl:Bool) (L:List Blk) (R:(CD×List Blk×List Hd)×Int×Int):Prop where
 ci:CI n (-1) R.1.1 R.1.2.1
 e:R.2.2=0\/R.2.2=19
 no:R.2.2≠0->R.2.1=0/\Gro n (-1) L R.1.2.1
 ok:R.2.2=0->Gro n R.2.1 L R.1.2.1/\Bgn R.1.1 R.2.1 sl
theorem opn_nc {ns:Int} {o:Hd} (hn:0<=ns/\ns<4) (hr:o.rng) (sl:Bool):∀ (k:Nat) {C:CD} {L:List Blk} {O:List Hd},PI g n C L O->CI n (-1) C L->C.ops+6*k<=1000000000000->OpN n sl L (opnP ns o sl k C L O)
 | 0,C,L,O,hp,h,ho=>⟨h,.inr rfl,λ_=>⟨rfl,.refl _ _⟩,λk=>(by cases k)⟩
 | k+1,C,L,O,hp,h,ho=>by
  have hll:=hp.ll
  unfold opnP
  by_cases hlt:pickT L L.length<0
  ·rw [if_pos hlt]
   exact ⟨h,.inr rfl,λ_=>⟨rfl,.refl _ _⟩,λk=>(by cases k)⟩
  rw [if_neg hlt]
  obtain ⟨hf,hfb⟩:=pick_free (L:=L) (by omega)
  have hbd:0<=pickT L L.length/\pickT L L.length<(n:Int):=⟨by omega,by have:=(bestT_bd (L:=L) (m:=λ_ x=>freeB x) (ah:=λx y=>decide (x.er<y.er)) L.length).2;rw [<-hll];exact this⟩
  generalize pickT L L.length=b at hlt hf hfb hbd ⊢
  rw [hll]
  have eb:4+((b.toNat:Nat):Int)=4+b:=by omega
  have hX:∃ C1 L1 e1,(if (gx L b.toNat).cl=true then (C,L,(0:Int)) else dstP C L b)=(C1,L1,e1)/\PI g n C1 L1 O/\CI n (-1) C1 L1/\C1.ops<=C.ops+2/\Gro n (-1) L L1/\(e1=0\/e1=5\/e1=17)/\(e1=0->(gx L1 b.toNat).cl=true/\(gx L1 b.toNat).ba=false):=by
   split
   ·rename_i hc
    exact ⟨_,_,_,rfl,hp,h,by omega,.refl _ _,.inl rfl,λ_=>⟨hc,hfb⟩⟩
   ·obtain ⟨q1,q2,q3⟩:=hp.dst b (by omega)
    obtain ⟨d1,d2,d3,d4⟩:=h.dst hp (by omega) hbd (.inl rfl) hf
    refine ⟨(dstP C L b).1,(dstP C L b).2.1,(dstP C L b).2.2,rfl,q1,d1,q2,?_,d2,λe=>?_⟩
    ·by_cases e:(dstP C L b).2.2=0
     ·rw [d3 e];exact Gro.ch hll b (λ_ k=>k) (λ_ k=>(by cases k))
     ·obtain ⟨m,e2⟩:=d4 e
      rw [e2]
      exact (Gro.ch hll b (φ:=fB) (λ_ _=>rfl) (λ_ k=>k)).trans (Gro.ch ((chL_len ..).trans hll) b (φ:=sB m) (λ_ _=>rfl) (λ_ k=>(by cases k)))
    ·rw [d3 e,gx_ch hll,if_pos ⟨hbd,rfl⟩];exact ⟨rfl,hfb⟩
  obtain ⟨C1,L1,e1,hq,p1,c1,o1,g1,r1,b1⟩:=hX
  rw [hq]
  dsimp only
  by_cases he1:e1=0
  case neg=>
   rw [if_neg he1,if_neg (by omega)]
   have ih:=opn_nc hn hr sl k (O:=O) p1 c1 (by omega)
   exact ⟨ih.ci,ih.e,λe=>⟨(ih.no e).1,g1.trans (ih.no e).2⟩,λe=>⟨g1.trans (ih.ok e).1,(ih.ok e).2⟩⟩
  rw [if_pos he1]
  obtain ⟨bc,bb⟩:=b1 he1
  obtain ⟨s1,s2,s3⟩:=p1.beg b (o:=o) hn hr sl (by omega)
  have hl1:=p1.ll
  rcases beg_nc (ns:=ns) (o:=o) c1 p1 (by omega) hbd hn hr sl bc bb with ⟨x1,x2,x3,x4⟩ | ⟨x1,x2,x3⟩
  ·rw [if_pos x1]
   refine ⟨x2,.inl rfl,λk=>absurd rfl k,λ_=>⟨?_,x4⟩⟩
   dsimp only
   rw [x3]
   refine g1.trans ⟨λi hi a=>?_,λi hi hne a=>?_⟩
   ·rw [gx_ch hl1];split
    ·exact a
    ·exact a
   ·rw [gx_ch hl1,if_neg (by omega)] at a;exact a
  ·rw [if_neg (by omega),if_neg (by omega)]
   have p2:=s1.chL b (φ:=fB) (λ_=>rfl)
   rw [s1.ll] at p2
   have c2:CI n b (begP C1 L1 O b ns o sl).1 (chL b n fB (begP C1 L1 O b ns o sl).2.1):=by
    rw [x3];exact x2.ch hl1 b λ_ _ k=>k.f
   have hf1:(gx L1 b.toNat).he=false:=by
    cases e:(gx L1 b.toNat).he
    ·rfl
    ·have:=g1.he b.toNat (by omega) (by omega) e
     rw [hf] at this;cases this
   have hf2:(gx (chL b n fB (begP C1 L1 O b ns o sl).2.1) b.toNat).he=false:=by
    rw [x3,gx_ch hl1,if_pos ⟨hbd,rfl⟩];exact hf1
   obtain ⟨d1,d2,d3,d4⟩:=c2.dst p2 (by omega) hbd (.inr rfl) hf2
   obtain ⟨q1,q2,q3⟩:=p2.dst b (by omega)
   rw [if_neg (by omega)]
   have g2:Gro n (-1) L1 (chL b n fB (begP C1 L1 O b ns o sl).2.1):=by rw [x3];exact Gro.ch hl1 b (λ_ _=>rfl) (λ_ k=>k)
   have hl2:(chL b n fB (begP C1 L1 O b ns o sl).2.1).length=n:=p2.ll
   have g3:Gro n (-1) (chL b n fB (begP C1 L1 O b ns o sl).2.1) (dstP (begP C1 L1 O b ns o sl).1 (chL b n fB (begP C1 L1 O b ns o sl).2.1) b).2.1:=by
    by_cases e:(dstP (begP C1 L1 O b ns o sl).1 (chL b n fB (begP C1 L1 O b ns o sl).2.1) b).2.2=0
    ·rw [d3 e];exact Gro.ch hl2 b (λ_ k=>k) (λ_ k=>(by cases k))
    ·obtain ⟨m,e2⟩:=d4 e
     rw [e2]
     exact (Gro.ch hl2 b (φ:=fB) (λ_ _=>rfl) (λ_ k=>k)).trans (Gro.ch ((chL_len ..).trans hl2) b (φ:=sB m) (λ_ _=>rfl) (λ_ k=>(by cases k)))
   have ih:=opn_nc hn hr sl k q1 d1 (by omega)
   have gg:=(g1.trans g2).trans g3
   exact ⟨ih.ci,ih.e,λe=>⟨(ih.no e).1,gg.trans (ih.no e).2⟩,λe=>⟨gg.trans (ih.ok e).1,(ih.ok e).2⟩⟩
structure PrN (C C':CD) (bl pa:Int) (xs:List Int) (e:Int):Prop where
 ee:e=0\/e=5
 nf:NF C'
 bi:BIn C'
 oth:∀ m:Int,m.toNat≠bl.toNat->blkC C' m=blkC C m
 sc:(blkC C' bl).sc=false
 la:(blkC C' bl).la=pa
 us:∀ j:Nat,j≠pa.toNat->(blkC C' bl).us.getD j 0=(blkC C bl).us.getD j 0
 pg:∀ j:Nat,j≠pa.toNat->(blkC C' bl).pg.getD j []=(blkC C bl).pg.getD j []
 ok:e=0->pgC13 C' bl pa=andL (andL (pgC13 C bl pa) xs) (comL C.g)
theorem prg_nc (hC:COk C) (h:NF C) (hB:BIn C) (ho:C.ops+2<=1000000000000) {bl pa:Int} {xs:List Int} (bx:Byt xs) (hi:inC C bl pa) (hx:xs.length=szP C.g) (hs:(blkC C bl).sc=false) (hu:usC C bl pa=0) (hl:(blkC C bl).la<pa) :
  PrN C (prgP C bl pa xs).1 bl pa xs (prgP C bl pa xs).2:=by
 have hnum:=hC.num
 obtain ⟨a1,a2,a3,a4⟩:=prog_nc (xs:=xs) hC h hi hx hs (by omega) (λ_=>hl)
 obtain ⟨o1,-,-⟩:=progC_ok hC bl pa bx (by omega)
 obtain ⟨v1,v2,v3,v4⟩:=progX_v hC hi xs
 have oth:=λm hm=>prog_oth C bl pa xs (m:=m) hm
 have b1:=hB.prog hC bl pa xs
 rw [<-a1] at v1 v2 v3 v4
 have kg:=(progC_k C bl pa xs).1
 unfold prgP
 by_cases hc:(progC C bl pa xs).2=0
 ·rw [if_pos hc]
  have hc0:(codeC C).1=0:=by rw [<-a2];exact hc
  have e1:pgC13 (progC C bl pa xs).1 bl pa=andL (pgC13 C bl pa) xs:=by
   have:=v4 pa.toNat
   rw [if_pos rfl,if_pos hc0] at this
   exact this
  generalize (progC C bl pa xs).1=D at a1 a4 o1 v1 v2 v3 v4 oth kg b1 e1 ⊢
  have hin2:inC D bl pa:=by unfold inC;rw [kg];exact hi
  have hl2:(comL C.g).length=szP D.g:=by rw [comL_len,kg];omega
  have hu1:usC D bl pa=1:=by
   have:=v3 pa.toNat
   rw [if_pos rfl,hu] at this
   exact this
  obtain ⟨c1,c2,c3,c4⟩:=prog_nc (xs:=comL C.g) o1 a4 hin2 hl2 (v1.trans hs) (by omega) (λk=>by omega)
  obtain ⟨w1,w2,w3,w4⟩:=progX_v o1 hin2 (comL C.g)
  have oth2:=λm hm=>prog_oth D bl pa (comL C.g) (m:=m) hm
  have b2:=b1.prog o1 bl pa (comL C.g)
  rw [<-c1] at w1 w2 w3 w4
  refine ⟨c3,c4,b2,λm hm=>(oth2 m hm).trans (oth m hm),w1.trans (v1.trans hs),by rw [w2,v2];omega,λj hj=>by rw [w3,if_neg hj,v3,if_neg hj],λj hj=>by rw [w4,if_neg hj,v4,if_neg hj],λk=>?_⟩
  have k0:(codeC D).1=0:=by rw [<-c2];exact k
  have:=w4 pa.toNat
  rw [if_pos rfl,if_pos k0,e1] at this
  exact this
 ·rw [if_neg hc]
  exact ⟨a3,a4,b1,oth,v1.trans hs,by rw [v2];omega,λj hj=>by rw [v3,if_neg hj],λj hj=>by rw [v4,if_neg hj],λk=>absurd k hc⟩
end
theorem manyT_le {L L':List Blk} {m m':Blk->Bool}:∀ i,(∀ j,j<i->m' (gx L' j)=true->m (gx L j)=true)->manyT L' m' i<=manyT L m i
 | 0,_=>Int.le_refl _
 | i+1,h=>by
  have ih:=manyT_le (L:=L) (L':=L') (m:=m) (m':=m') i λj hj=>h j (by omega)
  have h1:=h i (Nat.lt_succ_self i)
  unfold manyT
  by_cases e:m' (gx L' i)=true
  ·rw [if_pos e,if_pos (h1 e)];omega
  ·rw [if_neg e];split <;> omega
theorem manyT_up {L L':List Blk} {m:Blk->Bool} {b:Nat}:∀ i,(∀ j,j<i->j≠b->m (gx L' j)=true->m (gx L j)=true)->manyT L' m i<=manyT L m i+1
 | 0,_=>by show (0:Int)<=0+1;decide
 | i+1,h=>by
  by_cases e:i=b
  ·have h2:=manyT_le (L:=L) (L':=L') (m:=m) (m':=m) i λj hj=>h j (by omega) (by omega)
   unfold manyT
   split <;> split <;> omega
  ·have ih:=manyT_up (L:=L) (L':=L') (m:=m) (b:=b) i λj hj=>h j (by omega)
   have h1:=h i (Nat.lt_succ_self i) e
   unfold manyT
   by_cases e2:m (gx L' i)=true
   ·rw [if_pos e2,if_pos (h1 e2)];omega
   ·rw [if_neg e2];split <;> omega
theorem manyT_lt {L L':List Blk} {m:Blk->Bool} {b:Nat}:∀ i,b<i->(∀ j,j<i->m (gx L j)=true->m (gx L' j)=true)->m (gx L b)=false->m (gx L' b)=true->manyT L m i+1<=manyT L' m i
 | 0,hb,_,_,_=>by omega
 | i+1,hb,h,h0,h1=>by
  by_cases e:b=i
  ·subst e
   have h2:=manyT_le (L:=L') (L':=L) (m:=m) (m':=m) b λj hj=>h j (by omega)
   unfold manyT
   rw [if_pos h1,if_neg (by rw [h0];exact Bool.false_ne_true)]
   omega
  ·have ih:=manyT_lt (L:=L) (L':=L') (m:=m) (b:=b) i (by omega) (λj hj=>h j (by omega)) h0 h1
   have h3:=h i (Nat.lt_succ_self i)
   unfold manyT
   by_cases e2:m (gx L i)=true
   ·rw [if_pos e2,if_pos (h3 e2)];omega
   ·rw [if_neg e2];split <;> omega
section
variable {g:Geo} {n:Nat} {s t:SD}
structure NI (g:Geo) (n:Nat) (s:SD):Prop where
 i:SI g n s
 c:CI n (-1) s.C s.L
theorem over_e (s:SD):((overP s).2=0/\(overP s).1=s/\s.ro=false/\bads s.L<=s.C.g.sp)\/((overP s).2=15/\(overP s).1.ro=true):=by
 unfold overP
 split
 ·exact .inr ⟨rfl,rfl⟩
 ·cases h:s.ro
  ·exact .inl ⟨rfl,rfl,rfl,by omega⟩
  ·exact .inr ⟨rfl,by first | exact h | rfl⟩
theorem left_e (s:SD) {e:Int} (h:e=0\/e=19):((leftP s e).2=0/\e=0/\(leftP s e).1=s/\s.ro=false/\bads s.L<=s.C.g.sp)\/((leftP s e).2=15/\(leftP s e).1.ro=true):=by
 rcases h with rfl | rfl
 ·have e1:leftP s 0=if (overP s).2≠0 then overP s else ((overP s).1,0):=rfl
  rw [e1]
  rcases over_e s with ⟨a1,a2,a3,a4⟩ | ⟨a1,a2⟩
  ·rw [if_neg (λk=>k a1)];exact .inl ⟨rfl,rfl,a2,a3,a4⟩
  ·rw [if_pos (by omega)];exact .inr ⟨a1,a2⟩
 ·have e1:leftP s 19=if (overP {s with ro:=true}).2≠0 then overP {s with ro:=true} else ((overP {s with ro:=true}).1,19):=rfl
  rw [e1]
  rcases over_e {s with ro:=true} with ⟨a1,a2,a3,a4⟩ | ⟨a1,a2⟩
  ·cases a3
  ·rw [if_pos (by omega)];exact .inr ⟨a1,a2⟩
theorem CI.of {C C':CD} {L L':List Blk} {u:Int} (h:CI n u C L) (e1:C'=C) (e2:L'=L):CI n u C' L':=by rw [e1,e2];exact h
theorem NI.over (h:NI g n s):NI g n (overP s).1:=⟨h.i.over.i,h.c.of (over_f s).1 (over_f s).2.1⟩
theorem NI.left (h:NI g n s) (e:Int):NI g n (leftP s e).1:=⟨(h.i.left e).i,h.c.of (left_f s e).1 (left_f s e).2.1⟩
theorem NI.dst (h:NI g n s) {b:Int} (hb:0<=b/\b<(n:Int)) (hh:(gx s.L b.toNat).he=false) (ho:s.C.ops+2<=1000000000000) :
  NI g n (dstS s b).1/\((dstS s b).2=0\/(dstS s b).2=5\/(dstS s b).2=17)/\Gro n (-1) s.L (dstS s b).1.L/\(∀ i,i≠b.toNat->gx (dstS s b).1.L i=gx s.L i)/\(gx (dstS s b).1.L b.toNat).he=false/\((dstS s b).2=0->(dstS s b).1.L=chL b n eB s.L)/\((dstS s b).1.ro=false->s.ro=false):=by
 have hln:=h.i.ln
 obtain ⟨d1,d2,d3,d4⟩:=h.c.dst h.i.pi ho hb (.inl rfl) hh
 obtain ⟨q1,-⟩:=h.i.dst (b:=b) (λ_=>hh) ho
 have e:dstS s b=((overP {s with C:=(dstP s.C s.L b).1,L:=(dstP s.C s.L b).2.1}).1,(dstP s.C s.L b).2.2):=by unfold dstS;rw [if_pos (by rw [hln];exact hb)]
 have k:=over_f {s with C:=(dstP s.C s.L b).1,L:=(dstP s.C s.L b).2.1}
 have hro:(overP {s with C:=(dstP s.C s.L b).1,L:=(dstP s.C s.L b).2.1}).1.ro=false->s.ro=false:=λhr=>by
  unfold overP at hr
  split at hr
  ·cases hr
  ·exact hr
 rw [e] at q1 ⊢
 dsimp only at q1 ⊢
 have kL:(overP {s with C:=(dstP s.C s.L b).1,L:=(dstP s.C s.L b).2.1}).1.L=(dstP s.C s.L b).2.1:=k.2.1
 rw [kL]
 refine ⟨⟨q1.i,d1.of k.1 k.2.1⟩,d2,?_,λi hi=>dst_oth s.C hln b hi,?_,λh0=>d3 h0,hro⟩
 ·by_cases h0:(dstP s.C s.L b).2.2=0
  ·rw [d3 h0];exact Gro.ch hln b (λ_ k=>k) (λ_ k=>(by cases k))
  ·obtain ⟨m,e2⟩:=d4 h0
   rw [e2]
   exact (Gro.ch hln b (φ:=fB) (λ_ _=>rfl) (λ_ k=>k)).trans (Gro.ch ((chL_len ..).trans hln) b (φ:=sB m) (λ_ _=>rfl) (λ_ k=>(by cases k)))
 ·by_cases h0:(dstP s.C s.L b).2.2=0
  ·rw [d3 h0,gx_ch hln,if_pos ⟨hb,rfl⟩];rfl
  ·obtain ⟨m,e2⟩:=d4 h0
   rw [e2,gx_ch ((chL_len ..).trans hln),if_pos ⟨hb,rfl⟩];rfl
theorem NI.opn (h:NI g n s) {ns:Int} (hn:0<=ns/\ns<4) (sl:Bool) (ho:s.C.ops+768<=1000000000000) :
  NI g n (opnS ns sl s).1/\((opnS ns sl s).2.2=0\/(opnS ns sl s).2.2=19)/\((opnS ns sl s).2.2≠0->Gro n (-1) s.L (opnS ns sl s).1.L)/\((opnS ns sl s).2.2=0->Gro n (opnS ns sl s).2.1 s.L (opnS ns sl s).1.L/\Bgn (opnS ns sl s).1.C (opnS ns sl s).2.1 sl)/\(opnS ns sl s).1.ro=s.ro:=by
 have hr:(⟨0,0,0,0,s.ep,u64w (s.op+1)⟩:Hd).rng:=⟨⟨Int.le_refl _,by show (0:Int)<4294967296;decide⟩,h.i.ep,u64w_R _⟩
 have e:opC ns ⟨0,0,0,0,s.ep,u64w (s.op+1)⟩ sl s.C s.L s.O=opnP ns ⟨0,0,0,0,s.ep,u64w (s.op+1)⟩ sl 128 s.C s.L s.O:=if_pos hn
 obtain ⟨k1,-⟩:=h.i.opn hn (sl:=sl) ho
 have q:=opn_nc (ns:=ns) (o:=⟨0,0,0,0,s.ep,u64w (s.op+1)⟩) hn hr sl 128 h.i.pi h.c (by omega)
 unfold opnS at k1 ⊢
 rw [e] at k1 ⊢
 dsimp only at k1 ⊢
 exact ⟨⟨k1.i,q.ci⟩,q.e,λk=>(q.no k).2,q.ok,rfl⟩
end
section
variable {g:Geo} {n:Nat} {s t:SD} {C:CD}
theorem blank_pg (hC:COk C) (hB:BIn C) {bl pa:Int} (hi:inC C bl pa) (hs:(blkC C bl).sc=false) (hl:(blkC C bl).la<pa):pgC13 C bl pa=List.replicate (szP C.g) 255:=by
 obtain ⟨hbk,hbo⟩:=hC.blk hi.1
 have h2:=hi.2
 have hp:pa.toNat<(blkC C bl).pg.length:=by rw [hbo.pl];omega
 refine hB _ (List.mem_of_getElem? hbk) hs pa.toNat _ (by omega) ?_
 show (blkC C bl).pg[pa.toNat]? = some ((blkC C bl).pg.getD pa.toNat [])
 rw [List.getD_eq_getElem?_getD,List.getElem?_eq_getElem hp]
 rfl
theorem pg_len (hC:COk C) {bl pa:Int} (hi:inC C bl pa):(pgC13 C bl pa).length=szP C.g/\Byt (pgC13 C bl pa):=by
 obtain ⟨hbk,hbo⟩:=hC.blk hi.1
 have h2:=hi.2
 have hp:pa.toNat<(blkC C bl).pg.length:=by rw [hbo.pl];omega
 refine hbo.pb _ ?_
 show (blkC C bl).pg.getD pa.toNat []∈_
 rw [List.getD_eq_getElem?_getD,List.getElem?_eq_getElem hp]
 exact List.getElem_mem hp
theorem cpyL_len {xs:List Int} (h:8<=xs.length):(cpyL xs).length=xs.length:=by
 unfold cpyL
 rw [List.length_append,List.length_take,List.length_replicate]
 omega
def cpB (g:Geo) (xs:List Int):List Int:=andL (andL (List.replicate (szP g) 255) (cpyL xs)) (comL g)
theorem NI.bk (h:NI g n s) {b:Int} (hb:0<=b/\b<(n:Int)):BkI (gx s.L b.toNat) (blkC s.C (4+b)):=by
 have:=h.c.bk b.toNat (by omega) (by omega)
 rwa [show 4+((b.toNat:Nat):Int)=4+b by omega] at this
structure UsN (g:Geo) (n:Nat) (s t:SD) (b:Int) (xs:List Int) (e:Int):Prop where
 ni:CI n (-1) t.C t.L
 ee:e=0\/e=5
 L:t.L=chL b n uB s.L
 oth:∀ m:Int,m.toNat≠(4+b).toNat->blkC t.C m=blkC s.C m
 u0:(blkC t.C (4+b)).us.getD 0 0=(blkC s.C (4+b)).us.getD 0 0
 pg:∀ j:Nat,(j:Int)≠(gx s.L b.toNat).us+1->(blkC t.C (4+b)).pg.getD j []=(blkC s.C (4+b)).pg.getD j []
 ok:e=0->pgC13 t.C (4+b) ((gx s.L b.toNat).us+1)=andL (andL (List.replicate (szP g) 255) xs) (comL g)
theorem NI.use (h:NI g n s) {b:Int} (hb:0<=b/\b<(n:Int)) (he:(gx s.L b.toNat).he=true) (hba:(gx s.L b.toNat).ba=false) (hu:(gx s.L b.toNat).us+1<=g.p-1) {xs:List Int} (bx:Byt xs) (hx:xs.length=szP g) (ho:s.C.ops+2<=1000000000000) {t:SD}
  (eC:t.C=(prgP s.C (4+b) ((gx s.L b.toNat).us+1) xs).1) (eL:t.L=chL b n uB s.L):UsN g n s t b xs (prgP s.C (4+b) ((gx s.L b.toNat).us+1) xs).2:=by
 have hgg:=h.i.pi.gg
 have hnn:=h.i.pi.nn
 have hln:=h.i.ln
 obtain ⟨k1,k2,k3,k4⟩:=(h.bk hb).he he hba
 have hus:=(h.i.l.us b.toNat (by omega)).1
 have hin:inC s.C (4+b) ((gx s.L b.toNat).us+1):=⟨by rw [hgg];omega,by rw [hgg];omega⟩
 have hu0:usC s.C (4+b) ((gx s.L b.toNat).us+1)=0:=k4 _ (by omega)
 have p:=prg_nc h.i.pi.ok h.c.nf h.c.bi ho bx hin (by rw [hgg];exact hx) k2 hu0 (by omega)
 have bl:=blank_pg h.i.pi.ok h.c.bi hin k2 (by omega)
 refine ⟨⟨by rw [eC];exact p.nf,by rw [eC];exact p.bi,λi hi _=>?_⟩,p.ee,eL,by rw [eC];exact p.oth,by rw [eC];exact p.us 0 (by omega),λj hj=>by rw [eC];exact p.pg j (by omega),λk=>by rw [eC,p.ok k,bl,hgg]⟩
 rw [eC,eL,gx_ch hln]
 by_cases e:(i:Int)=b
 ·rw [if_pos ⟨hb,by omega⟩,show i=b.toNat by omega,show 4+((b.toNat:Nat):Int)=4+b by omega]
  refine ⟨λk=>?_,λ_ _=>⟨k1,p.sc,by rw [p.la];exact Int.le_refl _,λj hj=>?_⟩,λk=>?_,(h.bk hb).le⟩
  ·have k:(gx s.L b.toNat).cl=true:=k
   rw [k1] at k;cases k
  ·have hj:(gx s.L b.toNat).us+1<(j:Int):=hj
   rw [p.us j (by omega)]
   exact k4 j (by omega)
  ·have:=((h.bk hb).go k).1
   rw [hba] at this;cases this
 ·rw [if_neg (by omega),p.oth _ (by omega)]
  exact h.c.bk i hi (by omega)
end
section
variable {g:Geo} {n:Nat} {s t:SD} {C:CD}
theorem NI.slN (h:NI g n s) {b:Int} (hb:0<=b/\b<(n:Int)) (he:(gx s.L b.toNat).he=true) (hba:(gx s.L b.toNat).ba=false) (hu:(blkC s.C (4+b)).us.getD 0 0=1) (ho:s.C.ops+1<=1000000000000) :
  ((slC s.L.length s.C b).2=0\/(slC s.L.length s.C b).2=5)/\CI n (-1) (slC s.L.length s.C b).1 s.L/\(∀ m:Int,m.toNat≠(4+b).toNat->blkC (slC s.L.length s.C b).1 m=blkC s.C m)/\(∀ j:Nat,j≠0->(blkC (slC s.L.length s.C b).1 (4+b)).pg.getD j []=(blkC s.C (4+b)).pg.getD j []):=by
 have hgg:=h.i.pi.gg
 have hnn:=h.i.pi.nn
 have hln:=h.i.ln
 have hnum:=h.i.pi.ok.num
 obtain ⟨k1,k2,k3,k4⟩:=(h.bk hb).he he hba
 have e:slC s.L.length s.C b=progC s.C (4+b) 0 (comL s.C.g):=if_pos (by rw [hln];exact hb)
 rw [e]
 have hin:inC s.C (4+b) 0:=⟨by rw [hgg];omega,by omega⟩
 have hl2:(comL s.C.g).length=szP s.C.g:=by rw [comL_len];omega
 have hu1:usC s.C (4+b) 0=1:=hu
 obtain ⟨a1,a2,a3,a4⟩:=prog_nc (xs:=comL s.C.g) h.i.pi.ok h.c.nf hin hl2 k2 (by omega) (λk=>by omega)
 obtain ⟨v1,v2,v3,v4⟩:=progX_v h.i.pi.ok hin (comL s.C.g)
 have oth:=λm hm=>prog_oth s.C (4+b) 0 (comL s.C.g) (m:=m) hm
 have b1:=h.c.bi.prog h.i.pi.ok (4+b) 0 (comL s.C.g)
 have hus:=(h.i.l.us b.toNat (by omega)).1
 rw [<-a1] at v1 v2 v3 v4
 refine ⟨a3,⟨a4,b1,λi hi _=>?_⟩,oth,λj hj=>by rw [v4,if_neg (by intro k;exact hj k)]⟩
 by_cases e:(i:Int)=b
 ·rw [show i=b.toNat by omega,show 4+((b.toNat:Nat):Int)=4+b by omega]
  refine ⟨λk=>(by rw [k1] at k;cases k),λ_ _=>⟨k1,v1.trans k2,by rw [v2];omega,λj hj=>?_⟩,λk=>?_,(h.bk hb).le⟩
  ·rw [v3,if_neg (by intro k;have k:j=0:=k;omega)]
   exact k4 j hj
  ·have:=((h.bk hb).go k).1
   rw [hba] at this;cases this
 ·rw [oth _ (by omega)]
  exact h.c.bk i hi (by omega)
structure CoN (g:Geo) (n:Nat) (s t:SD) (to i:Int) (l:List (Int×Int)) (e:Int):Prop where
 ci:CI n (-1) t.C t.L
 ee:e=0\/e=5
 oth:∀ m:Int,m.toNat≠(4+to).toNat->blkC t.C m=blkC s.C m
 lo:∀ j:Nat,1<=j->(j:Int)<i->(blkC t.C (4+to)).pg.getD j []=(blkC s.C (4+to)).pg.getD j []
 ok:e=0->∀ (j:Nat) (k:Int×Int),l[j]? = some k->pgC13 t.C (4+to) (i+(j:Int))=cpB g (pgC13 s.C k.1 k.2)
theorem NI.cop {to:Int} (ht:0<=to/\to<(n:Int)):∀ (l:List (Int×Int)) (i:Int) {s:SD},NI g n s->(gx s.L to.toNat).he=true->(gx s.L to.toNat).ba=false->(blkC s.C (4+to)).us.getD 0 0=1->i=(gx s.L to.toNat).us+1 ->
  (gx s.L to.toNat).us+(l.length:Int)<=g.p-1->(∀ k∈l,inC s.C k.1 k.2/\k.1≠4+to)->s.C.ops+(2*l.length+1)<=1000000000000->CoN g n s (copP to l i s).1 to i l (copP to l i s).2
 | [],i,s,h,he,hba,hu0,hi,hu,hl,ho=>by
  obtain ⟨a1,a2,a3,a4⟩:=h.slN ht he hba hu0 (by omega)
  exact ⟨a2,a1,a3,λj h1 _=>a4 j (by omega),λ_ j k hk=>by cases hk⟩
 | k::l,i,s,h,he,hba,hu0,hi,hu,hl,ho=>by
  rw [List.length_cons] at hu ho
  push_cast at hu
  have hln:=h.i.ln
  have hgg:=h.i.pi.gg
  have hnum:=h.i.pi.ok.num
  obtain ⟨hk1,hk2⟩:=hl k List.mem_cons_self
  have hrd:readC s.C k.1 k.2=0:=by unfold readC;rw [h.c.nf.1,if_neg Bool.false_ne_true,if_pos hk1]
  have hpl:=pg_len h.i.pi.ok hk1
  have ec:cpyC s.L.length s.C to i k.1 k.2=prgP s.C (4+to) i (cpyL (pgC13 s.C k.1 k.2)):=by
   unfold cpyC
   rw [if_pos (by rw [hln];exact ht),if_pos hrd]
  have eC:(cpyS s to i k).1.C=(prgP s.C (4+to) ((gx s.L to.toNat).us+1) (cpyL (pgC13 s.C k.1 k.2))).1:=by
   show (cpyC s.L.length s.C to i k.1 k.2).1=_
   rw [ec,hi]
  have eL:(cpyS s to i k).1.L=chL to n uB s.L:=by show chL to s.L.length uB s.L=_;rw [hln]
  have eE:(cpyS s to i k).2=(prgP s.C (4+to) ((gx s.L to.toNat).us+1) (cpyL (pgC13 s.C k.1 k.2))).2:=by
   show (cpyC s.L.length s.C to i k.1 k.2).2=_
   rw [ec,hi]
  have U:=h.use ht he hba (by omega) (cpyL_byt hpl.2) (by rw [cpyL_len (by rw [hpl.1];omega),hpl.1,hgg]) (by omega) eC eL
  rw [<-eE] at U
  have h1:=h.i.cpy (to:=to) (pa:=i) (k:=k) (λ_=>by omega) (by omega)
  have gt:gx (cpyS s to i k).1.L to.toNat=uB (gx s.L to.toNat):=by rw [eL,gx_ch hln,if_pos ⟨ht,rfl⟩]
  have top:=U.ok
  rw [<-hi] at top
  rw [show copP to (k::l) i s=if (cpyS s to i k).2≠0 then cpyS s to i k else copP to l (i+1) (cpyS s to i k).1 from rfl]
  split
  ·rename_i hne
   exact ⟨U.ni,U.ee,U.oth,λj h1 h2=>U.pg j (by omega),λe=>absurd e hne⟩
  ·rename_i h0
   have h0:(cpyS s to i k).2=0:=by omega
   have top:=top h0
   have hg1:(cpyS s to i k).1.C.g=s.C.g:=by have:=h1.i.pi.gg;rw [this,hgg]
   have R:=NI.cop ht l (i+1) (s:=(cpyS s to i k).1) ⟨h1.i,U.ni⟩ (by rw [gt];exact he) (by rw [gt];exact hba) (by rw [U.u0];exact hu0) (by rw [gt];show i+1=(gx s.L to.toNat).us+1+1;omega)
    (by rw [gt];show (gx s.L to.toNat).us+1+(l.length:Int)<=_;omega) (λq hq=>⟨by unfold inC;rw [hg1];exact (hl q (List.mem_cons_of_mem _ hq)).1,(hl q (List.mem_cons_of_mem _ hq)).2⟩) (by have:=h1.o2;omega)
   have hus:=(h.i.l.us to.toNat (by omega)).1
   refine ⟨R.ci,R.ee,λm hm=>(R.oth m hm).trans (U.oth m hm),λj j1 j2=>(R.lo j j1 (by omega)).trans (U.pg j (by omega)),λe j q hq=>?_⟩
   cases j with
   | zero=>
    cases hq
    have a:=R.lo i.toNat (by omega) (by omega)
    show (blkC _ (4+to)).pg.getD (i+((0:Nat):Int)).toNat []=_
    rw [show (i+((0:Nat):Int)).toNat=i.toNat by omega,a]
    exact top
   | succ j=>
    have hq:l[j]? = some q:=hq
    have a:=R.ok e j q hq
    rw [show i+1+(j:Int)=i+((j+1:Nat):Int) by push_cast;omega] at a
    rw [a]
    have hq2:=hl q (List.mem_cons_of_mem _ (List.mem_of_getElem? hq))
    have hq3:=hq2.1.1
    have:pgC13 (cpyS s to i k).1.C q.1 q.2=pgC13 s.C q.1 q.2:=by unfold pgC13;rw [U.oth q.1 (by have:=hq2.2;omega)]
    rw [this]
end
def hdX (X:List (SlP Ce)) (m:Int) (j:Nat):Option Hh:=match (getX X m).l[j]? with | some c=>if c.has=true then some c.s.h else none | none=>none
def PGI (T:Hh->List Int) (s:SD):Prop:=∀ (m:Int) (j:Nat) (c:Ce),(0<=m/\m<4)->(getX s.X m).l[j]? = some c->c.has=true->pgC13 s.C c.s.b c.s.p=T c.s.h/\cpB s.C.g (T c.s.h)=T c.s.h
section
variable {g:Geo} {n:Nat} {s t:SD} {T:Hh->List Int}
theorem PGI.of (h:PGI T s) (hX:t.X=s.X) (hg:t.C.g=s.C.g) (hp:∀ k,1<=cntX s.X k->pgC13 t.C k.1 k.2=pgC13 s.C k.1 k.2) (h4:s.X.length=4):PGI T t:=λm j c hm hj hc=>by
 rw [hX] at hj
 obtain ⟨a,b⟩:=h m j c hm hj hc
 rw [hg]
 exact ⟨(hp c.pl (cntX_pos h4 hm hj hc)).trans a,b⟩
theorem NI.spo (h:NI g n s) {b:Int} (hb:0<=b/\b<(n:Int)) (h0:(gx s.L b.toNat).li=0) (hf:nfr s b) (hba:(gx s.L b.toNat).ba=false) (ho:s.C.ops+2<=1000000000000) :
  NI g n (spoP s b).1/\((spoP s b).2=0\/((spoP s b).2=15/\(spoP s b).1.ro=true))/\Gro n (-1) s.L (spoP s b).1.L/\(gx (spoP s b).1.L b.toNat).ba=true/\(gx (spoP s b).1.L b.toNat).he=false/\((spoP s b).2=0->(spoP s b).1.ro=false/\s.ro=false/\bads (spoP s b).1.L<=(spoP s b).1.C.g.sp) /\
  (∀ m:Int,m.toNat≠(4+b).toNat->blkC (spoP s b).1.C m=blkC s.C m):=by
 have hln:=h.i.ln
 have h1:=h.i.f b
 have g1:=chS_gx h.i b fB
 have h2:=h1.i.r b (λ_=>by rw [g1,if_pos ⟨hb,rfl⟩];exact h0) hf
 have g2:=chS_gx h1.i b rB
 have c1:CI n (-1) s.C (chL b n fB s.L):=h.c.ch hln b λ_ _ k=>k.f
 have c2:CI n (-1) s.C (chL b n rB (chL b n fB s.L)):=c1.ch ((chL_len ..).trans hln) b λ_ _ k=>k.r
 have eL:(chS (chS s b fB) b rB).L=chL b n rB (chL b n fB s.L):=by
  show chL b (chL b s.L.length fB s.L).length rB (chL b s.L.length fB s.L)=_
  rw [chL_len,hln]
 have N2:NI g n (chS (chS s b fB) b rB):=⟨h2.i,c2.of rfl eL⟩
 have gb:gx (chS (chS s b fB) b rB).L b.toNat=rB (fB (gx s.L b.toNat)):=by rw [g2,if_pos ⟨hb,rfl⟩,g1,if_pos ⟨hb,rfl⟩]
 have G:Gro n (-1) s.L (chS (chS s b fB) b rB).L:=by
  rw [eL]
  exact (Gro.ch hln b (φ:=fB) (λ_ _=>rfl) (λ_ k=>k)).trans (Gro.ch ((chL_len ..).trans hln) b (φ:=rB) (λ_ k=>k) (λ_ k=>(by cases k)))
 obtain ⟨d1,d2,d3,d4,d5,d6,d7⟩:=N2.dst hb (by rw [gb];rfl) ho
 have bab:(gx (dstS (chS (chS s b fB) b rB) b).1.L b.toNat).ba=true:=d3.ba b.toNat (by omega) (by rw [gb];rfl)
 have oth:∀ m:Int,m.toNat≠(4+b).toNat->blkC (dstS (chS (chS s b fB) b rB) b).1.C m=blkC s.C m:=λm hm=>by
  have e:dstS (chS (chS s b fB) b rB) b=((overP {chS (chS s b fB) b rB with C:=(dstP s.C (chS (chS s b fB) b rB).L b).1,L:=(dstP s.C (chS (chS s b fB) b rB).L b).2.1}).1,(dstP s.C (chS (chS s b fB) b rB).L b).2.2):=by unfold dstS;rw [if_pos (by rw [h2.i.ln];exact hb)];rfl
  rw [e]
  have k:=(over_f {chS (chS s b fB) b rB with C:=(dstP s.C (chS (chS s b fB) b rB).L b).1,L:=(dstP s.C (chS (chS s b fB) b rB).L b).2.1}).1
  show blkC (overP {chS (chS s b fB) b rB with C:=(dstP s.C (chS (chS s b fB) b rB).L b).1,L:=(dstP s.C (chS (chS s b fB) b rB).L b).2.1}).1.C m=_
  rw [k]
  show blkC (dstP s.C _ b).1 m=_
  unfold dstP
  split
  ·split
   ·exact (scr_oth _ _ hm).trans (era_oth _ _ hm)
   ·exact (scr_oth _ _ hm).trans (era_oth _ _ hm)
  ·exact era_oth _ _ hm
 have e:spoP s b=overP (dstS (chS (chS s b fB) b rB) b).1:=by
  unfold spoP
  rw [if_neg (by omega)]
 rw [e]
 have k:=over_f (dstS (chS (chS s b fB) b rB) b).1
 refine ⟨d1.over,?_,by rw [k.2.1];exact G.trans d3,by rw [k.2.1];exact bab,by rw [k.2.1];exact d5,λe0=>?_,λm hm=>by rw [k.1];exact oth m hm⟩
 ·rcases over_e (dstS (chS (chS s b fB) b rB) b).1 with ⟨a1,-⟩ | a
  ·exact .inl a1
  ·exact .inr a
 ·rcases over_e (dstS (chS (chS s b fB) b rB) b).1 with ⟨a1,a2,a3,a4⟩ | ⟨a1,-⟩
  ·rw [a2];exact ⟨a3,d7 a3,a4⟩
  ·omega
end
end Go.Proofs.YtbaojfchlhlaeaaGreat.Vc
