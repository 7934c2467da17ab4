/- Texts in one: The contracts of layer 22 (pagemap): a block's live places. Lists of slices of bytes. The contracts of layer 23 (scan): what a block's pages tell. The plans of functions as plain statements, printed by wip/tools/vcgen.py; the kernel holds each to the code. The contracts of layer 13 (nand): the array's parts, and what only reads it. The contracts of layer 13 (nand): what only reads an array, and a byte changed. The contracts of layer 13 (nand): the power, and a byte changed. The contracts of layer 13 (nand): an operation that is done. The laws FaultBits, FaultSets, FaultClears and FaultWhole of layer 12: each call gives true, and what it read stays. The contracts of layer 13 (nand): a page, programmed. The contracts of layer 13 (nand): a page, programmed. The contracts of layer 13 (nand): a block, scrubbed or erased. The contracts of layer 13 (nand): a new array. The plans of functions as plain statements, printed by wip/tools/vcgen.py; the kernel holds each to the code. The contracts of layer 13: the document's array. The contracts of layer 13: the document's array, its blocks. The contracts of layer 13: the document's array, bytes cut into pages, blank blocks. The contracts of layer 13: the document's array, new, and all its bytes. The contracts of layer 13: the document's array, a block erased, or scrubbed. The contracts of layer 13: the document's array, a page programmed. The contracts of layer 13: the document's array, a byte changed. The plans of functions as plain statements, printed by wip/tools/vcgen.py; the kernel holds each to the code. -/
import Derived.Test.YtcekmdehjnlkpaaGreatZScanBlocksd
set_option linter.unusedVariables false
set_option linter.unusedSimpArgs false
namespace Go.Proofs.YtcekmdehjnlkpaaGreat.Vc
open Go Go.Eng Go.RowKit
theorem SpS_one (s:Sp):oneAll s.vs:=λu hu=>by
 simp only [List.mem_cons,List.not_mem_nil,or_false] at hu
 rcases hu with h | h | h | h | h | h | h | h | h | h | h | h | h | h <;> subst h <;> rfl
structure InI (X:List (SlP Ce)) (blk:Int) (a:Int) (b:Nat) (O:List Sp):Prop where
 nd:(O.map Sp.pk).Nodup
 ok:∀ s∈O,s.b=blk/\1<=cntX X s.pk
 all:∀ (ns:Int) (j:Nat) (c:Ce),(0<=ns/\ns<4)->(ns<a\/(ns=a/\j<b))->(getX X ns).l[j]? = some c->c.has=true->c.s.b=blk->c.s.pk∈O.map Sp.pk
theorem InI.nil {X:List (SlP Ce)} {blk:Int}:InI X blk 0 0 []:=⟨.nil,λs h=>(List.not_mem_nil h).elim,λns j c h1 h2=>by omega⟩
theorem InI.next {X:List (SlP Ce)} {blk a:Int} {O:List Sp} (hX:XOk X) (h:InI X blk a (getX X a).n O):InI X blk (a+1) 0 O:=⟨h.nd,h.ok,λns j c h1 h2 hc=>by
 by_cases h3:ns<a
 ·exact h.all ns j c h1 (.inl h3) hc
 ·have h4:ns=a:=by omega
  subst h4
  exact h.all ns j c h1 (.inr ⟨rfl,by rw [<-(hX.get ns).1];exact (List.getElem?_eq_some_iff.1 hc).1⟩) hc⟩
theorem InI.skip {X:List (SlP Ce)} {blk a:Int} {b:Nat} {O:List Sp} {x:Ce} (h:InI X blk a b O) (hx:(getX X a).l[b]? = some x) (hs:x.has=true->x.s.b=blk->x.s.pk∈O.map Sp.pk):InI X blk a (b+1) O:=⟨h.nd,h.ok,λns j c h1 h2 hc hh hb=>by
 by_cases h3:ns=a/\j=b
 ·obtain ⟨rfl,rfl⟩:=h3
  rw [hx] at hc
  cases hc
  exact hs hh hb
 ·exact h.all ns j c h1 (by omega) hc hh hb⟩
theorem InI.put {X:List (SlP Ce)} {blk a:Int} {b:Nat} {O:List Sp} {x:Ce} (hX:XOk X) (ha:0<=a/\a<4) (h:InI X blk a b O) (hx:(getX X a).l[b]? = some x) (hh:x.has=true) (hb:x.s.b=blk) (hn:x.s.pk∉O.map Sp.pk):InI X blk a (b+1) (O++[x.s]):=by
 refine ⟨?_,λs hs=>?_,λns j c h1 h2 hc hh2 hb2=>?_⟩
 ·rw [List.map_append,List.nodup_append]
  refine ⟨h.nd,by simp,λu hu v hv e=>?_⟩
  have hv:v=x.s.pk:=List.mem_singleton.1 hv
  rw [e,hv] at hu
  exact hn hu
 ·rcases List.mem_append.1 hs with hs | hs
  ·exact h.ok s hs
  ·rw [List.mem_singleton.1 hs]
   exact ⟨hb,cntX_pos hX.four ha hx hh⟩
 ·rw [List.map_append,List.mem_append]
  by_cases h3:ns=a/\j=b
  ·obtain ⟨rfl,rfl⟩:=h3
   rw [hx] at hc
   cases hc
   exact .inr (List.mem_singleton.2 rfl)
  ·exact .inl (h.all ns j c h1 (by omega) hc hh2 hb2)
structure InF (X:List (SlP Ce)) (blk:Int) (O:List Sp):Prop where
 so:O.Pairwise λx y=>plL x.pk y.pk
 ok:∀ s∈O,s.b=blk/\1<=cntX X s.pk
 all:∀ c∈flatX X,c.has=true->c.s.b=blk->c.s.pk∈O.map Sp.pk
theorem InI.fin {X:List (SlP Ce)} {blk:Int} {O O':List Sp} (hX:XOk X) (h:InI X blk 4 0 O) (hp:O'.Perm O) (hs:O'.Pairwise λx y=>¬ plL y.pk x.pk):InF X blk O':=by
 refine ⟨?_,λs hs=>h.ok s (hp.mem_iff.1 hs),λc hc hh hb=>?_⟩
 ·have hn:(O'.map Sp.pk).Nodup:=(hp.map Sp.pk).nodup_iff.2 h.nd
  have hn2:O'.Pairwise λx y=>x.pk≠y.pk:=List.pairwise_map.1 hn
  refine (hs.and hn2).imp λ{x y} ⟨h1,h2⟩=>?_
  have h3:¬ (x.pk.1=y.pk.1/\x.pk.2=y.pk.2):=λe=>h2 (Prod.ext e.1 e.2)
  unfold plL at h1 ⊢
  omega
 ·obtain ⟨x,hx,hc⟩:=List.mem_flatMap.1 hc
  obtain ⟨i,hi,rfl⟩:=List.getElem_of_mem hx
  obtain ⟨j,hj⟩:=List.getElem?_of_mem hc
  have h4:=hX.four
  have hg:=getX_at h4 (ns:=(i:Int)) (by omega)
  rw [Int.toNat_natCast,List.getElem?_eq_getElem hi] at hg
  rw [Option.some.inj hg] at hj
  have:=h.all (i:Int) j c (by omega) (.inl (by omega)) hj hh hb
  exact (hp.map Sp.pk).mem_iff.2 this
section
variable {E:Nat->Prop} {w0 w:World} {p r:Nat} {X:List (SlP Ce)} {m:Int×Int->Int} {Rs:List Asr}
theorem In22_c {blk:Int} (hX:XOk X) (hB:∀ (ns:Int) (j:Nat) (c:Ce),(0<=ns/\ns<4)->(getX X ns).l[j]? = some c->c.has=true->Bd c.s.pk) (S:Sep E w0 w [boxP p r X,MapF r m,ownsA X]) :
  CallV Tryz.prog 36 #[.pointer (some ⟨p,0,none⟩),.int .i64 blk] w [.one .sl] λrr w'=>∃ O,InF X blk O/\O.length<=262140/\Sep E w0 w' [outS rr.1.a rr.1.n rr.1.c O,boxP p r X,MapF r m,ownsA X]:=by
 apply pagemap_Map_In.vc
 unfold pagemap_Map_In.P
 have h4:=hX.four
 refine S.newM λb1 w1 S f1 _=>?_
 have S:=S.nilOwn 59 14
 refine Loop1 (λ(v:SlV×Int×Unit) w'=>∃ (O:List Sp) (sn:Int×Int->Int),(0<=v.2.1/\v.2.1<=4)/\InI X blk v.2.1 0 O/\(O.length:Int)<=65535*v.2.1/\(∀ s∈O,Bd s.pk)/\(∀ k,sn k=if k∈O.map Sp.pk then 1 else 0)/\Sep E w0 w' [outS v.1.a v.1.n v.1.c O,MapF b1 sn,boxP p r X,MapF r m,ownsA X])
  (λ(v:SlV×Int×Unit) _=>(4-v.2.1).toNat) ⟨[],_,⟨by decide,by decide⟩,.nil,by decide,λs hs=>(List.not_mem_nil hs).elim,λk=>rfl,S⟩ ?_
 clear S
 rintro ⟨⟨oa,on,oc⟩,(v:Int),⟨⟩⟩ w2 ⟨O,sn,hv,hI,hOl,hOB,hsn,S⟩
 dsimp only at hv hI hOl S ⊢
 refine cond_d (λhlt=>?_) (λhge=>?_)
 case refine_2=>
  have hv4:v=4:=by omega
  subst hv4
  have hl:=(S.own 0 rfl).lenF Spv_len (by decide)
  refine (sortSp_c hOB (by omega) S).mono ?_
  rintro ⟨⟩ w3 ⟨O',⟨hp,hs⟩,S⟩
  exact ⟨O',hI.fin hX hp hs,by rw [hp.length_eq];omega,S.sel [0,1,1,1] rfl⟩
 have hn:0<=v/\v<4:=⟨hv.1,hlt⟩
 refine (own22_c (ns:=v) h4 (toQ (S.sel [2,2,2] rfl))).mono ?_
 rintro ⟨_,⟨⟩⟩ w3 ⟨h3,e3⟩
 subst e3
 dsimp only at h3
 subst h3
 dsimp only
 have hln:=hX.get v
 have h40:=hln.2
 refine Loop1 (λ(u:SlV×Int×Unit) w'=>∃ (i:Nat) (O:List Sp) (sn:Int×Int->Int),u.2.1=(i:Int)/\i<=(getX X v).n/\InI X blk v i O/\(O.length:Int)<=65535*v+i/\(∀ s∈O,Bd s.pk)/\(∀ k,sn k=if k∈O.map Sp.pk then 1 else 0)/\Sep E w0 w' [outS u.1.a u.1.n u.1.c O,MapF b1 sn,boxP p r X,MapF r m,ownsA X])
  (λ(u:SlV×Int×Unit) _=>(((getX X v).n:Int)-u.2.1).toNat) ⟨0,O,sn,rfl,by omega,hI,by omega,hOB,hsn,S⟩ ?_
 clear S hI hOl hOB hsn
 rintro ⟨⟨oa,on,oc⟩,(u:Int),⟨⟩⟩ w4 ⟨i,O,sn,hu,hi,hI,hOl,hOB,hsn,S⟩
 dsimp only at hu S ⊢
 subst hu
 refine cond_d (λhlt2=>?_) (λhge2=>?_)
 case refine_2=>
  have hie:i=(getX X v).n:=by omega
  subst hie
  exact ⟨Rng.i64 (by omega) (by omega),⟨O,sn,by omega,hI.next hX,by omega,hOB,hsn,S⟩,by omega⟩
 have rg:Rng .i64 ((i:Int)+1):=Rng.i64 (by omega) (by omega)
 obtain ⟨q,x,hq,hx,hcx,hqb⟩:=cellR h4 hn 4 S rfl (j:=(i:Int)) (by omega) hlt2
 rw [Int.toNat_natCast] at hx
 refine ⟨⟨by omega,hlt2⟩,q,hq,x.tup,hcx,?_⟩
 refine S.newB λb13 w5 S f5 _=>?_
 refine S.st0 (by rfl) λw6 S f6=>?_
 have skip:∀ {w':World},(x.has=true->x.s.b=blk->x.s.pk∈O.map Sp.pk)->Sep E w0 w' [outS oa on oc O,MapF b1 sn,boxP p r X,MapF r m,ownsA X]->(∃ (i':Nat) (O':List Sp) (sn':Int×Int->Int),(i:Int)+1=(i':Int)/\i'<=(getX X v).n/\InI X blk v i' O'/\(O'.length:Int)<=65535*v+i'/\(∀ s∈O',Bd s.pk)/\(∀ k,sn' k=if k∈O'.map Sp.pk then 1 else 0)/\Sep E w0 w' [outS oa on oc O',MapF b1 sn',boxP p r X,MapF r m,ownsA X])/\(((getX X v).n:Int)-((i:Int)+1)).toNat<(((getX X v).n:Int)-(i:Int)).toNat:=λhs S=>
  ⟨⟨i+1,O,sn,by push_cast;rfl,by omega,hI.skip hx hs,by push_cast;omega,hOB,hsn,S⟩,by omega⟩
 refine S.ld0 (j:=0) rfl rfl (cond_of (λ(hh:x.has=true)=>?_) (λ(hh:x.has=false)=>⟨rg,skip (λe=>by rw [hh] at e;cases e) S.tail⟩))
 refine S.ld0 (j:=1) rfl rfl (cond_eq (λ(hb:x.s.b=blk)=>?_) (λ(hb:x.s.b≠blk)=>⟨rg,skip (λ_ e=>absurd e hb) S.tail⟩))
 refine S.lb0 (o:=1) rfl ?_
 refine S.lookM (k:=x.s.pk) 2 rfl ?_
 refine cond_eq (λ(h0:sn x.s.pk=0)=>?_) (λ(h0:sn x.s.pk≠0)=>⟨rg,skip (λ_ _=>?_) S.tail⟩)
 case refine_2=>
  refine Classical.byContradiction λe=>h0 ?_
  rw [hsn,if_neg e]
 have hnm:x.s.pk∉O.map Sp.pk:=λe=>by rw [hsn,if_pos e] at h0;cases h0
 have hxB:=hB v i x hn hx hh
 have hon:O.length=on:=(S.own 1 rfl).lenF Spv_len (by decide)
 have S:=S.sel [2,0,0,0,0,0] rfl
 refine Sep.regC [_] S λG D hG T S hDt hDo hkeep back=>?_
 have hGr:G b1:=by
  obtain ⟨F,⟨h1,l,cc,h2,-⟩,h3⟩:=T.get (i:=0) rfl
  exact (h3 b1 h1).1.resolve_right (λh=>by have:=(Array.getElem?_eq_some_iff.1 h2).1;omega)
 have hk2:=λw' (f:Fr (λk=>k=b1) _ w')=>hkeep w' (f.mono λk hk=>by subst hk;exact hGr)
 have rv:Rng .i64 (sn x.s.pk+1):=by rw [h0];exact Rng.i64 (by decide) (by decide)
 have hsn':∀ k,updM sn x.s.pk (sn x.s.pk+1) k=if k∈(O++[x.s]).map Sp.pk then 1 else 0:=λk=>by
  unfold updM
  rw [h0]
  by_cases e:k=x.s.pk
  ·rw [if_pos e,if_pos (by rw [List.map_append,List.mem_append];exact .inr (List.mem_singleton.2 e))];rfl
  ·rw [if_neg e,hsn]
   by_cases e2:k∈O.map Sp.pk
   ·rw [if_pos e2,if_pos (by rw [List.map_append,List.mem_append];exact .inl e2)]
   ·rw [if_neg e2,if_neg (by rw [List.map_append,List.mem_append];exact λh=>h.elim e2 λh=>e (List.mem_singleton.1 h))]
 have app:∀ {w':World},Sep E w0 w' [MapF b1 (updM sn x.s.pk (sn x.s.pk+1)),BoxA b13 169 x.vs,outS oa on oc O,boxP p r X,MapF r m,ownsA X]->LoadA w' ⟨b13,1,none⟩ SH14 λ(y:Int×Int×Int×Int×Int×Int×Int×Int×Int×Int×Int×Int×Int×Int×Unit)=>
   NewV #[.int .i64 y.1,.int .i64 y.2.1,.int .i64 y.2.2.1,.int .i64 y.2.2.2.1,.int .i64 y.2.2.2.2.1,.int .u32 y.2.2.2.2.2.1,.int .u64 y.2.2.2.2.2.2.1,.int .u64 y.2.2.2.2.2.2.2.1,.int .i64 y.2.2.2.2.2.2.2.2.1,.int .i64 y.2.2.2.2.2.2.2.2.2.1,.int .i64 y.2.2.2.2.2.2.2.2.2.2.1,.int .u32 y.2.2.2.2.2.2.2.2.2.2.2.1,.int .u64 y.2.2.2.2.2.2.2.2.2.2.2.2.1,.int .u64 y.2.2.2.2.2.2.2.2.2.2.2.2.2.1] 59 w' λb w2=>
    AppS w2 (some ⟨b,0,none⟩) 1 14 λns=>AppV w2 59 14 112 oa on oc ns 1 λa' n' c' w3=>Rng .i64 ((i:Int)+1)/\(∃ (i':Nat) (O':List Sp) (sn':Int×Int->Int),(i:Int)+1=(i':Int)/\i'<=(getX X v).n/\InI X blk v i' O'/\(O'.length:Int)<=65535*v+i'/\(∀ s∈O',Bd s.pk)/\(∀ k,sn' k=if k∈O'.map Sp.pk then 1 else 0)/\Sep E w0 w3 [outS a' n' c' O',MapF b1 sn',boxP p r X,MapF r m,ownsA X])/\(((getX X v).n:Int)-((i:Int)+1)).toNat<(((getX X v).n:Int)-(i:Int)).toNat:=λS=>by
  refine S.lb1 (o:=1) rfl ?_
  refine S.newB (vs:=x.s.vs) λb9 w9 S f9 _=>?_
  refine AppS.of (news:=x.s.vs) rfl (.inr ⟨_,rfl,S.cells 0 rfl⟩) ?_
  refine S.ap3 rfl (SpS_one x.s) (by omega) (by omega) λa' c' w10 S f10=>⟨rg,⟨i+1,O++[x.s],_,by push_cast;rfl,by omega,hI.put hX hn hx hh hb hnm,by rw [List.length_append];push_cast;simp;omega,λs hs=>?_,hsn',?_⟩,by omega⟩
  ·rcases List.mem_append.1 hs with hs | hs
   ·exact hOB s hs
   ·rw [List.mem_singleton.1 hs];exact hxB
  ·have e:(O++[x.s]).flatMap Sp.vs=O.flatMap Sp.vs++x.s.vs:=by rw [List.flatMap_append];simp
   show Sep E w0 w10 [OwnA _ _ _ _ _ ((O++[x.s]).flatMap Sp.vs),_,_,_,_]
   rw [e]
   exact S.sel [3,1,2,2,2] rfl
 refine ⟨hDt 0 _ _ _ rfl,S.lb1 (o:=1) rfl ⟨?_,?_⟩⟩
 ·refine T.incA (k:=x.s.pk) (λx=>x+1) 0 rfl hk2 rv λw7 T f7=>?_
  have S:=back _ _ T
  dsimp only [List.set_cons_zero,List.cons_append,List.nil_append] at S
  exact app S
 ·refine T.incB (k:=x.s.pk) (λx=>x+1) 0 rfl hk2 rv λw7 T f7=>?_
  have S:=back _ _ T
  dsimp only [List.set_cons_zero,List.cons_append,List.nil_append] at S
  exact app S
end
abbrev TB:Ty:=.sl (.int .u8)
abbrev TBB:Ty:=.sl TB
abbrev slV (s:SlP Int):Value:=.slice s.a s.n s.c
theorem flat_sl (L:List (SlP Int)):L.flatMap TB.vs=L.map slV:=by
 induction L with
 | nil=>rfl
 | cons x L ih=>rw [List.flatMap_cons,ih];rfl
def RdL (L:List (SlP Int)):Asr:=⟨λw F=>∀ x∈L,TB.rd w F x,λh k x hx=>TB.rd_kp (λi hi _=>k i hi) (h x hx)⟩
theorem maxLen_eq:maxLen=9223372036854775807:=by decide
theorem own_rd {w:World} {F:Nat->Prop} {a:Option Addr} {n c:Nat} {xs:List Int} (h:(OwnA 5 1 a n c (xs.map (Value.int .u8))).p w F) (bx:Byt xs):TB.rd w F ⟨a,n,c,xs⟩:=by
 obtain ⟨ho,hF⟩:=h
 have hm:=maxLen_eq
 refine ⟨by have:=ho.len;simpa using this,ho.cap,by have:=ho.lim;show n<=maxLen;omega,?_,λy hy=>rngU8 (bx y hy)⟩
 rw [show xs.flatMap (Ty.int .u8).vs=xs.map (Value.int .u8) from flat_ints .u8 _]
 rcases ho.rd with h | ⟨p,h1,h2⟩
 ·exact .inl h
 ·exact .inr ⟨p,h1,h2,λ_=>hF p h1⟩
theorem _root_.Go.Eng.Sep.addL {E:Nat->Prop} {w0 w:World} {Rs:List Asr} {a:Option Addr} {n c:Nat} {xs:List Int} {L:List (SlP Int)} (S:Sep E w0 w (OwnA 5 1 a n c (xs.map (Value.int .u8))::RdL L::Rs)) (bx:Byt xs):Sep E w0 w (RdL (L++[⟨a,n,c,xs⟩])::Rs):=
 S.conv2 λF1 F2 h1 h2 _ x hx=>by
  rcases List.mem_append.1 hx with h | h
  ·exact TB.rd_mono (λk hk _=>.inr hk) (h2 x h)
  ·rw [List.mem_singleton.1 h]
   exact TB.rd_mono (λk hk _=>.inl hk) (own_rd h1 bx)
theorem _root_.Go.Eng.Sep.nilL {E:Nat->Prop} {w0 w:World} {Rs:List Asr} (S:Sep E w0 w Rs):Sep E w0 w (RdL []::Rs):=
 S.push (F:=NoB) (Fr.refl _ _) (λx hx=>(List.not_mem_nil hx).elim) λ_ x=>x.elim
abbrev LstS (w w':World) (y:SlP (SlP Int)):Prop:=Sep NoB w w' [OwnA 26 1 y.a y.n y.c (y.l.map slV),RdL y.l]
theorem lst_rd {E:Nat->Prop} {w0 w:World} {Rs:List Asr} {e:TypeId} {a:Option Addr} {n c:Nat} {L:List (SlP Int)} (S:Sep E w0 w (OwnA e 1 a n c (L.map slV)::RdL L::Rs)):TBB.rd w All ⟨a,n,c,L⟩:=by
 obtain ⟨F,h,_⟩:=S.get (i:=1) rfl
 have ho:=S.own 0 rfl
 have hm:=maxLen_eq
 refine ⟨by have:=ho.len;simpa using this,ho.cap,by have:=ho.lim;show n<=maxLen;omega,.of ?_,λx hx=>TB.rd_mono (λ_ _ _=>trivial) (h x hx)⟩
 rw [show (L.flatMap TB.vs)=L.map slV from flat_sl L]
 exact ho.rd
theorem TBB_nth {w:World} {G:Nat->Prop} {x:SlP (SlP Int)} (h:TBB.rd w G x) {i:Int} (h0:0<=i) (h1:i<(x.n:Int)) :
  ∃ q y,x.a=some q/\x.l[i.toNat]? = some y/\CellsAt w (q.add (i.toNat*1)) [slV y]/\TB.rd w G y/\G q.block/\q.block<w.heap.size:=Ty.nth (e:=TB) h h0 h1 (by decide)
abbrev tbL (kn:Bool) (ns er:Int) (o:Hh) (y:SlV):List Value:=[.bool kn,.int .i64 ns,.int .i64 er,.int .i64 o.k,.int .i64 o.n,.int .i64 o.c,.int .u32 o.l,.int .u64 o.e,.int .u64 o.t,.slice y.a y.n y.c]
abbrev pg23 (x:SlP (SlP Int)):List (List Int):=x.l.map (·.l)
def spN (g:Geo) (bl ns:Int) (od:Hh) (L:List (List Int)) (i:Nat) (k:Int):List Sp:=if dnP g (L.getD i []) k/\(hd23 g L i).n=ns then [⟨bl,(i:Int),hh23 (hd23 g L i),od⟩] else []
abbrev pgL (h:Hd) (s t:SlV) (d:Bool):List Value:=[.int .i64 h.k,.int .i64 h.n,.int .i64 h.c,.int .u32 h.l,.int .u64 h.e,.int .u64 h.t,.slice s.a s.n s.c,.slice t.a t.n t.c,.bool d]
theorem done_fin {E:Nat->Prop} {w0 w':World} {Rs:List Asr} {g:Geo} {xs:List Int} {k:Int} {b:Nat} {v:PgT} {ok:Bool} (h1:¬ dnP g xs k->v=zPg/\ok=false) (h2:dnP g xs k->ok=true/\∃ s t:SlV,v=pgT (hdOf (endP g xs)) s t (comm (endP g xs)))
  (S:Sep E w0 w' (BoxA b 90 [.int .i64 v.1,.int .i64 v.2.1,.int .i64 v.2.2.1,.int .u32 v.2.2.2.1,.int .u64 v.2.2.2.2.1,.int .u64 v.2.2.2.2.2.1,.slice v.2.2.2.2.2.2.1.a v.2.2.2.2.2.2.1.n v.2.2.2.2.2.2.1.c,.slice v.2.2.2.2.2.2.2.1.a v.2.2.2.2.2.2.2.1.n v.2.2.2.2.2.2.2.1.c,.bool v.2.2.2.2.2.2.2.2.1]::Rs)) :
  ∃ (b':Nat) (h:Hd) (s t:SlV) (d:Bool),some (⟨b,0,none⟩:Addr)=some (⟨b',0,none⟩:Addr)/\ok=decide (dnP g xs k)/\(dnP g xs k->h=hdOf (endP g xs))/\Sep E w0 w' (BoxA b' 90 (pgL h s t d)::Rs):=by
 obtain ⟨k1,k2,k3,k4,k5,k6,s,t,d,⟨⟩⟩:=v
 refine ⟨b,⟨k1,k2,k3,k4,k5,k6⟩,s,t,d,rfl,?_,λhd=>?_,S⟩
 ·by_cases hd:dnP g xs k
  ·rw [(h2 hd).1,decide_eq_true hd]
  ·rw [(h1 hd).2,decide_eq_false hd]
 ·obtain ⟨s,t,e⟩:=(h2 hd).2
  injection e with e1 e;injection e with e2 e;injection e with e3 e;injection e with e4 e;injection e with e5 e;injection e with e6 e
  rw [e1,e2,e3,e4,e5,e6]
section
variable {w0 w:World} {g:Geo} {bl ns er k:Int} {od:Hh} {b1 b3 b5 b36:Nat} {x:SlP (SlP Int)} {y:SlV} {O:List Sp} {i:Nat} {R:Asr}
abbrev adS (g:Geo) (bl ns er:Int) (od:Hh) (b1 b3 b5 b36:Nat) (x:SlP (SlP Int)) (y:SlV) (O:List Sp) (R:Asr):List Asr:=[BoxA b36 38 (tbL true ns er od y),outS y.a y.n y.c O,BoxA b1 23 g.vs,BoxA b5 48 [.slice x.a x.n x.c],BoxA b3 3 [.int .i64 bl],R]
theorem add23_c (hx:TBB.rd w0 All x) (hi:i<x.n) (hO:O.length<=2000) (S:Sep NoB w0 w (adS g bl ns er od b1 b3 b5 b36 x y O R)) :
  CallV Tryz.prog 20 #[.int .i64 (i:Int),.int .i64 k,.pointer (some ⟨b1,0,none⟩),.pointer (some ⟨b5,0,none⟩),.pointer (some ⟨b36,0,none⟩),.pointer (some ⟨b3,0,none⟩)] w [.one .bool] λr w'=>
   r.1=decide (dnP g ((pg23 x).getD i []) k)/\∃ y':SlV,Sep NoB w0 w' (adS g bl ns er od b1 b3 b5 b36 x y' (O++spN g bl ns od (pg23 x) i k) R):=by
 apply scan_Block_1.vc
 unfold scan_Block_1.P
 simp only [Addr.add_lit,Nat.zero_add]
 obtain ⟨q,z,hq,hz,hc,hr,-,hb⟩:=TBB_nth (TBB.rd_ext S.ext hx) (i:=(i:Int)) (by omega) (by omega)
 rw [Int.toNat_natCast] at hz hc
 have hzl:(pg23 x).getD i []=z.l:=getD_some (by rw [List.getElem?_map,hz];rfl)
 have hon:O.length=y.n:=(S.own 1 rfl).lenF Spv_len (by decide)
 refine ⟨λv w'=>∃ (b:Nat) (h:Hd) (s t:SlV) (d:Bool),v.1=some (⟨b,0,none⟩:Addr)/\v.2.1=decide (dnP g z.l k)/\(dnP g z.l k->h=hdOf (endP g z.l)) /\
  Sep NoB w0 w' (BoxA b 90 (pgL h s t d)::adS g bl ns er od b1 b3 b5 b36 x y O R),?_,?_⟩
 ·rintro ⟨va,(vb:Bool),⟨⟩⟩ w2 ⟨b,h,s,t,d,h1,h2,h3,S⟩
  dsimp only at h1 h2 ⊢
  subst h1
  have out:(¬ (dnP g z.l k/\(hd23 g (pg23 x) i).n=ns))->vb=decide (dnP g ((pg23 x).getD i []) k)/\∃ y':SlV,Sep NoB w0 w2 (adS g bl ns er od b1 b3 b5 b36 x y' (O++spN g bl ns od (pg23 x) i k) R):=λhn=>by
   refine ⟨by rw [hzl];exact h2,y,?_⟩
   unfold spN
   rw [hzl,if_neg hn,List.append_nil]
   exact S.tail
  by_cases hd:dnP g z.l k
  case neg=>exact cond_f (h2.trans (decide_eq_false hd)) (out λe=>hd e.1)
  have hh:=h3 hd
  have hn':(hd23 g (pg23 x) i)=h:=by rw [hh];show hdOf (endP g ((pg23 x).getD i []))=_;rw [hzl]
  refine cond_t (h2.trans (decide_eq_true hd)) (PtrK.of rfl ?_)
  simp only [Addr.add_lit,Nat.zero_add]
  refine S.ld0 (j:=1) rfl rfl (S.ld1 (j:=1) rfl rfl (cond_eq (λ(e:h.n=ns)=>?_) (λ(e:¬ h.n=ns)=>out λk=>e (hn' ▸ k.2))))
  refine S.ld1 (j:=9) rfl rfl (S.ld5 (j:=0) rfl rfl (PtrK.of rfl (S.lb0 (o:=0) rfl (S.lb1 (o:=3) rfl ?_))))
  refine S.newB (vs:=(⟨bl,(i:Int),hh23 h,od⟩:Sp).vs) λb12 w3 S f3 _=>?_
  refine AppS.of (news:=(⟨bl,(i:Int),hh23 h,od⟩:Sp).vs) rfl (.inr ⟨_,rfl,S.cells 0 rfl⟩) ?_
  refine S.ap3 rfl (SpS_one _) (by omega) (by omega) λa' c' w4 S f4=>?_
  refine S.su2 (by rfl) λw5 S f5=>⟨by rw [hzl];exact h2,⟨a',y.n+1,c'⟩,?_⟩
  unfold spN
  rw [hzl,if_pos ⟨hd,by rw [hn'];exact e⟩,hn']
  have e2:(O++[(⟨bl,(i:Int),hh23 h,od⟩:Sp)]).flatMap Sp.vs=O.flatMap Sp.vs++(⟨bl,(i:Int),hh23 h,od⟩:Sp).vs:=by rw [List.flatMap_append];simp
  show Sep NoB w0 w5 [_,OwnA _ _ _ _ _ ((O++[_]).flatMap Sp.vs),_,_,_,_]
  rw [e2]
  exact S.sel [2,2,2,2,2,2] rfl
 ·refine S.reg λD hD hkeep Sd T=>?_
  refine ⟨hD _ S.bl2,Sd.la2 rfl ⟨hD _ S.bl3,Sd.ld3 rfl rfl ⟨⟨by omega,by show (i:Int)<(x.n:Int);omega⟩,q,hq,by rw [add_block];exact hD _ hb,?_⟩⟩⟩
  rw [Int.toNat_natCast]
  refine ldp0 (cells_same (by rw [add_block];rfl) hc) (h:=.sl) (x:=⟨z.a,z.n,z.c⟩) rfl ?_
  have iz:Ints w.drew .u8 z.a z.n z.c z.l:=(Ty.ints hr).drew
  have bz:Byt z.l:=Ty.byt hr
  refine ⟨?_,?_⟩
  ·refine (PDone_c (g:=g) (kind:=k) iz bz).mono ?_
   rintro ⟨v,(ok:Bool),⟨⟩⟩ w2 ⟨x2,h1,h2⟩
   dsimp only at h1 h2 ⊢
   have T:=T.stepE x2
   refine ⟨hkeep _ T.fr,T.newB λb6 w6 T f6 _=>⟨hkeep _ T.fr,?_⟩⟩
   refine T.st0 (by rfl) λw7 T f7=>⟨hkeep _ T.fr,?_⟩
   exact done_fin h1 (λhd=>⟨(h2 hd).1,by obtain ⟨s,t,e,-⟩:=(h2 hd).2;exact ⟨s,t,e⟩⟩) ((Sd.frame0 T).sel [0,0,0,0,0,0,0] rfl)
  ·refine T.newB λb6 w6 T f6 _=>⟨hkeep _ T.fr,?_⟩
   refine (PDone_c (g:=g) (kind:=k) (iz.ext T.ext) bz).mono ?_
   rintro ⟨v,(ok:Bool),⟨⟩⟩ w2 ⟨x2,h1,h2⟩
   dsimp only at h1 h2 ⊢
   have T:=T.stepE x2
   refine ⟨hkeep _ T.fr,?_⟩
   refine T.st0 (by rfl) λw7 T f7=>⟨hkeep _ T.fr,?_⟩
   exact done_fin h1 (λhd=>⟨(h2 hd).1,by obtain ⟨s,t,e,-⟩:=(h2 hd).2;exact ⟨s,t,e⟩⟩) ((Sd.frame0 T).sel [0,0,0,0,0,0,0] rfl)
abbrev TbTy:Type:=Bool×Int×Int×Int×Int×Int×Int×Int×Int×SlV×Unit
abbrev tbT (T:Tb) (y:SlV):TbTy:=(T.kn,T.ns,T.er,T.od.k,T.od.n,T.od.c,T.od.l,T.od.e,T.od.t,y,())
def tdA (g:Geo) (bl:Int) (L:List (List Int)) (n:Nat):Tb:=if Right g/\g.p<=(n:Int) then tdB g bl L else Tb0
theorem spN_two {g:Geo} {bl ns:Int} {od:Hh} {L:List (List Int)} {n:Nat}:spB g bl ns od L (n+1)=spB g bl ns od L n++(if dnP g (L.getD (n+1) []) 1 then spN g bl ns od L (n+1) 1 else spN g bl ns od L (n+1) 2):=by
 have:∀ {a b:List Sp},a=b->spB g bl ns od L n++a=spB g bl ns od L n++b:=λh=>by rw [h]
 refine this ?_
 unfold spN
 by_cases h1:dnP g (L.getD (n+1) []) 1
 ·rw [if_pos h1]
  by_cases h2:(hd23 g L (n+1)).n=ns
  ·rw [if_pos (show tel g ns L (n+1) from ⟨.inl h1,h2⟩),if_pos (⟨h1,h2⟩:dnP g (L.getD (n+1) []) 1/\(hd23 g L (n+1)).n=ns)]
  ·rw [if_neg (show ¬ tel g ns L (n+1) from λk=>h2 k.2),if_neg (λk=>h2 k.2:¬ (dnP g (L.getD (n+1) []) 1/\(hd23 g L (n+1)).n=ns))]
 ·rw [if_neg h1]
  by_cases h2:dnP g (L.getD (n+1) []) 2/\(hd23 g L (n+1)).n=ns
  ·rw [if_pos (show tel g ns L (n+1) from ⟨.inr h2.1,h2.2⟩),if_pos h2]
  ·rw [if_neg (show ¬ tel g ns L (n+1) from λk=>h2 ⟨k.1.resolve_left h1,k.2⟩),if_neg h2]
theorem Block23_c (hx:TBB.rd w All x) (hb:Rng .i64 bl):CallV Tryz.prog 7 #[g.val,.int .i64 bl,.slice x.a x.n x.c] w [.agg [.bool,.int .i64,.int .i64,.int .i64,.int .i64,.int .i64,.int .u32,.int .u64,.int .u64,.sl]] λr w'=>
  ∃ y:SlV,r.1=tbT (tdA g bl (pg23 x) x.n) y/\Sep NoB w w' [outS y.a y.n y.c (tdA g bl (pg23 x) x.n).sp]:=by
 apply scan_Block.vc
 unfold scan_Block.P
 have S:=Sep.start NoB w
 refine S.newB λb1 w1 S f1 _=>?_
 refine S.newB λb3 w3 S f3 _=>?_
 refine S.newB λb5 w5 S f5 _=>?_
 refine S.newB λb7 w7 S f7 _=>?_
 refine S.la3 rfl ?_
 refine (Check_c (g:=g)).mono ?_
 rintro ⟨(r:Int),⟨⟩⟩ w8 ⟨h8,x8⟩
 dsimp only at h8 ⊢
 have S:=S.stepE x8
 have out:∀ {w':World} {b:Nat} {Rs:List Asr} {v:List Value},tdA g bl (pg23 x) x.n=Tb0->v.length=10->Sep NoB w w' (BoxA b 38 v::Rs)->StoreV w' ⟨b,0,none⟩ (tbL false 0 0 Hh0 ⟨none,0,0⟩) λw16=>LoadA w16 ⟨b,0,none⟩ [.bool,.int .i64,.int .i64,.int .i64,.int .i64,.int .i64,.int .u32,.int .u64,.int .u64,.sl] λ(z:TbTy)=>
   ∃ y:SlV,(z.1,z.2.1,z.2.2.1,z.2.2.2.1,z.2.2.2.2.1,z.2.2.2.2.2.1,z.2.2.2.2.2.2.1,z.2.2.2.2.2.2.2.1,z.2.2.2.2.2.2.2.2.1,z.2.2.2.2.2.2.2.2.2.1,())=tbT (tdA g bl (pg23 x) x.n) y/\Sep NoB w w16 [outS y.a y.n y.c (tdA g bl (pg23 x) x.n).sp]:=λ{w' b Rs v} h0 hv S=>by
  refine S.st0 (by rw [hv];rfl) λw9 S f9=>S.la0 rfl ⟨⟨none,0,0⟩,?_,?_⟩
  ·rw [h0];rfl
  ·rw [h0]
   exact (S.nilOwn 59 14).take1
 by_cases hR:Right g
 case neg=>exact cond_t (by rw [h8];unfold chkE;rw [if_neg hR];rfl) (out (by unfold tdA;rw [if_neg λk=>hR k.1]) rfl S)
 refine cond_f (by rw [h8];unfold chkE;rw [if_pos hR];rfl) ?_
 refine S.ld1 rfl rfl (S.ld3 (j:=1) rfl rfl (cond_d (λ(hl:(x.n:Int)<g.p)=>out (by unfold tdA;rw [if_neg λk=>by omega]) rfl S) (λ(hl:¬ (x.n:Int)<g.p)=>?_)))
 obtain ⟨p1,p2⟩:4<=g.p/\g.p<=1024:=by unfold Right Kept at hR;omega
 have hA:tdA g bl (pg23 x) x.n=tdB g bl (pg23 x):=by unfold tdA;rw [if_pos ⟨hR,by omega⟩]
 rw [hA] at out ⊢
 obtain ⟨q,z,hq,hz,hc,hr,-,hb0⟩:=TBB_nth (TBB.rd_ext S.ext hx) (i:=(0:Int)) (by omega) (by omega)
 have hz:x.l[0]? = some z:=hz
 have hc:CellsAt w8 (q.add (0*1)) [slV z]:=hc
 have hzl:(pg23 x).getD 0 []=z.l:=getD_some (by rw [List.getElem?_map,hz];rfl)
 refine ⟨λv w'=>∃ (b:Nat) (h:Hd) (s t:SlV) (d:Bool),v.1=some (⟨b,0,none⟩:Addr)/\v.2.1=decide (dnP g z.l 3)/\(dnP g z.l 3->h=hdOf (endP g z.l)) /\
  Sep NoB w w' (BoxA b 90 (pgL h s t d)::[BoxA b7 38 (tbL false 0 0 Hh0 ⟨none,0,0⟩),BoxA b5 48 [.slice x.a x.n x.c],BoxA b3 3 [.int .i64 bl],BoxA b1 23 g.vs]),?_,?_⟩
 ·rintro ⟨va,(vb:Bool),⟨⟩⟩ w2 ⟨b,h,s,t,d,h1,h2,h3,S⟩
  dsimp only at h1 h2 ⊢
  subst h1
  by_cases hd:dnP g z.l 3
  case neg=>exact cond_t (by rw [h2,decide_eq_false hd];rfl) (out (by unfold tdB;rw [if_neg λk=>hd (by rw [<-hzl];exact k.1)]) rfl S.tail)
  have hh:=h3 hd
  have hn':hd23 g (pg23 x) 0=h:=by rw [hh];show hdOf (endP g ((pg23 x).getD 0 []))=_;rw [hzl]
  have hrg:h.rng:=by
   rw [hh]
   have:=hd.1.2
   refine hdOf_rng (λy hy=>(Ty.byt hr:Byt z.l) y (List.mem_of_mem_drop hy)) ?_
   unfold endP
   rw [List.length_drop]
   unfold Right Kept at hR
   omega
  refine cond_f (by rw [h2,decide_eq_true hd];rfl) (PtrK.of rfl ?_)
  simp only [Addr.add_lit,Nat.zero_add]
  refine S.ld0 (j:=1) rfl rfl (cond_d (λ(h4:h.n≥4)=>out (by unfold tdB;rw [if_neg λk=>by have:=k.2;rw [hn'] at this;omega]) rfl S.tail) (λ(h4:¬ h.n≥4)=>?_))
  have hkn:knB g (pg23 x):=⟨by rw [hzl];exact hd,by rw [hn'];omega⟩
  have hT:tdB g bl (pg23 x)=⟨true,h.n,h.l,hh23 h,spB g bl h.n (hh23 h) (pg23 x) (g.p.toNat-1)⟩:=by unfold tdB;rw [if_pos hkn,hn']
  rw [hT]
  refine PtrK.of rfl ?_
  simp only [Addr.add_lit,Nat.zero_add]
  refine S.ld0 (j:=1) rfl rfl (PtrK.of rfl ?_)
  simp only [Addr.add_lit,Nat.zero_add]
  refine S.ld0 (j:=3) rfl rfl (PtrK.of rfl (S.lb0 (o:=0) rfl ?_))
  refine S.newB λb33 w3 S f3 _=>?_
  have hw:IntKind.i64.wrap h.l=h.l:=i64_wrap (by have:=hrg.1;omega) (by have:=hrg.1;omega)
  rw [hw]
  refine S.st0 (by rfl) λw4 S f4=>?_
  have S:=S.nilOwn 59 14
  refine Loop1 (λ(v:Int×Unit) w'=>∃ (i:Nat) (y:SlV),v.1=(i:Int)+1/\(i:Int)+1<=g.p/\Sep NoB w w' (adS g bl h.n h.l (hh23 h) b1 b3 b5 b33 x y (spB g bl h.n (hh23 h) (pg23 x) i) (BoxA b7 38 (tbL false 0 0 Hh0 ⟨none,0,0⟩))))
   (λ(v:Int×Unit) _=>(g.p-v.1).toNat) ⟨0,⟨none,0,0⟩,rfl,by omega,S.sel [1,0,4,2,2,1] rfl⟩ ?_
  clear S
  rintro ⟨(v:Int),⟨⟩⟩ w5 ⟨i,y,hv,hi,S⟩
  dsimp only at hv ⊢
  subst hv
  refine S.ld2 (j:=1) rfl rfl (cond_d (λ(hlt:(i:Int)+1<g.p)=>?_) (λ(hge:¬ (i:Int)+1<g.p)=>?_))
  case refine_2=>
   have hie:i=g.p.toNat-1:=by omega
   subst hie
   refine S.la0 rfl ?_
   refine S.st5 (by rfl) λw6 S f6=>S.la5 rfl ⟨y,rfl,S.sel [1] rfl⟩
  have rg:Rng .i64 ((i:Int)+1+1):=Rng.i64 (by omega) (by omega)
  have hil:(spB g bl h.n (hh23 h) (pg23 x) i).length<=i:=spB_len i
  have cast:((i+1:Nat):Int)=(i:Int)+1:=by push_cast;rfl
  have next:∀ {w':World} {y':SlV},Sep NoB w w' (adS g bl h.n h.l (hh23 h) b1 b3 b5 b33 x y' (spB g bl h.n (hh23 h) (pg23 x) (i+1)) (BoxA b7 38 (tbL false 0 0 Hh0 ⟨none,0,0⟩))) ->
    (∃ (i':Nat) (y:SlV),(i:Int)+1+1=(i':Int)+1/\(i':Int)+1<=g.p/\Sep NoB w w' (adS g bl h.n h.l (hh23 h) b1 b3 b5 b33 x y (spB g bl h.n (hh23 h) (pg23 x) i') (BoxA b7 38 (tbL false 0 0 Hh0 ⟨none,0,0⟩))))/\(g.p-((i:Int)+1+1)).toNat<(g.p-((i:Int)+1)).toNat:=λS=>⟨⟨i+1,_,by omega,by omega,S⟩,by omega⟩
  rw [<-cast]
  refine (add23_c (k:=1) hx (by omega) (by omega) S).mono ?_
  rintro ⟨(r:Bool),⟨⟩⟩ w6 ⟨h6,y6,S⟩
  dsimp only at h6 ⊢
  by_cases hk:dnP g ((pg23 x).getD (i+1) []) 1
  ·refine cond_f (by rw [h6,decide_eq_true hk];rfl) ⟨by rw [cast];exact rg,?_⟩
   rw [cast]
   refine next (y':=y6) ?_
   rw [spN_two,if_pos hk]
   exact S
  ·refine cond_t (by rw [h6,decide_eq_false hk];rfl) ?_
   have he:spN g bl h.n (hh23 h) (pg23 x) (i+1) 1=[]:=by unfold spN;rw [if_neg λk=>hk k.1]
   rw [he,List.append_nil] at S
   refine (add23_c (k:=2) hx (by omega) (by omega) S).mono ?_
   rintro ⟨(r2:Bool),⟨⟩⟩ w7 ⟨h7,y7,S⟩
   refine ⟨by rw [cast];exact rg,?_⟩
   rw [cast]
   refine next (y':=y7) ?_
   rw [spN_two,if_neg hk]
   exact S
 ·refine S.reg λD hD hkeep Sd T=>?_
  refine ⟨hD _ S.bl3,Sd.la3 rfl ⟨hD _ S.bl1,Sd.ld1 rfl rfl ⟨⟨by omega,by show (0:Int)<(x.n:Int);omega⟩,q,hq,by rw [add_block];exact hD _ hb0,?_⟩⟩⟩
  refine ldp0 (cells_same (by rw [add_block];rfl) hc) (h:=.sl) (x:=⟨z.a,z.n,z.c⟩) rfl ?_
  have iz:Ints w8.drew .u8 z.a z.n z.c z.l:=(Ty.ints hr).drew
  have bz:Byt z.l:=Ty.byt hr
  refine ⟨?_,?_⟩
  ·refine (PDone_c (g:=g) (kind:=3) iz bz).mono ?_
   rintro ⟨v,(ok:Bool),⟨⟩⟩ w2 ⟨x2,h1,h2⟩
   dsimp only at h1 h2 ⊢
   have T:=T.stepE x2
   refine ⟨hkeep _ T.fr,T.newB λb6 w6 T f6 _=>⟨hkeep _ T.fr,?_⟩⟩
   refine T.st0 (by rfl) λw7 T f7=>⟨hkeep _ T.fr,?_⟩
   exact done_fin h1 (λhd=>⟨(h2 hd).1,by obtain ⟨s,t,e,-⟩:=(h2 hd).2;exact ⟨s,t,e⟩⟩) ((Sd.frame0 T).sel [0,0,0,0,0] rfl)
  ·refine T.newB λb6 w6 T f6 _=>⟨hkeep _ T.fr,?_⟩
   refine (PDone_c (g:=g) (kind:=3) (iz.ext T.ext) bz).mono ?_
   rintro ⟨v,(ok:Bool),⟨⟩⟩ w2 ⟨x2,h1,h2⟩
   dsimp only at h1 h2 ⊢
   have T:=T.stepE x2
   refine ⟨hkeep _ T.fr,?_⟩
   refine T.st0 (by rfl) λw7 T f7=>⟨hkeep _ T.fr,?_⟩
   exact done_fin h1 (λhd=>⟨(h2 hd).1,by obtain ⟨s,t,e,-⟩:=(h2 hd).2;exact ⟨s,t,e⟩⟩) ((Sd.frame0 T).sel [0,0,0,0,0] rfl)
end
end Go.Proofs.YtcekmdehjnlkpaaGreat.Vc
namespace Go.Proofs.YtcekmdehjnlkpaaGreat.Vc
open Go Go.Eng
def nand_New.A:Ann:=.two .no (.two .no (.two (.draw (.take 0 (.take 1 (.take 3 (.eff 2 (.eff 4 (.take 5 (.eff 6 (.take 7 (.done)))))))))) (.two (.draw (.take 0 (.take 1 (.take 2 (.take 3 (.take 4 (.take 5 (.take 6 (.take 7 (.take 8 (.eff 9 (.take 10 (.eff 11 (.take 12 (.take 13 (.eff 14 (.done))))))))))))))))) (.two (.two .no (.one (.loop [7,42,43,44,45,46,47,48,49,50,51] [(42,.one (.int .i64))] .no))) (.two .no (.join [61,62,63,64,65,66,67,68,69,70,71,72] [] (.draw (.take 0 (.take 1 (.take 2 (.take 3 (.take 5 (.take 6 (.both 4 (.take 8 (.take 9 (.both 7 (.eff 10 (.take 11 (.take 12 (.eff 13 (.done))))) 10 (.eff 7 (.take 11 (.take 12 (.eff 13 (.done)))))))) 7 (.eff 4 (.take 8 (.take 9 (.eff 10 (.take 11 (.take 12 (.eff 13 (.done)))))))))))))))) (.two (.two .no (.one (.loop [75,76,77,78,79,80,81,82,83,84,85,86] [(75,.one (.int .i64))] .no))) .no)))))))
def nand_New.P (p0_0 p0_1 p0_2 p0_3 p0_4 p0_5:Int) (a1:Option Addr) (n1 c1:Nat) (w:World) (K:(Option Addr)×Int×Unit->World->Prop):Prop:=
 NewV #[.int .i64 p0_0,.int .i64 p0_1,.int .i64 p0_2,.int .i64 p0_3,.int .i64 p0_4,.int .i64 p0_5] 23 w λb1 w2=>
 LoadA w2 ⟨b1,0,none⟩ [.int .i64,.int .i64,.int .i64,.int .i64,.int .i64,.int .i64] λ(x3:Int×Int×Int×Int×Int×Int×Unit)=>
 CallV Tryz.prog 18 #[.agg #[.int .i64 x3.1,.int .i64 x3.2.1,.int .i64 x3.2.2.1,.int .i64 x3.2.2.2.1,.int .i64 x3.2.2.2.2.1,.int .i64 x3.2.2.2.2.2.1]] w2 [.one (.int .i64)] λ(r4:Int×Unit) w5=>
 cond (r4.1 != 0)
 (K (none,(2:Int),()) w5)
 (CallV Tryz.prog 53 #[.slice a1 n1 c1] w5 [.one (.int .i64)] λ(r6:Int×Unit) w7=>
 cond (r6.1 != 0)
 (K (none,(2:Int),()) w7)
 (DrawV λD8=>
 (D8 b1/\LoadA w7.drew ⟨b1,0,none⟩ [.int .i64,.int .i64,.int .i64,.int .i64,.int .i64,.int .i64] λ(x9:Int×Int×Int×Int×Int×Int×Unit)=>
 (D8 b1/\LoadA w7.drew ⟨b1,0,none⟩ [.int .i64,.int .i64,.int .i64,.int .i64,.int .i64,.int .i64] λ(x10:Int×Int×Int×Int×Int×Int×Unit)=>
 CallV Tryz.prog 54 #[.agg #[.int .i64 x10.1,.int .i64 x10.2.1,.int .i64 x10.2.2.1,.int .i64 x10.2.2.2.1,.int .i64 x10.2.2.2.2.1,.int .i64 x10.2.2.2.2.2.1]] w7.drew [.one (.int .i64)] λ(r11:Int×Unit) w12=>
 KeepOn D8 w7.drew w12 /\
 CallV Tryz.prog 55 #[.slice a1 n1 c1] w12 [.one .sl] λ(r13:SlV×Unit) w14=>
 KeepOn D8 w7.drew w14 /\
 NewV #[.int .i64 x9.1,.int .i64 x9.2.1,.int .i64 x9.2.2.1,.int .i64 x9.2.2.2.1,.int .i64 x9.2.2.2.2.1,.int .i64 x9.2.2.2.2.2.1,.int .i64 r11.1,.slice none 0 0,.slice none 0 0,.slice none 0 0,.slice none 0 0,.slice none 0 0,.slice r13.1.a r13.1.n r13.1.c,.bool false,.slice none 0 0] 136 w14 λb15 w16=>
 KeepOn D8 w7.drew w16 /\
 DrawV λD17=>
 (D17 b1/\LoadS w16.drew ⟨b1,0,none⟩ (.int .i64) λ(x18:Int)=>
 (D17 b1/\LoadS w16.drew ⟨b1,1,none⟩ (.int .i64) λ(x19:Int)=>
 Rng .i64 (x18*x19) /\
 LoadS w16.drew ⟨b15,6,none⟩ (.int .i64) λ(x20:Int)=>
 KeepOn D17 w16.drew w16.drew /\
 Rng .i64 ((x18*x19)*x20) /\
 ((0:Int)<=((x18*x19)*x20:Int)/\((x18*x19)*x20:Int)<=((x18*x19)*x20:Int)/\((x18*x19)*x20:Int)<=9223372036854775807/\((1:Nat):Int)*((x18*x19)*x20:Int)<=140737488355328) /\
 NewV (List.replicate (((x18*x19)*x20).toNat) [.int .u8 0]).flatten.toArray 5 w16.drew λb21 w22=>
 KeepOn D17 w16.drew w22 /\
 StoreV w22 ⟨b15,7,none⟩ [.slice (some ⟨b21,0,none⟩) (((x18*x19)*x20).toNat) (((x18*x19)*x20).toNat)] λw23=>
 KeepOn D17 w16.drew w23 /\
 LoadS w23 ⟨b15,7,none⟩ .sl λ(x24:SlV)=>
 LoopV [.one (.int .i64)] ((0:Int),()) w23 λ(z25:Int×Unit) w26 (K27:Int×Unit->World->Prop)=>
 cond (decide (z25.1<((x24.n:Nat):Int)))
 (LoadS w26 ⟨b15,7,none⟩ .sl λ(x28:SlV)=>
 (0<=z25.1/\z25.1<((x28.n:Nat):Int))/\∃ q29:Addr,x28.a=some q29 /\
 StoreV w26 (q29.add (z25.1.toNat*1)) [.int .u8 255] λw30=>
 Rng .i64 (z25.1+1) /\
 K27 (z25.1+1,()) w30)
 (LoadS w26 ⟨b1,0,none⟩ (.int .i64) λ(x31:Int)=>
 LoadS w26 ⟨b1,1,none⟩ (.int .i64) λ(x32:Int)=>
 Rng .i64 (x31*x32) /\
 ((0:Int)<=(x31*x32:Int)/\(x31*x32:Int)<=(x31*x32:Int)/\(x31*x32:Int)<=9223372036854775807/\((8:Nat):Int)*(x31*x32:Int)<=140737488355328) /\
 NewV (List.replicate ((x31*x32).toNat) [.int .i64 0]).flatten.toArray 3 w26 λb33 w34=>
 StoreV w34 ⟨b15,8,none⟩ [.slice (some ⟨b33,0,none⟩) ((x31*x32).toNat) ((x31*x32).toNat)] λw35=>
 JoinV [] (λ(v37:Unit) w38=>
 LoadS w38 ⟨b1,0,none⟩ (.int .i64) λ(x39:Int)=>
 LoopV [.one (.int .i64)] ((0:Int),()) w38 λ(z40:Int×Unit) w41 (K42:Int×Unit->World->Prop)=>
 cond (decide (z40.1<x39))
 (LoadS w41 ⟨b15,9,none⟩ .sl λ(x43:SlV)=>
 NewV #[.int .i64 (-1)] 3 w41 λb44 w45=>
 AppS w45 (some ⟨b44,0,none⟩) 1 1 λns50=>
 AppV w45 3 1 8 x43.a x43.n x43.c ns50 1 λa46 n47 c48 w49=>
 StoreV w49 ⟨b15,9,none⟩ [.slice a46 n47 c48] λw51=>
 Rng .i64 (z40.1+1) /\
 K42 (z40.1+1,()) w51)
 (K ((some ⟨b15,0,none⟩),(0:Int),()) w41)) λ(J36:Unit->World->Prop)=>
 DrawV λD52=>
 (D52 b1/\LoadS w35.drew ⟨b1,0,none⟩ (.int .i64) λ(x53:Int)=>
 (D52 b1/\LoadS w35.drew ⟨b1,0,none⟩ (.int .i64) λ(x54:Int)=>
 ((((0:Int)<=(x53:Int)/\(x53:Int)<=(x53:Int)/\(x53:Int)<=9223372036854775807/\((8:Nat):Int)*(x53:Int)<=140737488355328) /\
 NewV (List.replicate x53.toNat [.int .i64 0]).flatten.toArray 3 w35.drew λb55 w56=>
 KeepOn D52 w35.drew w56 /\
 ((((0:Int)<=(x54:Int)/\(x54:Int)<=(x54:Int)/\(x54:Int)<=9223372036854775807/\((8:Nat):Int)*(x54:Int)<=140737488355328) /\
 NewV (List.replicate x54.toNat [.int .i64 0]).flatten.toArray 3 w56 λb57 w58=>
 KeepOn D52 w35.drew w58 /\
 StoreV w58 ⟨b15,10,none⟩ [.slice (some ⟨b55,0,none⟩) x53.toNat x53.toNat] λw59=>
 KeepOn D52 w35.drew w59 /\
 StoreV w59 ⟨b15,11,none⟩ [.slice (some ⟨b57,0,none⟩) x54.toNat x54.toNat] λw60=>
 KeepOn D52 w35.drew w60 /\
 J36 (()) w60) /\
 (StoreV w56 ⟨b15,10,none⟩ [.slice (some ⟨b55,0,none⟩) x53.toNat x53.toNat] λw61=>
 KeepOn D52 w35.drew w61 /\
 ((0:Int)<=(x54:Int)/\(x54:Int)<=(x54:Int)/\(x54:Int)<=9223372036854775807/\((8:Nat):Int)*(x54:Int)<=140737488355328) /\
 NewV (List.replicate x54.toNat [.int .i64 0]).flatten.toArray 3 w61 λb62 w63=>
 KeepOn D52 w35.drew w63 /\
 StoreV w63 ⟨b15,11,none⟩ [.slice (some ⟨b62,0,none⟩) x54.toNat x54.toNat] λw64=>
 KeepOn D52 w35.drew w64 /\
 J36 (()) w64))) /\
 (((0:Int)<=(x54:Int)/\(x54:Int)<=(x54:Int)/\(x54:Int)<=9223372036854775807/\((8:Nat):Int)*(x54:Int)<=140737488355328) /\
 NewV (List.replicate x54.toNat [.int .i64 0]).flatten.toArray 3 w35.drew λb65 w66=>
 KeepOn D52 w35.drew w66 /\
 ((0:Int)<=(x53:Int)/\(x53:Int)<=(x53:Int)/\(x53:Int)<=9223372036854775807/\((8:Nat):Int)*(x53:Int)<=140737488355328) /\
 NewV (List.replicate x53.toNat [.int .i64 0]).flatten.toArray 3 w66 λb67 w68=>
 KeepOn D52 w35.drew w68 /\
 StoreV w68 ⟨b15,10,none⟩ [.slice (some ⟨b67,0,none⟩) x53.toNat x53.toNat] λw69=>
 KeepOn D52 w35.drew w69 /\
 StoreV w69 ⟨b15,11,none⟩ [.slice (some ⟨b65,0,none⟩) x54.toNat x54.toNat] λw70=>
 KeepOn D52 w35.drew w70 /\
 J36 (()) w70)))))))))))
theorem nand_New.vc (p0_0 p0_1 p0_2 p0_3 p0_4 p0_5:Int) (a1:Option Addr) (n1 c1:Nat) (w:World) (K:(Option Addr)×Int×Unit->World->Prop) (h:nand_New.P p0_0 p0_1 p0_2 p0_3 p0_4 p0_5 a1 n1 c1 w K):CallV Tryz.prog 21 #[.agg #[.int .i64 p0_0,.int .i64 p0_1,.int .i64 p0_2,.int .i64 p0_3,.int .i64 p0_4,.int .i64 p0_5],.slice a1 n1 c1] w [.one .ptr,.one (.int .i64)] K:=by
 refine vcFun.of (A:=nand_New.A) (wr:=false) okf_ok follows h Tryz.func21 ?_
 kernel_rfl
def nand_Chip_page.A:Ann:=.two .no (.two (.draw (.take 0 (.take 1 (.take 2 (.take 3 (.take 4 (.take 5 (.take 6 (.take 7 (.take 8 (.take 9 (.take 10 (.take 11 (.take 12 (.take 13 (.take 14 (.take 15 (.take 16 (.take 17 (.take 18 (.take 19 (.take 20 (.take 21 (.take 22 (.take 23 (.take 24 (.take 25 (.done)))))))))))))))))))))))))))) .no)
def nand_Chip_page.P (p0:Addr) (p1:Int) (w:World) (K:SlV×Unit->World->Prop):Prop:=
 DrawV λD1=>
 (D1 (p0.add 7).block/\LoadS w.drew (p0.add 7) .sl λ(x2:SlV)=>
 (D1 (p0.add 6).block/\LoadS w.drew (p0.add 6) (.int .i64) λ(x3:Int)=>
 Rng .i64 (p1*x3) /\
 Rng .i64 (p1+1) /\
 (D1 (p0.add 6).block/\LoadS w.drew (p0.add 6) (.int .i64) λ(x4:Int)=>
 Rng .i64 ((p1+1)*x4) /\
 Rng .i64 (p1+1) /\
 (D1 (p0.add 6).block/\LoadS w.drew (p0.add 6) (.int .i64) λ(x5:Int)=>
 Rng .i64 ((p1+1)*x5) /\
 ((0:Int)<=(p1*x3)/\(p1*x3)<=((p1+1)*x4)/\((p1+1)*x4)<=((p1+1)*x5)/\((p1+1)*x5)<=((x2.c:Nat):Int)) /\
 SubK x2.a ((p1*x3).toNat) (((p1+1)*x5).toNat) 1 λa6=>
 K ((⟨a6,(((p1+1)*x4).toNat)-((p1*x3).toNat),(((p1+1)*x5).toNat)-((p1*x3).toNat)⟩:SlV),()) w.drew))))
theorem nand_Chip_page.vc (p0:Addr) (p1:Int) (w:World) (K:SlV×Unit->World->Prop) (h:nand_Chip_page.P p0 p1 w K):CallV Tryz.prog 95 #[.pointer (some p0),.int .i64 p1] w [.one .sl] K:=by
 refine vcFun.of (A:=nand_Chip_page.A) (wr:=false) okf_ok follows h Tryz.func95 ?_
 kernel_rfl
def nand_Chip_done.A:Ann:=.two .no (.two .no (.join [14,15,16,17,18,19,20,21,22,23,24,25,26,27,28] [(14,.one .ptr),(15,.one .bool)] (.draw (.take 0 (.take 1 (.take 2 (.take 3 (.take 4 (.take 5 (.take 6 (.take 7 (.take 8 (.both 9 (.take 10 (.take 11 (.take 12 (.eff 13 (.eff 14 (.take 15 (.done))))))) 13 (.eff 9 (.take 10 (.take 11 (.take 12 (.eff 14 (.take 15 (.done)))))))))))))))))) (.join [13,29,30,31,32,33,34,35,36,37,38,39,40,41,42,43,44,45,46,47,48,49,50,51,52,53,54] [(13,.one (.int .i64))] .no (.join [55,56,57,58,59,60,61,62,63,64,65,66,67,68,69,70] [] (.draw (.take 0 (.take 1 (.take 2 (.take 3 (.take 5 (.take 6 (.take 8 (.take 10 (.both 4 (.eff 7 (.eff 9 (.take 11 (.eff 12 (.eff 13 (.take 14 (.take 15 (.eff 16 (.done))))))))) 7 (.both 4 (.eff 9 (.take 11 (.eff 12 (.eff 13 (.take 14 (.take 15 (.eff 16 (.done)))))))) 9 (.take 11 (.both 4 (.eff 12 (.eff 13 (.take 14 (.take 15 (.eff 16 (.done)))))) 12 (.eff 4 (.eff 13 (.take 14 (.take 15 (.eff 16 (.done))))))))))))))))))) .no))))
def nand_Chip_done.P (p0:Addr) (p1 p2_0 p2_1:Int) (a3:Option Addr) (n3 c3:Nat) (p4_0 p4_1:(FuncId×Array Value×Array Value)) (a5:Option Addr) (n5 c5:Nat) (w:World) (K:Int×Unit->World->Prop):Prop:=
 NewV #[.int .i64 p2_0,.int .i64 p2_1] 57 w λb1 w2=>
 NewV #[.func (.func p4_0.1) p4_0.2.1 p4_0.2.2,.func (.func p4_1.1) p4_1.2.1 p4_1.2.2] 205 w2 λb3 w4=>
 JoinV [.one .ptr,.one .bool] (λ(v6:(Option Addr)×Bool×Unit) w7=>
 JoinV [.one (.int .i64)] (λ(v9:Int×Unit) w10=>
 JoinV [] (λ(v12:Unit) w13=>
 K (v9.1,()) w13) λ(J11:Unit->World->Prop)=>
 DrawV λD14=>
 (D14 b1/\LoadA w10.drew ⟨b1,0,none⟩ [.int .i64,.int .i64] λ(x15:Int×Int×Unit)=>
 ((LoadS w10.drew (p0.add 14) .sl λ(x16:SlV)=>
 KeepOn D14 w10.drew w10.drew /\
 NewV #[] 5 w10.drew λb17 w18=>
 KeepOn D14 w10.drew w18 /\
 AppS w18 a3 n3 1 λns23=>
 AppV w18 5 1 1 (some ⟨b17,0,none⟩) 0 0 ns23 n3 λa19 n20 c21 w22=>
 KeepOn D14 w10.drew w22 /\
 NewV #[.int .i64 p1,.int .i64 x15.1,.int .i64 x15.2.1,.slice a19 n20 c21,.int .i64 v9.1] 227 w22 λb24 w25=>
 KeepOn D14 w10.drew w25 /\
 AppS w25 (some ⟨b24,0,none⟩) 1 5 λns30=>
 AppV w25 227 5 56 x16.a x16.n x16.c ns30 1 λa26 n27 c28 w29=>
 KeepOn D14 w10.drew w29 /\
 StoreV w29 (p0.add 14) [.slice a26 n27 c28] λw31=>
 KeepOn D14 w10.drew w31 /\
 J11 (()) w31) /\
 (NewV #[] 5 w10.drew λb32 w33=>
 KeepOn D14 w10.drew w33 /\
 ((LoadS w33 (p0.add 14) .sl λ(x34:SlV)=>
 KeepOn D14 w10.drew w33 /\
 AppS w33 a3 n3 1 λns39=>
 AppV w33 5 1 1 (some ⟨b32,0,none⟩) 0 0 ns39 n3 λa35 n36 c37 w38=>
 KeepOn D14 w10.drew w38 /\
 NewV #[.int .i64 p1,.int .i64 x15.1,.int .i64 x15.2.1,.slice a35 n36 c37,.int .i64 v9.1] 227 w38 λb40 w41=>
 KeepOn D14 w10.drew w41 /\
 AppS w41 (some ⟨b40,0,none⟩) 1 5 λns46=>
 AppV w41 227 5 56 x34.a x34.n x34.c ns46 1 λa42 n43 c44 w45=>
 KeepOn D14 w10.drew w45 /\
 StoreV w45 (p0.add 14) [.slice a42 n43 c44] λw47=>
 KeepOn D14 w10.drew w47 /\
 J11 (()) w47) /\
 (AppS w33 a3 n3 1 λns52=>
 AppV w33 5 1 1 (some ⟨b32,0,none⟩) 0 0 ns52 n3 λa48 n49 c50 w51=>
 KeepOn D14 w10.drew w51 /\
 ((LoadS w51 (p0.add 14) .sl λ(x53:SlV)=>
 KeepOn D14 w10.drew w51 /\
 NewV #[.int .i64 p1,.int .i64 x15.1,.int .i64 x15.2.1,.slice a48 n49 c50,.int .i64 v9.1] 227 w51 λb54 w55=>
 KeepOn D14 w10.drew w55 /\
 AppS w55 (some ⟨b54,0,none⟩) 1 5 λns60=>
 AppV w55 227 5 56 x53.a x53.n x53.c ns60 1 λa56 n57 c58 w59=>
 KeepOn D14 w10.drew w59 /\
 StoreV w59 (p0.add 14) [.slice a56 n57 c58] λw61=>
 KeepOn D14 w10.drew w61 /\
 J11 (()) w61) /\
 (NewV #[.int .i64 p1,.int .i64 x15.1,.int .i64 x15.2.1,.slice a48 n49 c50,.int .i64 v9.1] 227 w51 λb62 w63=>
 KeepOn D14 w10.drew w63 /\
 LoadS w63 (p0.add 14) .sl λ(x64:SlV)=>
 KeepOn D14 w10.drew w63 /\
 AppS w63 (some ⟨b62,0,none⟩) 1 5 λns69=>
 AppV w63 227 5 56 x64.a x64.n x64.c ns69 1 λa65 n66 c67 w68=>
 KeepOn D14 w10.drew w68 /\
 StoreV w68 (p0.add 14) [.slice a65 n66 c67] λw70=>
 KeepOn D14 w10.drew w70 /\
 J11 (()) w70)))))))) λ(J8:Int×Unit->World->Prop)=>
 cond (!v6.2.1)
 (LoadS w7 ⟨b3,0,none⟩ .fn λ(x71:(FuncId×Array Value×Array Value))=>
 cond (okf x71.1)
 (CallV Tryz.prog x71.1 ((x71.2.1).toList++([]++(x71.2.2).toList)).toArray w7 [.one .sl] λ(r72:SlV×Unit) w73=>
 CopyV w73 a5 r72.1.a (Nat.min r72.1.n n5) 1 λw74=>
 J8 ((0:Int),()) w74)
 False)
 (PtrK v6.1 λq75=>
 LoadS w7 (q75.add 1) .bool λ(x76:Bool)=>
 cond x76
 (LoadS w7 ⟨b3,1,none⟩ .fn λ(x77:(FuncId×Array Value×Array Value))=>
 PtrK v6.1 λq78=>
 LoadA w7 q78 [.int .i64,.bool,.sl] λ(x79:Int×Bool×SlV×Unit)=>
 cond (okf x77.1)
 (CallV Tryz.prog x77.1 ((x77.2.1).toList++((([.agg #[.int .i64 x79.1,.bool x79.2.1,.slice x79.2.2.1.a x79.2.2.1.n x79.2.2.1.c]]:List Value))++(x77.2.2).toList)).toArray w7 [.one .sl] λ(r80:SlV×Unit) w81=>
 CopyV w81 a5 r80.1.a (Nat.min r80.1.n n5) 1 λw82=>
 StoreV w82 (p0.add 13) [.bool true] λw83=>
 J8 ((4:Int),()) w83)
 False)
 (LoadS w7 ⟨b3,1,none⟩ .fn λ(x84:(FuncId×Array Value×Array Value))=>
 PtrK v6.1 λq85=>
 LoadA w7 q85 [.int .i64,.bool,.sl] λ(x86:Int×Bool×SlV×Unit)=>
 cond (okf x84.1)
 (CallV Tryz.prog x84.1 ((x84.2.1).toList++((([.agg #[.int .i64 x86.1,.bool x86.2.1,.slice x86.2.2.1.a x86.2.2.1.n x86.2.2.1.c]]:List Value))++(x84.2.2).toList)).toArray w7 [.one .sl] λ(r87:SlV×Unit) w88=>
 CopyV w88 a5 r87.1.a (Nat.min r87.1.n n5) 1 λw89=>
 J8 ((5:Int),()) w89)
 False))) λ(J5:(Option Addr)×Bool×Unit->World->Prop)=>
 DrawV λD90=>
 (D90 (p0.add 12).block/\LoadS w4.drew (p0.add 12) .sl λ(x91:SlV)=>
 (D90 (p0.add 14).block/\LoadS w4.drew (p0.add 14) .sl λ(x92:SlV)=>
 ((CallV Tryz.prog 124 #[.slice x91.a x91.n x91.c,.int .i64 ((x92.n:Nat):Int)] w4.drew [.agg [.int .i64,.bool,.sl],.one .bool] λ(r93:(Int×Bool×SlV×Unit)×Bool×Unit) w94=>
 KeepOn D90 w4.drew w94 /\
 NewV #[.int .i64 0,.bool false,.slice none 0 0] 187 w94 λb95 w96=>
 KeepOn D90 w4.drew w96 /\
 StoreV w96 ⟨b95,0,none⟩ [.int .i64 r93.1.1,.bool r93.1.2.1,.slice r93.1.2.2.1.a r93.1.2.2.1.n r93.1.2.2.1.c] λw97=>
 KeepOn D90 w4.drew w97 /\
 J5 ((some ⟨b95,0,none⟩),r93.2.1,()) w97) /\
 (NewV #[.int .i64 0,.bool false,.slice none 0 0] 187 w4.drew λb98 w99=>
 KeepOn D90 w4.drew w99 /\
 CallV Tryz.prog 124 #[.slice x91.a x91.n x91.c,.int .i64 ((x92.n:Nat):Int)] w99 [.agg [.int .i64,.bool,.sl],.one .bool] λ(r100:(Int×Bool×SlV×Unit)×Bool×Unit) w101=>
 KeepOn D90 w4.drew w101 /\
 StoreV w101 ⟨b98,0,none⟩ [.int .i64 r100.1.1,.bool r100.1.2.1,.slice r100.1.2.2.1.a r100.1.2.2.1.n r100.1.2.2.1.c] λw102=>
 KeepOn D90 w4.drew w102 /\
 J5 ((some ⟨b98,0,none⟩),r100.2.1,()) w102))))
theorem nand_Chip_done.vc (p0:Addr) (p1 p2_0 p2_1:Int) (a3:Option Addr) (n3 c3:Nat) (p4_0 p4_1:(FuncId×Array Value×Array Value)) (a5:Option Addr) (n5 c5:Nat) (w:World) (K:Int×Unit->World->Prop) (h:nand_Chip_done.P p0 p1 p2_0 p2_1 a3 n3 c3 p4_0 p4_1 a5 n5 c5 w K):CallV Tryz.prog 100 #[.pointer (some p0),.int .i64 p1,.agg #[.int .i64 p2_0,.int .i64 p2_1],.slice a3 n3 c3,.agg #[.func (.func p4_0.1) p4_0.2.1 p4_0.2.2,.func (.func p4_1.1) p4_1.2.1 p4_1.2.2],.slice a5 n5 c5] w [.one (.int .i64)] K:=by
 refine vcFun.of (A:=nand_Chip_done.A) (wr:=false) okf_ok follows h Tryz.func100 ?_
 kernel_rfl
def nand_Chip_refused.A:Ann:=.two .no (.two .no (.two (.one (.two (.draw (.take 0 (.take 1 (.take 2 (.take 3 (.take 4 (.take 5 (.take 6 (.take 7 (.take 8 (.take 9 (.take 10 (.take 11 (.take 12 (.take 13 (.take 14 (.take 15 (.take 16 (.take 17 (.take 18 (.take 19 (.done)))))))))))))))))))))) (.two .no (.two (.draw (.take 0 (.take 1 (.take 2 (.take 3 (.take 4 (.take 5 (.take 6 (.take 7 (.take 8 (.take 9 (.take 10 (.take 11 (.take 12 (.take 13 (.take 14 (.take 15 (.take 16 (.take 17 (.take 18 (.take 19 (.take 20 (.take 21 (.done)))))))))))))))))))))))) .no)))) .no))
def nand_Chip_refused.P (p0:Addr) (p1_0 p1_1 p2 p3:Int) (w:World) (K:Int×Unit->World->Prop):Prop:=
 NewV #[.int .i64 p1_0,.int .i64 p1_1] 57 w λb1 w2=>
 LoadS w2 (p0.add 6) (.int .i64) λ(x3:Int)=>
 cond (p3 != x3)
 (K ((2:Int),()) w2)
 (DrawV λD4=>
 (D4 (p0.add 10).block/\LoadS w2.drew (p0.add 10) .sl λ(x5:SlV)=>
 (D4 b1/\LoadS w2.drew ⟨b1,0,none⟩ (.int .i64) λ(x6:Int)=>
 (0<=x6/\x6<((x5.n:Nat):Int))/\∃ q7:Addr,x5.a=some q7 /\
 (D4 (q7.add (x6.toNat*1)).block/\LoadS w2.drew (q7.add (x6.toNat*1)) (.int .i64) λ(x8:Int)=>
 cond (decide (x8>0))
 (K ((7:Int),()) w2.drew)
 ((D4 (p0.add 8).block/\LoadS w2.drew (p0.add 8) .sl λ(x9:SlV)=>
 (0<=p2/\p2<((x9.n:Nat):Int))/\∃ q10:Addr,x9.a=some q10 /\
 (D4 (q10.add (p2.toNat*1)).block/\LoadS w2.drew (q10.add (p2.toNat*1)) (.int .i64) λ(x11:Int)=>
 cond (decide (x11≥2))
 (K ((7:Int),()) w2.drew)
 (DrawV λD12=>
 (D12 (p0.add 8).block/\LoadS w2.drew.drew (p0.add 8) .sl λ(x13:SlV)=>
 (0<=p2/\p2<((x13.n:Nat):Int))/\∃ q14:Addr,x13.a=some q14 /\
 (D12 (q14.add (p2.toNat*1)).block/\LoadS w2.drew.drew (q14.add (p2.toNat*1)) (.int .i64) λ(x15:Int)=>
 cond (x15 == 0)
 ((D12 b1/\LoadS w2.drew.drew ⟨b1,1,none⟩ (.int .i64) λ(x16:Int)=>
 (D12 (p0.add 9).block/\LoadS w2.drew.drew (p0.add 9) .sl λ(x17:SlV)=>
 (D12 b1/\LoadS w2.drew.drew ⟨b1,0,none⟩ (.int .i64) λ(x18:Int)=>
 (0<=x18/\x18<((x17.n:Nat):Int))/\∃ q19:Addr,x17.a=some q19 /\
 (D12 (q19.add (x18.toNat*1)).block/\LoadS w2.drew.drew (q19.add (x18.toNat*1)) (.int .i64) λ(x20:Int)=>
 cond (decide (x16<=x20))
 (K ((6:Int),()) w2.drew.drew)
 (K ((0:Int),()) w2.drew.drew))))))
 (K ((0:Int),()) w2.drew.drew)))))))))))
theorem nand_Chip_refused.vc (p0:Addr) (p1_0 p1_1 p2 p3:Int) (w:World) (K:Int×Unit->World->Prop) (h:nand_Chip_refused.P p0 p1_0 p1_1 p2 p3 w K):CallV Tryz.prog 94 #[.pointer (some p0),.agg #[.int .i64 p1_0,.int .i64 p1_1],.int .i64 p2,.int .i64 p3] w [.one (.int .i64)] K:=by
 refine vcFun.of (A:=nand_Chip_refused.A) (wr:=false) okf_ok follows h Tryz.func94 ?_
 kernel_rfl
def nand_Chip_Program.A:Ann:=.two .no (.two .no (.two (.draw (.take 0 (.take 1 (.take 2 (.take 3 (.take 4 (.eff 5 (.take 6 (.take 7 (.take 8 (.take 9 (.take 10 (.done))))))))))))) (.two .no (.two .no (.two .no (.two .no (.join [49,50,51,52,53,54,55,56,57,58,59,60,61,62,63,64,65,66] [] (.draw (.take 0 (.take 1 (.take 2 (.take 4 (.take 5 (.take 6 (.take 7 (.take 8 (.take 10 (.take 11 (.take 14 (.take 15 (.both 3 (.eff 9 (.take 12 (.eff 13 (.take 16 (.take 17 (.eff 18 (.done))))))) 9 (.take 12 (.both 3 (.eff 13 (.take 16 (.take 17 (.eff 18 (.done))))) 13 (.take 16 (.eff 3 (.take 17 (.eff 18 (.done))))))))))))))))))))) .no)))))))
def nand_Chip_Program.P (p0:Addr) (p1_0 p1_1:Int) (a2:Option Addr) (n2 c2:Nat) (w:World) (K:Int×Unit->World->Prop):Prop:=
 NewV #[.int .i64 p1_0,.int .i64 p1_1] 57 w λb1 w2=>
 NewV #[.slice a2 n2 c2] 26 w2 λb3 w4=>
 CallV Tryz.prog 28 #[.pointer (some p0)] w4 [.one .bool] λ(r5:Bool×Unit) w6=>
 cond (!r5.1)
 (K ((4:Int),()) w6)
 (DrawV λD7=>
 (D7 p0.block/\LoadA w6.drew p0 [.int .i64,.int .i64,.int .i64,.int .i64,.int .i64,.int .i64] λ(x8:Int×Int×Int×Int×Int×Int×Unit)=>
 (D7 b1/\LoadA w6.drew ⟨b1,0,none⟩ [.int .i64,.int .i64] λ(x9:Int×Int×Unit)=>
 CallV Tryz.prog 93 #[.agg #[.int .i64 x8.1,.int .i64 x8.2.1,.int .i64 x8.2.2.1,.int .i64 x8.2.2.2.1,.int .i64 x8.2.2.2.2.1,.int .i64 x8.2.2.2.2.2.1],.agg #[.int .i64 x9.1,.int .i64 x9.2.1]] w6.drew [.one (.int .i64),.one (.int .i64)] λ(r10:Int×Int×Unit) w11=>
 KeepOn D7 w6.drew w11 /\
 cond (r10.2.1 != 0)
 (K (r10.2.1,()) w11)
 (LoadA w11 ⟨b1,0,none⟩ [.int .i64,.int .i64] λ(x12:Int×Int×Unit)=>
 LoadS w11 ⟨b3,0,none⟩ .sl λ(x13:SlV)=>
 CallV Tryz.prog 94 #[.pointer (some p0),.agg #[.int .i64 x12.1,.int .i64 x12.2.1],.int .i64 r10.1,.int .i64 ((x13.n:Nat):Int)] w11 [.one (.int .i64)] λ(r14:Int×Unit) w15=>
 cond (r14.1 != 0)
 (K (r14.1,()) w15)
 (CallV Tryz.prog 95 #[.pointer (some p0),.int .i64 r10.1] w15 [.one .sl] λ(r16:SlV×Unit) w17=>
 NewV #[.slice none 0 0] 26 w17 λb18 w19=>
 StoreV w19 ⟨b18,0,none⟩ [.slice r16.1.a r16.1.n r16.1.c] λw20=>
 LoadS w20 (p0.add 8) .sl λ(x21:SlV)=>
 (0<=r10.1/\r10.1<((x21.n:Nat):Int))/\∃ q22:Addr,x21.a=some q22 /\
 LoadS w20 (q22.add (r10.1.toNat*1)) (.int .i64) λ(x23:Int)=>
 Rng .i64 (x23+1) /\
 (0<=r10.1/\r10.1<((x21.n:Nat):Int))/\∃ q24:Addr,x21.a=some q24 /\
 StoreV w20 (q24.add (r10.1.toNat*1)) [.int .i64 (x23+1)] λw25=>
 JoinV [] (λ(v27:Unit) w28=>
 LoadA w28 ⟨b1,0,none⟩ [.int .i64,.int .i64] λ(x29:Int×Int×Unit)=>
 LoadS w28 ⟨b3,0,none⟩ .sl λ(x30:SlV)=>
 LoadS w28 ⟨b18,0,none⟩ .sl λ(x31:SlV)=>
 CallV Tryz.prog 100 #[.pointer (some p0),.int .i64 1,.agg #[.int .i64 x29.1,.int .i64 x29.2.1],.slice x30.a x30.n x30.c,.agg #[.func (.func 96) #[] #[.pointer (some ⟨b18,0,none⟩),.pointer (some ⟨b3,0,none⟩)],.func (.func 98) #[] #[.pointer (some ⟨b18,0,none⟩),.pointer (some ⟨b3,0,none⟩)]],.slice x31.a x31.n x31.c] w28 [.one (.int .i64)] λ(r32:Int×Unit) w33=>
 K (r32.1,()) w33) λ(J26:Unit->World->Prop)=>
 DrawV λD34=>
 (D34 b1/\LoadS w25.drew ⟨b1,0,none⟩ (.int .i64) λ(x35:Int)=>
 (D34 b1/\LoadS w25.drew ⟨b1,0,none⟩ (.int .i64) λ(x36:Int)=>
 (D34 b1/\LoadS w25.drew ⟨b1,1,none⟩ (.int .i64) λ(x37:Int)=>
 ((LoadS w25.drew (p0.add 9) .sl λ(x38:SlV)=>
 KeepOn D34 w25.drew w25.drew /\
 LoadS w25.drew (p0.add 9) .sl λ(x39:SlV)=>
 KeepOn D34 w25.drew w25.drew /\
 (0<=x36/\x36<((x39.n:Nat):Int))/\∃ q40:Addr,x39.a=some q40 /\
 LoadS w25.drew (q40.add (x36.toNat*1)) (.int .i64) λ(x41:Int)=>
 KeepOn D34 w25.drew w25.drew /\
 NameI (max x41 x37) λz42=>
 (0<=x35/\x35<((x38.n:Nat):Int))/\∃ q43:Addr,x38.a=some q43 /\
 StoreV w25.drew (q43.add (x35.toNat*1)) [.int .i64 z42] λw44=>
 KeepOn D34 w25.drew w44 /\
 J26 (()) w44) /\
 (LoadS w25.drew (p0.add 9) .sl λ(x45:SlV)=>
 KeepOn D34 w25.drew w25.drew /\
 (0<=x36/\x36<((x45.n:Nat):Int))/\∃ q46:Addr,x45.a=some q46 /\
 ((LoadS w25.drew (p0.add 9) .sl λ(x47:SlV)=>
 KeepOn D34 w25.drew w25.drew /\
 LoadS w25.drew (q46.add (x36.toNat*1)) (.int .i64) λ(x48:Int)=>
 KeepOn D34 w25.drew w25.drew /\
 NameI (max x48 x37) λz49=>
 (0<=x35/\x35<((x47.n:Nat):Int))/\∃ q50:Addr,x47.a=some q50 /\
 StoreV w25.drew (q50.add (x35.toNat*1)) [.int .i64 z49] λw51=>
 KeepOn D34 w25.drew w51 /\
 J26 (()) w51) /\
 (LoadS w25.drew (q46.add (x36.toNat*1)) (.int .i64) λ(x52:Int)=>
 KeepOn D34 w25.drew w25.drew /\
 NameI (max x52 x37) λz53=>
 LoadS w25.drew (p0.add 9) .sl λ(x54:SlV)=>
 KeepOn D34 w25.drew w25.drew /\
 (0<=x35/\x35<((x54.n:Nat):Int))/\∃ q55:Addr,x54.a=some q55 /\
 StoreV w25.drew (q55.add (x35.toNat*1)) [.int .i64 z53] λw56=>
 KeepOn D34 w25.drew w56 /\
 J26 (()) w56))))))))))))
theorem nand_Chip_Program.vc (p0:Addr) (p1_0 p1_1:Int) (a2:Option Addr) (n2 c2:Nat) (w:World) (K:Int×Unit->World->Prop) (h:nand_Chip_Program.P p0 p1_0 p1_1 a2 n2 c2 w K):CallV Tryz.prog 61 #[.pointer (some p0),.agg #[.int .i64 p1_0,.int .i64 p1_1],.slice a2 n2 c2] w [.one (.int .i64)] K:=by
 refine vcFun.of (A:=nand_Chip_Program.A) (wr:=false) okf_ok follows h Tryz.func61 ?_
 kernel_rfl
def nand_Chip_Program_1.A:Ann:=.no
def nand_Chip_Program_1.P (cq0 cq1:Addr) (w:World) (K:SlV×Unit->World->Prop):Prop:=
 LoadS w cq0 .sl λ(x1:SlV)=>
 LoadS w cq1 .sl λ(x2:SlV)=>
 CallV Tryz.prog 97 #[.slice x1.a x1.n x1.c,.slice x2.a x2.n x2.c,.slice none 0 0] w [.one .sl,.one (.int .i64)] λ(r3:SlV×Int×Unit) w4=>
 K (r3.1,()) w4
theorem nand_Chip_Program_1.vc (cq0 cq1:Addr) (w:World) (K:SlV×Unit->World->Prop) (h:nand_Chip_Program_1.P cq0 cq1 w K):CallV Tryz.prog 96 #[.pointer (some cq0),.pointer (some cq1)] w [.one .sl] K:=by
 refine vcFun.of (A:=nand_Chip_Program_1.A) (wr:=false) okf_ok follows h Tryz.func96 ?_
 kernel_rfl
def nand_Chip_Program_2.A:Ann:=.no
def nand_Chip_Program_2.P (p0_0:Int) (p0_1:Bool) (a0_2:Option Addr) (n0_2 c0_2:Nat) (cq0 cq1:Addr) (w:World) (K:SlV×Unit->World->Prop):Prop:=
 NewV #[.int .i64 p0_0,.bool p0_1,.slice a0_2 n0_2 c0_2] 187 w λb1 w2=>
 LoadS w2 cq0 .sl λ(x3:SlV)=>
 LoadS w2 cq1 .sl λ(x4:SlV)=>
 LoadS w2 ⟨b1,2,none⟩ .sl λ(x5:SlV)=>
 CallV Tryz.prog 97 #[.slice x3.a x3.n x3.c,.slice x4.a x4.n x4.c,.slice x5.a x5.n x5.c] w2 [.one .sl,.one (.int .i64)] λ(r6:SlV×Int×Unit) w7=>
 LoadS w7 ⟨b1,1,none⟩ .bool λ(x8:Bool)=>
 cond (!x8)
 (LoadS w7 cq0 .sl λ(x9:SlV)=>
 LoadS w7 cq1 .sl λ(x10:SlV)=>
 LoadS w7 ⟨b1,2,none⟩ .sl λ(x11:SlV)=>
 CallV Tryz.prog 99 #[.slice x9.a x9.n x9.c,.slice x10.a x10.n x10.c,.slice x11.a x11.n x11.c] w7 [.one .sl,.one (.int .i64)] λ(r12:SlV×Int×Unit) w13=>
 K (r12.1,()) w13)
 (K (r6.1,()) w7)
theorem nand_Chip_Program_2.vc (p0_0:Int) (p0_1:Bool) (a0_2:Option Addr) (n0_2 c0_2:Nat) (cq0 cq1:Addr) (w:World) (K:SlV×Unit->World->Prop) (h:nand_Chip_Program_2.P p0_0 p0_1 a0_2 n0_2 c0_2 cq0 cq1 w K):CallV Tryz.prog 98 #[.agg #[.int .i64 p0_0,.bool p0_1,.slice a0_2 n0_2 c0_2],.pointer (some cq0),.pointer (some cq1)] w [.one .sl] K:=by
 refine vcFun.of (A:=nand_Chip_Program_2.A) (wr:=false) okf_ok follows h Tryz.func98 ?_
 kernel_rfl
def nand_Chip_Read.A:Ann:=.two .no (.two .no (.two (.draw (.take 0 (.take 1 (.take 2 (.take 3 (.take 4 (.eff 5 (.take 6 (.take 7 (.take 8 (.take 9 (.take 10 (.done))))))))))))) .no))
def nand_Chip_Read.P (p0:Addr) (p1_0 p1_1:Int) (w:World) (K:SlV×Int×Unit->World->Prop):Prop:=
 NewV #[.int .i64 p1_0,.int .i64 p1_1] 57 w λb1 w2=>
 CallV Tryz.prog 28 #[.pointer (some p0)] w2 [.one .bool] λ(r3:Bool×Unit) w4=>
 cond (!r3.1)
 (K ((⟨none,0,0⟩:SlV),(4:Int),()) w4)
 (DrawV λD5=>
 (D5 p0.block/\LoadA w4.drew p0 [.int .i64,.int .i64,.int .i64,.int .i64,.int .i64,.int .i64] λ(x6:Int×Int×Int×Int×Int×Int×Unit)=>
 (D5 b1/\LoadA w4.drew ⟨b1,0,none⟩ [.int .i64,.int .i64] λ(x7:Int×Int×Unit)=>
 CallV Tryz.prog 93 #[.agg #[.int .i64 x6.1,.int .i64 x6.2.1,.int .i64 x6.2.2.1,.int .i64 x6.2.2.2.1,.int .i64 x6.2.2.2.2.1,.int .i64 x6.2.2.2.2.2.1],.agg #[.int .i64 x7.1,.int .i64 x7.2.1]] w4.drew [.one (.int .i64),.one (.int .i64)] λ(r8:Int×Int×Unit) w9=>
 KeepOn D5 w4.drew w9 /\
 cond (r8.2.1 != 0)
 (K ((⟨none,0,0⟩:SlV),r8.2.1,()) w9)
 (NewV #[] 5 w9 λb10 w11=>
 CallV Tryz.prog 95 #[.pointer (some p0),.int .i64 r8.1] w11 [.one .sl] λ(r12:SlV×Unit) w13=>
 AppS w13 r12.1.a r12.1.n 1 λns18=>
 AppV w13 5 1 1 (some ⟨b10,0,none⟩) 0 0 ns18 r12.1.n λa14 n15 c16 w17=>
 K ((⟨a14,n15,c16⟩:SlV),(0:Int),()) w17))))
theorem nand_Chip_Read.vc (p0:Addr) (p1_0 p1_1:Int) (w:World) (K:SlV×Int×Unit->World->Prop) (h:nand_Chip_Read.P p0 p1_0 p1_1 w K):CallV Tryz.prog 70 #[.pointer (some p0),.agg #[.int .i64 p1_0,.int .i64 p1_1]] w [.one .sl,.one (.int .i64)] K:=by
 refine vcFun.of (A:=nand_Chip_Read.A) (wr:=false) okf_ok follows h Tryz.func70 ?_
 kernel_rfl
def nand_Chip_On.A:Ann:=.no
def nand_Chip_On.P (p0:Addr) (w:World) (K:Bool×Unit->World->Prop):Prop:=
 LoadS w (p0.add 6) (.int .i64) λ(x1:Int)=>
 cond (decide (x1>0))
 (LoadS w (p0.add 13) .bool λ(x2:Bool)=>
 K (!x2,()) w)
 (K (false,()) w)
theorem nand_Chip_On.vc (p0:Addr) (w:World) (K:Bool×Unit->World->Prop) (h:nand_Chip_On.P p0 w K):CallV Tryz.prog 28 #[.pointer (some p0)] w [.one .bool] K:=by
 refine vcFun.of (A:=nand_Chip_On.A) (wr:=false) okf_ok follows h Tryz.func28 ?_
 kernel_rfl
def nand_Chip_Geometry.A:Ann:=.no
def nand_Chip_Geometry.P (p0:Addr) (w:World) (K:(Int×Int×Int×Int×Int×Int×Unit)×Unit->World->Prop):Prop:=
 NewV #[.int .i64 0,.int .i64 0,.int .i64 0,.int .i64 0,.int .i64 0,.int .i64 0] 23 w λb1 w2=>
 LoadA w2 p0 [.int .i64,.int .i64,.int .i64,.int .i64,.int .i64,.int .i64] λ(x3:Int×Int×Int×Int×Int×Int×Unit)=>
 StoreV w2 ⟨b1,0,none⟩ [.int .i64 x3.1,.int .i64 x3.2.1,.int .i64 x3.2.2.1,.int .i64 x3.2.2.2.1,.int .i64 x3.2.2.2.2.1,.int .i64 x3.2.2.2.2.2.1] λw4=>
 LoadA w4 ⟨b1,0,none⟩ [.int .i64,.int .i64,.int .i64,.int .i64,.int .i64,.int .i64] λ(x5:Int×Int×Int×Int×Int×Int×Unit)=>
 K ((x5.1,x5.2.1,x5.2.2.1,x5.2.2.2.1,x5.2.2.2.2.1,x5.2.2.2.2.2.1,()),()) w4
theorem nand_Chip_Geometry.vc (p0:Addr) (w:World) (K:(Int×Int×Int×Int×Int×Int×Unit)×Unit->World->Prop) (h:nand_Chip_Geometry.P p0 w K):CallV Tryz.prog 29 #[.pointer (some p0)] w [.agg [.int .i64,.int .i64,.int .i64,.int .i64,.int .i64,.int .i64]] K:=by
 refine vcFun.of (A:=nand_Chip_Geometry.A) (wr:=false) okf_ok follows h Tryz.func29 ?_
 kernel_rfl
end Go.Proofs.YtcekmdehjnlkpaaGreat.Vc
namespace Go.Proofs.YtcekmdehjnlkpaaGreat.Vc
open Go Go.Eng Go.RowKit
def RdT (t:Ty) (x:t.T):Asr:=⟨λw F=>t.rd w F x,λh k=>t.rd_kp (λi hi _=>k i hi) h⟩
theorem rdT_get {t:Ty} {x:t.T} {E:Nat->Prop} {w0 w:World} {Rs:List Asr} (S:Sep E w0 w Rs) (i:Nat) (hi:Rs[i]? = some (RdT t x)):t.rd w All x:=by
 obtain ⟨F,h,_⟩:=S.get hi
 exact t.rd_mono (λ_ _ _=>trivial) h
structure TOp where
 k:Int
 bl:Int
 pa:Int
 d:SlP Int
 e:Int
abbrev TOp.vs (o:TOp):List Value:=[.int .i64 o.k,.int .i64 o.bl,.int .i64 o.pa,.slice o.d.a o.d.n o.d.c,.int .i64 o.e]
abbrev TOp.dat (o:TOp):Int×Int×Int×List Int×Int:=(o.k,o.bl,o.pa,o.d.l,o.e)
theorem TOp.one (o:TOp):oneAll o.vs:=λu hu=>by
 simp only [List.mem_cons,List.not_mem_nil,or_false] at hu
 rcases hu with rfl | rfl | rfl | rfl | rfl <;> rfl
structure Lay where
 P:SlV
 U:SlV
 A:SlV
 S:SlV
 E:SlV
 F:SlP TF.T
 T:SlV
def pagesC (C:CD):List (List Int):=C.bs.flatMap (·.pg)
def imgC (C:CD):List Int:=C.bs.flatMap λx=>x.pg.flatten
def usL (C:CD):List Int:=C.bs.flatMap (·.us)
def laL (C:CD):List Int:=C.bs.map (·.la)
def scI (b:Bool):Int:=if b then 1 else 0
def scL (C:CD):List Int:=C.bs.map λx=>scI x.sc
def erL (C:CD):List Int:=C.bs.map (·.er)
abbrev iv (l:List Int):List Value:=l.map (Value.int .i64)
abbrev bv8 (l:List Int):List Value:=l.map (Value.int .u8)
abbrev chipV (y:Lay) (C:CD):List Value:=[.int .i64 C.g.b,.int .i64 C.g.p,.int .i64 C.g.s,.int .i64 C.g.sp,.int .i64 C.g.wr,.int .i64 C.g.ro,.int .i64 (C.g.s+88),.slice y.P.a y.P.n y.P.c,.slice y.U.a y.U.n y.U.c,.slice y.A.a y.A.n y.A.c,
 .slice y.S.a y.S.n y.S.c,.slice y.E.a y.E.n y.E.c,.slice y.F.a y.F.n y.F.c,.bool C.off,.slice y.T.a C.ops y.T.c]
abbrev ChipQ (p:Nat) (y:Lay) (C:CD) (L:List TOp) (Rs:List Asr):List Asr:=BoxA p 136 (chipV y C)::OwnA 5 1 y.P.a y.P.n y.P.c (bv8 (imgC C))::OwnA 3 1 y.U.a y.U.n y.U.c (iv (usL C))::OwnA 3 1 y.A.a y.A.n y.A.c (iv (laL C))::
 OwnA 3 1 y.S.a y.S.n y.S.c (iv (scL C))::OwnA 3 1 y.E.a y.E.n y.E.c (iv (erL C))::RdT LF y.F::OwnA 227 5 y.T.a C.ops y.T.c (L.flatMap TOp.vs)::RdL (L.map (·.d))::Rs
abbrev ChipP (p:Nat) (y:Lay) (C:CD) (L:List TOp):List Asr:=ChipQ p y C L []
theorem COk.num {C:CD} (h:COk C):(7<=C.g.b/\C.g.b<=16)/\(4<=C.g.p/\C.g.p<=20)/\(32<=C.g.s/\C.g.s<=128)/\szP C.g=C.g.s.toNat+88/\(szP C.g:Int)=C.g.s+88:=by
 have h1:=h.g.1
 obtain ⟨h2,h3,h4⟩:=h.lg
 unfold Kept at h1
 refine ⟨by omega,by omega,by omega,?_,?_⟩
 ·show (C.g.s+88).toNat=_;omega
 ·show (((C.g.s+88).toNat:Nat):Int)=_;omega
theorem COk.blk {C:CD} (h:COk C) {bl:Int} (hb:0<=bl/\bl<C.g.b):C.bs[bl.toNat]? = some (blkC C bl)/\BOk C.g C.ops (blkC C bl):=by
 have hl:bl.toNat<C.bs.length:=by rw [h.bl];omega
 have:=some_getD (d:=default) hl
 exact ⟨this,h.bo _ (List.mem_of_getElem? this)⟩
theorem COk.page {C:CD} (h:COk C) {bl pa:Int} (hi:inC C bl pa):(blkC C bl).pg[pa.toNat]? = some (pgC13 C bl pa)/\(pgC13 C bl pa).length=szP C.g/\Byt (pgC13 C bl pa):=by
 obtain ⟨-,hb⟩:=h.blk hi.1
 have hl:pa.toNat<(blkC C bl).pg.length:=by rw [hb.pl];have:=hi.2;omega
 have:=some_getD (d:=[]) hl
 exact ⟨this,hb.pb _ (List.mem_of_getElem? this)⟩
theorem COk.us {C:CD} (h:COk C) {bl pa:Int} (hi:inC C bl pa):(blkC C bl).us[pa.toNat]? = some (usC C bl pa)/\(0<=usC C bl pa/\usC C bl pa<=2):=by
 obtain ⟨-,hb⟩:=h.blk hi.1
 have hl:pa.toNat<(blkC C bl).us.length:=by rw [hb.ul];have:=hi.2;omega
 have:=some_getD (d:=0) hl
 exact ⟨this,hb.ub _ (List.mem_of_getElem? this)⟩
abbrev ixC (C:CD) (bl pa:Int):Nat:=bl.toNat*C.g.p.toNat+pa.toNat
theorem COk.ix {C:CD} (h:COk C) {bl pa:Int} (hi:inC C bl pa):((ixC C bl pa:Nat):Int)=bl*C.g.p+pa/\ixC C bl pa<C.g.b.toNat*C.g.p.toNat/\C.g.b.toNat*C.g.p.toNat<=320:=by
 obtain ⟨⟨n1,n2⟩,⟨n3,n4⟩,-⟩:=h.num
 obtain ⟨⟨b0,b1⟩,⟨p0,p1⟩⟩:=hi
 have e:(bl.toNat:Int)*(C.g.p.toNat:Int)=bl*C.g.p:=by rw [Int.toNat_of_nonneg b0,Int.toNat_of_nonneg (by omega)]
 have m1:(bl.toNat+1)*C.g.p.toNat<=C.g.b.toNat*C.g.p.toNat:=Nat.mul_le_mul_right _ (by omega)
 have m2:C.g.b.toNat*C.g.p.toNat<=16*20:=Nat.mul_le_mul (by omega) (by omega)
 rw [Nat.add_mul] at m1
 refine ⟨by push_cast;omega,by show bl.toNat*C.g.p.toNat+pa.toNat<_;omega,by omega⟩
theorem pagesC_len {C:CD} (h:COk C):(pagesC C).length=C.g.b.toNat*C.g.p.toNat:=by
 unfold pagesC
 rw [fl_len (m:=C.g.p.toNat) λx hx=>(h.bo x hx).pl,h.bl]
theorem pagesC_mem {C:CD} (h:COk C):∀ q∈pagesC C,q.length=szP C.g:=λq hq=>by
 obtain ⟨x,hx,hq⟩:=List.mem_flatMap.1 hq
 exact ((h.bo x hx).pb q hq).1
theorem imgC_pages (C:CD):imgC C=(pagesC C).flatMap id:=by
 unfold imgC pagesC
 rw [List.flatMap_assoc]
 congr 1
 funext x
 simp [List.flatMap_id]
theorem imgC_len {C:CD} (h:COk C):(imgC C).length=C.g.b.toNat*C.g.p.toNat*szP C.g:=by
 rw [imgC_pages,fl_len (f:=id) (m:=szP C.g) (pagesC_mem h),pagesC_len h]
theorem pagesC_get {C:CD} (h:COk C) {bl pa:Int} (hi:inC C bl pa):(pagesC C)[ixC C bl pa]? = some (pgC13 C bl pa):=by
 unfold pagesC
 rw [fl_get (m:=C.g.p.toNat) (λx hx=>(h.bo x hx).pl) (h.blk hi.1).1 (by have:=hi.2;omega)]
 exact (h.page hi).1
theorem imgC_split {C:CD} (h:COk C) {bl pa:Int} (hi:inC C bl pa):∃ pre post,imgC C=pre++(pgC13 C bl pa++post)/\pre.length=ixC C bl pa*szP C.g /\
  ∀ q:List Int,∀ C':CD,C'.bs=C.bs.set bl.toNat {blkC C bl with pg:=(blkC C bl).pg.set pa.toNat q,us:=(C'.bs.getD bl.toNat default).us,la:=(C'.bs.getD bl.toNat default).la}->imgC C'=pre++(q++post):=by
 have hs:=pagesC_get h hi
 refine ⟨((pagesC C).take (ixC C bl pa)).flatMap id,((pagesC C).drop (ixC C bl pa+1)).flatMap id,?_,?_,λq C' hC=>?_⟩
 ·rw [imgC_pages];exact fl_split (f:=id) hs
 ·exact fl_take (pagesC_mem h) (by rw [pagesC_len h];exact Nat.le_of_lt (h.ix hi).2.1)
 ·rw [imgC_pages,show pagesC C'=(pagesC C).set (ixC C bl pa) q from ?_]
  ·exact fl_set (f:=id) hs
  ·unfold pagesC
   rw [hC]
   exact fl_put (m:=C.g.p.toNat) (λx hx=>(h.bo x hx).pl) (h.blk hi.1).1 (by have:=hi.2;omega) rfl
section
variable {E:Nat->Prop} {w0 w:World} {Rs:List Asr} {p:Nat} {y:Lay} {C:CD} {L:List TOp}
theorem On_c (hC:COk C) (S:Sep E w0 w (BoxA p 136 (chipV y C)::Rs)):CallV Tryz.prog 28 #[.pointer (some ⟨p,0,none⟩)] w [.one .bool] λr w'=>r.1=(!C.off)/\w'=w:=by
 apply nand_Chip_On.vc
 unfold nand_Chip_On.P
 simp only [Addr.add_lit,Nat.zero_add]
 have n:=hC.num
 refine S.ld0 (j:=6) rfl rfl (cond_d (λ_=>S.ld0 (j:=13) rfl rfl ⟨rfl,trivial⟩) λh=>absurd (by omega) h)
theorem page_c {k blk:Nat} (hC:COk C) (hk:k<C.g.b.toNat*C.g.p.toNat) (hP:y.P.a=some ⟨blk,0,none⟩) (hc:C.g.b.toNat*C.g.p.toNat*szP C.g<=y.P.c) (S:Sep E w0 w (BoxA p 136 (chipV y C)::Rs)) :
  CallV Tryz.prog 95 #[.pointer (some ⟨p,0,none⟩),.int .i64 (k:Int)] w [.one .sl] λr w'=>r.1=(⟨some ⟨blk,k*szP C.g,none⟩,szP C.g,szP C.g⟩:SlV)/\Ext w w':=by
 apply nand_Chip_page.vc
 unfold nand_Chip_page.P
 simp only [Addr.add_lit,Nat.zero_add]
 obtain ⟨⟨n1,n2⟩,⟨n3,n4⟩,⟨n5,n6⟩,n7,n8⟩:=hC.num
 have m1:(k+1)*szP C.g<=C.g.b.toNat*C.g.p.toNat*szP C.g:=Nat.mul_le_mul_right _ hk
 have m2:C.g.b.toNat*C.g.p.toNat<=16*20:=Nat.mul_le_mul (by omega) (by omega)
 have m3:C.g.b.toNat*C.g.p.toNat*szP C.g<=320*216:=Nat.mul_le_mul (by omega) (by omega)
 have m4:(k+1)*szP C.g=k*szP C.g+szP C.g:=by rw [Nat.add_mul,Nat.one_mul]
 have e1:(k:Int)*(C.g.s+88)=((k*szP C.g:Nat):Int):=by rw [<-n8];push_cast;rfl
 have e2:((k:Int)+1)*(C.g.s+88)=(((k+1)*szP C.g:Nat):Int):=by rw [<-n8];push_cast;rfl
 generalize hz:szP C.g=z at *
 refine S.reg λD hD hkeep S T=>?_
 have hb:=hD _ S.bl0
 refine ⟨hb,S.ld0 (j:=7) rfl rfl ⟨hb,S.ld0 (j:=6) rfl rfl ⟨by rw [e1];exact Rng.i64 (by omega) (by omega),Rng.i64 (by omega) (by omega),hb,S.ld0 (j:=6) rfl rfl ⟨by rw [e2];exact Rng.i64 (by omega) (by omega),Rng.i64 (by omega) (by omega),hb,S.ld0 (j:=6) rfl rfl
  ⟨by rw [e2];exact Rng.i64 (by omega) (by omega),⟨by rw [e1];omega,by rw [e1,e2];omega,by omega,by rw [e2];dsimp only;omega⟩,?_⟩⟩⟩⟩⟩
 intro a6 ha6
 rw [e1,e2] at ha6 ⊢
 rw [Int.toNat_natCast,Int.toNat_natCast,if_neg (by omega),hP] at ha6
 refine ⟨?_,Ext.drew _⟩
 rw [ha6,Int.toNat_natCast,Int.toNat_natCast]
 have e3:(⟨blk,0,none⟩:Addr).add (k*z*1)=⟨blk,k*z,none⟩:=by simp [Addr.add_lit]
 show (⟨some ((⟨blk,0,none⟩:Addr).add (k*z*1)),_,_⟩:SlV)=_
 rw [e3,show (k+1)*z-k*z=z by omega]
end
theorem usL_len {C:CD} (h:COk C):(usL C).length=C.g.b.toNat*C.g.p.toNat:=by
 unfold usL
 rw [fl_len (m:=C.g.p.toNat) λx hx=>(h.bo x hx).ul,h.bl]
theorem usL_get {C:CD} (h:COk C) {bl pa:Int} (hi:inC C bl pa):(usL C).getD (ixC C bl pa) 0=usC C bl pa:=by
 apply getD_some
 unfold usL
 rw [fl_get (m:=C.g.p.toNat) (λx hx=>(h.bo x hx).ul) (h.blk hi.1).1 (by have:=hi.2;omega)]
 exact (h.us hi).1
theorem laL_get {C:CD} (h:COk C) {bl:Int} (hb:0<=bl/\bl<C.g.b):(laL C).getD bl.toNat 0=(blkC C bl).la:=getD_some (by unfold laL;rw [List.getElem?_map,(h.blk hb).1];rfl)
theorem scL_get {C:CD} (h:COk C) {bl:Int} (hb:0<=bl/\bl<C.g.b):(scL C).getD bl.toNat 0=scI (blkC C bl).sc:=getD_some (by unfold scL;rw [List.getElem?_map,(h.blk hb).1];rfl)
section
variable {E:Nat->Prop} {w0 w:World} {Rs:List Asr} {p:Nat} {y:Lay} {C:CD} {L:List TOp}
theorem chip_len (hC:COk C) (S:Sep E w0 w (ChipQ p y C L Rs)):y.P.n=C.g.b.toNat*C.g.p.toNat*szP C.g/\y.P.n<=y.P.c/\y.U.n=C.g.b.toNat*C.g.p.toNat/\y.U.n<=y.U.c/\y.A.n=C.g.b.toNat/\y.S.n=C.g.b.toNat/\y.E.n=C.g.b.toNat/\L.length=C.ops:=by
 have h1:=(S.own 1 rfl).len
 have h2:=(S.own 2 rfl).len
 have h3:=(S.own 3 rfl).len
 have h4:=(S.own 4 rfl).len
 have h5:=(S.own 5 rfl).len
 have h7:=(S.own 7 rfl).len
 have c1:=(S.own 1 rfl).cap
 have c2:=(S.own 2 rfl).cap
 rw [List.length_map,imgC_len hC] at h1
 rw [List.length_map,usL_len hC] at h2
 rw [List.length_map,laL,List.length_map,hC.bl] at h3
 rw [List.length_map,scL,List.length_map,hC.bl] at h4
 rw [List.length_map,erL,List.length_map,hC.bl] at h5
 rw [flatF_len (f:=TOp.vs) (m:=5) (λ_=>rfl)] at h7
 refine ⟨by omega,c1,by omega,c2,by omega,by omega,by omega,by omega⟩
theorem chip_adr (hC:COk C) (S:Sep E w0 w (ChipQ p y C L Rs)):∃ blk,y.P.a=some ⟨blk,0,none⟩:=by
 have hl:=chip_len hC S
 obtain ⟨⟨n1,n2⟩,⟨n3,n4⟩,⟨n5,n6⟩,n7,n8⟩:=hC.num
 have h0:0<C.g.b.toNat*C.g.p.toNat*szP C.g:=Nat.mul_pos (Nat.mul_pos (by omega) (by omega)) (by omega)
 rcases (S.own 1 rfl).at_ with ⟨_,_,h⟩ | ⟨b,cs,h,_⟩
 ·have:=congrArg List.length h
  rw [List.length_map,imgC_len hC,List.length_nil] at this
  omega
 ·exact ⟨b,h⟩
theorem refused_c {bl pa:Int} {n:Nat} (hC:COk C) (hi:inC C bl pa) (S0:Sep E w0 w (ChipQ p y C L Rs)) :
  CallV Tryz.prog 94 #[.pointer (some ⟨p,0,none⟩),.agg #[.int .i64 bl,.int .i64 pa],.int .i64 ((ixC C bl pa:Nat):Int),.int .i64 (n:Int)] w [.one (.int .i64)] λr w'=>
   r.1=(if n≠szP C.g then 2 else if (blkC C bl).sc=true\/2<=usC C bl pa then 7 else if usC C bl pa=0/\pa<=(blkC C bl).la then 6 else (0:Int))/\Ext w w':=by
 apply nand_Chip_refused.vc
 unfold nand_Chip_refused.P
 simp only [Addr.add_lit,Nat.zero_add]
 obtain ⟨⟨n1,n2⟩,⟨n3,n4⟩,⟨n5,n6⟩,n7,n8⟩:=hC.num
 obtain ⟨l1,l1',l2,l2',l3,l4,l5,-⟩:=chip_len hC S0
 obtain ⟨i1,i2,-⟩:=hC.ix hi
 have T:=Sep.start NoB w
 refine T.newB λb1 w1 T f1 _=>?_
 have S0:=S0.stepE T.ext
 refine S0.ld0 (j:=6) rfl rfl (cond_ne (λh=>⟨by rw [if_pos (by omega)],T.ext⟩) λh=>?_)
 rw [if_neg (by omega)]
 refine T.reg λD hD hkeep T _=>?_
 have S1:=S0.drew
 have hs:(0:Int)<=bl/\bl<(y.S.n:Int):=by rw [l4];have:=hi.1;omega
 have hu:(0:Int)<=((ixC C bl pa:Nat):Int)/\((ixC C bl pa:Nat):Int)<(y.U.n:Int):=by rw [l2];omega
 have ha:(0:Int)<=bl/\bl<(y.A.n:Int):=by rw [l3];have:=hi.1;omega
 refine ⟨hD _ S0.bl0,S1.ld0 (j:=10) rfl rfl ⟨hD _ T.bl0,T.ld0 (j:=0) rfl rfl ((S0.ints 4 rfl).idxD (Ext.drew _) hs.1 hs.2 hD ?_)⟩⟩
 rw [scL_get hC hi.1]
 refine cond_d (λhg=>?_) (λhg=>?_)
 ·have hsc:(blkC C bl).sc=true:=by
   unfold scI at hg
   by_cases h:(blkC C bl).sc=true
   ·exact h
   ·rw [if_neg h] at hg;omega
  exact ⟨by rw [if_pos (.inl hsc)],T.ext⟩
 have hsc:¬ (blkC C bl).sc=true:=λh=>hg (by unfold scI;rw [if_pos h];decide)
 refine ⟨hD _ S0.bl0,S1.ld0 (j:=8) rfl rfl ((S0.ints 2 rfl).idxD (Ext.drew _) hu.1 hu.2 hD ?_)⟩
 rw [Int.toNat_natCast,usL_get hC hi]
 refine cond_d (λhg=>⟨by rw [if_pos (.inr hg)],T.ext⟩) (λhg2=>?_)
 rw [if_neg (λh=>h.elim hsc hg2)]
 refine T.reg λD2 hD2 hkeep2 T2 _=>?_
 have S2:=S1.drew
 refine ⟨hD2 _ S1.bl0,S2.ld0 (j:=8) rfl rfl ((S1.ints 2 rfl).idxD (Ext.drew _) hu.1 hu.2 hD2 ?_)⟩
 rw [Int.toNat_natCast,usL_get hC hi]
 refine cond_eq (λh0=>?_) (λh0=>⟨by rw [if_neg (λh=>h0 h.1)],T2.ext⟩)
 refine ⟨hD2 _ T.bl0,T2.ld0 (j:=1) rfl rfl ⟨hD2 _ S1.bl0,S2.ld0 (j:=9) rfl rfl ⟨hD2 _ T.bl0,T2.ld0 (j:=0) rfl rfl ((S1.ints 3 rfl).idxD (Ext.drew _) ha.1 ha.2 hD2 ?_)⟩⟩⟩
 rw [laL_get hC hi.1]
 exact cond_d (λh=>⟨by rw [if_pos ⟨h0,h⟩],T2.ext⟩) (λh=>⟨by rw [if_neg (λk=>h k.2)],T2.ext⟩)
theorem Geometry_c (S:Sep E w0 w (BoxA p 136 (chipV y C)::Rs)) :
  CallV Tryz.prog 29 #[.pointer (some ⟨p,0,none⟩)] w [.agg [.int .i64,.int .i64,.int .i64,.int .i64,.int .i64,.int .i64]] λr w'=>r.1=C.g.tup/\Ext w w':=by
 apply nand_Chip_Geometry.vc
 unfold nand_Chip_Geometry.P
 have T:=Sep.start NoB w
 refine T.newB λb1 w1 T f1 _=>?_
 have S:=S.stepE T.ext
 refine S.lb0 (o:=0) rfl (T.st0 (by rfl) λw2 T f2=>T.la0 rfl ?_)
 exact ⟨rfl,T.ext⟩
theorem page_ints {bl pa:Int} {blk:Nat} (hC:COk C) (hi:inC C bl pa) (hP:y.P.a=some ⟨blk,0,none⟩) (S:Sep E w0 w (ChipQ p y C L Rs)):Ints w .u8 (some ⟨blk,ixC C bl pa*szP C.g,none⟩) (szP C.g) (szP C.g) (pgC13 C bl pa):=by
 have hI:=S.ints 1 rfl
 obtain ⟨l1,l1',-⟩:=chip_len hC S
 obtain ⟨pre,post,h1,h2,-⟩:=imgC_split hC hi
 have hp:=(hC.page hi).2.1
 have i2:=(hC.ix hi).2.1
 have m1:(ixC C bl pa+1)*szP C.g<=C.g.b.toNat*C.g.p.toNat*szP C.g:=Nat.mul_le_mul_right _ i2
 rw [Nat.add_mul,Nat.one_mul] at m1
 obtain ⟨-,-,-,n7,-⟩:=hC.num
 have:=hI.sub (l:=ixC C bl pa*szP C.g) (hh:=ixC C bl pa*szP C.g+szP C.g) (m:=ixC C bl pa*szP C.g+szP C.g) (by omega) (by omega) (Nat.le_refl _) (a':=some ⟨blk,ixC C bl pa*szP C.g,none⟩) (by
  rw [if_neg (by omega),hP]
  show some _=some ((⟨blk,0,none⟩:Addr).add _)
  simp [Addr.add_lit])
 rw [h1,<- h2,List.drop_append_of_le_length (Nat.le_refl _),List.drop_length,List.nil_append,Nat.add_sub_cancel_left] at this
 rw [<-hp,List.take_append_of_le_length (by omega),List.take_length,hp] at this
 rw [h2] at this
 exact this
def readC (C:CD) (bl pa:Int):Int:=if C.off=true then 4 else if inC C bl pa then 0 else 2
theorem Read13_c {bl pa:Int} (hC:COk C) (S:Sep E w0 w (ChipQ p y C L Rs)) :
  CallV Tryz.prog 70 #[.pointer (some ⟨p,0,none⟩),.agg #[.int .i64 bl,.int .i64 pa]] w [.one .sl,.one (.int .i64)] λr w'=>
   r.2.1=readC C bl pa/\(readC C bl pa≠0->r.1=(⟨none,0,0⟩:SlV)/\Ext w w')/\(readC C bl pa=0->Res w w' r.1 (pgC13 C bl pa)):=by
 apply nand_Chip_Read.vc
 unfold nand_Chip_Read.P readC
 have T:=Sep.start NoB w
 refine T.newB λb1 w1 T f1 _=>?_
 have S:=S.stepE T.ext
 refine (On_c hC S).mono ?_
 rintro ⟨(r:Bool),⟨⟩⟩ w2 ⟨h2,rfl⟩
 dsimp only at h2 ⊢
 subst h2
 by_cases ho:C.off=true
 ·rw [if_pos ho,ho]
  exact cond_t rfl ⟨rfl,λ_=>⟨rfl,T.ext⟩,λh=>by cases h⟩
 rw [if_neg ho]
 refine cond_f (by simpa using ho) ?_
 refine T.reg λD hD hkeep T _=>?_
 have S1:=S.drew
 refine ⟨hD _ S.bl0,S1.lb0 (o:=0) rfl ⟨hD _ T.bl0,T.la0 rfl ?_⟩⟩
 refine (Index_c (g:=C.g) (b:=bl) (p:=pa)).mono ?_
 rintro ⟨(ix:Int),(e:Int),⟨⟩⟩ w3 ⟨h3,h3',x3⟩
 dsimp only at h3 h3' ⊢
 have S3:=S1.stepE x3
 have T3:=(Sep.start NoB _).stepE x3
 refine ⟨hkeep _ T3.fr,?_⟩
 have T:=T.stepE x3
 by_cases hi:inC C bl pa
 case neg=>
  rw [if_neg (λh=>hi h.2)] at h3'
  subst h3'
  rw [if_neg hi]
  exact cond_t rfl ⟨rfl,λ_=>⟨rfl,T.ext⟩,λh=>by cases h⟩
 have hok:plOk C.g bl pa:=⟨hC.g,hi⟩
 rw [if_pos hok] at h3 h3'
 obtain ⟨i1,i2,-⟩:=hC.ix hi
 rw [<-i1] at h3
 subst h3;subst h3'
 rw [if_pos hi]
 refine cond_f rfl (T.newB λb10 w11 T f11 _=>?_)
 have X:Ext w3 w11:=Fr.ext f11
 have S4:=S3.stepE X
 obtain ⟨blk,hP⟩:=chip_adr hC S4
 obtain ⟨l1,l1',-⟩:=chip_len hC S4
 refine (page_c (k:=ixC C bl pa) hC i2 hP (by omega) S4).mono ?_
 rintro ⟨⟨ra,rn,rc⟩,⟨⟩⟩ w13 ⟨h13,x13⟩
 cases h13
 dsimp only
 have T:=(T.stepE x13).asOwn (sz:=1) (n:=0) rfl (by omega) oneAll.nil
 have I:=page_ints hC hi hP (S4.stepE x13)
 obtain ⟨-,-,⟨n5,n6⟩,n7,-⟩:=hC.num
 refine T.ab0 (xs:=[]) I (by omega) λa' c' w' T f'=>⟨rfl,λh=>absurd rfl h,λ_=>?_⟩
 exact T.out
end
theorem map_set_same {α β:Type} {f:α->β} {l:List α} {i:Nat} {x y:α} (hi:l[i]? = some x) (h:f y=f x):(l.set i y).map f=l.map f:=by
 rw [List.map_set,h]
 refine List.ext_getElem? λj=>?_
 rw [List.getElem?_set]
 split
 ·rename_i e
  subst e
  split
  ·rw [List.getElem?_map,hi];rfl
  ·rename_i hh
   rw [List.length_map] at hh
   exact absurd (List.getElem?_eq_some_iff.1 hi).1 hh
 ·rfl
theorem BOk.up {g:Geo} {m m':Nat} {x:BD} (h:BOk g m x) (hm:m<=m'):BOk g m' x:=⟨h.pl,h.pb,h.ul,h.ub,h.la,h.er.1,by have:=h.er.2;omega⟩
theorem COk.upd {C:CD} (h:COk C) {i:Nat} {y:BD} {off:Bool} {ops:Nat} {tr:List (Int×Int)} (ho:C.ops<=ops) (ho2:ops<=1000000000000) (hy:BOk C.g ops y):COk {C with bs:=C.bs.set i y,off:=off,ops:=ops,tr:=tr}:=
 ⟨h.g,h.lg,by show (C.bs.set i y).length=_;rw [List.length_set];exact h.bl,λx hx=>by
  rcases List.mem_or_eq_of_mem_set hx with h1 | h1
  ·exact (h.bo x h1).up ho
  ·rw [h1];exact hy,h.pm,ho2⟩
theorem pg_set_ok {C:CD} (h:COk C) {bl pa:Int} (hi:inC C bl pa) {q:List Int} (hq:q.length=szP C.g/\Byt q):((blkC C bl).pg.set pa.toNat q).length=C.g.p.toNat/\∀ z∈(blkC C bl).pg.set pa.toNat q,z.length=szP C.g/\Byt z:=by
 obtain ⟨-,hb⟩:=h.blk hi.1
 refine ⟨by rw [List.length_set];exact hb.pl,λz hz=>?_⟩
 rcases List.mem_or_eq_of_mem_set hz with h1 | h1
 ·exact hb.pb z h1
 ·rw [h1];exact hq
theorem chip_mk {E:Nat->Prop} {w0 w:World} {p:Nat} {y:Lay} {C:CD} {L:List TOp} {Rs:List Asr} {i1 i2 i3 i4 i5:List Int}
  (S:Sep E w0 w (BoxA p 136 (chipV y C)::OwnA 5 1 y.P.a y.P.n y.P.c (bv8 i1)::OwnA 3 1 y.U.a y.U.n y.U.c (iv i2)::OwnA 3 1 y.A.a y.A.n y.A.c (iv i3)::
   OwnA 3 1 y.S.a y.S.n y.S.c (iv i4)::OwnA 3 1 y.E.a y.E.n y.E.c (iv i5)::RdT LF y.F::OwnA 227 5 y.T.a C.ops y.T.c (L.flatMap TOp.vs)::RdL (L.map (·.d))::Rs))
  (h1:imgC C=i1) (h2:usL C=i2) (h3:laL C=i3) (h4:scL C=i4) (h5:erL C=i5):Sep E w0 w (ChipQ p y C L Rs):=by
 subst h1;subst h2;subst h3;subst h4;subst h5;exact S
def newX (C:CD) (whole:List Int) (torn:FD->List Int):List Int:=match atF C.pl (C.ops:Int) with | none=>whole | some f=>torn f
abbrev upT (y:Lay) (ta:Option Addr) (tc:Nat):Lay:={y with T:=⟨ta,0,tc⟩}
def DoneR (F:Nat->Prop) (w w':World) (p:Nat) (y:Lay) (C:CD) (L:List TOp) (ds dS:List (SlP Int)) (blk:Nat) (eb:TypeId) (pre post:List Value) (xs':List Int) (op:Int×Int×Int×List Int×Int):Prop:=
 ∃ (ta:Option Addr) (tc:Nat) (o:TOp),o.dat=op/\Sep F w w' [BoxA p 136 (chipV (upT y ta tc) {C with off:=(codeC C).2.2,ops:=C.ops+1}),BoxA blk eb (pre++(bv8 xs'++post)),RdT LF y.F,OwnA 227 5 ta (C.ops+1) tc ((L++[o]).flatMap TOp.vs),RdL (ds++[o.d]),RdL dS]
theorem ap56 {n:Nat} (h:n<=1000000000000):(2*(n+1)+256)*56<=281474976710656:=by omega
theorem ap63' {n:Nat} (h:n<=1000000000000):n+1<=9223372036854775807:=by omega
theorem done_c {F:Nat->Prop} {w:World} {p:Nat} {y:Lay} {C:CD} {L:List TOp} {ds:List (SlP Int)} {dd:SlP Int} {dS:List (SlP Int)} {blk o:Nat} {eb:TypeId} {pre post:List Value} {xs whole:List Int} {torn:FD->List Int} {k bl pa:Int} {n5 c5:Nat} {f1 f2:FuncId} {c1 c2:Array Value}
  (hF:fds y.F=C.pl) (hm:mFit C.pl) (hops:C.ops<=1000000000000) (hof:C.off=false) (ho:o=pre.length) (hdn:dd.n<=1000000) (hn5:n5=xs.length) (hw:whole.length=xs.length) (ht:∀ f,(torn f).length=xs.length)
  (hf1:okf f1=true) (hf2:okf f2=true)
  (h1:∀ w',Ext w w'->CallV Tryz.prog f1 ((#[]:Array Value).toList++([]++c1.toList)).toArray w' [.one .sl] λr w2=>Ints w2 .u8 r.1.a r.1.n r.1.c whole/\Ext w' w2)
  (h2:∀ w' (f:FD) (s:SlV),Ext w w'->atF C.pl (C.ops:Int)=some f->Ints w' .u8 s.a s.n s.c f.2.2.1->CallV Tryz.prog f2 ((#[]:Array Value).toList++((([.agg #[.int .i64 f.1,.bool f.2.1,.slice s.a s.n s.c]]:List Value))++c2.toList)).toArray w' [.one .sl] λr w2=>Ints w2 .u8 r.1.a r.1.n r.1.c (torn f)/\Ext w' w2)
  (S:Sep F w w [BoxA p 136 (chipV y C),BoxA blk eb (pre++(bv8 xs++post)),RdT LF y.F,OwnA 227 5 y.T.a C.ops y.T.c (L.flatMap TOp.vs),RdL ds,RdL dS]) (hdS:dd∈dS:=by simp) :
  CallV Tryz.prog 100 #[.pointer (some ⟨p,0,none⟩),.int .i64 k,.agg #[.int .i64 bl,.int .i64 pa],.slice dd.a dd.n dd.c,.agg #[.func (.func f1) #[] c1,.func (.func f2) #[] c2],.slice (some ⟨blk,o,none⟩) n5 c5] w [.one (.int .i64)] λr w'=>
   r.1=(codeC C).1/\DoneR F w w' p y C L ds dS blk eb pre post (newX C whole torn) (k,bl,pa,dd.l,(codeC C).1):=by
 apply nand_Chip_done.vc (p4_0:=(f1,#[],c1)) (p4_1:=(f2,#[],c2))
 unfold nand_Chip_done.P
 simp only [Addr.add_lit,Nat.zero_add]
 refine S.newB λb1 w1 S f1' _=>?_
 refine S.newB λb3 w3 S f3' _=>?_
 have X3:Ext w w3:=Fr.ext (f1'.trans f3')
 refine ⟨λ(v:Option Addr×Bool×Unit) w'=>∃ (b:Nat) (s:SlV) (f0:Int) (fb:Bool),v.1=some ⟨b,0,none⟩/\Ext w w'/\(match atF C.pl (C.ops:Int) with | none=>v.2.1=false | some f=>v.2.1=true/\f0=f.1/\fb=f.2.1/\Ints w' .u8 s.a s.n s.c f.2.2.1) /\
  Sep F w w' [BoxA b 187 [.int .i64 f0,.bool fb,.slice s.a s.n s.c],BoxA b3 205 [.func (.func f1) #[] c1,.func (.func f2) #[] c2],BoxA b1 57 [.int .i64 bl,.int .i64 pa],BoxA p 136 (chipV y C),BoxA blk eb (pre++(bv8 xs++post)),RdT LF y.F,OwnA 227 5 y.T.a C.ops y.T.c (L.flatMap TOp.vs),RdL ds,RdL dS],?_,?_⟩
 case refine_2=>
  refine S.reg λD hD hkeep S1 T=>?_
  have X1:Ext w w3.drew:=X3.trans (Ext.drew _)
  have hLF:=rdT_get S1 4 rfl
  have hmF:mFit (fds y.F):=by rw [hF];exact hm
  refine ⟨hD _ S.bl2,S1.ld2 (j:=12) rfl rfl ⟨hD _ S.bl2,S1.ld2 (j:=14) rfl rfl ⟨?_,?_⟩⟩⟩
  ·refine (At_c (n:=(C.ops:Int)) hLF hmF).mono ?_
   rintro ⟨⟨(f0:Int),(fb:Bool),⟨sa,sn,sc⟩,⟨⟩⟩,(ok:Bool),⟨⟩⟩ w5 ⟨x5,h5⟩
   have T:=T.stepE x5
   refine ⟨hkeep _ T.fr,T.newB λb w6 T f6 _=>⟨hkeep _ T.fr,T.st0 (by rfl) λw7 T f7=>⟨hkeep _ T.fr,b,⟨sa,sn,sc⟩,f0,fb,rfl,X1.trans T.ext,?_,S1.frame0 T⟩⟩⟩
   rw [hF] at h5
   have e7:Ext w5 w7:=Fr.ext (f6.trans' f7 λk hk=>.inr (by omega))
   cases hat:atF C.pl (C.ops:Int) with
   | none=>rw [hat] at h5;exact h5.1
   | some f=>rw [hat] at h5;exact ⟨h5.1,h5.2.1,h5.2.2.1,h5.2.2.2.ints.ext e7⟩
  ·refine T.newB λb w6 T f6 _=>⟨hkeep _ T.fr,?_⟩
   refine (At_c (n:=(C.ops:Int)) (Ty.rd_ext T.ext _ hLF) hmF).mono ?_
   rintro ⟨⟨(f0:Int),(fb:Bool),⟨sa,sn,sc⟩,⟨⟩⟩,(ok:Bool),⟨⟩⟩ w5 ⟨x5,h5⟩
   have hbb:=T.bl0
   have T:=T.stepE x5
   refine ⟨hkeep _ T.fr,T.st0 (by rfl) λw7 T f7=>⟨hkeep _ T.fr,b,⟨sa,sn,sc⟩,f0,fb,rfl,X1.trans T.ext,?_,S1.frame0 T⟩⟩
   rw [hF] at h5
   cases hat:atF C.pl (C.ops:Int) with
   | none=>rw [hat] at h5;exact h5.1
   | some f=>
    rw [hat] at h5
    refine ⟨h5.1,h5.2.1,h5.2.2.1,?_⟩
    have own:=h5.2.2.2.own
    exact (own.other λq hq=>f7.block _ (own.lt q hq) (by have:=own.ge q hq;omega)).ints
 rintro ⟨v1,(v2:Bool),⟨⟩⟩ w7 ⟨b,s,f0,fb,hv,X7,hat,S⟩
 dsimp only at hv hat ⊢
 subst hv
 have hlx:xs.length<=9223372036854775807\/True:=.inr trivial
 have oneB:∀ l:List Int,oneAll (bv8 l):=λl=>oneAll.ints _ _
 refine ⟨λ(v:Int×Unit) w'=>v.1=(codeC C).1/\Sep F w w' [BoxA b1 57 [.int .i64 bl,.int .i64 pa],BoxA p 136 (chipV y {C with off:=(codeC C).2.2}),BoxA blk eb (pre++(bv8 (newX C whole torn)++post)),RdT LF y.F,OwnA 227 5 y.T.a C.ops y.T.c (L.flatMap TOp.vs),RdL ds,RdL dS],?_,?_⟩
 case refine_2=>
  cases hatc:atF C.pl (C.ops:Int) with
  | none=>
   rw [hatc] at hat
   dsimp only at hat
   have hcode:codeC C=(0,[],false):=by unfold codeC;rw [hatc]
   have hnew:newX C whole torn=whole:=by unfold newX;rw [hatc]
   refine cond_t (by rw [hat];rfl) (S.ld1 (j:=0) rfl rfl (cond_t hf1 ?_))
   refine (h1 w7 X7).mono ?_
   rintro ⟨⟨ra,rn,rc⟩,⟨⟩⟩ w8 ⟨i8,x8⟩
   dsimp only at i8 ⊢
   have S:=S.stepE x8
   have ln:=i8.len
   refine S.cpM 4 (news:=bv8 whole) rfl ho (by rw [List.length_map];show min rn n5=_;omega) (by rw [List.length_map,List.length_map,hw]) i8.rd (oneB _) λw9 S f9=>⟨?_,?_⟩
   ·rw [hcode]
   ·rw [hnew,hcode,<- hof]
    exact S.sel [2,2,2,2,2,2,2] rfl
  | some f=>
   rw [hatc] at hat
   obtain ⟨k1,k2,k3,k4⟩:=hat
   have hnew:newX C whole torn=torn f:=by unfold newX;rw [hatc]
   have hcode:codeC C=(if f.2.1 then 4 else 5,f.2.2.1,f.2.1):=by unfold codeC;rw [hatc]
   subst k2;subst k3
   refine cond_f (by rw [k1];rfl) (PtrK.of rfl (S.ld0 (j:=1) rfl rfl ?_))
   refine cond_of (λhfb=>?_) (λhfb=>?_)
   ·refine S.ld1 (j:=1) rfl rfl (PtrK.of rfl (S.la0 rfl (cond_t hf2 ?_)))
    refine (h2 w7 f s X7 hatc k4).mono ?_
    rintro ⟨⟨ra,rn,rc⟩,⟨⟩⟩ w8 ⟨i8,x8⟩
    dsimp only at i8 ⊢
    have S:=S.stepE x8
    have ln:=i8.len
    have htf:=ht f
    refine S.cpM 4 (news:=bv8 (torn f)) rfl ho (by rw [List.length_map];show min rn n5=_;omega) (by rw [List.length_map,List.length_map,htf]) i8.rd (oneB _) λw9 S f9=>?_
    refine S.su3 (j:=13) (by rfl) λw10 S f10=>⟨?_,?_⟩
    ·rw [hcode,hfb];rfl
    ·rw [hnew,hcode,hfb]
     exact S.sel [2,2,2,2,2,2,2] rfl
   ·refine S.ld1 (j:=1) rfl rfl (PtrK.of rfl (S.la0 rfl (cond_t hf2 ?_)))
    refine (h2 w7 f s X7 hatc k4).mono ?_
    rintro ⟨⟨ra,rn,rc⟩,⟨⟩⟩ w8 ⟨i8,x8⟩
    dsimp only at i8 ⊢
    have S:=S.stepE x8
    have ln:=i8.len
    have htf:=ht f
    refine S.cpM 4 (news:=bv8 (torn f)) rfl ho (by rw [List.length_map];show min rn n5=_;omega) (by rw [List.length_map,List.length_map,htf]) i8.rd (oneB _) λw9 S f9=>⟨?_,?_⟩
    ·rw [hcode,hfb];rfl
    ·rw [hnew,hcode,hfb,<- hof]
     exact S.sel [2,2,2,2,2,2,2] rfl
 rintro ⟨e,⟨⟩⟩ w10 ⟨he,S⟩
 dsimp only at he ⊢
 subst he
 refine ⟨λ(_:Unit) w'=>DoneR F w w' p y C L ds dS blk eb pre post (newX C whole torn) (k,bl,pa,dd.l,(codeC C).1),λ_ w13 h=>⟨rfl,h⟩,?_⟩
 have hne:=S.ne 0 1 (by decide) rfl rfl
 have hnt:=S.neO 0 4 (by decide) rfl rfl
 refine S.regX (λk=>k=p\/∃ q:Addr,y.T.a=some q/\k=q.block) λD hD hkeep S T=>?_
 have d1:dd.n<=1000000:=hdn
 have hid:Ints w10.drew .u8 dd.a dd.n dd.c dd.l/\Byt dd.l:=by
  obtain ⟨F1,h,_⟩:=S.get (i:=6) rfl
  have:=h dd hdS
  exact ⟨Ty.ints this,Ty.byt this⟩
 have k0:=hkeep _ (Fr.refl _ _)
 refine ⟨hD _ S.bl0 (λh=>h.elim (λh=>hne h) λ⟨q,hq,h⟩=>hnt q hq h),S.la0 rfl ?_⟩
 dsimp only
 have fin:∀ {w5:World} {b24:Nat} {a:Option Addr} {c:Nat},Sep NoB w10.drew w5 [BoxA b24 227 [.int .i64 k,.int .i64 bl,.int .i64 pa,.slice a (0+dd.n) c,.int .i64 (codeC C).1],OwnA 5 1 a (0+dd.n) c (([]++dd.l).map (Value.int .u8))] ->
   AppS w5 (some ⟨b24,0,none⟩) 1 5 λns=>AppV w5 227 5 56 y.T.a C.ops y.T.c ns 1 λa26 n27 c28 w29=>KeepOn D w10.drew w29/\StoreV w29 ⟨p,14,none⟩ [.slice a26 n27 c28] λw31=>KeepOn D w10.drew w31/\DoneR F w w31 p y C L ds dS blk eb pre post (newX C whole torn) (k,bl,pa,dd.l,(codeC C).1):=by
  intro w5 b24 a c T
  have S:=S.frame0 T
  dsimp only [List.cons_append,List.nil_append] at S
  refine AppS.of (news:=TOp.vs ⟨k,bl,pa,⟨a,0+dd.n,c,dd.l⟩,(codeC C).1⟩) rfl (.inr ⟨_,rfl,S.cells 0 rfl⟩) ?_
  refine S.ap6 (by rfl) (TOp.one _) (ap56 hops) (ap63' hops) λa26 c28 w29 S f29=>?_
  have g29:Fr (λk=>k=p\/∃ q:Addr,y.T.a=some q/\k=q.block) w10.drew w29:=T.fr.any.trans (f29.mono λk hk=>.inr hk)
  refine ⟨hkeep _ g29,S.su3 (j:=14) (by rfl) λw31 S f31=>⟨hkeep _ (g29.trans (f31.mono λk hk=>.inl hk)),a26,c28,⟨k,bl,pa,⟨a,0+dd.n,c,dd.l⟩,(codeC C).1⟩,rfl,?_⟩⟩
  have S:=((S.sel [1,6,2,2,2,2,2] rfl).addL hid.2).sel [1,1,1,1,0,0] rfl
  rw [List.flatMap_append]
  exact S
 have lT:Sep NoB w10.drew w10.drew []:=T
 refine ⟨?_,?_⟩
 ·refine S.ld1 (j:=14) rfl rfl ⟨k0,T.newB λb17 w18 T f18 _=>⟨hkeep _ T.fr.any,?_⟩⟩
  have T:=T.asOwn (sz:=1) (n:=0) rfl (by omega) oneAll.nil
  refine T.ab0 (xs:=[]) (hid.1.ext T.ext) (by omega) λa c w22 T f22=>⟨hkeep _ T.fr.any,T.newB λb24 w25 T f25 _=>⟨hkeep _ T.fr.any,fin T⟩⟩
 ·refine T.newB λb17 w18 T f18 _=>⟨hkeep _ T.fr.any,?_⟩
  have hk18:=hkeep _ T.fr.any
  have T:=T.asOwn (sz:=1) (n:=0) rfl (by omega) oneAll.nil
  refine ⟨?_,?_⟩
  ·refine (S.stepE T.ext).ld1 (j:=14) rfl rfl ⟨hk18,?_⟩
   refine T.ab0 (xs:=[]) (hid.1.ext T.ext) (by omega) λa c w22 T f22=>⟨hkeep _ T.fr.any,T.newB λb24 w25 T f25 _=>⟨hkeep _ T.fr.any,fin T⟩⟩
  ·refine T.ab0 (xs:=[]) (hid.1.ext T.ext) (by omega) λa c w22 T f22=>⟨hkeep _ T.fr.any,?_⟩
   have hk22:=hkeep _ T.fr.any
   refine ⟨?_,?_⟩
   ·refine (S.stepE T.ext).ld1 (j:=14) rfl rfl ⟨hk22,?_⟩
    exact T.newB λb24 w25 T f25 _=>⟨hkeep _ T.fr.any,fin T⟩
   ·refine T.newB λb24 w25 T f25 _=>⟨hkeep _ T.fr.any,?_⟩
    have hk25:=hkeep _ T.fr.any
    refine (S.stepE T.ext).ld1 (j:=14) rfl rfl ⟨hk25,?_⟩
    dsimp only
    exact fin T
theorem nilU {w:World}:Ints w .u8 none 0 0 []:=⟨rfl,Nat.le_refl _,by omega,.inl ⟨rfl,rfl⟩⟩
theorem hasL_whole {xs ys:List Int} (bx:Byt xs) (by':Byt ys) {n i:Nat} (hl:xs.length=n) (hi:i<8*n):hasL (andL xs ys) i=if prC xs ys i then false else hasL xs i:=by
 rw [hasL_and bx by' (by omega)]
 unfold prC
 cases hasL xs i <;> cases hasL ys i <;> rfl
theorem clear_whole {xs ys:List Int} (bx:Byt xs) (by':Byt ys) {n:Nat} (hl:xs.length=n):turn xs (prF xs ys [] false n) (8*n)=andL xs ys:=by
 refine bits_ext (turn_byt bx _ _) (andL_byt _ _) (by rw [turn_length,andL_length]) λi hi=>?_
 rw [turn_length] at hi
 rw [hasL_turn bx _ hi (8*n) (by omega),hasL_whole bx by' hl (by omega)]
 have hF:prF xs ys [] false n i=prC xs ys i:=by
  unfold prF
  have:mBit [] i=true:=rfl
  rw [this]
  cases prC xs ys i <;> rfl
 rw [hF]
 by_cases h:prC xs ys i=true
 ·rw [if_pos ⟨by omega,h⟩,if_pos h]
  have:hasL xs i=true:=by
   unfold prC at h
   cases hh:hasL xs i
   ·rw [hh] at h;simp at h
   ·rfl
  rw [this];rfl
 ·rw [if_neg (λhh=>h hh.2),if_neg h]
theorem img_focus {E:Nat->Prop} {w0 w:World} {Rs:List Asr} {a:Option Addr} {n c:Nat} {pre mid post:List Int} (S:Sep E w0 w (OwnA 5 1 a n c (bv8 (pre++(mid++post)))::Rs)) (hm:mid≠[]) :
  ∃ blk tl,a=some ⟨blk,0,none⟩/\Sep E w0 w (BoxA blk 5 (bv8 pre++(bv8 mid++(bv8 post++tl)))::Rs) /\
   ∀ (E':Nat->Prop) (w0' w':World) (Rs':List Asr) (mid':List Int),mid'.length=mid.length->Sep E' w0' w' (BoxA blk 5 (bv8 pre++(bv8 mid'++(bv8 post++tl)))::Rs')->Sep E' w0' w' (OwnA 5 1 a n c (bv8 (pre++(mid'++post)))::Rs'):=by
 obtain ⟨blk,tl,ha,q1,q2,q3,q4,q5,S1⟩:=S.focus (by
  intro h
  have:=congrArg List.length h
  rw [List.length_map,List.length_append,List.length_append,List.length_nil] at this
  have:mid.length=0:=by omega
  exact hm (List.eq_nil_of_length_eq_zero this))
 have e:∀ m:List Int,bv8 pre++(bv8 m++(bv8 post++tl))=bv8 (pre++(m++post))++tl:=λm=>by simp [bv8,List.append_assoc]
 refine ⟨blk,tl,ha,by rw [e];exact S1,λE' w0' w' Rs' mid' hl S'=>?_⟩
 rw [e] at S'
 subst ha
 have hlen:(bv8 (pre++(mid'++post))).length=(bv8 (pre++(mid++post))).length:=by simp [bv8,hl]
 exact S'.unfocus (n:=n) (c:=c) (sz:=1) (by rw [hlen];exact q1) (by rw [List.length_append,hlen,<- List.length_append];exact q2) q3 q4 (oneAll.ints _ _)
section
variable {E:Nat->Prop} {w0 w:World} {Rs:List Asr} {q0 q1:Nat} {e0 e1:TypeId} {s t:SlV} {was b:List Int}
theorem Prog1_c (S:Sep E w0 w (BoxA q0 e0 [.slice s.a s.n s.c]::BoxA q1 e1 [.slice t.a t.n t.c]::Rs)) (hs:Ints w .u8 s.a s.n s.c was) (ht:Ints w .u8 t.a t.n t.c b) (bs:Byt was) (bt:Byt b) (hn:t.n=s.n) (hn2:s.n<=100000) :
  CallV Tryz.prog 96 #[.pointer (some ⟨q0,0,none⟩),.pointer (some ⟨q1,0,none⟩)] w [.one .sl] λr w'=>Ints w' .u8 r.1.a r.1.n r.1.c (andL was b)/\Ext w w':=by
 apply nand_Chip_Program_1.vc
 unfold nand_Chip_Program_1.P
 obtain ⟨ta,tn,tc⟩:=t
 dsimp only at hn ht
 subst hn
 refine S.ld0 rfl rfl (S.ld1 rfl rfl ?_)
 refine (Clear_c hs bs ht bt nilU Byt.nil hn2).mono ?_
 rintro ⟨r1,(r2:Int),⟨⟩⟩ w' ⟨h1,-⟩
 dsimp only at h1 ⊢
 rw [clear_whole bs bt hs.len] at h1
 exact ⟨h1.ints,h1.ext⟩
theorem Prog2_c {f:FD} {m:SlV} (S:Sep E w0 w (BoxA q0 e0 [.slice s.a s.n s.c]::BoxA q1 e1 [.slice t.a t.n t.c]::Rs)) (hs:Ints w .u8 s.a s.n s.c was) (ht:Ints w .u8 t.a t.n t.c b) (hm:Ints w .u8 m.a m.n m.c f.2.2.1) (bs:Byt was) (bt:Byt b) (bm:Byt f.2.2.1) (hn:t.n=s.n) (hn2:s.n<=100000) :
  CallV Tryz.prog 98 #[.agg #[.int .i64 f.1,.bool f.2.1,.slice m.a m.n m.c],.pointer (some ⟨q0,0,none⟩),.pointer (some ⟨q1,0,none⟩)] w [.one .sl] λr w'=>Ints w' .u8 r.1.a r.1.n r.1.c (progL was b f.2.2.1 (!f.2.1))/\Ext w w':=by
 apply nand_Chip_Program_2.vc
 unfold nand_Chip_Program_2.P
 obtain ⟨ta,tn,tc⟩:=t
 dsimp only at hn ht
 subst hn
 have T:=Sep.start NoB w
 refine T.newB λb1 w1 T f1 _=>?_
 have X:=T.ext
 have S:=S.stepE X
 refine S.ld0 rfl rfl (S.ld1 rfl rfl (T.ld0 rfl rfl ?_))
 refine (Clear_c (hs.ext X) bs (ht.ext X) bt (hm.ext X) bm hn2).mono ?_
 rintro ⟨r1,(r2:Int),⟨⟩⟩ w2 ⟨h1,-⟩
 dsimp only at h1 ⊢
 have T:=T.stepE h1.ext
 have X2:=T.ext
 have S:=S.stepE h1.ext
 refine T.ld0 rfl rfl (cond_of (λhc=>?_) λhc=>?_)
 ·refine S.ld0 rfl rfl (S.ld1 rfl rfl (T.ld0 rfl rfl ?_))
  refine (Fail_c (hs.ext X2) bs (ht.ext X2) bt (hm.ext X2) bm hn2).mono ?_
  rintro ⟨r3,(r4:Int),⟨⟩⟩ w3 ⟨h3,-⟩
  dsimp only at h3 ⊢
  refine ⟨?_,X2.trans h3.ext⟩
  have:=h3.ints
  unfold progL
  rw [hc,hs.len]
  exact this
 ·refine ⟨?_,X2⟩
  have:=h1.ints
  unfold progL
  rw [hc,hs.len]
  exact this
end
theorem turn_len (xs:List Int) (f:Nat->Bool):∀ n,(turn xs f n).length=xs.length
 | 0=>rfl
 | n+1=>by
  unfold turn
  split
  ·unfold flip1;rw [List.length_set];exact turn_len xs f n
  ·exact turn_len xs f n
theorem atF_byt {C:CD} (h:COk C) {f:FD} {n:Int} (hf:atF C.pl n=some f):Byt f.2.2.1:=(h.pm f (List.mem_of_find?_eq_some hf)).1
theorem COk.mfit {C:CD} (h:COk C):mFit C.pl:=λf hf=>(h.pm f hf).2
def OpR (F:Nat->Prop) (w w':World) (p:Nat) (y:Lay) (C':CD) (L:List TOp) (tr:List (Int×Int×Int×List Int×Int)) (Rs:List Asr):Prop:=
 ∃ (ta:Option Addr) (tc:Nat) (L':List TOp),L'.map TOp.dat=L.map TOp.dat++tr/\Sep F w w' (ChipQ p (upT y ta tc) C' L' Rs)
theorem OpR.none {F:Nat->Prop} {w w':World} {p:Nat} {y:Lay} {C:CD} {L:List TOp} {Rs:List Asr} (S:Sep F w w' (ChipQ p y C L Rs)):OpR F w w' p y C L [] Rs:=⟨y.T.a,y.T.c,L,by simp,S⟩
theorem refC_eq {C:CD} {bl pa:Int} {n:Nat} (ho:¬ C.off=true) (hi:inC C bl pa):refC C bl pa n=if n≠szP C.g then 2 else if (blkC C bl).sc=true\/2<=usC C bl pa then 7 else if usC C bl pa=0/\pa<=(blkC C bl).la then 6 else (0:Int):=by
 unfold refC
 rw [if_neg ho]
 by_cases hn:n=szP C.g
 ·rw [if_neg (show ¬ ¬ (inC C bl pa/\n=szP C.g) from λh=>h ⟨hi,hn⟩),if_neg (show ¬ n≠szP C.g from λh=>h hn)]
 ·rw [if_pos (show ¬ (inC C bl pa/\n=szP C.g) from λh=>hn h.2),if_pos hn]
def ProgS (F:Nat->Prop) (w w':World) (p:Nat) (y:Lay) (C:CD) (L:List TOp) (dd:SlP Int) (dS:List (SlP Int)) (bl pa:Int) (blk b18 b3 b1:Nat):Prop:=
 Sep F w w' [BoxA b18 26 [.slice (some ⟨blk,ixC C bl pa*szP C.g,none⟩) (szP C.g) (szP C.g)],BoxA b3 26 [.slice dd.a dd.n dd.c],BoxA b1 57 [.int .i64 bl,.int .i64 pa],BoxA p 136 (chipV y C),OwnA 5 1 y.P.a y.P.n y.P.c (bv8 (imgC C)),
  OwnA 3 1 y.U.a y.U.n y.U.c (iv ((usL C).set (ixC C bl pa) (usC C bl pa+1))),OwnA 3 1 y.A.a y.A.n y.A.c (iv ((laL C).set bl.toNat (max (blkC C bl).la pa))),OwnA 3 1 y.S.a y.S.n y.S.c (iv (scL C)),OwnA 3 1 y.E.a y.E.n y.E.c (iv (erL C)),RdT LF y.F,OwnA 227 5 y.T.a C.ops y.T.c (L.flatMap TOp.vs),RdL (L.map (·.d)),RdL dS]
theorem iv_set (l:List Int) (i:Nat) (v:Int):(iv l).set i (.int .i64 v)=iv (l.set i v):=(List.map_set).symm
theorem Program13_c {F:Nat->Prop} {w:World} {p:Nat} {y:Lay} {C:CD} {L:List TOp} {dd:SlP Int} {dS:List (SlP Int)} {bl pa:Int} (hC:COk C) (hF:fds y.F=C.pl) (hdn:dd.n<=100000) (S:Sep F w w (ChipQ p y C L [RdL dS])) (hdS:dd∈dS:=by simp) :
  CallV Tryz.prog 61 #[.pointer (some ⟨p,0,none⟩),.agg #[.int .i64 bl,.int .i64 pa],.slice dd.a dd.n dd.c] w [.one (.int .i64)] λr w'=>
   r.1=(progC C bl pa dd.l).2/\OpR F w w' p y (progC C bl pa dd.l).1 L (if refC C bl pa dd.l.length=0 then [(1,bl,pa,dd.l,(codeC C).1)] else []) [RdL dS]:=by
 have hdl:dd.l.length=dd.n:=by
  obtain ⟨F1,h,_⟩:=S.get (i:=9) rfl
  exact (Ty.ints (h dd hdS)).len
 have bdd:Byt dd.l:=by
  obtain ⟨F1,h,_⟩:=S.get (i:=9) rfl
  exact Ty.byt (h dd hdS)
 have no:∀ {w':World} {e:Int},refC C bl pa dd.l.length=e->e≠0->Sep F w w' (ChipQ p y C L [RdL dS])->e=(progC C bl pa dd.l).2/\OpR F w w' p y (progC C bl pa dd.l).1 L (if refC C bl pa dd.l.length=0 then [(1,bl,pa,dd.l,(codeC C).1)] else []) [RdL dS]:=λhe h0 S=>by
  unfold progC
  rw [he,if_neg h0,if_neg h0]
  exact ⟨rfl,.none S⟩
 apply nand_Chip_Program.vc
 unfold nand_Chip_Program.P
 refine S.newB λb1 w1 S f1 _=>?_
 refine S.newB λb3 w3 S f3 _=>?_
 refine (On_c hC (S.sel [2] rfl)).mono ?_
 rintro ⟨(r:Bool),⟨⟩⟩ w4 ⟨h4,rfl⟩
 dsimp only at h4 ⊢
 subst h4
 by_cases ho:C.off=true
 ·rw [ho]
  refine cond_t rfl (no (by unfold refC;rw [if_pos ho]) (by decide) (S.sel [2,2,2,2,2,2,2,2,2,2] rfl))
 refine cond_f (by simpa using ho) ?_
 refine S.reg λD hD hkeep S1 T=>?_
 refine ⟨hD _ S.bl2,S1.lb2 (o:=0) rfl ⟨hD _ S.bl1,S1.la1 rfl ?_⟩⟩
 refine (Index_c (g:=C.g) (b:=bl) (p:=pa)).mono ?_
 rintro ⟨(ix:Int),(e:Int),⟨⟩⟩ w5 ⟨h5,h5',x5⟩
 dsimp only at h5 h5' ⊢
 have T3:=T.stepE x5
 refine ⟨hkeep _ T3.fr,?_⟩
 have S:=S1.stepE x5
 clear S1 T T3 hkeep hD
 by_cases hi:inC C bl pa
 case neg=>
  rw [if_neg (λh=>hi h.2)] at h5'
  subst h5'
  refine cond_t rfl (no (by unfold refC;rw [if_neg ho,if_pos (λh=>hi h.1)]) (by decide) (S.sel [2,2,2,2,2,2,2,2,2,2] rfl))
 have hok:plOk C.g bl pa:=⟨hC.g,hi⟩
 rw [if_pos hok] at h5 h5'
 obtain ⟨i1,i2,i3⟩:=hC.ix hi
 rw [<-i1] at h5
 subst h5;subst h5'
 refine cond_f rfl (S.la1 rfl (S.ld0 rfl rfl ?_))
 refine (refused_c (n:=dd.n) hC hi (S.sel [2,2,2,2,2,2,2,2,2,2] rfl)).mono ?_
 rintro ⟨(e:Int),⟨⟩⟩ w6 ⟨h6,x6⟩
 dsimp only at h6 ⊢
 rw [<-refC_eq ho hi,<- hdl] at h6
 subst h6
 have S:=S.stepE x6
 refine cond_ne (λh=>no rfl h (S.sel [2,2,2,2,2,2,2,2,2,2] rfl)) λhref=>?_
 have hSC:=S.sel [2,2,2,2,2,2,2,2,2,2] rfl
 obtain ⟨blk,hP⟩:=chip_adr hC hSC
 obtain ⟨l1,l1',l2,l2',l3,l4,l5,l6⟩:=chip_len hC hSC
 obtain ⟨⟨n1,n2⟩,⟨n3,n4⟩,⟨n5,n6⟩,n7,n8⟩:=hC.num
 have hdz:dd.n=szP C.g:=by
  rw [refC_eq ho hi,hdl] at href
  by_cases h:dd.n=szP C.g
  ·exact h
  ·rw [if_pos h] at href;cases href
 have hu2:0<=usC C bl pa/\usC C bl pa<2:=by
  rw [refC_eq ho hi,hdl,if_neg (λh=>h hdz)] at href
  have:=(hC.us hi).2
  by_cases h:(blkC C bl).sc=true\/2<=usC C bl pa
  ·rw [if_pos h] at href;cases href
  ·refine ⟨this.1,?_⟩
   have:¬ 2<=usC C bl pa:=λk=>h (.inr k)
   omega
 refine (page_c (k:=ixC C bl pa) hC i2 hP (by omega) hSC).mono ?_
 rintro ⟨⟨ra,rn,rc⟩,⟨⟩⟩ w7 ⟨h7,x7⟩
 cases h7
 dsimp only
 have S:=S.stepE x7
 refine S.newB λb18 w8 S f8 _=>?_
 refine S.st0 (by rfl) λw9 S f9=>?_
 simp only [Addr.add_lit,Nat.zero_add]
 have hu:(0:Int)<=((ixC C bl pa:Nat):Int)/\((ixC C bl pa:Nat):Int)<(y.U.n:Int):=by rw [l2];omega
 have ha:(0:Int)<=bl/\bl<(y.A.n:Int):=by rw [l3];have:=hi.1;omega
 refine S.ld3 (j:=8) rfl rfl ((S.ints 5 rfl).idx hu.1 hu.2 ?_)
 have eU:(usL C).getD (((ixC C bl pa:Nat):Int)).toNat 0=usC C bl pa:=by rw [Int.toNat_natCast];exact usL_get hC hi
 rw [eU]
 refine ⟨Rng.i64 (by omega) (by omega),?_⟩
 refine S.put (i:=5) rfl hu.1 hu.2 (v:=.int .i64 (usC C bl pa+1)) rfl λw10 S f10=>?_
 rw [Int.toNat_natCast] at S
 dsimp only [List.set_cons_succ,List.set_cons_zero] at S
 rw [iv_set] at S
 refine ⟨λ(_:Unit) w'=>ProgS F w w' p y C L dd dS bl pa blk b18 b3 b1,?_,?_⟩
 case refine_2=>
  have hnA:=S.neO 2 6 (by decide) rfl rfl
  have hnp:=S.neO 3 6 (by decide) rfl rfl
  refine S.regX (λk=>∃ q:Addr,y.A.a=some q/\k=q.block) λD hD hkeep S T=>?_
  have hb1:D b1:=hD _ S.bl2 (λ⟨q,hq,h⟩=>hnA q hq h)
  have k0:=hkeep _ (Fr.refl _ _)
  have hI:=S.ints 6 rfl
  obtain ⟨q,hq,hqb,hcell⟩:=hI.at ha.1 ha.2
  rw [laL_get hC hi.1] at hcell
  have fin:(0<=bl/\bl<(y.A.n:Int))/\∃ q:Addr,y.A.a=some q/\StoreV w10.drew (q.add (bl.toNat*1)) [.int .i64 (max (blkC C bl).la pa)] λw44=>KeepOn D w10.drew w44/\ProgS F w w44 p y C L dd dS bl pa blk b18 b3 b1:=S.put (i:=6) rfl ha.1 ha.2 (v:=.int .i64 (max (blkC C bl).la pa)) rfl λw44 S f44=>⟨hkeep _ f44,(by
   dsimp only [List.set_cons_succ,List.set_cons_zero] at S
   rw [iv_set] at S
   exact S)⟩
  refine ⟨hb1,S.ld2 (j:=0) rfl rfl ⟨hb1,S.ld2 (j:=0) rfl rfl ⟨hb1,S.ld2 (j:=1) rfl rfl ⟨?_,?_⟩⟩⟩⟩
  ·refine S.ld3 (j:=9) rfl rfl ⟨k0,S.ld3 (j:=9) rfl rfl ⟨k0,ha,q,hq,(blkC C bl).la,hcell,k0,?_⟩⟩
   intro z hz
   subst hz
   exact fin
  ·refine S.ld3 (j:=9) rfl rfl ⟨k0,ha,q,hq,?_,?_⟩
   ·refine S.ld3 (j:=9) rfl rfl ⟨k0,(blkC C bl).la,hcell,k0,?_⟩
    intro z hz
    subst hz
    exact fin
   ·refine ⟨(blkC C bl).la,hcell,k0,?_⟩
    intro z hz
    subst hz
    exact S.ld3 (j:=9) rfl rfl ⟨k0,fin⟩
 rintro ⟨⟩ w11 S
 unfold ProgS at S
 refine S.la2 rfl (S.ld1 rfl rfl (S.ld0 rfl rfl ?_))
 dsimp only
 obtain ⟨pre,post,g1,g2,g3⟩:=imgC_split hC hi
 have hlp:=(hC.page hi).2.1
 have hbp:=(hC.page hi).2.2
 have hbl:=hC.blk hi.1
 rw [g1] at S
 have hne:pgC13 C bl pa≠[]:=λh=>by rw [h] at hlp;simp at hlp;omega
 obtain ⟨blk2,tl,ha2,S2,back⟩:=img_focus (S.sel [4,3,7,7,7,7,0,0,0,0,0,0,0] rfl) hne
 rw [hP] at ha2
 cases ha2
 have hol:ixC C bl pa*szP C.g=(bv8 pre).length:=by rw [List.length_map,g2]
 have hI:Ints w11 .u8 (some ⟨blk,ixC C bl pa*szP C.g,none⟩) (szP C.g) (szP C.g) (pgC13 C bl pa):=S2.intsM 0 rfl hol hlp.symm (Nat.le_refl _) (by omega)
 have hdI:Ints w11 .u8 dd.a dd.n dd.c dd.l:=by
  obtain ⟨F1,h,_⟩:=S2.get (i:=5) rfl
  exact Ty.ints (h dd hdS)
 have hcap:=S2.sel [6,6] rfl
 have hlA:(andL (pgC13 C bl pa) dd.l).length=(pgC13 C bl pa).length:=by simp [andL]
 refine Sep.call [BoxA p 136 (chipV y C),BoxA blk 5 (bv8 pre++(bv8 (pgC13 C bl pa)++(bv8 post++tl))),RdT LF y.F,OwnA 227 5 y.T.a C.ops y.T.c (L.flatMap TOp.vs),RdL (L.map (·.d)),RdL dS] (Ts:=_) (S2.sel [1,0,0,0,0,0,0,0,0,0,0,0,0] rfl)
  (λF S=>done_c (whole:=andL (pgC13 C bl pa) dd.l) (torn:=λf=>progL (pgC13 C bl pa) dd.l f.2.2.1 (!f.2.1)) hF hC.mfit hC.ops (by simpa using ho) hol (by omega) hlp.symm hlA (λf=>by unfold progL;rw [turn_len]) (by kernel_rfl) (by kernel_rfl)
   (λw' x'=>Prog1_c (s:=⟨some ⟨blk,ixC C bl pa*szP C.g,none⟩,szP C.g,szP C.g⟩) (t:=⟨dd.a,dd.n,dd.c⟩) (hcap.stepE x') (hI.ext x') (hdI.ext x') hbp bdd hdz (by dsimp only;omega))
   (λw' f s x' hat hm=>Prog2_c (f:=f) (m:=s) (s:=⟨some ⟨blk,ixC C bl pa*szP C.g,none⟩,szP C.g,szP C.g⟩) (t:=⟨dd.a,dd.n,dd.c⟩) (hcap.stepE x') (hI.ext x') (hdI.ext x') hm hbp bdd (atF_byt hC hat) hdz (by dsimp only;omega)) S hdS) ?_
 rintro F2 bk ⟨(e:Int),⟨⟩⟩ w12 ⟨h12,ta,tc,oo,hoo,S3⟩
 dsimp only at h12 ⊢
 subst h12
 have S4:=bk _ _ S3
 have hnew:newX C (andL (pgC13 C bl pa) dd.l) (λf=>progL (pgC13 C bl pa) dd.l f.2.2.1 (!f.2.1))=if (codeC C).1=0 then andL (pgC13 C bl pa) dd.l else progL (pgC13 C bl pa) dd.l (codeC C).2.1 (!(codeC C).2.2):=by
  unfold newX codeC
  cases atF C.pl (C.ops:Int) with
  | none=>rfl
  | some f=>
   dsimp only
   rw [if_neg]
   split <;> omega
 rw [hnew] at S4
 have hlq:(if (codeC C).1=0 then andL (pgC13 C bl pa) dd.l else progL (pgC13 C bl pa) dd.l (codeC C).2.1 (!(codeC C).2.2)).length=(pgC13 C bl pa).length:=by
  split
  ·exact hlA
  ·unfold progL;rw [turn_len]
 have S5:=(back _ _ _ _ _ hlq (S4.sel [1,0,0,0,0,0,3,3,3,3] rfl)).sel [1,0,4,4,4,4,0,0,0,0] rfl
 unfold progC
 rw [if_pos href,if_pos href]
 refine ⟨rfl,ta,tc,L++[oo],by rw [List.map_append,List.map_singleton,hoo],?_⟩
 have hlt:bl.toNat<C.bs.length:=by rw [hC.bl];have:=hi.1;omega
 have e1:=g3 (if (codeC C).1=0 then andL (pgC13 C bl pa) dd.l else progL (pgC13 C bl pa) dd.l (codeC C).2.1 (!(codeC C).2.2)) (progX C bl pa dd.l) (by
  unfold progX
  dsimp only
  rw [List.getD_eq_getElem?_getD,List.getElem?_set_self hlt]
  rfl)
 have e2:usL (progX C bl pa dd.l)=(usL C).set (ixC C bl pa) (usC C bl pa+1):=fl_put (m:=C.g.p.toNat) (λx hx=>(hC.bo x hx).ul) hbl.1 (by have:=hi.2;omega) rfl
 have e3:laL (progX C bl pa dd.l)=(laL C).set bl.toNat (max (blkC C bl).la pa):=List.map_set
 have e4:scL (progX C bl pa dd.l)=scL C:=map_set_same hbl.1 rfl
 have e5:erL (progX C bl pa dd.l)=erL C:=map_set_same hbl.1 rfl
 have e6:(L++[oo]).map (·.d)=L.map (·.d)++[oo.d]:=List.map_append
 refine chip_mk (y:=upT y ta tc) (C:=progX C bl pa dd.l) (L:=L++[oo]) (Rs:=[RdL dS]) ?_ e1 e2 e3 e4 e5
 rw [e6]
 exact S5
theorem progX_ok {C:CD} (hC:COk C) {bl pa:Int} {b:List Int} (hr:refC C bl pa b.length=0) (bb:Byt b) (ho:C.ops<1000000000000):COk (progX C bl pa b):=by
 have hoff:¬ C.off=true:=λh=>by unfold refC at hr;rw [if_pos h] at hr;cases hr
 have hi:inC C bl pa:=by
  unfold refC at hr
  rw [if_neg hoff] at hr
  by_cases h:inC C bl pa/\b.length=szP C.g
  ·exact h.1
  ·rw [if_pos h] at hr;cases hr
 have hb:=(hC.blk hi.1).2
 obtain ⟨hp1,hp2,hp3⟩:=hC.page hi
 have hus:=(hC.us hi).2
 have hu2:usC C bl pa<2:=by
  rw [refC_eq hoff hi] at hr
  by_cases hn:b.length≠szP C.g
  ·rw [if_pos hn] at hr;cases hr
  rw [if_neg hn] at hr
  by_cases h:(blkC C bl).sc=true\/2<=usC C bl pa
  ·rw [if_pos h] at hr;cases hr
  ·have:¬ 2<=usC C bl pa:=λk=>h (.inr k)
   omega
 have hnew:∀ q:List Int,(q=andL (pgC13 C bl pa) b\/∃ ms fl,q=progL (pgC13 C bl pa) b ms fl)->q.length=szP C.g/\Byt q:=λq hq=>by
  rcases hq with rfl | ⟨ms,fl,rfl⟩
  ·exact ⟨by rw [<-hp2];simp [andL],andL_byt _ _⟩
  ·exact ⟨by unfold progL;rw [turn_len];exact hp2,turn_byt hp3 _ _⟩
 have hq:=pg_set_ok hC hi (hnew (if (codeC C).1=0 then andL (pgC13 C bl pa) b else progL (pgC13 C bl pa) b (codeC C).2.1 (!(codeC C).2.2)) (by
  split
  ·exact .inl rfl
  ·exact .inr ⟨_,_,rfl⟩))
 have hpa:=hi.2
 refine hC.upd (by omega) (by omega) ⟨hq.1,hq.2,by dsimp only;rw [List.length_set];exact hb.ul,λu hu=>?_,?_,hb.er.1,by dsimp only;have:=hb.er.2;omega⟩
 ·rcases List.mem_or_eq_of_mem_set hu with h | h
  ·exact hb.ub u h
  ·rw [h];omega
 ·have:=hb.la
  dsimp only
  omega
theorem rep_flat (n:Nat) (v:Value):(List.replicate n [v]).flatten=List.replicate n v:=by
 induction n with
 | zero=>rfl
 | succ n ih=>rw [List.replicate_succ,List.flatten_cons,ih];rfl
theorem CopyR.part {w w':World} {y:SlP TF.T} {l:List FD} (h:CopyR w w' y l):Sep NoB w w' [RdT LF y]:=
 (Sep.start NoB w).push (F:=λk=>w.heap.size<=k/\k<w'.heap.size) (.of h.ext) (LF.rd_mono (λk h1 h2=>⟨h1,h2⟩) h.rd) λk hk=>hk
theorem flat_rep {α β:Type} (n:Nat) (x:α) (f:α->List β):(List.replicate n x).flatMap f=(List.replicate n (f x)).flatten:=by
 induction n with
 | zero=>rfl
 | succ n ih=>rw [List.replicate_succ,List.flatMap_cons,ih,List.replicate_succ,List.flatten_cons]
theorem newC_img (g:Geo) (pl:List FD):imgC (newC g pl)=List.replicate (g.b.toNat*(g.p.toNat*szP g)) 255:=by
 unfold imgC newC blankB
 dsimp only
 rw [flat_rep,List.flatten_replicate_replicate,List.flatten_replicate_replicate]
theorem newC_us (g:Geo) (pl:List FD):usL (newC g pl)=List.replicate (g.b.toNat*g.p.toNat) 0:=by
 unfold usL newC blankB
 dsimp only
 rw [flat_rep,List.flatten_replicate_replicate]
theorem newC_la (g:Geo) (pl:List FD):laL (newC g pl)=List.replicate g.b.toNat (-1):=by unfold laL newC blankB;exact List.map_replicate
theorem newC_sc (g:Geo) (pl:List FD):scL (newC g pl)=List.replicate g.b.toNat 0:=by unfold scL newC blankB;exact List.map_replicate
theorem newC_er (g:Geo) (pl:List FD):erL (newC g pl)=List.replicate g.b.toNat 0:=by unfold erL newC blankB;exact List.map_replicate
abbrev newV (g:Geo) (P U A S E:SlV) (f:SlP TF.T):List Value:=[.int .i64 g.b,.int .i64 g.p,.int .i64 g.s,.int .i64 g.sp,.int .i64 g.wr,.int .i64 g.ro,.int .i64 (g.s+88),.slice P.a P.n P.c,.slice U.a U.n U.c,.slice A.a A.n A.c,.slice S.a S.n S.c,.slice E.a E.n E.c,.slice f.a f.n f.c,.bool false,.slice none 0 0]
abbrev nilS:SlV:=⟨none,0,0⟩
abbrev boxS (b n:Nat):SlV:=⟨some ⟨b,0,none⟩,n,n⟩
theorem rep_iv (n:Nat) (v:Int):(List.replicate n [Value.int .i64 v]).flatten=iv (List.replicate n v):=by rw [rep_flat,iv,List.map_replicate]
theorem rep_bv (n:Nat) (v:Int):(List.replicate n [Value.int .u8 v]).flatten=bv8 (List.replicate n v):=by rw [rep_flat,bv8,List.map_replicate]
theorem New13_c {w:World} {g:Geo} {x:SlP TF.T} {G:Nat->Prop} (hx:LF.rd w G x) (hm:mFit (fds x)) :
  CallV Tryz.prog 21 #[g.val,.slice x.a x.n x.c] w [.one .ptr,.one (.int .i64)] λr w'=>Ext w w'/\(¬ (Right g/\FRight (fds x))->r.1=none/\r.2.1=(2:Int)) /\
   (Right g/\FRight (fds x)->r.2.1=(0:Int)/\∃ (p:Nat) (y:Lay),r.1=some (⟨p,0,none⟩:Addr)/\fds y.F=fds x/\Sep NoB w w' (ChipP p y (newC g (fds x)) [])):=by
 apply nand_New.vc
 unfold nand_New.P
 have no:∀ {w':World},¬ (Right g/\FRight (fds x))->Ext w w'->(Ext w w'/\(¬ (Right g/\FRight (fds x))->(none:Option Addr)=none/\(2:Int)=(2:Int)) /\
   (Right g/\FRight (fds x)->(2:Int)=(0:Int)/\∃ (p:Nat) (y:Lay),(none:Option Addr)=some (⟨p,0,none⟩:Addr)/\fds y.F=fds x/\Sep NoB w w' (ChipP p y (newC g (fds x)) []))):=λh e=>⟨e,λ_=>⟨rfl,rfl⟩,λk=>absurd k h⟩
 have S:=Sep.start NoB w
 refine S.newB λb1 w1 S f1 _=>?_
 (repeat ((first | refine S.newB λ_ _ S f _=>?_ | refine S.la0 rfl ?_ | refine S.la1 rfl ?_ | refine S.la2 rfl ?_ | refine S.la3 rfl ?_ | refine S.la4 rfl ?_ | refine S.la5 rfl ?_ | refine S.ld0 rfl rfl ?_ | refine S.ld1 rfl rfl ?_ | refine S.ld2 rfl rfl ?_ | refine S.ld3 rfl rfl ?_ | refine S.ld4 rfl rfl ?_ | refine S.ld5 rfl rfl ?_ | refine S.st0 (by rfl) λ_ S f=>?_ | refine S.st1 (by rfl) λ_ S f=>?_ | refine S.st2 (by rfl) λ_ S f=>?_ | refine S.st3 (by rfl) λ_ S f=>?_ | refine S.st4 (by rfl) λ_ S f=>?_ | refine S.st5 (by rfl) λ_ S f=>?_ | refine S.su0 (by rfl) λ_ S f=>?_ | refine S.su1 (by rfl) λ_ S f=>?_ | refine S.su2 (by rfl) λ_ S f=>?_ | refine S.su3 (by rfl) λ_ S f=>?_ | refine S.su4 (by rfl) λ_ S f=>?_ | refine S.su5 (by rfl) λ_ S f=>?_ | refine ⟨by decide,?_⟩);try dsimp only [List.set_cons_zero,List.set_cons_succ,cond_true,cond_false,Bool.not_true,Bool.not_false]))
 refine (Check_c (g:=g)).mono ?_
 rintro ⟨(r:Int),⟨⟩⟩ w2 ⟨h2,e2⟩
 dsimp only at h2 ⊢
 subst h2
 have S:=S.stepE e2
 by_cases hR:Right g
 case neg=>exact cond_t (by unfold chkE;rw [if_neg hR];rfl) (no (λh=>hR h.1) S.ext)
 refine cond_f (by unfold chkE;rw [if_pos hR];rfl) ?_
 refine (FCheck_c (Ty.rd_ext S.ext _ hx)).mono ?_
 rintro ⟨(r:Int),⟨⟩⟩ w3 ⟨h3,e3⟩
 dsimp only at h3 ⊢
 subst h3
 have S:=S.stepE e3
 by_cases hF:FRight (fds x)
 case neg=>exact cond_t (by rw [if_neg hF];rfl) (no (λh=>hF h.2) S.ext)
 refine cond_f (by rw [if_pos hF];rfl) ?_
 have hxn:x.n<=1000:=by have:=hF.2;rw [LF_len hx] at this;omega
 refine S.reg λD hD hkeep S T=>?_
 refine ⟨hD _ S.bl0,S.la0 rfl ⟨hD _ S.bl0,S.la0 rfl ?_⟩⟩
 refine (PageSize_c (g:=g)).mono ?_
 rintro ⟨(sz:Int),⟨⟩⟩ w4 ⟨h4,e4⟩
 dsimp only at h4 ⊢
 rw [if_pos hR] at h4
 subst h4
 have T:=T.stepE e4
 refine ⟨hkeep _ T.fr,?_⟩
 refine (Copy_c (Ty.rd_ext (S.ext.trans T.ext) _ hx) hm hxn).mono ?_
 rintro ⟨_,⟨⟩⟩ w5 ⟨yf,hyf,hcp⟩
 dsimp only at hyf
 subst hyf
 have T:=T.frame0 hcp.part
 dsimp only [List.cons_append,List.nil_append] at T
 refine ⟨hkeep _ T.fr,T.newB λb15 w6 T f6 _=>⟨hkeep _ T.fr,?_⟩⟩
 have S:=S.frame0 T
 dsimp only [List.cons_append,List.nil_append] at S
 clear T hkeep hD
 have hK:=hR.1
 unfold Kept at hK
 have hnat:∃ B P Z:Nat,g.b=(B:Int)/\g.p=(P:Int)/\g.s+88=(Z:Int)/\g.b.toNat=B/\g.p.toNat=P/\szP g=Z/\B<=64/\P<=32/\Z<=4184:=⟨g.b.toNat,g.p.toNat,(g.s+88).toNat,by omega,by omega,by omega,rfl,rfl,rfl,by omega,by omega,by omega⟩
 obtain ⟨B,P,Z,hB,hP,hZ,hB',hP',hZ',bB,bP,bZ⟩:=hnat
 have m1:B*P<=64*32:=Nat.mul_le_mul bB bP
 have m2:B*P*Z<=64*32*4184:=Nat.mul_le_mul m1 bZ
 have v1:g.b*g.p=((B*P:Nat):Int):=by rw [hB,hP];push_cast;rfl
 have v2:(g.b*g.p)*(g.s+88)=((B*P*Z:Nat):Int):=by rw [v1,hZ];push_cast;rfl
 have hne:=S.ne 0 2 (by decide) rfl rfl
 refine S.regX (λk=>k=b15) λD hD hkeep S T=>?_
 refine ⟨hD _ S.bl2 (λh=>hne h.symm),S.ld2 (j:=0) rfl rfl ⟨hD _ S.bl2 (λh=>hne h.symm),S.ld2 (j:=1) rfl rfl ⟨by rw [v1];exact Rng.i64 (by omega) (by omega),S.ld0 (j:=6) rfl rfl ⟨hkeep _ (Fr.refl _ _),by rw [v2];exact Rng.i64 (by omega) (by omega),⟨by rw [v2];omega,Int.le_refl _,by rw [v2];omega,by rw [v2];omega⟩,?_⟩⟩⟩⟩
 rw [v2,Int.toNat_natCast]
 refine S.newB λb21 w7 S f7 _=>⟨hkeep _ f7.any,?_⟩
 refine S.su1 (j:=7) (by rfl) λw8 S f8=>⟨hkeep _ (f7.any.trans f8),?_⟩
 clear hkeep hD T
 rw [rep_bv] at S
 have S:=S.asOwn (sz:=1) (n:=B*P*Z) (by rw [List.length_map,List.length_replicate,Nat.mul_one]) (by omega) (oneAll.ints _ _)
 refine S.ld1 (j:=7) rfl rfl ?_
 dsimp only
 refine Loop1 (λ(v:Int×Unit) w'=>∃ (i:Nat) (xs:List Int),v.1=(i:Int)/\i<=B*P*Z/\xs.length=B*P*Z/\(∀ j,j<i->xs[j]? = some 255)/\Sep NoB w w' [OwnA 5 1 (some ⟨b21,0,none⟩) (B*P*Z) (B*P*Z) (bv8 xs),BoxA b15 136 (newV g (boxS b21 (B*P*Z)) nilS nilS nilS nilS yf),RdT LF yf,BoxA b1 23 g.vs])
  (λ(v:Int×Unit) _=>(((B*P*Z:Nat):Int)-v.1).toNat) ⟨0,_,rfl,by omega,by rw [List.length_replicate],λj hj=>by omega,S⟩ ?_
 rintro ⟨(z:Int),⟨⟩⟩ w9 ⟨i,xs,hz,hi,hl,hxs,S⟩
 dsimp only at hz ⊢
 subst hz
 refine cond_d (λhlt=>?_) (λhge=>?_)
 ·refine S.ld1 (j:=7) rfl rfl ?_
  refine S.put (i:=0) rfl (by omega) hlt (v:=.int .u8 255) rfl λw10 S f10=>?_
  refine ⟨Rng.i64 (by omega) (by omega),⟨i+1,xs.set i 255,by push_cast;rfl,by omega,by rw [List.length_set];exact hl,λj hj=>?_,?_⟩,by omega⟩
  ·rw [List.getElem?_set]
   split
   ·rw [if_pos (by omega)]
   ·exact hxs j (by omega)
  ·rw [Int.toNat_natCast] at S
   rw [bv8,List.map_set]
   exact S
 have hxe:xs=List.replicate (B*P*Z) 255:=List.ext_getElem? λj=>by
  by_cases hj:j<B*P*Z
  ·rw [hxs j (by omega),List.getElem?_replicate,if_pos hj]
  ·rw [List.getElem?_eq_none (by omega),List.getElem?_eq_none (by rw [List.length_replicate];omega)]
 subst hxe
 clear hxs hl hi hge
 refine S.ld3 (j:=0) rfl rfl (S.ld3 (j:=1) rfl rfl ⟨by rw [v1];exact Rng.i64 (by omega) (by omega),⟨by rw [v1];omega,Int.le_refl _,by rw [v1];omega,by rw [v1];omega⟩,?_⟩)
 rw [v1,Int.toNat_natCast]
 refine S.newB λb33 w11 S f11 _=>?_
 refine S.su2 (j:=8) (by rfl) λw12 S f12=>?_
 rw [rep_iv] at S
 have S:=S.asOwn (sz:=1) (n:=B*P) (by rw [List.length_map,List.length_replicate,Nat.mul_one]) (by omega) (oneAll.ints _ _)
 refine ⟨λ(_:Unit) w'=>∃ b39 b41,Sep NoB w w' [BoxA b15 136 (newV g (boxS b21 (B*P*Z)) (boxS b33 (B*P)) nilS (boxS b39 B) (boxS b41 B) yf),OwnA 5 1 (some ⟨b21,0,none⟩) (B*P*Z) (B*P*Z) (bv8 (List.replicate (B*P*Z) 255)),OwnA 3 1 (some ⟨b33,0,none⟩) (B*P) (B*P) (iv (List.replicate (B*P) 0)),
  OwnA 3 1 (some ⟨b39,0,none⟩) B B (iv (List.replicate B 0)),OwnA 3 1 (some ⟨b41,0,none⟩) B B (iv (List.replicate B 0)),RdT LF yf,BoxA b1 23 g.vs],?_,?_⟩
 case refine_2=>
  have hne:=S.ne 2 4 (by decide) rfl rfl
  refine S.regX (λk=>k=b15) λD hD hkeep S T=>?_
  have hb1:D b1:=hD _ S.bl4 (λh=>hne h.symm)
  refine ⟨hb1,S.ld4 (j:=0) rfl rfl ⟨hb1,S.ld4 (j:=0) rfl rfl ?_⟩⟩
  rw [hB,Int.toNat_natCast]
  have hbd:(0:Int)<=(B:Int)/\(B:Int)<=(B:Int)/\(B:Int)<=9223372036854775807/\8*(B:Int)<=140737488355328:=⟨by omega,by omega,by omega,by omega⟩
  have fin:∀ {w':World} {ba bb:Nat},Sep NoB w w' [BoxA ba 3 (List.replicate B [Value.int .i64 0]).flatten,BoxA bb 3 (List.replicate B [Value.int .i64 0]).flatten,OwnA 3 1 (some ⟨b33,0,none⟩) (B*P) (B*P) (iv (List.replicate (B*P) 0)),OwnA 5 1 (some ⟨b21,0,none⟩) (B*P*Z) (B*P*Z) (bv8 (List.replicate (B*P*Z) 255)),
    BoxA b15 136 (newV g (boxS b21 (B*P*Z)) (boxS b33 (B*P)) nilS (boxS ba B) (boxS bb B) yf),RdT LF yf,BoxA b1 23 g.vs] ->
    ∃ b39 b41,Sep NoB w w' [BoxA b15 136 (newV g (boxS b21 (B*P*Z)) (boxS b33 (B*P)) nilS (boxS b39 B) (boxS b41 B) yf),OwnA 5 1 (some ⟨b21,0,none⟩) (B*P*Z) (B*P*Z) (bv8 (List.replicate (B*P*Z) 255)),OwnA 3 1 (some ⟨b33,0,none⟩) (B*P) (B*P) (iv (List.replicate (B*P) 0)),
     OwnA 3 1 (some ⟨b39,0,none⟩) B B (iv (List.replicate B 0)),OwnA 3 1 (some ⟨b41,0,none⟩) B B (iv (List.replicate B 0)),RdT LF yf,BoxA b1 23 g.vs]:=λ{w' ba bb} S=>by
   rw [rep_iv] at S
   have S:=S.asOwn (sz:=1) (n:=B) (by rw [List.length_map,List.length_replicate,Nat.mul_one]) (by omega) (oneAll.ints _ _)
   have S:=(S.sel [1,0,0,0,0,0,0] rfl).asOwn (sz:=1) (n:=B) (by rw [List.length_map,List.length_replicate,Nat.mul_one]) (by omega) (oneAll.ints _ _)
   exact ⟨ba,bb,S.sel [4,3,2,1,0,0,0] rfl⟩
  refine ⟨⟨hbd,S.newB λb55 w14 S f14 _=>⟨hkeep _ f14.any,⟨hbd,S.newB λb57 w15 S f15 _=>?_⟩,?_⟩⟩,hbd,S.newB λb65 w14 S f14 _=>⟨hkeep _ f14.any,hbd,S.newB λb67 w15 S f15 _=>?_⟩⟩
  ·have h15:=(f14.trans f15).any (E:=λk=>k=b15)
   refine ⟨hkeep _ h15,S.su4 (j:=10) (by rfl) λw16 S f16=>⟨hkeep _ (h15.trans f16),S.su4 (j:=11) (by rfl) λw17 S f17=>⟨hkeep _ ((h15.trans f16).trans f17),fin (ba:=b55) (bb:=b57) (S.sel [1,0,0,0,0,0,0] rfl)⟩⟩⟩
  ·have h14:=f14.any (E:=λk=>k=b15)
   refine S.su3 (j:=10) (by rfl) λw16 S f16=>⟨hkeep _ (h14.trans f16),hbd,S.newB λb62 w17 S f17 _=>?_⟩
   have h17:=(h14.trans f16).trans f17.any
   exact ⟨hkeep _ h17,S.su4 (j:=11) (by rfl) λw18 S f18=>⟨hkeep _ (h17.trans f18),fin (ba:=b55) (bb:=b62) (S.sel [1,0,0,0,0,0,0] rfl)⟩⟩
  ·have h15:=(f14.trans f15).any (E:=λk=>k=b15)
   refine ⟨hkeep _ h15,S.su4 (j:=10) (by rfl) λw16 S f16=>⟨hkeep _ (h15.trans f16),S.su4 (j:=11) (by rfl) λw17 S f17=>⟨hkeep _ ((h15.trans f16).trans f17),fin (ba:=b67) (bb:=b65) (S.sel [0,0,0,0,0,0,0] rfl)⟩⟩⟩
 rintro ⟨⟩ w13 ⟨b39,b41,S⟩
 refine S.ld6 (j:=0) rfl rfl ?_
 rw [hB]
 have S:=S.nilOwn 3 1
 refine Loop1 (λ(v:Int×Unit) w'=>∃ (i:Nat) (a:Option Addr) (c:Nat),v.1=(i:Int)/\i<=B/\Sep NoB w w' [OwnA 3 1 a i c (iv (List.replicate i (-1))),BoxA b15 136 (newV g (boxS b21 (B*P*Z)) (boxS b33 (B*P)) ⟨a,i,c⟩ (boxS b39 B) (boxS b41 B) yf),OwnA 5 1 (some ⟨b21,0,none⟩) (B*P*Z) (B*P*Z) (bv8 (List.replicate (B*P*Z) 255)),
   OwnA 3 1 (some ⟨b33,0,none⟩) (B*P) (B*P) (iv (List.replicate (B*P) 0)),OwnA 3 1 (some ⟨b39,0,none⟩) B B (iv (List.replicate B 0)),OwnA 3 1 (some ⟨b41,0,none⟩) B B (iv (List.replicate B 0)),RdT LF yf,BoxA b1 23 g.vs])
  (λ(v:Int×Unit) _=>((B:Int)-v.1).toNat) ⟨0,none,0,rfl,by omega,S⟩ ?_
 rintro ⟨(z:Int),⟨⟩⟩ w14 ⟨i,a,c,hz,hi,S⟩
 dsimp only at hz ⊢
 subst hz
 refine cond_d (λhlt=>?_) (λhge=>?_)
 ·refine S.ld1 (j:=9) rfl rfl ?_
  refine S.newB λb44 w15 S f15 _=>?_
  dsimp only
  refine AppS.of (news:=[.int .i64 (-1)]) rfl (.inr ⟨_,rfl,S.cells 0 rfl⟩) ?_
  refine S.ap1 (by rfl) (λu hu=>by rw [List.mem_singleton.1 hu];rfl) (by omega) (by omega) λa46 c48 w16 S f16=>?_
  refine S.su2 (j:=9) (by rfl) λw17 S f17=>?_
  refine ⟨Rng.i64 (by omega) (by omega),⟨i+1,a46,c48,by push_cast;rfl,by omega,?_⟩,by omega⟩
  have e:iv (List.replicate (i+1) (-1))=iv (List.replicate i (-1))++[Value.int .i64 (-1)]:=by rw [List.replicate_succ',iv,List.map_append];rfl
  rw [e]
  exact S.tail
 have hiB:i=B:=by omega
 subst hiB
 refine ⟨S.ext,λh=>absurd ⟨hR,hF⟩ h,λ_=>⟨rfl,b15,⟨boxS b21 (i*P*Z),boxS b33 (i*P),⟨a,i,c⟩,boxS b39 i,boxS b41 i,yf,nilS⟩,rfl,hcp.dat,?_⟩⟩
 have S:=(S.nilOwn 227 5).nilL
 have S:=S.sel [3,3,3,2,2,2,2,1,0] rfl
 refine chip_mk (y:=⟨boxS b21 (i*P*Z),boxS b33 (i*P),⟨a,i,c⟩,boxS b39 i,boxS b41 i,yf,nilS⟩) (C:=newC g (fds x)) (L:=[]) (Rs:=[]) S ?_ ?_ ?_ ?_ ?_
 ·rw [newC_img,hB',hP',hZ',Nat.mul_assoc]
 ·rw [newC_us,hB',hP']
 ·rw [newC_la,hB']
 ·rw [newC_sc,hB']
 ·rw [newC_er,hB']
end Go.Proofs.YtcekmdehjnlkpaaGreat.Vc
namespace Go.Proofs.YtcekmdehjnlkpaaGreat.Vc
open Go Go.Eng
def ref13_blank.A:Ann:=.two .no (.two .no (.two (.two .no (.one (.loop [4,6,7,8,9,10,11,12,13,14,15,16,17,18,19,20,21,22,23,24,25] [(4,.one (.int .i64))] (.two .no (.two (.one (.join [12,13,14,15,16,17,18,19,20] [] (.draw (.take 0 (.take 2 (.take 3 (.take 4 (.both 1 (.eff 5 (.eff 6 (.eff 7 (.take 8 (.eff 9 (.done)))))) 5 (.both 1 (.eff 6 (.eff 7 (.take 8 (.eff 9 (.done))))) 6 (.eff 1 (.eff 7 (.take 8 (.eff 9 (.done)))))))))))) .no)) .no))))) .no))
def ref13_blank.P (p0_0 p0_1 p0_2 p0_3 p0_4 p0_5:Int) (w:World) (K:(SlV×SlV×Int×Bool×Int×Unit)×Unit->World->Prop):Prop:=
 NewV #[.int .i64 p0_0,.int .i64 p0_1,.int .i64 p0_2,.int .i64 p0_3,.int .i64 p0_4,.int .i64 p0_5] 23 w λb1 w2=>
 NewV #[.slice none 0 0,.slice none 0 0,.int .i64 0,.bool false,.int .i64 0] 51 w2 λb3 w4=>
 NewV #[.slice none 0 0,.slice none 0 0,.int .i64 0,.bool false,.int .i64 0] 51 w4 λb5 w6=>
 StoreV w6 ⟨b5,0,none⟩ [.slice none 0 0,.slice none 0 0,.int .i64 (-1),.bool false,.int .i64 0] λw7=>
 LoopV [.one (.int .i64)] ((0:Int),()) w7 λ(z8:Int×Unit) w9 (K10:Int×Unit->World->Prop)=>
 LoadS w9 ⟨b1,1,none⟩ (.int .i64) λ(x11:Int)=>
 cond (decide (z8.1<x11))
 (JoinV [] (λ(v13:Unit) w14=>
 LoadS w14 ⟨b5,1,none⟩ .sl λ(x15:SlV)=>
 NewV #[.int .i64 0] 3 w14 λb16 w17=>
 AppS w17 (some ⟨b16,0,none⟩) 1 1 λns22=>
 AppV w17 3 1 8 x15.a x15.n x15.c ns22 1 λa18 n19 c20 w21=>
 StoreV w21 ⟨b5,1,none⟩ [.slice a18 n19 c20] λw23=>
 Rng .i64 (z8.1+1) /\
 K10 (z8.1+1,()) w23) λ(J12:Unit->World->Prop)=>
 DrawV λD24=>
 (D24 b1/\LoadS w9.drew ⟨b1,2,none⟩ (.int .i64) λ(x25:Int)=>
 Rng .i64 (x25+88) /\
 ((LoadS w9.drew ⟨b5,0,none⟩ .sl λ(x26:SlV)=>
 KeepOn D24 w9.drew w9.drew /\
 CallV Tryz.prog 86 #[.int .u8 255,.int .i64 (x25+88)] w9.drew [.one .sl] λ(r27:SlV×Unit) w28=>
 KeepOn D24 w9.drew w28 /\
 NewV #[.slice r27.1.a r27.1.n r27.1.c] 26 w28 λb29 w30=>
 KeepOn D24 w9.drew w30 /\
 AppS w30 (some ⟨b29,0,none⟩) 1 1 λns35=>
 AppV w30 26 1 24 x26.a x26.n x26.c ns35 1 λa31 n32 c33 w34=>
 KeepOn D24 w9.drew w34 /\
 StoreV w34 ⟨b5,0,none⟩ [.slice a31 n32 c33] λw36=>
 KeepOn D24 w9.drew w36 /\
 J12 (()) w36) /\
 (CallV Tryz.prog 86 #[.int .u8 255,.int .i64 (x25+88)] w9.drew [.one .sl] λ(r37:SlV×Unit) w38=>
 KeepOn D24 w9.drew w38 /\
 ((LoadS w38 ⟨b5,0,none⟩ .sl λ(x39:SlV)=>
 KeepOn D24 w9.drew w38 /\
 NewV #[.slice r37.1.a r37.1.n r37.1.c] 26 w38 λb40 w41=>
 KeepOn D24 w9.drew w41 /\
 AppS w41 (some ⟨b40,0,none⟩) 1 1 λns46=>
 AppV w41 26 1 24 x39.a x39.n x39.c ns46 1 λa42 n43 c44 w45=>
 KeepOn D24 w9.drew w45 /\
 StoreV w45 ⟨b5,0,none⟩ [.slice a42 n43 c44] λw47=>
 KeepOn D24 w9.drew w47 /\
 J12 (()) w47) /\
 (NewV #[.slice r37.1.a r37.1.n r37.1.c] 26 w38 λb48 w49=>
 KeepOn D24 w9.drew w49 /\
 LoadS w49 ⟨b5,0,none⟩ .sl λ(x50:SlV)=>
 KeepOn D24 w9.drew w49 /\
 AppS w49 (some ⟨b48,0,none⟩) 1 1 λns55=>
 AppV w49 26 1 24 x50.a x50.n x50.c ns55 1 λa51 n52 c53 w54=>
 KeepOn D24 w9.drew w54 /\
 StoreV w54 ⟨b5,0,none⟩ [.slice a51 n52 c53] λw56=>
 KeepOn D24 w9.drew w56 /\
 J12 (()) w56))))))
 (LoadA w9 ⟨b5,0,none⟩ [.sl,.sl,.int .i64,.bool,.int .i64] λ(x57:SlV×SlV×Int×Bool×Int×Unit)=>
 StoreV w9 ⟨b3,0,none⟩ [.slice x57.1.a x57.1.n x57.1.c,.slice x57.2.1.a x57.2.1.n x57.2.1.c,.int .i64 x57.2.2.1,.bool x57.2.2.2.1,.int .i64 x57.2.2.2.2.1] λw58=>
 LoadA w58 ⟨b3,0,none⟩ [.sl,.sl,.int .i64,.bool,.int .i64] λ(x59:SlV×SlV×Int×Bool×Int×Unit)=>
 K ((x59.1,x59.2.1,x59.2.2.1,x59.2.2.2.1,x59.2.2.2.2.1,()),()) w58)
theorem ref13_blank.vc (p0_0 p0_1 p0_2 p0_3 p0_4 p0_5:Int) (w:World) (K:(SlV×SlV×Int×Bool×Int×Unit)×Unit->World->Prop) (h:ref13_blank.P p0_0 p0_1 p0_2 p0_3 p0_4 p0_5 w K):CallV Tryz.prog 57 #[.agg #[.int .i64 p0_0,.int .i64 p0_1,.int .i64 p0_2,.int .i64 p0_3,.int .i64 p0_4,.int .i64 p0_5]] w [.agg [.sl,.sl,.int .i64,.bool,.int .i64]] K:=by
 refine vcFun.of (A:=ref13_blank.A) (wr:=false) okf_ok follows h Tryz.func57 ?_
 kernel_rfl
def ref13_New.A:Ann:=.two .no (.two .no (.two (.two .no (.one (.loop [6,10,11,12,13,14,15,16,17,18,19,20,21,22] [(6,.one (.int .i64))] (.two .no (.two (.one (.draw (.take 0 (.take 2 (.both 1 (.eff 3 (.eff 4 (.eff 5 (.take 6 (.eff 7 (.done)))))) 3 (.both 1 (.eff 4 (.eff 5 (.take 6 (.eff 7 (.done))))) 4 (.eff 1 (.eff 5 (.take 6 (.eff 7 (.done))))))))))) .no))))) .no))
def ref13_New.P (p0_0 p0_1 p0_2 p0_3 p0_4 p0_5:Int) (a1:Option Addr) (n1 c1:Nat) (w:World) (K:(Int×Int×Int×Int×Int×Int×SlV×SlV×Bool×Int×Unit)×Unit->World->Prop):Prop:=
 NewV #[.int .i64 p0_0,.int .i64 p0_1,.int .i64 p0_2,.int .i64 p0_3,.int .i64 p0_4,.int .i64 p0_5] 23 w λb1 w2=>
 NewV #[.int .i64 0,.int .i64 0,.int .i64 0,.int .i64 0,.int .i64 0,.int .i64 0,.slice none 0 0,.slice none 0 0,.bool false,.int .i64 0] 45 w2 λb3 w4=>
 LoadA w4 ⟨b1,0,none⟩ [.int .i64,.int .i64,.int .i64,.int .i64,.int .i64,.int .i64] λ(x5:Int×Int×Int×Int×Int×Int×Unit)=>
 NewV #[.int .i64 0,.int .i64 0,.int .i64 0,.int .i64 0,.int .i64 0,.int .i64 0,.slice none 0 0,.slice none 0 0,.bool false,.int .i64 0] 45 w4 λb6 w7=>
 StoreV w7 ⟨b6,0,none⟩ [.int .i64 x5.1,.int .i64 x5.2.1,.int .i64 x5.2.2.1,.int .i64 x5.2.2.2.1,.int .i64 x5.2.2.2.2.1,.int .i64 x5.2.2.2.2.2.1,.slice none 0 0,.slice a1 n1 c1,.bool false,.int .i64 0] λw8=>
 LoopV [.one (.int .i64)] ((0:Int),()) w8 λ(z9:Int×Unit) w10 (K11:Int×Unit->World->Prop)=>
 LoadS w10 ⟨b1,0,none⟩ (.int .i64) λ(x12:Int)=>
 cond (decide (z9.1<x12))
 (DrawV λD13=>
 (D13 b1/\LoadA w10.drew ⟨b1,0,none⟩ [.int .i64,.int .i64,.int .i64,.int .i64,.int .i64,.int .i64] λ(x14:Int×Int×Int×Int×Int×Int×Unit)=>
 ((LoadS w10.drew ⟨b6,6,none⟩ .sl λ(x15:SlV)=>
 KeepOn D13 w10.drew w10.drew /\
 CallV Tryz.prog 57 #[.agg #[.int .i64 x14.1,.int .i64 x14.2.1,.int .i64 x14.2.2.1,.int .i64 x14.2.2.2.1,.int .i64 x14.2.2.2.2.1,.int .i64 x14.2.2.2.2.2.1]] w10.drew [.agg [.sl,.sl,.int .i64,.bool,.int .i64]] λ(r16:(SlV×SlV×Int×Bool×Int×Unit)×Unit) w17=>
 KeepOn D13 w10.drew w17 /\
 NewV #[.slice r16.1.1.a r16.1.1.n r16.1.1.c,.slice r16.1.2.1.a r16.1.2.1.n r16.1.2.1.c,.int .i64 r16.1.2.2.1,.bool r16.1.2.2.2.1,.int .i64 r16.1.2.2.2.2.1] 51 w17 λb18 w19=>
 KeepOn D13 w10.drew w19 /\
 AppS w19 (some ⟨b18,0,none⟩) 1 5 λns24=>
 AppV w19 51 5 72 x15.a x15.n x15.c ns24 1 λa20 n21 c22 w23=>
 KeepOn D13 w10.drew w23 /\
 StoreV w23 ⟨b6,6,none⟩ [.slice a20 n21 c22] λw25=>
 KeepOn D13 w10.drew w25 /\
 Rng .i64 (z9.1+1) /\
 K11 (z9.1+1,()) w25) /\
 (CallV Tryz.prog 57 #[.agg #[.int .i64 x14.1,.int .i64 x14.2.1,.int .i64 x14.2.2.1,.int .i64 x14.2.2.2.1,.int .i64 x14.2.2.2.2.1,.int .i64 x14.2.2.2.2.2.1]] w10.drew [.agg [.sl,.sl,.int .i64,.bool,.int .i64]] λ(r26:(SlV×SlV×Int×Bool×Int×Unit)×Unit) w27=>
 KeepOn D13 w10.drew w27 /\
 ((LoadS w27 ⟨b6,6,none⟩ .sl λ(x28:SlV)=>
 KeepOn D13 w10.drew w27 /\
 NewV #[.slice r26.1.1.a r26.1.1.n r26.1.1.c,.slice r26.1.2.1.a r26.1.2.1.n r26.1.2.1.c,.int .i64 r26.1.2.2.1,.bool r26.1.2.2.2.1,.int .i64 r26.1.2.2.2.2.1] 51 w27 λb29 w30=>
 KeepOn D13 w10.drew w30 /\
 AppS w30 (some ⟨b29,0,none⟩) 1 5 λns35=>
 AppV w30 51 5 72 x28.a x28.n x28.c ns35 1 λa31 n32 c33 w34=>
 KeepOn D13 w10.drew w34 /\
 StoreV w34 ⟨b6,6,none⟩ [.slice a31 n32 c33] λw36=>
 KeepOn D13 w10.drew w36 /\
 Rng .i64 (z9.1+1) /\
 K11 (z9.1+1,()) w36) /\
 (NewV #[.slice r26.1.1.a r26.1.1.n r26.1.1.c,.slice r26.1.2.1.a r26.1.2.1.n r26.1.2.1.c,.int .i64 r26.1.2.2.1,.bool r26.1.2.2.2.1,.int .i64 r26.1.2.2.2.2.1] 51 w27 λb37 w38=>
 KeepOn D13 w10.drew w38 /\
 LoadS w38 ⟨b6,6,none⟩ .sl λ(x39:SlV)=>
 KeepOn D13 w10.drew w38 /\
 AppS w38 (some ⟨b37,0,none⟩) 1 5 λns44=>
 AppV w38 51 5 72 x39.a x39.n x39.c ns44 1 λa40 n41 c42 w43=>
 KeepOn D13 w10.drew w43 /\
 StoreV w43 ⟨b6,6,none⟩ [.slice a40 n41 c42] λw45=>
 KeepOn D13 w10.drew w45 /\
 Rng .i64 (z9.1+1) /\
 K11 (z9.1+1,()) w45))))))
 (LoadA w10 ⟨b6,0,none⟩ [.int .i64,.int .i64,.int .i64,.int .i64,.int .i64,.int .i64,.sl,.sl,.bool,.int .i64] λ(x46:Int×Int×Int×Int×Int×Int×SlV×SlV×Bool×Int×Unit)=>
 StoreV w10 ⟨b3,0,none⟩ [.int .i64 x46.1,.int .i64 x46.2.1,.int .i64 x46.2.2.1,.int .i64 x46.2.2.2.1,.int .i64 x46.2.2.2.2.1,.int .i64 x46.2.2.2.2.2.1,.slice x46.2.2.2.2.2.2.1.a x46.2.2.2.2.2.2.1.n x46.2.2.2.2.2.2.1.c,.slice x46.2.2.2.2.2.2.2.1.a x46.2.2.2.2.2.2.2.1.n x46.2.2.2.2.2.2.2.1.c,.bool x46.2.2.2.2.2.2.2.2.1,.int .i64 x46.2.2.2.2.2.2.2.2.2.1] λw47=>
 LoadA w47 ⟨b3,0,none⟩ [.int .i64,.int .i64,.int .i64,.int .i64,.int .i64,.int .i64,.sl,.sl,.bool,.int .i64] λ(x48:Int×Int×Int×Int×Int×Int×SlV×SlV×Bool×Int×Unit)=>
 K ((x48.1,x48.2.1,x48.2.2.1,x48.2.2.2.1,x48.2.2.2.2.1,x48.2.2.2.2.2.1,x48.2.2.2.2.2.2.1,x48.2.2.2.2.2.2.2.1,x48.2.2.2.2.2.2.2.2.1,x48.2.2.2.2.2.2.2.2.2.1,()),()) w47)
theorem ref13_New.vc (p0_0 p0_1 p0_2 p0_3 p0_4 p0_5:Int) (a1:Option Addr) (n1 c1:Nat) (w:World) (K:(Int×Int×Int×Int×Int×Int×SlV×SlV×Bool×Int×Unit)×Unit->World->Prop) (h:ref13_New.P p0_0 p0_1 p0_2 p0_3 p0_4 p0_5 a1 n1 c1 w K):CallV Tryz.prog 24 #[.agg #[.int .i64 p0_0,.int .i64 p0_1,.int .i64 p0_2,.int .i64 p0_3,.int .i64 p0_4,.int .i64 p0_5],.slice a1 n1 c1] w [.agg [.int .i64,.int .i64,.int .i64,.int .i64,.int .i64,.int .i64,.sl,.sl,.bool,.int .i64]] K:=by
 refine vcFun.of (A:=ref13_New.A) (wr:=false) okf_ok follows h Tryz.func24 ?_
 kernel_rfl
def ref13_Right.A:Ann:=.no
def ref13_Right.P (p0_0 p0_1 p0_2 p0_3 p0_4 p0_5 p1_0 p1_1:Int) (w:World) (K:Bool×Unit->World->Prop):Prop:=
 NewV #[.int .i64 p0_0,.int .i64 p0_1,.int .i64 p0_2,.int .i64 p0_3,.int .i64 p0_4,.int .i64 p0_5] 23 w λb1 w2=>
 NewV #[.int .i64 p1_0,.int .i64 p1_1] 57 w2 λb3 w4=>
 LoadA w4 ⟨b1,0,none⟩ [.int .i64,.int .i64,.int .i64,.int .i64,.int .i64,.int .i64] λ(x5:Int×Int×Int×Int×Int×Int×Unit)=>
 CallV Tryz.prog 17 #[.agg #[.int .i64 x5.1,.int .i64 x5.2.1,.int .i64 x5.2.2.1,.int .i64 x5.2.2.2.1,.int .i64 x5.2.2.2.2.1,.int .i64 x5.2.2.2.2.2.1]] w4 [.one .bool] λ(r6:Bool×Unit) w7=>
 cond r6.1
 (LoadS w7 ⟨b3,0,none⟩ (.int .i64) λ(x8:Int)=>
 cond (decide (x8≥0))
 (LoadS w7 ⟨b3,0,none⟩ (.int .i64) λ(x9:Int)=>
 LoadS w7 ⟨b1,0,none⟩ (.int .i64) λ(x10:Int)=>
 cond (decide (x9<x10))
 (LoadS w7 ⟨b3,1,none⟩ (.int .i64) λ(x11:Int)=>
 cond (decide (x11≥0))
 (LoadS w7 ⟨b3,1,none⟩ (.int .i64) λ(x12:Int)=>
 LoadS w7 ⟨b1,1,none⟩ (.int .i64) λ(x13:Int)=>
 K (decide (x12<x13),()) w7)
 (K (false,()) w7))
 (K (false,()) w7))
 (K (false,()) w7))
 (K (false,()) w7)
theorem ref13_Right.vc (p0_0 p0_1 p0_2 p0_3 p0_4 p0_5 p1_0 p1_1:Int) (w:World) (K:Bool×Unit->World->Prop) (h:ref13_Right.P p0_0 p0_1 p0_2 p0_3 p0_4 p0_5 p1_0 p1_1 w K):CallV Tryz.prog 88 #[.agg #[.int .i64 p0_0,.int .i64 p0_1,.int .i64 p0_2,.int .i64 p0_3,.int .i64 p0_4,.int .i64 p0_5],.agg #[.int .i64 p1_0,.int .i64 p1_1]] w [.one .bool] K:=by
 refine vcFun.of (A:=ref13_Right.A) (wr:=false) okf_ok follows h Tryz.func88 ?_
 kernel_rfl
def ref13_with.A:Ann:=.no
def ref13_with.P (p0_0 p0_1 p0_2 p0_3 p0_4 p0_5:Int) (a0_6:Option Addr) (n0_6 c0_6:Nat) (a0_7:Option Addr) (n0_7 c0_7:Nat) (p0_8:Bool) (p0_9 p1:Int) (a2_0:Option Addr) (n2_0 c2_0:Nat) (a2_1:Option Addr) (n2_1 c2_1:Nat) (p2_2:Int) (p2_3:Bool) (p2_4:Int) (w:World) (K:(Int×Int×Int×Int×Int×Int×SlV×SlV×Bool×Int×Unit)×Unit->World->Prop):Prop:=
 NewV #[.int .i64 p0_0,.int .i64 p0_1,.int .i64 p0_2,.int .i64 p0_3,.int .i64 p0_4,.int .i64 p0_5,.slice a0_6 n0_6 c0_6,.slice a0_7 n0_7 c0_7,.bool p0_8,.int .i64 p0_9] 45 w λb1 w2=>
 NewV #[.slice a2_0 n2_0 c2_0,.slice a2_1 n2_1 c2_1,.int .i64 p2_2,.bool p2_3,.int .i64 p2_4] 51 w2 λb3 w4=>
 NewV #[.int .i64 0,.int .i64 0,.int .i64 0,.int .i64 0,.int .i64 0,.int .i64 0,.slice none 0 0,.slice none 0 0,.bool false,.int .i64 0] 45 w4 λb5 w6=>
 NewV #[] 51 w6 λb7 w8=>
 LoadS w8 ⟨b1,6,none⟩ .sl λ(x9:SlV)=>
 AppS w8 x9.a x9.n 5 λns14=>
 AppV w8 51 5 72 (some ⟨b7,0,none⟩) 0 0 ns14 x9.n λa10 n11 c12 w13=>
 LoadA w13 ⟨b3,0,none⟩ [.sl,.sl,.int .i64,.bool,.int .i64] λ(x15:SlV×SlV×Int×Bool×Int×Unit)=>
 (0<=p1/\p1<((n11:Nat):Int))/\∃ q16:Addr,a10=some q16 /\
 StoreV w13 (q16.add (p1.toNat*5)) [.slice x15.1.a x15.1.n x15.1.c,.slice x15.2.1.a x15.2.1.n x15.2.1.c,.int .i64 x15.2.2.1,.bool x15.2.2.2.1,.int .i64 x15.2.2.2.2.1] λw17=>
 StoreV w17 ⟨b1,6,none⟩ [.slice a10 n11 c12] λw18=>
 LoadS w18 ⟨b1,9,none⟩ (.int .i64) λ(x19:Int)=>
 Rng .i64 (x19+1) /\
 StoreV w18 ⟨b1,9,none⟩ [.int .i64 (x19+1)] λw20=>
 LoadA w20 ⟨b1,0,none⟩ [.int .i64,.int .i64,.int .i64,.int .i64,.int .i64,.int .i64,.sl,.sl,.bool,.int .i64] λ(x21:Int×Int×Int×Int×Int×Int×SlV×SlV×Bool×Int×Unit)=>
 StoreV w20 ⟨b5,0,none⟩ [.int .i64 x21.1,.int .i64 x21.2.1,.int .i64 x21.2.2.1,.int .i64 x21.2.2.2.1,.int .i64 x21.2.2.2.2.1,.int .i64 x21.2.2.2.2.2.1,.slice x21.2.2.2.2.2.2.1.a x21.2.2.2.2.2.2.1.n x21.2.2.2.2.2.2.1.c,.slice x21.2.2.2.2.2.2.2.1.a x21.2.2.2.2.2.2.2.1.n x21.2.2.2.2.2.2.2.1.c,.bool x21.2.2.2.2.2.2.2.2.1,.int .i64 x21.2.2.2.2.2.2.2.2.2.1] λw22=>
 LoadA w22 ⟨b5,0,none⟩ [.int .i64,.int .i64,.int .i64,.int .i64,.int .i64,.int .i64,.sl,.sl,.bool,.int .i64] λ(x23:Int×Int×Int×Int×Int×Int×SlV×SlV×Bool×Int×Unit)=>
 K ((x23.1,x23.2.1,x23.2.2.1,x23.2.2.2.1,x23.2.2.2.2.1,x23.2.2.2.2.2.1,x23.2.2.2.2.2.2.1,x23.2.2.2.2.2.2.2.1,x23.2.2.2.2.2.2.2.2.1,x23.2.2.2.2.2.2.2.2.2.1,()),()) w22
theorem ref13_with.vc (p0_0 p0_1 p0_2 p0_3 p0_4 p0_5:Int) (a0_6:Option Addr) (n0_6 c0_6:Nat) (a0_7:Option Addr) (n0_7 c0_7:Nat) (p0_8:Bool) (p0_9 p1:Int) (a2_0:Option Addr) (n2_0 c2_0:Nat) (a2_1:Option Addr) (n2_1 c2_1:Nat) (p2_2:Int) (p2_3:Bool) (p2_4:Int) (w:World) (K:(Int×Int×Int×Int×Int×Int×SlV×SlV×Bool×Int×Unit)×Unit->World->Prop) (h:ref13_with.P p0_0 p0_1 p0_2 p0_3 p0_4 p0_5 a0_6 n0_6 c0_6 a0_7 n0_7 c0_7 p0_8 p0_9 p1 a2_0 n2_0 c2_0 a2_1 n2_1 c2_1 p2_2 p2_3 p2_4 w K):CallV Tryz.prog 92 #[.agg #[.int .i64 p0_0,.int .i64 p0_1,.int .i64 p0_2,.int .i64 p0_3,.int .i64 p0_4,.int .i64 p0_5,.slice a0_6 n0_6 c0_6,.slice a0_7 n0_7 c0_7,.bool p0_8,.int .i64 p0_9],.int .i64 p1,.agg #[.slice a2_0 n2_0 c2_0,.slice a2_1 n2_1 c2_1,.int .i64 p2_2,.bool p2_3,.int .i64 p2_4]] w [.agg [.int .i64,.int .i64,.int .i64,.int .i64,.int .i64,.int .i64,.sl,.sl,.bool,.int .i64]] K:=by
 refine vcFun.of (A:=ref13_with.A) (wr:=false) okf_ok follows h Tryz.func92 ?_
 kernel_rfl
def ref13_code.A:Ann:=.two .no (.two .no (.two .no (.two (.two .no (.two (.two (.draw (.take 0 (.take 1 (.take 2 (.take 3 (.take 4 (.take 5 (.take 6 (.take 7 (.take 8 (.done))))))))))) .no) .no)) (.two (.draw (.take 0 (.take 1 (.take 2 (.take 3 (.take 4 (.take 5 (.take 6 (.take 7 (.take 8 (.done))))))))))) .no))))
def ref13_code.P (p0_0 p0_1 p0_2 p0_3 p0_4 p0_5:Int) (a0_6:Option Addr) (n0_6 c0_6:Nat) (a0_7:Option Addr) (n0_7 c0_7:Nat) (p0_8:Bool) (p0_9:Int) (w:World) (K:Int×SlV×Bool×Unit->World->Prop):Prop:=
 NewV #[.int .i64 p0_0,.int .i64 p0_1,.int .i64 p0_2,.int .i64 p0_3,.int .i64 p0_4,.int .i64 p0_5,.slice a0_6 n0_6 c0_6,.slice a0_7 n0_7 c0_7,.bool p0_8,.int .i64 p0_9] 45 w λb1 w2=>
 LoadS w2 ⟨b1,7,none⟩ .sl λ(x3:SlV)=>
 LoadS w2 ⟨b1,9,none⟩ (.int .i64) λ(x4:Int)=>
 CallV Tryz.prog 118 #[.slice x3.a x3.n x3.c,.int .i64 x4] w2 [.one (.int .i64)] λ(r5:Int×Unit) w6=>
 cond (decide (r5.1<0))
 (K ((0:Int),(⟨none,0,0⟩:SlV),false,()) w6)
 (LoadS w6 ⟨b1,7,none⟩ .sl λ(x7:SlV)=>
 (0<=r5.1/\r5.1<((x7.n:Nat):Int))/\∃ q8:Addr,x7.a=some q8 /\
 LoadS w6 ((q8.add (r5.1.toNat*3)).add 1) .bool λ(x9:Bool)=>
 cond x9
 (DrawV λD10=>
 (D10 b1/\LoadS w6.drew ⟨b1,7,none⟩ .sl λ(x11:SlV)=>
 (0<=r5.1/\r5.1<((x11.n:Nat):Int))/\∃ q12:Addr,x11.a=some q12 /\
 (D10 ((q12.add (r5.1.toNat*3)).add 2).block/\LoadS w6.drew ((q12.add (r5.1.toNat*3)).add 2) .sl λ(x13:SlV)=>
 K ((4:Int),x13,true,()) w6.drew)))
 (DrawV λD14=>
 (D14 b1/\LoadS w6.drew ⟨b1,7,none⟩ .sl λ(x15:SlV)=>
 (0<=r5.1/\r5.1<((x15.n:Nat):Int))/\∃ q16:Addr,x15.a=some q16 /\
 (D14 ((q16.add (r5.1.toNat*3)).add 2).block/\LoadS w6.drew ((q16.add (r5.1.toNat*3)).add 2) .sl λ(x17:SlV)=>
 K ((5:Int),x17,false,()) w6.drew))))
theorem ref13_code.vc (p0_0 p0_1 p0_2 p0_3 p0_4 p0_5:Int) (a0_6:Option Addr) (n0_6 c0_6:Nat) (a0_7:Option Addr) (n0_7 c0_7:Nat) (p0_8:Bool) (p0_9:Int) (w:World) (K:Int×SlV×Bool×Unit->World->Prop) (h:ref13_code.P p0_0 p0_1 p0_2 p0_3 p0_4 p0_5 a0_6 n0_6 c0_6 a0_7 n0_7 c0_7 p0_8 p0_9 w K):CallV Tryz.prog 89 #[.agg #[.int .i64 p0_0,.int .i64 p0_1,.int .i64 p0_2,.int .i64 p0_3,.int .i64 p0_4,.int .i64 p0_5,.slice a0_6 n0_6 c0_6,.slice a0_7 n0_7 c0_7,.bool p0_8,.int .i64 p0_9]] w [.one (.int .i64),.one .sl,.one .bool] K:=by
 refine vcFun.of (A:=ref13_code.A) (wr:=false) okf_ok follows h Tryz.func89 ?_
 kernel_rfl
def ref13_Program.A:Ann:=.two .no (.two .no (.two .no (.two .no (.two .no (.join [7,50,51,52,53,54,55,56,57,58,59,60,61,62,63,64] [] .no (.two .no (.two .no (.two .no (.join [13,80,81,82,83,84,85,86,87] [(13,.one .sl)] .no .no)))))))))
def ref13_Program.P (p0_0 p0_1 p0_2 p0_3 p0_4 p0_5:Int) (a0_6:Option Addr) (n0_6 c0_6:Nat) (a0_7:Option Addr) (n0_7 c0_7:Nat) (p0_8:Bool) (p0_9 p1_0 p1_1:Int) (a2:Option Addr) (n2 c2:Nat) (w:World) (K:(Int×Int×Int×Int×Int×Int×SlV×SlV×Bool×Int×Unit)×Int×Unit->World->Prop):Prop:=
 NewV #[.int .i64 p0_0,.int .i64 p0_1,.int .i64 p0_2,.int .i64 p0_3,.int .i64 p0_4,.int .i64 p0_5,.slice a0_6 n0_6 c0_6,.slice a0_7 n0_7 c0_7,.bool p0_8,.int .i64 p0_9] 45 w λb1 w2=>
 NewV #[.int .i64 p1_0,.int .i64 p1_1] 57 w2 λb3 w4=>
 NewV #[.int .i64 0,.int .i64 0,.int .i64 0,.int .i64 0,.int .i64 0,.int .i64 0,.slice none 0 0,.slice none 0 0,.bool false,.int .i64 0] 45 w4 λb5 w6=>
 LoadS w6 ⟨b1,8,none⟩ .bool λ(x7:Bool)=>
 cond x7
 (LoadA w6 ⟨b1,0,none⟩ [.int .i64,.int .i64,.int .i64,.int .i64,.int .i64,.int .i64,.sl,.sl,.bool,.int .i64] λ(x8:Int×Int×Int×Int×Int×Int×SlV×SlV×Bool×Int×Unit)=>
 StoreV w6 ⟨b5,0,none⟩ [.int .i64 x8.1,.int .i64 x8.2.1,.int .i64 x8.2.2.1,.int .i64 x8.2.2.2.1,.int .i64 x8.2.2.2.2.1,.int .i64 x8.2.2.2.2.2.1,.slice x8.2.2.2.2.2.2.1.a x8.2.2.2.2.2.2.1.n x8.2.2.2.2.2.2.1.c,.slice x8.2.2.2.2.2.2.2.1.a x8.2.2.2.2.2.2.2.1.n x8.2.2.2.2.2.2.2.1.c,.bool x8.2.2.2.2.2.2.2.2.1,.int .i64 x8.2.2.2.2.2.2.2.2.2.1] λw9=>
 LoadA w9 ⟨b5,0,none⟩ [.int .i64,.int .i64,.int .i64,.int .i64,.int .i64,.int .i64,.sl,.sl,.bool,.int .i64] λ(x10:Int×Int×Int×Int×Int×Int×SlV×SlV×Bool×Int×Unit)=>
 K ((x10.1,x10.2.1,x10.2.2.1,x10.2.2.2.1,x10.2.2.2.2.1,x10.2.2.2.2.2.1,x10.2.2.2.2.2.2.1,x10.2.2.2.2.2.2.2.1,x10.2.2.2.2.2.2.2.2.1,x10.2.2.2.2.2.2.2.2.2.1,()),(4:Int),()) w9)
 (LoadA w6 ⟨b1,0,none⟩ [.int .i64,.int .i64,.int .i64,.int .i64,.int .i64,.int .i64] λ(x11:Int×Int×Int×Int×Int×Int×Unit)=>
 LoadA w6 ⟨b3,0,none⟩ [.int .i64,.int .i64] λ(x12:Int×Int×Unit)=>
 CallV Tryz.prog 88 #[.agg #[.int .i64 x11.1,.int .i64 x11.2.1,.int .i64 x11.2.2.1,.int .i64 x11.2.2.2.1,.int .i64 x11.2.2.2.2.1,.int .i64 x11.2.2.2.2.2.1],.agg #[.int .i64 x12.1,.int .i64 x12.2.1]] w6 [.one .bool] λ(r13:Bool×Unit) w14=>
 cond (!r13.1)
 (LoadA w14 ⟨b1,0,none⟩ [.int .i64,.int .i64,.int .i64,.int .i64,.int .i64,.int .i64,.sl,.sl,.bool,.int .i64] λ(x15:Int×Int×Int×Int×Int×Int×SlV×SlV×Bool×Int×Unit)=>
 StoreV w14 ⟨b5,0,none⟩ [.int .i64 x15.1,.int .i64 x15.2.1,.int .i64 x15.2.2.1,.int .i64 x15.2.2.2.1,.int .i64 x15.2.2.2.2.1,.int .i64 x15.2.2.2.2.2.1,.slice x15.2.2.2.2.2.2.1.a x15.2.2.2.2.2.2.1.n x15.2.2.2.2.2.2.1.c,.slice x15.2.2.2.2.2.2.2.1.a x15.2.2.2.2.2.2.2.1.n x15.2.2.2.2.2.2.2.1.c,.bool x15.2.2.2.2.2.2.2.2.1,.int .i64 x15.2.2.2.2.2.2.2.2.2.1] λw16=>
 LoadA w16 ⟨b5,0,none⟩ [.int .i64,.int .i64,.int .i64,.int .i64,.int .i64,.int .i64,.sl,.sl,.bool,.int .i64] λ(x17:Int×Int×Int×Int×Int×Int×SlV×SlV×Bool×Int×Unit)=>
 K ((x17.1,x17.2.1,x17.2.2.1,x17.2.2.2.1,x17.2.2.2.2.1,x17.2.2.2.2.2.1,x17.2.2.2.2.2.2.1,x17.2.2.2.2.2.2.2.1,x17.2.2.2.2.2.2.2.2.1,x17.2.2.2.2.2.2.2.2.2.1,()),(2:Int),()) w16)
 (LoadS w14 ⟨b1,2,none⟩ (.int .i64) λ(x18:Int)=>
 Rng .i64 (x18+88) /\
 cond (((n2:Nat):Int) != (x18+88))
 (LoadA w14 ⟨b1,0,none⟩ [.int .i64,.int .i64,.int .i64,.int .i64,.int .i64,.int .i64,.sl,.sl,.bool,.int .i64] λ(x19:Int×Int×Int×Int×Int×Int×SlV×SlV×Bool×Int×Unit)=>
 StoreV w14 ⟨b5,0,none⟩ [.int .i64 x19.1,.int .i64 x19.2.1,.int .i64 x19.2.2.1,.int .i64 x19.2.2.2.1,.int .i64 x19.2.2.2.2.1,.int .i64 x19.2.2.2.2.2.1,.slice x19.2.2.2.2.2.2.1.a x19.2.2.2.2.2.2.1.n x19.2.2.2.2.2.2.1.c,.slice x19.2.2.2.2.2.2.2.1.a x19.2.2.2.2.2.2.2.1.n x19.2.2.2.2.2.2.2.1.c,.bool x19.2.2.2.2.2.2.2.2.1,.int .i64 x19.2.2.2.2.2.2.2.2.2.1] λw20=>
 LoadA w20 ⟨b5,0,none⟩ [.int .i64,.int .i64,.int .i64,.int .i64,.int .i64,.int .i64,.sl,.sl,.bool,.int .i64] λ(x21:Int×Int×Int×Int×Int×Int×SlV×SlV×Bool×Int×Unit)=>
 K ((x21.1,x21.2.1,x21.2.2.1,x21.2.2.2.1,x21.2.2.2.2.1,x21.2.2.2.2.2.1,x21.2.2.2.2.2.2.1,x21.2.2.2.2.2.2.2.1,x21.2.2.2.2.2.2.2.2.1,x21.2.2.2.2.2.2.2.2.2.1,()),(2:Int),()) w20)
 (LoadS w14 ⟨b1,6,none⟩ .sl λ(x22:SlV)=>
 LoadS w14 ⟨b3,0,none⟩ (.int .i64) λ(x23:Int)=>
 (0<=x23/\x23<((x22.n:Nat):Int))/\∃ q24:Addr,x22.a=some q24 /\
 LoadA w14 (q24.add (x23.toNat*5)) [.sl,.sl,.int .i64,.bool,.int .i64] λ(x25:SlV×SlV×Int×Bool×Int×Unit)=>
 NewV #[.slice none 0 0,.slice none 0 0,.int .i64 0,.bool false,.int .i64 0] 51 w14 λb26 w27=>
 StoreV w27 ⟨b26,0,none⟩ [.slice x25.1.a x25.1.n x25.1.c,.slice x25.2.1.a x25.2.1.n x25.2.1.c,.int .i64 x25.2.2.1,.bool x25.2.2.2.1,.int .i64 x25.2.2.2.2.1] λw28=>
 LoadS w28 ⟨b26,3,none⟩ .bool λ(x29:Bool)=>
 cond x29
 (LoadA w28 ⟨b1,0,none⟩ [.int .i64,.int .i64,.int .i64,.int .i64,.int .i64,.int .i64,.sl,.sl,.bool,.int .i64] λ(x30:Int×Int×Int×Int×Int×Int×SlV×SlV×Bool×Int×Unit)=>
 StoreV w28 ⟨b5,0,none⟩ [.int .i64 x30.1,.int .i64 x30.2.1,.int .i64 x30.2.2.1,.int .i64 x30.2.2.2.1,.int .i64 x30.2.2.2.2.1,.int .i64 x30.2.2.2.2.2.1,.slice x30.2.2.2.2.2.2.1.a x30.2.2.2.2.2.2.1.n x30.2.2.2.2.2.2.1.c,.slice x30.2.2.2.2.2.2.2.1.a x30.2.2.2.2.2.2.2.1.n x30.2.2.2.2.2.2.2.1.c,.bool x30.2.2.2.2.2.2.2.2.1,.int .i64 x30.2.2.2.2.2.2.2.2.2.1] λw31=>
 LoadA w31 ⟨b5,0,none⟩ [.int .i64,.int .i64,.int .i64,.int .i64,.int .i64,.int .i64,.sl,.sl,.bool,.int .i64] λ(x32:Int×Int×Int×Int×Int×Int×SlV×SlV×Bool×Int×Unit)=>
 K ((x32.1,x32.2.1,x32.2.2.1,x32.2.2.2.1,x32.2.2.2.2.1,x32.2.2.2.2.2.1,x32.2.2.2.2.2.2.1,x32.2.2.2.2.2.2.2.1,x32.2.2.2.2.2.2.2.2.1,x32.2.2.2.2.2.2.2.2.2.1,()),(7:Int),()) w31)
 (LoadS w28 ⟨b26,1,none⟩ .sl λ(x33:SlV)=>
 LoadS w28 ⟨b3,1,none⟩ (.int .i64) λ(x34:Int)=>
 (0<=x34/\x34<((x33.n:Nat):Int))/\∃ q35:Addr,x33.a=some q35 /\
 LoadS w28 (q35.add (x34.toNat*1)) (.int .i64) λ(x36:Int)=>
 cond (decide (x36≥2))
 (LoadA w28 ⟨b1,0,none⟩ [.int .i64,.int .i64,.int .i64,.int .i64,.int .i64,.int .i64,.sl,.sl,.bool,.int .i64] λ(x37:Int×Int×Int×Int×Int×Int×SlV×SlV×Bool×Int×Unit)=>
 StoreV w28 ⟨b5,0,none⟩ [.int .i64 x37.1,.int .i64 x37.2.1,.int .i64 x37.2.2.1,.int .i64 x37.2.2.2.1,.int .i64 x37.2.2.2.2.1,.int .i64 x37.2.2.2.2.2.1,.slice x37.2.2.2.2.2.2.1.a x37.2.2.2.2.2.2.1.n x37.2.2.2.2.2.2.1.c,.slice x37.2.2.2.2.2.2.2.1.a x37.2.2.2.2.2.2.2.1.n x37.2.2.2.2.2.2.2.1.c,.bool x37.2.2.2.2.2.2.2.2.1,.int .i64 x37.2.2.2.2.2.2.2.2.2.1] λw38=>
 LoadA w38 ⟨b5,0,none⟩ [.int .i64,.int .i64,.int .i64,.int .i64,.int .i64,.int .i64,.sl,.sl,.bool,.int .i64] λ(x39:Int×Int×Int×Int×Int×Int×SlV×SlV×Bool×Int×Unit)=>
 K ((x39.1,x39.2.1,x39.2.2.1,x39.2.2.2.1,x39.2.2.2.2.1,x39.2.2.2.2.2.1,x39.2.2.2.2.2.2.1,x39.2.2.2.2.2.2.2.1,x39.2.2.2.2.2.2.2.2.1,x39.2.2.2.2.2.2.2.2.2.1,()),(7:Int),()) w38)
 (JoinV [] (λ(v41:Unit) w42=>
 LoadA w42 ⟨b1,0,none⟩ [.int .i64,.int .i64,.int .i64,.int .i64,.int .i64,.int .i64,.sl,.sl,.bool,.int .i64] λ(x43:Int×Int×Int×Int×Int×Int×SlV×SlV×Bool×Int×Unit)=>
 CallV Tryz.prog 89 #[.agg #[.int .i64 x43.1,.int .i64 x43.2.1,.int .i64 x43.2.2.1,.int .i64 x43.2.2.2.1,.int .i64 x43.2.2.2.2.1,.int .i64 x43.2.2.2.2.2.1,.slice x43.2.2.2.2.2.2.1.a x43.2.2.2.2.2.2.1.n x43.2.2.2.2.2.2.1.c,.slice x43.2.2.2.2.2.2.2.1.a x43.2.2.2.2.2.2.2.1.n x43.2.2.2.2.2.2.2.1.c,.bool x43.2.2.2.2.2.2.2.2.1,.int .i64 x43.2.2.2.2.2.2.2.2.2.1]] w42 [.one (.int .i64),.one .sl,.one .bool] λ(r44:Int×SlV×Bool×Unit) w45=>
 LoadS w45 ⟨b26,0,none⟩ .sl λ(x46:SlV)=>
 LoadS w45 ⟨b3,1,none⟩ (.int .i64) λ(x47:Int)=>
 (0<=x47/\x47<((x46.n:Nat):Int))/\∃ q48:Addr,x46.a=some q48 /\
 LoadS w45 (q48.add (x47.toNat*1)) .sl λ(x49:SlV)=>
 CallV Tryz.prog 90 #[.slice x49.a x49.n x49.c,.slice a2 n2 c2] w45 [.one .sl] λ(r50:SlV×Unit) w51=>
 JoinV [.one .sl] (λ(v53:SlV×Unit) w54=>
 NewV #[] 26 w54 λb55 w56=>
 LoadS w56 ⟨b26,0,none⟩ .sl λ(x57:SlV)=>
 AppS w56 x57.a x57.n 1 λns62=>
 AppV w56 26 1 24 (some ⟨b55,0,none⟩) 0 0 ns62 x57.n λa58 n59 c60 w61=>
 StoreV w61 ⟨b26,0,none⟩ [.slice a58 n59 c60] λw63=>
 NewV #[] 3 w63 λb64 w65=>
 LoadS w65 ⟨b26,1,none⟩ .sl λ(x66:SlV)=>
 AppS w65 x66.a x66.n 1 λns71=>
 AppV w65 3 1 8 (some ⟨b64,0,none⟩) 0 0 ns71 x66.n λa67 n68 c69 w70=>
 StoreV w70 ⟨b26,1,none⟩ [.slice a67 n68 c69] λw72=>
 LoadS w72 ⟨b26,0,none⟩ .sl λ(x73:SlV)=>
 LoadS w72 ⟨b3,1,none⟩ (.int .i64) λ(x74:Int)=>
 (0<=x74/\x74<((x73.n:Nat):Int))/\∃ q75:Addr,x73.a=some q75 /\
 StoreV w72 (q75.add (x74.toNat*1)) [.slice v53.1.a v53.1.n v53.1.c] λw76=>
 LoadS w76 ⟨b26,1,none⟩ .sl λ(x77:SlV)=>
 LoadS w76 ⟨b3,1,none⟩ (.int .i64) λ(x78:Int)=>
 (0<=x78/\x78<((x77.n:Nat):Int))/\∃ q79:Addr,x77.a=some q79 /\
 LoadS w76 (q79.add (x78.toNat*1)) (.int .i64) λ(x80:Int)=>
 Rng .i64 (x80+1) /\
 (0<=x78/\x78<((x77.n:Nat):Int))/\∃ q81:Addr,x77.a=some q81 /\
 StoreV w76 (q81.add (x78.toNat*1)) [.int .i64 (x80+1)] λw82=>
 LoadS w82 ⟨b26,2,none⟩ (.int .i64) λ(x83:Int)=>
 LoadS w82 ⟨b3,1,none⟩ (.int .i64) λ(x84:Int)=>
 NameI (max x83 x84) λz85=>
 StoreV w82 ⟨b26,2,none⟩ [.int .i64 z85] λw86=>
 LoadA w86 ⟨b1,0,none⟩ [.int .i64,.int .i64,.int .i64,.int .i64,.int .i64,.int .i64,.sl,.sl,.bool,.int .i64] λ(x87:Int×Int×Int×Int×Int×Int×SlV×SlV×Bool×Int×Unit)=>
 LoadS w86 ⟨b3,0,none⟩ (.int .i64) λ(x88:Int)=>
 LoadA w86 ⟨b26,0,none⟩ [.sl,.sl,.int .i64,.bool,.int .i64] λ(x89:SlV×SlV×Int×Bool×Int×Unit)=>
 CallV Tryz.prog 92 #[.agg #[.int .i64 x87.1,.int .i64 x87.2.1,.int .i64 x87.2.2.1,.int .i64 x87.2.2.2.1,.int .i64 x87.2.2.2.2.1,.int .i64 x87.2.2.2.2.2.1,.slice x87.2.2.2.2.2.2.1.a x87.2.2.2.2.2.2.1.n x87.2.2.2.2.2.2.1.c,.slice x87.2.2.2.2.2.2.2.1.a x87.2.2.2.2.2.2.2.1.n x87.2.2.2.2.2.2.2.1.c,.bool x87.2.2.2.2.2.2.2.2.1,.int .i64 x87.2.2.2.2.2.2.2.2.2.1],.int .i64 x88,.agg #[.slice x89.1.a x89.1.n x89.1.c,.slice x89.2.1.a x89.2.1.n x89.2.1.c,.int .i64 x89.2.2.1,.bool x89.2.2.2.1,.int .i64 x89.2.2.2.2.1]] w86 [.agg [.int .i64,.int .i64,.int .i64,.int .i64,.int .i64,.int .i64,.sl,.sl,.bool,.int .i64]] λ(r90:(Int×Int×Int×Int×Int×Int×SlV×SlV×Bool×Int×Unit)×Unit) w91=>
 StoreV w91 ⟨b1,0,none⟩ [.int .i64 r90.1.1,.int .i64 r90.1.2.1,.int .i64 r90.1.2.2.1,.int .i64 r90.1.2.2.2.1,.int .i64 r90.1.2.2.2.2.1,.int .i64 r90.1.2.2.2.2.2.1,.slice r90.1.2.2.2.2.2.2.1.a r90.1.2.2.2.2.2.2.1.n r90.1.2.2.2.2.2.2.1.c,.slice r90.1.2.2.2.2.2.2.2.1.a r90.1.2.2.2.2.2.2.2.1.n r90.1.2.2.2.2.2.2.2.1.c,.bool r90.1.2.2.2.2.2.2.2.2.1,.int .i64 r90.1.2.2.2.2.2.2.2.2.2.1] λw92=>
 StoreV w92 ⟨b1,8,none⟩ [.bool r44.2.2.1] λw93=>
 LoadA w93 ⟨b1,0,none⟩ [.int .i64,.int .i64,.int .i64,.int .i64,.int .i64,.int .i64,.sl,.sl,.bool,.int .i64] λ(x94:Int×Int×Int×Int×Int×Int×SlV×SlV×Bool×Int×Unit)=>
 StoreV w93 ⟨b5,0,none⟩ [.int .i64 x94.1,.int .i64 x94.2.1,.int .i64 x94.2.2.1,.int .i64 x94.2.2.2.1,.int .i64 x94.2.2.2.2.1,.int .i64 x94.2.2.2.2.2.1,.slice x94.2.2.2.2.2.2.1.a x94.2.2.2.2.2.2.1.n x94.2.2.2.2.2.2.1.c,.slice x94.2.2.2.2.2.2.2.1.a x94.2.2.2.2.2.2.2.1.n x94.2.2.2.2.2.2.2.1.c,.bool x94.2.2.2.2.2.2.2.2.1,.int .i64 x94.2.2.2.2.2.2.2.2.2.1] λw95=>
 LoadA w95 ⟨b5,0,none⟩ [.int .i64,.int .i64,.int .i64,.int .i64,.int .i64,.int .i64,.sl,.sl,.bool,.int .i64] λ(x96:Int×Int×Int×Int×Int×Int×SlV×SlV×Bool×Int×Unit)=>
 K ((x96.1,x96.2.1,x96.2.2.1,x96.2.2.2.1,x96.2.2.2.2.1,x96.2.2.2.2.2.1,x96.2.2.2.2.2.2.1,x96.2.2.2.2.2.2.2.1,x96.2.2.2.2.2.2.2.2.1,x96.2.2.2.2.2.2.2.2.2.1,()),r44.1,()) w95) λ(J52:SlV×Unit->World->Prop)=>
 cond (r44.1 != 0)
 (CallV Tryz.prog 91 #[.slice x49.a x49.n x49.c,.slice a2 n2 c2,.slice r44.2.1.a r44.2.1.n r44.2.1.c,.bool (!r44.2.2.1)] w51 [.one .sl] λ(r97:SlV×Unit) w98=>
 J52 (r97.1,()) w98)
 (J52 (r50.1,()) w51)) λ(J40:Unit->World->Prop)=>
 LoadS w28 ⟨b26,1,none⟩ .sl λ(x99:SlV)=>
 LoadS w28 ⟨b3,1,none⟩ (.int .i64) λ(x100:Int)=>
 (0<=x100/\x100<((x99.n:Nat):Int))/\∃ q101:Addr,x99.a=some q101 /\
 LoadS w28 (q101.add (x100.toNat*1)) (.int .i64) λ(x102:Int)=>
 cond (x102 == 0)
 (LoadS w28 ⟨b3,1,none⟩ (.int .i64) λ(x103:Int)=>
 LoadS w28 ⟨b26,2,none⟩ (.int .i64) λ(x104:Int)=>
 cond (decide (x103<=x104))
 (LoadA w28 ⟨b1,0,none⟩ [.int .i64,.int .i64,.int .i64,.int .i64,.int .i64,.int .i64,.sl,.sl,.bool,.int .i64] λ(x105:Int×Int×Int×Int×Int×Int×SlV×SlV×Bool×Int×Unit)=>
 StoreV w28 ⟨b5,0,none⟩ [.int .i64 x105.1,.int .i64 x105.2.1,.int .i64 x105.2.2.1,.int .i64 x105.2.2.2.1,.int .i64 x105.2.2.2.2.1,.int .i64 x105.2.2.2.2.2.1,.slice x105.2.2.2.2.2.2.1.a x105.2.2.2.2.2.2.1.n x105.2.2.2.2.2.2.1.c,.slice x105.2.2.2.2.2.2.2.1.a x105.2.2.2.2.2.2.2.1.n x105.2.2.2.2.2.2.2.1.c,.bool x105.2.2.2.2.2.2.2.2.1,.int .i64 x105.2.2.2.2.2.2.2.2.2.1] λw106=>
 LoadA w106 ⟨b5,0,none⟩ [.int .i64,.int .i64,.int .i64,.int .i64,.int .i64,.int .i64,.sl,.sl,.bool,.int .i64] λ(x107:Int×Int×Int×Int×Int×Int×SlV×SlV×Bool×Int×Unit)=>
 K ((x107.1,x107.2.1,x107.2.2.1,x107.2.2.2.1,x107.2.2.2.2.1,x107.2.2.2.2.2.1,x107.2.2.2.2.2.2.1,x107.2.2.2.2.2.2.2.1,x107.2.2.2.2.2.2.2.2.1,x107.2.2.2.2.2.2.2.2.2.1,()),(6:Int),()) w106)
 (J40 (()) w28))
 (J40 (()) w28))))))
theorem ref13_Program.vc (p0_0 p0_1 p0_2 p0_3 p0_4 p0_5:Int) (a0_6:Option Addr) (n0_6 c0_6:Nat) (a0_7:Option Addr) (n0_7 c0_7:Nat) (p0_8:Bool) (p0_9 p1_0 p1_1:Int) (a2:Option Addr) (n2 c2:Nat) (w:World) (K:(Int×Int×Int×Int×Int×Int×SlV×SlV×Bool×Int×Unit)×Int×Unit->World->Prop) (h:ref13_Program.P p0_0 p0_1 p0_2 p0_3 p0_4 p0_5 a0_6 n0_6 c0_6 a0_7 n0_7 c0_7 p0_8 p0_9 p1_0 p1_1 a2 n2 c2 w K):CallV Tryz.prog 60 #[.agg #[.int .i64 p0_0,.int .i64 p0_1,.int .i64 p0_2,.int .i64 p0_3,.int .i64 p0_4,.int .i64 p0_5,.slice a0_6 n0_6 c0_6,.slice a0_7 n0_7 c0_7,.bool p0_8,.int .i64 p0_9],.agg #[.int .i64 p1_0,.int .i64 p1_1],.slice a2 n2 c2] w [.agg [.int .i64,.int .i64,.int .i64,.int .i64,.int .i64,.int .i64,.sl,.sl,.bool,.int .i64],.one (.int .i64)] K:=by
 refine vcFun.of (A:=ref13_Program.A) (wr:=false) okf_ok follows h Tryz.func60 ?_
 kernel_rfl
end Go.Proofs.YtcekmdehjnlkpaaGreat.Vc
namespace Go.Proofs.YtcekmdehjnlkpaaGreat.Vc
open Go Go.Eng Go.RowKit
abbrev TI:Ty:=.sl (.int .i64)
abbrev TBd:Ty:=.cons TBB (.cons TI (.cons (.int .i64) (.cons .bool (.cons (.int .i64) .nil))))
def bdOf (x:TBd.T):BD:=⟨x.1.l.map (·.l),x.2.1.l,x.2.2.1,x.2.2.2.1,x.2.2.2.2.1⟩
abbrev bdV (x:TBd.T):List Value:=[.slice x.1.a x.1.n x.1.c,.slice x.2.1.a x.2.1.n x.2.1.c,.int .i64 x.2.2.1,.bool x.2.2.2.1,.int .i64 x.2.2.2.2.1]
abbrev bdT (x:TBd.T):SlV×SlV×Int×Bool×Int×Unit:=(⟨x.1.a,x.1.n,x.1.c⟩,⟨x.2.1.a,x.2.1.n,x.2.1.c⟩,x.2.2.1,x.2.2.2.1,x.2.2.2.2.1,())
abbrev bdVal (x:TBd.T):Value:=.agg #[.slice x.1.a x.1.n x.1.c,.slice x.2.1.a x.2.1.n x.2.1.c,.int .i64 x.2.2.1,.bool x.2.2.2.1,.int .i64 x.2.2.2.2.1]
abbrev chV (B:SlP TBd.T) (f:SlP TF.T) (C:CD):List Value:=[.int .i64 C.g.b,.int .i64 C.g.p,.int .i64 C.g.s,.int .i64 C.g.sp,.int .i64 C.g.wr,.int .i64 C.g.ro,.slice B.a B.n B.c,.slice f.a f.n f.c,.bool C.off,.int .i64 (C.ops:Int)]
abbrev chVal (B:SlP TBd.T) (f:SlP TF.T) (C:CD):Value:=.agg #[.int .i64 C.g.b,.int .i64 C.g.p,.int .i64 C.g.s,.int .i64 C.g.sp,.int .i64 C.g.wr,.int .i64 C.g.ro,.slice B.a B.n B.c,.slice f.a f.n f.c,.bool C.off,.int .i64 (C.ops:Int)]
abbrev chT (B:SlP TBd.T) (f:SlP TF.T) (C:CD):Int×Int×Int×Int×Int×Int×SlV×SlV×Bool×Int×Unit:=(C.g.b,C.g.p,C.g.s,C.g.sp,C.g.wr,C.g.ro,⟨B.a,B.n,B.c⟩,⟨f.a,f.n,f.c⟩,C.off,(C.ops:Int),())
structure RefR (H:Nat->Prop) (w:World) (B:SlP TBd.T) (f:SlP TF.T) (C:CD):Prop where
 rb:(Ty.sl TBd).rd w H B
 db:B.l.map bdOf=C.bs
 rf:LF.rd w All f
 df:fds f=C.pl
theorem RefR.ext {H:Nat->Prop} {w w':World} {B:SlP TBd.T} {f:SlP TF.T} {C:CD} (h:RefR H w B f C) (e:Ext w w'):RefR H w' B f C:=⟨Ty.rd_ext e _ h.rb,h.db,Ty.rd_ext e _ h.rf,h.df⟩
theorem RefR.len {H:Nat->Prop} {w:World} {B:SlP TBd.T} {f:SlP TF.T} {C:CD} (h:RefR H w B f C):B.n=C.bs.length:=by rw [<-h.db,List.length_map];exact h.rb.1.symm
theorem RefR.nth {H:Nat->Prop} {w:World} {B:SlP TBd.T} {f:SlP TF.T} {C:CD} (h:RefR H w B f C) {i:Int} (h0:0<=i) (h1:i<(B.n:Int)) :
  ∃ q x,B.a=some q/\CellsAt w (q.add (i.toNat*5)) (bdV x)/\TBd.rd w All x/\B.l[i.toNat]? = some x/\bdOf x=blkC C i/\q.block<w.heap.size:=by
 obtain ⟨q,x,hq,hx,hc,hr,-,hb⟩:=Ty.nth (e:=TBd) ((Ty.sl TBd).rd_mono (G':=All) (λ_ _ _=>trivial) h.rb) h0 h1 (by decide)
 refine ⟨q,x,hq,hc,hr,hx,?_,hb⟩
 show _=C.bs.getD i.toNat default
 rw [getD_some (x:=bdOf x)]
 rw [<-h.db,List.getElem?_map,hx];rfl
theorem rRight13_c {w:World} {g:Geo} {b p:Int}:CallV Tryz.prog 88 #[g.val,.agg #[.int .i64 b,.int .i64 p]] w [.one .bool] λr w'=>r.1=decide (plOk g b p)/\Ext w w':=by
 apply ref13_Right.vc
 unfold ref13_Right.P
 have S:=Sep.start NoB w
 refine S.newB λb1 w1 S f1 _=>?_
 refine S.newB λb3 w3 S f3 _=>?_
 (repeat ((first | refine S.newB λ_ _ S f _=>?_ | refine S.la0 rfl ?_ | refine S.la1 rfl ?_ | refine S.la2 rfl ?_ | refine S.la3 rfl ?_ | refine S.la4 rfl ?_ | refine S.la5 rfl ?_ | refine S.ld0 rfl rfl ?_ | refine S.ld1 rfl rfl ?_ | refine S.ld2 rfl rfl ?_ | refine S.ld3 rfl rfl ?_ | refine S.ld4 rfl rfl ?_ | refine S.ld5 rfl rfl ?_ | refine S.st0 (by rfl) λ_ S f=>?_ | refine S.st1 (by rfl) λ_ S f=>?_ | refine S.st2 (by rfl) λ_ S f=>?_ | refine S.st3 (by rfl) λ_ S f=>?_ | refine S.st4 (by rfl) λ_ S f=>?_ | refine S.st5 (by rfl) λ_ S f=>?_ | refine S.su0 (by rfl) λ_ S f=>?_ | refine S.su1 (by rfl) λ_ S f=>?_ | refine S.su2 (by rfl) λ_ S f=>?_ | refine S.su3 (by rfl) λ_ S f=>?_ | refine S.su4 (by rfl) λ_ S f=>?_ | refine S.su5 (by rfl) λ_ S f=>?_ | refine ⟨by decide,?_⟩);try dsimp only [List.set_cons_zero,List.set_cons_succ,cond_true,cond_false,Bool.not_true,Bool.not_false]))
 refine (Right_c (g:=g)).mono ?_
 rintro ⟨(r:Bool),⟨⟩⟩ w4 ⟨h4,x4⟩
 dsimp only at h4 ⊢
 subst h4
 have S:=S.stepE x4
 by_cases hR:Right g
 case neg=>exact cond_f (decide_eq_false hR) ⟨(decide_eq_false λh=>hR h.1).symm,S.ext⟩
 refine cond_t (decide_eq_true hR) (S.ld0 rfl rfl (cond_d (λh1=>?_) λh1=>⟨(decide_eq_false λh=>h1 h.2.1.1).symm,S.ext⟩))
 refine S.ld0 rfl rfl (S.ld1 rfl rfl (cond_d (λh2=>?_) λh2=>⟨(decide_eq_false λh=>h2 h.2.1.2).symm,S.ext⟩))
 refine S.ld0 rfl rfl (cond_d (λh3=>?_) λh3=>⟨(decide_eq_false λh=>h3 h.2.2.1).symm,S.ext⟩)
 refine S.ld0 rfl rfl (S.ld1 rfl rfl ⟨decide_eq_decide.2 ⟨λh=>⟨hR,⟨h1,h2⟩,h3,h⟩,λh=>h.2.2.2⟩,S.ext⟩)
section
variable {w:World} {B:SlP TBd.T} {f:SlP TF.T} {C:CD}
theorem code_c {H:Nat->Prop} (h:RefR H w B f C) (hC:COk C):CallV Tryz.prog 89 #[chVal B f C] w [.one (.int .i64),.one .sl,.one .bool] λr w'=>
  r.1=(codeC C).1/\r.2.2.1=(codeC C).2.2/\Ints w' .u8 r.2.1.a r.2.1.n r.2.1.c (codeC C).2.1/\Ext w w':=by
 apply ref13_code.vc
 unfold ref13_code.P
 have S:=Sep.start NoB w
 refine S.newB λb1 w1 S f1 _=>?_
 refine S.ld0 (j:=7) rfl rfl (S.ld0 (j:=9) rfl rfl ?_)
 have hrf:=Ty.rd_ext S.ext _ h.rf
 refine (rAt_c (n:=(C.ops:Int)) hrf).mono ?_
 rintro ⟨(r:Int),⟨⟩⟩ w2 ⟨h2,rfl⟩
 rw [h.df] at h2
 dsimp only at h2 ⊢
 have hcode:∀ F:FD,atF C.pl (C.ops:Int)=some F->codeC C=(if F.2.1 then 4 else 5,F.2.2.1,F.2.1):=λF hF=>by unfold codeC;rw [hF]
 cases hi:atI C.pl (C.ops:Int) with
 | none=>
  rw [hi] at h2
  have hF:atF C.pl (C.ops:Int)=none:=by
   unfold atI at hi
   unfold atF
   rw [List.findIdx?_eq_none_iff] at hi
   rw [List.find?_eq_none]
   intro x hx
   simpa using hi x hx
  subst h2
  have hc:codeC C=(0,[],false):=by unfold codeC;rw [hF]
  rw [hc]
  exact cond_t rfl ⟨rfl,rfl,intsNil,S.ext⟩
 | some i=>
  rw [hi] at h2
  dsimp only at h2
  subst h2
  obtain ⟨hil,hF⟩:i<f.n/\∃ F,C.pl[i]? = some F/\atF C.pl (C.ops:Int)=some F:=by
   unfold atI at hi
   rw [List.findIdx?_eq_some_iff_getElem] at hi
   obtain ⟨hl,hp,hlt⟩:=hi
   have hlen:C.pl.length=f.n:=by rw [<-h.df];exact LF_len h.rf
   refine ⟨by omega,C.pl[i],List.getElem?_eq_getElem hl,?_⟩
   unfold atF
   rw [List.find?_eq_some_iff_getElem]
   exact ⟨hp,i,hl,rfl,λj hj=>by simpa using hlt j hj⟩
  obtain ⟨F,hFi,hF⟩:=hF
  obtain ⟨q,x,hq,hx,hc,hr,-,hb⟩:=LF_nth hrf (i:=(i:Int)) (by omega) (by omega)
  have hFx:F=(x.1,x.2.1,x.2.2.1.l,()):=by
   have:=LF_get hx
   rw [Int.toNat_natCast,h.df,hFi] at this
   exact Option.some.inj this
  have hIx:Ints w2 .u8 x.2.2.1.a x.2.2.1.n x.2.2.1.c x.2.2.1.l:=Ty.ints hr.2.2.1
  rw [hcode F hF,hFx]
  refine cond_f (decide_eq_false (by omega)) (S.ld0 (j:=7) rfl rfl ⟨⟨by omega,by dsimp only;omega⟩,q,hq,?_⟩)
  refine ldc (vs:=[.int .i64 x.1,.bool x.2.1,.slice x.2.2.1.a x.2.2.1.n x.2.2.1.c]) hc 1 (h:=.bool) rfl ?_
  refine cond_of (λhx2=>?_) (λhx2=>?_)
  ·refine S.reg λD hD hkeep S T=>?_
   refine ⟨hD _ S.bl0,S.ld0 (j:=7) rfl rfl ⟨⟨by omega,by dsimp only;omega⟩,q,hq,by rw [add_block,add_block];exact hD _ hb,ldc (vs:=[.int .i64 x.1,.bool x.2.1,.slice x.2.2.1.a x.2.2.1.n x.2.2.1.c]) ((Ext.drew w2).cells hc) 2 (h:=.sl) (x:=⟨x.2.2.1.a,x.2.2.1.n,x.2.2.1.c⟩) rfl ?_⟩⟩
   exact ⟨by rw [hx2];rfl,by rw [hx2],hIx.drew,S.ext⟩
  ·refine S.reg λD hD hkeep S T=>?_
   refine ⟨hD _ S.bl0,S.ld0 (j:=7) rfl rfl ⟨⟨by omega,by dsimp only;omega⟩,q,hq,by rw [add_block,add_block];exact hD _ hb,ldc (vs:=[.int .i64 x.1,.bool x.2.1,.slice x.2.2.1.a x.2.2.1.n x.2.2.1.c]) ((Ext.drew w2).cells hc) 2 (h:=.sl) (x:=⟨x.2.2.1.a,x.2.2.1.n,x.2.2.1.c⟩) rfl ?_⟩⟩
   exact ⟨by rw [hx2];rfl,by rw [hx2],hIx.drew,S.ext⟩
end
theorem vs_one_ty:∀ (t:Ty) (x:t.T),oneAll (t.vs x)
 | .int k,x=>λu hu=>by rw [List.mem_singleton.1 hu];rfl
 | .bool,x=>λu hu=>by rw [List.mem_singleton.1 hu];rfl
 | .str,x=>λu hu=>by rw [List.mem_singleton.1 hu];rfl
 | .sl e,x=>λu hu=>by rw [List.mem_singleton.1 hu];rfl
 | .nil,x=>λu hu=>(List.not_mem_nil hu).elim
 | .cons a r,x=>λu hu=>(List.mem_append.1 hu).elim (vs_one_ty a x.1 u) (vs_one_ty r x.2 u)
theorem own_rdF {w:World} {F G:Nat->Prop} {t:Ty} {e:TypeId} {a:Option Addr} {n c:Nat} {L:List t.T} (ho:(OwnA e t.n a n c (L.flatMap t.vs)).p w F) (hp:0<t.n) (hF:∀ k,F k->G k) (h:∀ y∈L,t.rd w G y):(Ty.sl t).rd w G ⟨a,n,c,L⟩:=by
 have hm:=maxLen_eq
 obtain ⟨ho,hq⟩:=ho
 refine ⟨?_,ho.cap,by have:=ho.lim;show n<=maxLen;omega,?_,h⟩
 ·have:=ho.len
  rw [flatF_len (f:=t.vs) (m:=t.n) t.vs_length] at this
  exact Nat.eq_of_mul_eq_mul_right hp this
 ·rcases ho.rd with h | ⟨p,h1,h2⟩
  ·exact .inl h
  ·exact .inr ⟨p,h1,h2,λ_=>hF _ (hq p h1)⟩
theorem with_c {w:World} {B:SlP TBd.T} {f:SlP TF.T} {C:CD} {G:Nat->Prop} {n:Int} {x:TBd.T} (hB:(Ty.sl TBd).rd w G B) (hl:B.n<=1000) (ho:C.ops<=1000000000000) (hx:TBd.rd w G x) (hn:0<=n/\n<(B.n:Int)) :
  CallV Tryz.prog 92 #[chVal B f C,.int .i64 n,bdVal x] w [.agg [.int .i64,.int .i64,.int .i64,.int .i64,.int .i64,.int .i64,.sl,.sl,.bool,.int .i64]] λr w'=>
   ∃ B':SlP TBd.T,r.1=chT B' f {C with ops:=C.ops+1}/\(Ty.sl TBd).rd w' (λk=>G k\/w.heap.size<=k) B'/\B'.l=B.l.set n.toNat x/\Ext w w':=by
 apply ref13_with.vc
 unfold ref13_with.P
 have S:=Sep.start NoB w
 refine S.newB λb1 w1 S f1 _=>?_
 refine S.newB λb3 w3 S f3 _=>?_
 refine S.newB λb5 w5 S f5 _=>?_
 refine S.newB λb7 w7 S f7 _=>?_
 have S:=S.asOwn (sz:=5) (n:=0) rfl (by omega) oneAll.nil
 refine S.ld3 (j:=6) rfl rfl ?_
 dsimp only
 have hrb:=Ty.rd_ext S.ext _ hB
 have hfl:(B.l.flatMap TBd.vs).length=B.n*5:=by rw [flatF_len (f:=TBd.vs) (m:=5) TBd.vs_length];rw [show B.l.length=B.n from hB.1]
 refine AppS.of (news:=B.l.flatMap TBd.vs) hfl hrb.2.2.2.1.rdc ?_
 refine S.ap0 hfl (flatF_one (vs_one_ty TBd) _) (by omega) (by omega) λa c w8 S f8=>?_
 rw [List.nil_append,Nat.zero_add] at S
 rw [Nat.zero_add]
 refine S.la2 rfl ?_
 refine ⟨hn,?_⟩
 refine (S.putF (f:=TBd.vs) (m:=5) TBd.vs_length (vs_one_ty TBd) (by decide) hn x λw9 S f9=>?_)
 refine S.su3 (j:=6) (by rfl) λw10 S f10=>?_
 refine S.ld3 (j:=9) rfl rfl ⟨Rng.i64 (by omega) (by omega),?_⟩
 refine S.su3 (j:=9) (by rfl) λw11 S f11=>?_
 refine S.la3 rfl (S.st1 (by rfl) λw12 S f12=>S.la1 rfl ?_)
 have hX:=S.ext
 refine ⟨⟨a,B.n,c,B.l.set n.toNat x⟩,?_,?_,rfl,hX⟩
 ·show (C.g.b,C.g.p,C.g.s,C.g.sp,C.g.wr,C.g.ro,(⟨a,B.n,c⟩:SlV),(⟨f.a,f.n,f.c⟩:SlV),C.off,(C.ops:Int)+1,())=_
  have:(((C.ops+1:Nat)):Int)=(C.ops:Int)+1:=by push_cast;rfl
  unfold chT
  rw [this]
 ·obtain ⟨F,h1,h2⟩:=S.get (i:=0) rfl
  refine own_rdF (t:=TBd) h1 (by decide) (λk hk=>.inr ((h2 k hk).1.resolve_left λx=>x)) λy hy=>?_
  rcases List.mem_or_eq_of_mem_set hy with h3 | h3
  ·exact TBd.rd_mono (λk hk _=>.inl hk) (Ty.rd_ext hX _ (hB.2.2.2.2 y h3))
  ·rw [h3];exact TBd.rd_mono (λk hk _=>.inl hk) (Ty.rd_ext hX _ hx)
theorem res_rd {w w':World} {s:SlV} {xs:List Int} (h:Res w w' s xs) (bx:Byt xs):TB.rd w' (λk=>w.heap.size<=k) ⟨s.a,s.n,s.c,xs⟩:=by
 have hm:=maxLen_eq
 have hi:=h.ints
 refine ⟨hi.len,hi.cap,by have:=hi.lim;show s.n<=maxLen;omega,?_,λy hy=>rngU8 (bx y hy)⟩
 rw [show xs.flatMap (Ty.int .u8).vs=xs.map (Value.int .u8) from flat_ints .u8 _]
 exact Own_in h.own
theorem blank_c {w:World} {g:Geo} (hR:Right g):CallV Tryz.prog 57 #[g.val] w [.agg [.sl,.sl,.int .i64,.bool,.int .i64]] λr w'=>∃ x:TBd.T,r.1=bdT x/\Sep NoB w w' [RdT TBd x]/\bdOf x=blankB g:=by
 apply ref13_blank.vc
 unfold ref13_blank.P
 have hs:=hR.sec
 have hK:=hR.1
 unfold Kept at hK
 have S:=Sep.start NoB w
 refine S.newB λb1 w1 S f1 _=>?_
 refine S.newB λb3 w3 S f3 _=>?_
 refine S.newB λb5 w5 S f5 _=>?_
 refine S.st0 (by rfl) λw6 S f6=>?_
 have S:=((S.nilL.nilOwn 26 1).nilOwn 3 1).sel [3,1,1,0,0,0] rfl
 obtain ⟨P,hP,hP'⟩:∃ P:Nat,g.p=(P:Int)/\g.p.toNat=P:=⟨g.p.toNat,by omega,rfl⟩
 refine Loop1 (λ(v:Int×Unit) w'=>∃ (i:Nat) (a1 a2:Option Addr) (c1 c2:Nat) (L:List (SlP Int)),v.1=(i:Int)/\i<=P/\L.map (·.l)=List.replicate i (List.replicate (szP g) 255)/\Sep NoB w w' [BoxA b5 51 [.slice a1 i c1,.slice a2 i c2,.int .i64 (-1),.bool false,.int .i64 0],OwnA 26 1 a1 i c1 (L.map slV),RdL L,OwnA 3 1 a2 i c2 (iv (List.replicate i 0)),
   BoxA b3 51 [.slice none 0 0,.slice none 0 0,.int .i64 0,.bool false,.int .i64 0],BoxA b1 23 g.vs]) (λ(v:Int×Unit) _=>((P:Int)-v.1).toNat) ⟨0,none,none,0,0,[],rfl,by omega,rfl,S⟩ ?_
 rintro ⟨(z:Int),⟨⟩⟩ w7 ⟨i,a1,a2,c1,c2,L,hz,hi,hL,S⟩
 dsimp only at hz ⊢
 subst hz
 refine S.ld5 (j:=1) rfl rfl ?_
 rw [hP]
 refine cond_d (λhlt=>?_) (λhge=>?_)
 case refine_2=>
  have:i=P:=by omega
  subst this
  refine S.la0 rfl (S.st4 (by rfl) λw8 S f8=>S.la4 rfl ?_)
  have hX:=S.ext
  have r1:Rng .i64 (-1):=Rng.i64 (by decide) (by decide)
  have r0:Rng .i64 0:=Rng.i64 (by decide) (by decide)
  refine ⟨(⟨a1,i,c1,L⟩,⟨a2,i,c2,List.replicate i 0⟩,-1,false,0,()),rfl,?_,?_⟩
  ·have SA:=(S.sel [1,1,1] rfl).conv2 (R':=RdT TBB ⟨a1,i,c1,L⟩) λF1 F2 h1 h2 _=>by
    rw [<-flat_sl] at h1
    exact own_rdF (t:=TB) h1 (by decide) (λk hk=>.inl hk) λy hy=>TB.rd_mono (λk hk _=>.inr hk) (h2 y hy)
   refine SA.conv2 (R':=RdT TBd (⟨a1,i,c1,L⟩,⟨a2,i,c2,List.replicate i 0⟩,-1,false,0,())) λF1 F2 h1 h2 _=>⟨TBB.rd_mono (λk hk _=>.inl hk) h1,?_,r1,trivial,r0,trivial⟩
   rw [iv,<- flat_ints] at h2
   exact own_rdF (t:=.int .i64) h2 (by decide) (λk hk=>.inr hk) λy hy=>by rw [(List.mem_replicate.1 hy).2];exact r0
  ·unfold bdOf blankB
   dsimp only
   rw [hL,hP']
 refine ⟨λ(_:Unit) w'=>∃ (a1:Option Addr) (c1:Nat) (L:List (SlP Int)),L.map (·.l)=List.replicate (i+1) (List.replicate (szP g) 255)/\Sep NoB w w' [BoxA b5 51 [.slice a1 (i+1) c1,.slice a2 i c2,.int .i64 (-1),.bool false,.int .i64 0],OwnA 26 1 a1 (i+1) c1 (L.map slV),RdL L,OwnA 3 1 a2 i c2 (iv (List.replicate i 0)),
   BoxA b3 51 [.slice none 0 0,.slice none 0 0,.int .i64 0,.bool false,.int .i64 0],BoxA b1 23 g.vs],?_,?_⟩
 ·rintro ⟨⟩ w14 ⟨a1',c1',L',hL',S⟩
  refine S.ld0 (j:=1) rfl rfl ?_
  refine S.newB λb16 w17 S f17 _=>?_
  dsimp only
  refine AppS.of (news:=[.int .i64 0]) rfl (.inr ⟨_,rfl,S.cells 0 rfl⟩) ?_
  refine S.ap4 (by rfl) (λu hu=>by rw [List.mem_singleton.1 hu];rfl) (by omega) (by omega) λa18 c20 w21 S f21=>?_
  refine S.su1 (j:=1) (by rfl) λw23 S f23=>?_
  refine ⟨Rng.i64 (by omega) (by omega),⟨i+1,a1',a18,c1',c20,L',by push_cast;rfl,by omega,hL',?_⟩,by omega⟩
  have e:iv (List.replicate (i+1) 0)=iv (List.replicate i 0)++[Value.int .i64 0]:=by rw [List.replicate_succ',iv,List.map_append];rfl
  rw [e]
  exact S.tail
 ·have hne:=S.ne 0 5 (by decide) rfl rfl
  have hno:=S.neO 5 1 (by decide) rfl rfl
  refine S.regX (λk=>k=b5\/∃ q:Addr,a1=some q/\k=q.block) λD hD hkeep S T=>?_
  have k0:=hkeep _ (Fr.refl _ _)
  refine ⟨hD _ S.bl5 (λh=>h.elim (λh=>hne h.symm) λ⟨q,hq,h⟩=>hno q hq h),S.ld5 (j:=2) rfl rfl ⟨Rng.i64 (by omega) (by omega),?_⟩⟩
  have hsz:(max 0 (min 65536 (g.s+88))).toNat=szP g:=by
   have:max 0 (min 65536 (g.s+88))=g.s+88:=by omega
   rw [this]
  have fin:∀ {w':World} {bb:Nat} {a:Option Addr} {n c:Nat},Sep NoB w7.drew w' [BoxA bb 26 [.slice a n c],OwnA 5 1 a n c ((List.replicate (szP g) 255).map (Value.int .u8))] ->
    AppS w' (some ⟨bb,0,none⟩) 1 1 λns=>AppV w' 26 1 24 a1 i c1 ns 1 λa31 n32 c33 w34=>KeepOn D w7.drew w34/\StoreV w34 ⟨b5,0,none⟩ [.slice a31 n32 c33] λw36=>KeepOn D w7.drew w36 /\
     ∃ (a1:Option Addr) (c1:Nat) (L:List (SlP Int)),L.map (·.l)=List.replicate (i+1) (List.replicate (szP g) 255)/\Sep NoB w w36 [BoxA b5 51 [.slice a1 (i+1) c1,.slice a2 i c2,.int .i64 (-1),.bool false,.int .i64 0],OwnA 26 1 a1 (i+1) c1 (L.map slV),RdL L,OwnA 3 1 a2 i c2 (iv (List.replicate i 0)),
      BoxA b3 51 [.slice none 0 0,.slice none 0 0,.int .i64 0,.bool false,.int .i64 0],BoxA b1 23 g.vs]:=by
   intro w' bb a n c T
   have S:=S.frame0 T
   dsimp only [List.cons_append,List.nil_append] at S
   refine AppS.of (news:=[slV ⟨a,n,c,List.replicate (szP g) 255⟩]) rfl (.inr ⟨_,rfl,S.cells 0 rfl⟩) ?_
   refine S.ap3 (by rfl) (λu hu=>by rw [List.mem_singleton.1 hu];rfl) (by omega) (by omega) λa13 c13 w13 S f13=>?_
   have g13:Fr (λk=>k=b5\/∃ q:Addr,a1=some q/\k=q.block) w7.drew w13:=T.fr.any.trans (f13.mono λk hk=>.inr hk)
   refine ⟨hkeep _ g13,S.su2 (j:=0) (by rfl) λw14 S f14=>⟨hkeep _ (g13.trans (f14.mono λk hk=>.inl hk)),a13,c13,L++[⟨a,n,c,List.replicate (szP g) 255⟩],?_,?_⟩⟩
   ·rw [List.map_append,hL,List.replicate_succ'];rfl
   ·have S:=((S.sel [1,3,1,1,1,1,1] rfl).addL (Byt.replicate (by decide) (by decide) _)).sel [1,1,0,0,0,0] rfl
    rw [List.map_append]
    exact S
  refine ⟨?_,?_⟩
  ·refine S.ld0 (j:=0) rfl rfl ⟨k0,?_⟩
   refine (rFill_c (x:=255) (n:=g.s+88)).mono ?_
   rintro ⟨⟨ra,rn,rc⟩,⟨⟩⟩ w8 h8
   rw [hsz] at h8
   have T:=T.res h8
   dsimp only at T ⊢
   exact ⟨hkeep _ T.fr.any,T.newB λb29 w9 T f9 _=>⟨hkeep _ T.fr.any,fin T⟩⟩
  ·refine (rFill_c (x:=255) (n:=g.s+88)).mono ?_
   rintro ⟨⟨ra,rn,rc⟩,⟨⟩⟩ w8 h8
   rw [hsz] at h8
   have T:=T.res h8
   dsimp only at T ⊢
   have k8:=hkeep _ T.fr.any
   refine ⟨k8,?_,?_⟩
   ·refine (S.stepE T.ext).ld0 (j:=0) rfl rfl ⟨k8,?_⟩
    exact T.newB λb29 w9 T f9 _=>⟨hkeep _ T.fr.any,fin T⟩
   ·refine T.newB λb29 w9 T f9 _=>⟨hkeep _ T.fr.any,?_⟩
    have k9:=hkeep _ T.fr.any
    refine (S.stepE T.ext).ld0 (j:=0) rfl rfl ⟨k9,?_⟩
    dsimp only
    exact fin T
theorem bd_len {g:Geo} {m:Nat} {x:TBd.T} (h:BOk g m (bdOf x)):x.1.l.length=g.p.toNat:=by
 have h2:(x.1.l.map (·.l)).length=g.p.toNat:=h.pl
 rwa [List.length_map] at h2
def RdLT (t:Ty) (L:List t.T):Asr:=⟨λw F=>∀ x∈L,t.rd w F x,λh k x hx=>t.rd_kp (λi hi _=>k i hi) (h x hx)⟩
theorem addT {t:Ty} {x:t.T} {L:List t.T} {E:Nat->Prop} {w0 w:World} {Rs:List Asr} (S:Sep E w0 w (RdT t x::RdLT t L::Rs)):Sep E w0 w (RdLT t (L++[x])::Rs):=
 S.conv2 λF1 F2 h1 h2 _ y hy=>by
  rcases List.mem_append.1 hy with h | h
  ·exact t.rd_mono (λk hk _=>.inr hk) (h2 y h)
  ·rw [List.mem_singleton.1 h];exact t.rd_mono (λk hk _=>.inl hk) h1
theorem rNew13_c {w:World} {g:Geo} {f:SlP TF.T} (hR:Right g) (hf:LF.rd w All f):CallV Tryz.prog 24 #[g.val,.slice f.a f.n f.c] w [.agg [.int .i64,.int .i64,.int .i64,.int .i64,.int .i64,.int .i64,.sl,.sl,.bool,.int .i64]] λr w'=>
  ∃ B:SlP TBd.T,r.1=chT B f (newC g (fds f))/\RefR (λk=>w.heap.size<=k) w' B f (newC g (fds f))/\Ext w w':=by
 apply ref13_New.vc
 unfold ref13_New.P
 have hK:=hR.1
 unfold Kept at hK
 obtain ⟨N,hN,hN'⟩:∃ N:Nat,g.b=(N:Int)/\g.b.toNat=N:=⟨g.b.toNat,by omega,rfl⟩
 have S:=Sep.start NoB w
 refine S.newB λb1 w1 S f1 _=>?_
 refine S.newB λb3 w3 S f3 _=>?_
 refine S.la1 rfl ?_
 refine S.newB λb6 w6 S f6 _=>?_
 refine S.st0 (by rfl) λw7 S f7=>?_
 have S:Sep NoB w w7 (RdLT TBd []::_):=S.push (F:=NoB) (Fr.refl _ _) (λx hx=>(List.not_mem_nil hx).elim) λ_ x=>x.elim
 have S:=(S.nilOwn 51 5).sel [2,0,0,0,0] rfl
 refine Loop1 (λ(v:Int×Unit) w'=>∃ (i:Nat) (a:Option Addr) (c:Nat) (L:List TBd.T),v.1=(i:Int)/\i<=N/\L.map bdOf=List.replicate i (blankB g)/\Sep NoB w w' [BoxA b6 45 [.int .i64 g.b,.int .i64 g.p,.int .i64 g.s,.int .i64 g.sp,.int .i64 g.wr,.int .i64 g.ro,.slice a i c,.slice f.a f.n f.c,.bool false,.int .i64 0],
   OwnA 51 5 a i c (L.flatMap TBd.vs),RdLT TBd L,BoxA b3 45 [.int .i64 0,.int .i64 0,.int .i64 0,.int .i64 0,.int .i64 0,.int .i64 0,.slice none 0 0,.slice none 0 0,.bool false,.int .i64 0],BoxA b1 23 g.vs]) (λ(v:Int×Unit) _=>((N:Int)-v.1).toNat) ⟨0,none,0,[],rfl,by omega,rfl,S⟩ ?_
 rintro ⟨(z:Int),⟨⟩⟩ w8 ⟨i,a,c,L,hz,hi,hL,S⟩
 dsimp only at hz ⊢
 subst hz
 refine S.ld4 (j:=0) rfl rfl ?_
 refine cond_d (λhlt=>?_) (λhge=>?_)
 case refine_2=>
  have hiN:i=N:=by omega
  subst hiN
  refine S.la0 rfl (S.st3 (by rfl) λw9 S f9=>S.la3 rfl ?_)
  have X:=S.ext
  refine ⟨⟨a,i,c,L⟩,rfl,⟨?_,?_,Ty.rd_ext X _ hf,rfl⟩,X⟩
  ·obtain ⟨F0,h0,h0'⟩:=S.get (i:=1) rfl
   refine own_rdF (t:=TBd) h0 (by decide) (λk hk=>(h0' k hk).1.resolve_left λx=>x) λy hy=>?_
   obtain ⟨F1,h1,h1'⟩:=S.get (i:=2) rfl
   exact TBd.rd_mono (λk hk _=>(h1' k hk).1.resolve_left λx=>x) (h1 y hy)
  ·show L.map bdOf=_
   rw [hL]
   unfold newC
   rw [hN']
 have hne:=S.ne 0 4 (by decide) rfl rfl
 have hno:=S.neO 4 1 (by decide) rfl rfl
 refine S.regX (λk=>k=b6\/∃ q:Addr,a=some q/\k=q.block) λD hD hkeep S T=>?_
 have k0:=hkeep _ (Fr.refl _ _)
 have fin:∀ {w':World} {bb:Nat} {x:TBd.T},bdOf x=blankB g->Sep NoB w8.drew w' [BoxA bb 51 (bdV x),RdT TBd x] ->
   AppS w' (some ⟨bb,0,none⟩) 1 5 λns=>AppV w' 51 5 72 a i c ns 1 λa20 n21 c22 w23=>KeepOn D w8.drew w23/\StoreV w23 ⟨b6,6,none⟩ [.slice a20 n21 c22] λw25=>KeepOn D w8.drew w25/\Rng .i64 ((i:Int)+1) /\
    (∃ (j:Nat) (a:Option Addr) (c:Nat) (L:List TBd.T),(i:Int)+1=(j:Int)/\j<=N/\L.map bdOf=List.replicate j (blankB g)/\Sep NoB w w25 [BoxA b6 45 [.int .i64 g.b,.int .i64 g.p,.int .i64 g.s,.int .i64 g.sp,.int .i64 g.wr,.int .i64 g.ro,.slice a j c,.slice f.a f.n f.c,.bool false,.int .i64 0],
     OwnA 51 5 a j c (L.flatMap TBd.vs),RdLT TBd L,BoxA b3 45 [.int .i64 0,.int .i64 0,.int .i64 0,.int .i64 0,.int .i64 0,.int .i64 0,.slice none 0 0,.slice none 0 0,.bool false,.int .i64 0],BoxA b1 23 g.vs])/\((N:Int)-((i:Int)+1)).toNat<((N:Int)-(i:Int)).toNat:=by
  intro w' bb x hbx T
  have S:=S.frame0 T
  dsimp only [List.cons_append,List.nil_append] at S
  refine AppS.of (news:=TBd.vs x) rfl (.inr ⟨_,rfl,S.cells 0 rfl⟩) ?_
  refine S.ap3 (by rfl) (vs_one_ty TBd x) (by omega) (by omega) λa13 c13 w13 S f13=>?_
  have g13:Fr (λk=>k=b6\/∃ q:Addr,a=some q/\k=q.block) w8.drew w13:=T.fr.any.trans (f13.mono λk hk=>.inr hk)
  refine ⟨hkeep _ g13,S.su2 (j:=6) (by rfl) λw14 S f14=>⟨hkeep _ (g13.trans (f14.mono λk hk=>.inl hk)),Rng.i64 (by omega) (by omega),⟨i+1,a13,c13,L++[x],by push_cast;rfl,by omega,by rw [List.map_append,hL,List.replicate_succ',<- hbx];rfl,?_⟩,by omega⟩⟩
  have S:=(addT (S.sel [1,3,1,1,1,1] rfl)).sel [1,1,0,0,0] rfl
  rw [List.flatMap_append,List.flatMap_singleton]
  exact S
 refine ⟨hD _ S.bl4 (λh=>h.elim (λh=>hne h.symm) λ⟨q,hq,h⟩=>hno q hq h),S.la4 rfl ⟨?_,?_⟩⟩
 ·refine S.ld0 (j:=6) rfl rfl ⟨k0,?_⟩
  refine (blank_c (g:=g) hR).mono ?_
  rintro ⟨_,⟨⟩⟩ w9 ⟨x,hx,T9,hbx⟩
  dsimp only at hx
  subst hx
  have T:=T.frame0 T9
  dsimp only [List.cons_append,List.nil_append] at T
  exact ⟨hkeep _ T.fr.any,T.newB λb29 w10 T f10 _=>⟨hkeep _ T.fr.any,fin hbx T⟩⟩
 ·refine (blank_c (g:=g) hR).mono ?_
  rintro ⟨_,⟨⟩⟩ w9 ⟨x,hx,T9,hbx⟩
  dsimp only at hx
  subst hx
  have T:=T.frame0 T9
  dsimp only [List.cons_append,List.nil_append] at T
  have k8:=hkeep _ T.fr.any
  refine ⟨k8,?_,?_⟩
  ·refine (S.stepE T.ext).ld0 (j:=6) rfl rfl ⟨k8,?_⟩
   exact T.newB λb29 w10 T f10 _=>⟨hkeep _ T.fr.any,fin hbx T⟩
  ·refine T.newB λb29 w10 T f10 _=>⟨hkeep _ T.fr.any,?_⟩
   have k9:=hkeep _ T.fr.any
   refine (S.stepE T.ext).ld0 (j:=6) rfl rfl ⟨k9,?_⟩
   dsimp only
   exact fin hbx T
theorem _root_.Go.Eng.Sep.off {E:Nat->Prop} {w0 w:World} {Rs:List Asr} (S:Sep E w0 w Rs) (i:Nat) {R:Asr} (hi:Rs[i]? = some R) :
  ∃ F,R.p w F/\(∀ k,F k->(E k\/w0.heap.size<=k)/\k<w.heap.size)/\∀ (j b:Nat) (e:TypeId) (vs:List Value),j≠i->Rs[j]? = some (BoxA b e vs)->¬ F b:=by
 obtain ⟨F,h,hF⟩:=S.ex
 obtain ⟨F1,F2,h1,h2,h3,h4,h5⟩:=StarP.perm (perm_front hi) h
 refine ⟨F1,h1,λk hk=>hF k (h4 k hk),λj b e vs hj hjb hb=>?_⟩
 have:(Rs.eraseIdx i)[if j<i then j else j-1]? = some (BoxA b e vs):=by
  split
  ·rw [List.getElem?_eraseIdx_of_lt (by omega)];exact hjb
  ·rw [List.getElem?_eraseIdx_of_ge (by omega),show j-1+1=j by omega];exact hjb
 obtain ⟨G,g1,g2⟩:=StarP.get this h2
 exact h3 b hb (g2 b g1.1)
theorem rd_keep {t:Ty} {w w':World} {G X H:Nat->Prop} {x:t.T} (h:t.rd w G x) (f:Fr X w w') (hG:∀ k,G k->H k) (hd:∀ k,G k->k<w.heap.size->¬ X k):t.rd w' H x:=
 t.rd_mono (λk hk _=>hG k hk) (t.rd_kp (λk hk hl=>f.block k hl (hd k hk hl)) h)
section
variable {H:Nat->Prop} {w:World} {B:SlP TBd.T} {f:SlP TF.T} {C:CD}
abbrev SH10:List SS:=[.int .i64,.int .i64,.int .i64,.int .i64,.int .i64,.int .i64,.sl,.sl,.bool,.int .i64]
end
section
variable {H:Nat->Prop} {w:World} {B:SlP TBd.T} {f:SlP TF.T} {C:CD}
abbrev zCH:List Value:=[.int .i64 0,.int .i64 0,.int .i64 0,.int .i64 0,.int .i64 0,.int .i64 0,.slice none 0 0,.slice none 0 0,.bool false,.int .i64 0]
theorem asWas {w':World} {Rs:List Asr} {e:Int} {C':CD×Int} {b5 b1:Nat} {e5 e1:TypeId} (h:RefR H w B f C) (he:C'=(C,e)) (S:Sep NoB w w' (BoxA b5 e5 zCH::BoxA b1 e1 (chV B f C)::Rs)) :
  LoadA w' ⟨b1,0,none⟩ SH10 λx=>StoreV w' ⟨b5,0,none⟩ [.int .i64 x.1,.int .i64 x.2.1,.int .i64 x.2.2.1,.int .i64 x.2.2.2.1,.int .i64 x.2.2.2.2.1,.int .i64 x.2.2.2.2.2.1,.slice x.2.2.2.2.2.2.1.a x.2.2.2.2.2.2.1.n x.2.2.2.2.2.2.1.c,.slice x.2.2.2.2.2.2.2.1.a x.2.2.2.2.2.2.2.1.n x.2.2.2.2.2.2.2.1.c,.bool x.2.2.2.2.2.2.2.2.1,.int .i64 x.2.2.2.2.2.2.2.2.2.1] λw9=>
   LoadA w9 ⟨b5,0,none⟩ SH10 λx=>∃ B':SlP TBd.T,(x.1,x.2.1,x.2.2.1,x.2.2.2.1,x.2.2.2.2.1,x.2.2.2.2.2.1,x.2.2.2.2.2.2.1,x.2.2.2.2.2.2.2.1,x.2.2.2.2.2.2.2.2.1,x.2.2.2.2.2.2.2.2.2.1,())=chT B' f C'.1/\e=C'.2/\RefR H w9 B' f C'.1/\Ext w w9:=by
 refine S.la1 rfl (S.st0 (by rfl) λw9 S f9=>S.la0 rfl ?_)
 have X:=S.ext
 rw [he]
 exact ⟨B,rfl,rfl,h.ext X,X⟩
theorem rProgram13_c {bl pa:Int} {a:Option Addr} {n c:Nat} {xs:List Int} (hH:∀ k,w.heap.size<=k->H k) (h:RefR H w B f C) (hC:COk C) (ho:C.ops<1000000000000) (hx:Ints w .u8 a n c xs) (bx:Byt xs) :
  CallV Tryz.prog 60 #[chVal B f C,.agg #[.int .i64 bl,.int .i64 pa],.slice a n c] w [.agg SH10,.one (.int .i64)] λr w'=>∃ B':SlP TBd.T,r.1=chT B' f (progC C bl pa xs).1/\r.2.1=(progC C bl pa xs).2/\RefR H w' B' f (progC C bl pa xs).1/\Ext w w':=by
 apply ref13_Program.vc
 unfold ref13_Program.P
 obtain ⟨⟨n1,n2⟩,⟨n3,n4⟩,⟨n5,n6⟩,n7,n8⟩:=hC.num
 have hBn:=h.len
 have hxl:=hx.len
 rw [hC.bl] at hBn
 have S:=Sep.start NoB w
 refine S.newB λb1 w1 S f1 _=>?_
 refine S.newB λb3 w3 S f3 _=>?_
 refine S.newB λb5 w5 S f5 _=>?_
 have hno:∀ {e:Int},refC C bl pa xs.length=e->e≠0->progC C bl pa xs=(C,e):=λhe h0=>by unfold progC;rw [he,if_neg h0]
 refine S.ld2 (j:=8) rfl rfl (cond_of (λhoff=>asWas h (hno (e:=4) (by unfold refC;rw [if_pos hoff]) (by decide)) (S.sel [0,1] rfl)) λhoff=>?_)
 have hoff':¬ C.off=true:=by rw [hoff];decide
 refine S.lb2 (o:=0) rfl (S.la1 rfl ?_)
 refine (rRight13_c (g:=C.g) (b:=bl) (p:=pa)).mono ?_
 rintro ⟨(r:Bool),⟨⟩⟩ w6 ⟨h6,x6⟩
 dsimp only at h6 ⊢
 subst h6
 have S:=S.stepE x6
 by_cases hi:inC C bl pa
 case neg=>exact cond_t (by rw [decide_eq_false (λk=>hi k.2)];rfl) (asWas h (hno (e:=2) (by unfold refC;rw [if_neg hoff',if_pos (λk=>hi k.1)]) (by decide)) (S.sel [0,1] rfl))
 refine cond_f (by rw [decide_eq_true (show plOk C.g bl pa from ⟨hC.g,hi⟩)];rfl) ?_
 refine S.ld2 (j:=2) rfl rfl ⟨Rng.i64 (by omega) (by omega),?_⟩
 have href:=refC_eq (n:=xs.length) hoff' hi
 refine cond_ne (λhn=>asWas h (hno (e:=2) (by rw [href,if_pos (by omega)]) (by decide)) (S.sel [0,1] rfl)) λhn=>?_
 have hxz:xs.length=szP C.g:=by omega
 rw [if_neg (λk=>k hxz)] at href
 refine S.ld2 (j:=6) rfl rfl (S.ld1 (j:=0) rfl rfl ?_)
 obtain ⟨q,x,hq,hc,hr,hxx,hbd,-⟩:=(h.ext S.ext).nth (i:=bl) hi.1.1 (by have:=hi.1.2;omega)
 refine ⟨⟨hi.1.1,by have:=hi.1.2;dsimp only;omega⟩,q,hq,bdT x,hc,?_⟩
 refine S.newB λb26 w7 S f7 _=>?_
 refine S.st0 (by rfl) λw8 S f8=>?_
 have hb:=(hC.blk hi.1).2
 have hsc:(blkC C bl).sc=x.2.2.2.1:=by rw [<-hbd];rfl
 have hus:(blkC C bl).us=x.2.1.l:=by rw [<-hbd];rfl
 have hla:(blkC C bl).la=x.2.2.1:=by rw [<-hbd];rfl
 refine S.ld0 (j:=3) rfl rfl (cond_of (λhs=>asWas h (hno (e:=7) (by rw [href,if_pos (.inl (by rw [hsc];exact hs))]) (by decide)) (S.sel [1,2] rfl)) λhs=>?_)
 have hmem:x∈B.l:=List.mem_of_getElem? hxx
 have hrx:TBd.rd w (λk=>k<w.heap.size/\H k) x:=TBd.rd_mono (λk hk1 hk=>⟨hk,hk1⟩) (h.rb.2.2.2.2 x hmem)
 have hge:∀ (i:Nat) (b:Nat) (e:TypeId) (vs:List Value),[BoxA b26 51 (bdV x),BoxA b5 45 zCH,BoxA b3 57 [.int .i64 bl,.int .i64 pa],BoxA b1 45 (chV B f C)][i]? = some (BoxA b e vs)->w.heap.size<=b:=λi b e vs hi=>by
  obtain ⟨F3,h3,h3'⟩:=S.get hi
  exact (h3' b h3.1).1.resolve_left λx=>x
 have g26:=hge 0 _ _ _ rfl
 have g5:=hge 1 _ _ _ rfl
 have g1:=hge 3 _ _ _ rfl
 clear hge
 have l26:=S.bl0
 have l5:=S.bl1
 have l1:=S.bl3
 have X8:=S.ext
 have hr8:=TBd.rd_mono (λ_ _ _=>trivial) (Ty.rd_ext X8 _ hrx) (G':=All)
 have hul:x.2.1.n=C.g.p.toNat:=by rw [<-hb.ul,hus];exact hr8.2.1.1.symm
 have hpp:=hi.2
 have hu8:Ints w8 .i64 x.2.1.a x.2.1.n x.2.1.c x.2.1.l:=Ty.ints hr8.2.1
 have hue:x.2.1.l.getD pa.toNat 0=usC C bl pa:=by rw [<-hus]
 have hu2:=(hC.us hi).2
 refine S.ld0 (j:=1) rfl rfl (S.ld2 (j:=1) rfl rfl (hu8.idx (by omega) (by omega) ?_))
 rw [hue]
 refine cond_d (λh2=>asWas h (hno (e:=7) (by rw [href,if_pos (.inr h2)]) (by decide)) (S.sel [1,2] rfl)) λh2=>?_
 rw [if_neg (λk=>k.elim (λk=>by rw [hsc,hs] at k;cases k) h2)] at href
 refine ⟨λ(_:Unit) w'=>w'=w8/\refC C bl pa xs.length=0,?_,?_⟩
 case refine_2=>
  refine S.ld0 (j:=1) rfl rfl (S.ld2 (j:=1) rfl rfl (hu8.idx (by omega) (by omega) ?_))
  rw [hue]
  refine cond_eq (λh0=>?_) (λh0=>⟨rfl,by rw [href,if_neg (λk=>h0 k.1)]⟩)
  refine S.ld2 (j:=1) rfl rfl (S.ld0 (j:=2) rfl rfl (cond_d (λhp=>?_) λhp=>⟨rfl,by rw [href,if_neg (λk=>hp (by rw [<-hla];exact k.2))]⟩))
  exact asWas h (hno (e:=6) (by rw [href,if_pos ⟨h0,by rw [hla];exact hp⟩]) (by decide)) (S.sel [1,2] rfl)
 rintro ⟨⟩ w9 ⟨rfl,href0⟩
 clear href hno
 refine S.la3 rfl ?_
 refine (code_c (h.ext X8) hC).mono ?_
 rintro ⟨(e:Int),⟨ma,mn,mc⟩,(cr:Bool),⟨⟩⟩ w10 ⟨h10,h10',i10,x10⟩
 dsimp only at h10 h10' i10 ⊢
 subst h10;subst h10'
 have S:=S.stepE x10
 refine S.ld0 (j:=0) rfl rfl (S.ld2 (j:=1) rfl rfl ?_)
 have hr10:=Ty.rd_ext x10 _ hr8
 have hpl:x.1.n=C.g.p.toNat:=by rw [<-bd_len (x:=x) (by rw [hbd];exact hb)];exact hr8.1.1.symm
 obtain ⟨q2,y,hq2,hy,hc2,hry,-,-⟩:=TBB_nth hr10.1 (i:=pa) (by omega) (by omega)
 have hyp:y.l=pgC13 C bl pa:=by
  have h1:(x.1.l.map (·.l))[pa.toNat]? = some y.l:=by rw [List.getElem?_map,hy];rfl
  have h2:(blkC C bl).pg=x.1.l.map (·.l):=by rw [<-hbd];rfl
  show _=(blkC C bl).pg.getD pa.toNat []
  rw [h2,getD_some h1]
 have hyI:=Ty.ints hry
 rw [hyp] at hyI
 have hyl:=hyI.len
 rw [(hC.page hi).2.1] at hyl
 refine ⟨⟨by omega,by dsimp only;omega⟩,q2,hq2,ldp0 hc2 (h:=.sl) (x:=⟨y.a,y.n,y.c⟩) rfl ?_⟩
 dsimp only
 have X10:=X8.trans x10
 refine (And_c hyI (hx.ext X10) (by omega) (by omega)).mono ?_
 rintro ⟨⟨na,nn,nc⟩,⟨⟩⟩ w11 h11
 dsimp only at h11 ⊢
 have hbm:Byt (codeC C).2.1:=by
  unfold codeC
  cases hat:atF C.pl (C.ops:Int) with
  | none=>exact Byt.nil
  | some F=>exact atF_byt hC hat
 have hbp:=(hC.page hi).2.2
 generalize hQ:(if (codeC C).1=0 then andL (pgC13 C bl pa) xs else progL (pgC13 C bl pa) xs (codeC C).2.1 (!(codeC C).2.2))=Q
 have hQl:Q.length=szP C.g:=by
  rw [<-hQ]
  split
  ·rw [<-(hC.page hi).2.1];simp [andL]
  ·unfold progL;rw [turn_len];exact (hC.page hi).2.1
 have hQb:Byt Q:=by rw [<-hQ];split;exact andL_byt _ _;exact turn_byt hbp _ _
 refine ⟨λ(v:SlV×Unit) w'=>Ext w10 w'/\TB.rd w' (λk=>w10.heap.size<=k) ⟨v.1.a,v.1.n,v.1.c,Q⟩,?_,?_⟩
 case refine_2=>
  refine cond_ne (λhc0=>?_) (λhc0=>?_)
  ·have hc0:¬ (codeC C).1=0:=hc0
   have hs11:=h11.ext.size
   obtain ⟨na',hna'⟩:∃ t:SlV,t=⟨a,n,c⟩:=⟨_,rfl⟩
   have hnn:n=y.n:=by omega
   subst hnn
   refine (Program_c (hyI.ext h11.ext) hbp (hx.ext (X10.trans h11.ext)) bx (i10.ext h11.ext) hbm (by omega)).mono ?_
   rintro ⟨⟨ra,rn,rc⟩,⟨⟩⟩ w12 h12
   refine ⟨h11.ext.trans h12.ext,?_⟩
   rw [if_neg hc0] at hQ
   have hq:turn (pgC13 C bl pa) (prF (pgC13 C bl pa) xs (codeC C).2.1 (!(codeC C).2.2) y.n) (8*y.n)=Q:=by
    rw [<-hQ]
    unfold progL
    rw [(hC.page hi).2.1,hyl]
   rw [hq] at h12
   exact TB.rd_mono (λk hk _=>by omega) (res_rd h12 hQb)
  ·have hc0:(codeC C).1=0:=hc0
   rw [if_pos hc0] at hQ
   rw [hQ] at h11
   exact ⟨h11.ext,res_rd h11 hQb⟩
 rintro ⟨⟨va,vn,vc⟩,⟨⟩⟩ w12 ⟨x12,hvQ⟩
 dsimp only at hvQ ⊢
 have S:=S.push (R:=RdT TB ⟨va,vn,vc,Q⟩) (F:=λk=>w10.heap.size<=k/\k<w12.heap.size) (.of x12) (TB.rd_mono (λk h1 h2=>⟨h1,h2⟩) hvQ) λk hk=>hk
 have hrP:TBB.rd w12 All x.1:=Ty.rd_ext x12 _ hr10.1
 have hrU:TI.rd w12 All x.2.1:=Ty.rd_ext x12 _ hr10.2.1
 have hPc:RdC w12 x.1.a (x.1.l.map slV):=by
  have:=hrP.2.2.2.1.rdc
  rwa [show x.1.l.flatMap TB.vs=x.1.l.map slV from flat_sl _] at this
 have hUi:Ints w12 .i64 x.2.1.a x.2.1.n x.2.1.c x.2.1.l:=Ty.ints hrU
 have hPl:x.1.l.length=x.1.n:=hrP.1
 have hUl:x.2.1.l.length=x.2.1.n:=hrU.1
 have w12s:Sep NoB w12 w12 []:=Sep.start NoB w12
 refine S.newB λb55 w13 S f13 _=>?_
 have S:=S.asOwn (sz:=1) (n:=0) rfl (by omega) oneAll.nil
 refine S.ld2 (j:=0) rfl rfl ?_
 dsimp only
 have X13:=Fr.ext f13
 refine AppS.of (news:=x.1.l.map slV) (by rw [List.length_map];omega) (X13.rd hPc) ?_
 refine S.ap0 (by rw [List.length_map];omega) (λu hu=>by obtain ⟨v,-,rfl⟩:=List.mem_map.1 hu;rfl) (by omega) (by omega) λa58 c60 w14 S f14=>?_
 rw [List.nil_append,Nat.zero_add] at S
 rw [Nat.zero_add]
 refine S.su2 (j:=0) (by rfl) λw15 S f15=>?_
 refine S.newB λb64 w16 S f16 _=>?_
 have S:=S.asOwn (sz:=1) (n:=0) rfl (by omega) oneAll.nil
 refine S.ld3 (j:=1) rfl rfl ?_
 dsimp only
 have X16:Ext w w16:=S.ext
 have hU16:Ints w16 .i64 x.2.1.a x.2.1.n x.2.1.c x.2.1.l:=Ty.ints (Ty.rd_ext X16 _ hrx).2.1
 refine AppS.of (news:=iv x.2.1.l) (by rw [List.length_map];omega) hU16.rd ?_
 refine S.ap0 (by rw [List.length_map];omega) (oneAll.ints _ _) (by omega) (by omega) λa67 c69 w17 S f17=>?_
 rw [List.nil_append,Nat.zero_add] at S
 rw [Nat.zero_add]
 refine S.su3 (j:=1) (by rfl) λw18 S f18=>?_
 refine S.ld3 (j:=0) rfl rfl (S.ld5 (j:=1) rfl rfl ?_)
 refine S.put (i:=1) rfl (by omega) (by omega) (v:=.slice va vn vc) rfl λw19 S f19=>?_
 dsimp only [List.set_cons_succ,List.set_cons_zero] at S
 refine S.ld3 (j:=1) rfl rfl (S.ld5 (j:=1) rfl rfl ?_)
 dsimp only
 refine (S.ints 0 rfl).idx (by omega) (by omega) ?_
 rw [hue]
 refine ⟨Rng.i64 (by omega) (by omega),?_⟩
 refine S.put (i:=0) rfl (by omega) (by omega) (v:=.int .i64 (usC C bl pa+1)) rfl λw20 S f20=>?_
 dsimp only [List.set_cons_succ,List.set_cons_zero] at S
 rw [iv_set] at S
 refine S.ld3 (j:=2) rfl rfl (S.ld5 (j:=1) rfl rfl ?_)
 intro z hz
 subst hz
 refine S.su3 (j:=2) (by rfl) λw21 S f21=>?_
 refine S.la6 rfl (S.ld5 (j:=0) rfl rfl (S.la3 rfl ?_))
 dsimp only
 have X21:=S.ext
 obtain ⟨FP,hFP,nP,oP⟩:=S.off 1 rfl
 obtain ⟨FU,hFU,nU,oU⟩:=S.off 0 rfl
 obtain ⟨FQ,hFQ,nQ,oQ⟩:=S.off 2 rfl
 have aP:∀ k,FP k->H k/\k≠b1/\k≠b5:=λk hk=>⟨hH k ((nP k hk).1.resolve_left λx=>x),λe=>oP 6 _ _ _ (by decide) rfl (e ▸ hk),λe=>oP 4 _ _ _ (by decide) rfl (e ▸ hk)⟩
 have aU:∀ k,FU k->H k/\k≠b1/\k≠b5:=λk hk=>⟨hH k ((nU k hk).1.resolve_left λx=>x),λe=>oU 6 _ _ _ (by decide) rfl (e ▸ hk),λe=>oU 4 _ _ _ (by decide) rfl (e ▸ hk)⟩
 have aQ:∀ k,FQ k->H k/\k≠b1/\k≠b5:=λk hk=>⟨hH k ((nQ k hk).1.resolve_left λx=>x),λe=>oQ 6 _ _ _ (by decide) rfl (e ▸ hk),λe=>oQ 4 _ _ _ (by decide) rfl (e ▸ hk)⟩
 have hx21:=Ty.rd_ext X21 _ hrx
 have hla2:=hb.la
 rw [hla] at hla2
 have ewP:(x.1.l.map slV).set pa.toNat (.slice va vn vc)=(x.1.l.set pa.toNat ⟨va,vn,vc,Q⟩).flatMap TB.vs:=by rw [show (x.1.l.set pa.toNat ⟨va,vn,vc,Q⟩).flatMap TB.vs=(x.1.l.set pa.toNat ⟨va,vn,vc,Q⟩).map slV from flat_sl _,List.map_set]
 rw [ewP] at hFP
 have hQ21:TB.rd w21 (λk=>H k/\k≠b1/\k≠b5) ⟨va,vn,vc,Q⟩:=TB.rd_mono (λk hk _=>aQ k hk) hFQ
 have old:∀ k,k<w.heap.size/\H k->H k/\k≠b1/\k≠b5:=λk hk=>⟨hk.2,by omega,by omega⟩
 have hP':TBB.rd w21 (λk=>H k/\k≠b1/\k≠b5) ⟨a58,x.1.n,c60,x.1.l.set pa.toNat ⟨va,vn,vc,Q⟩⟩:=by
  refine own_rdF (t:=TB) hFP (by decide) aP λy hy=>?_
  rcases List.mem_or_eq_of_mem_set hy with hm | hm
  ·exact TB.rd_mono (λk hk _=>old k hk) (hx21.1.2.2.2.2 y hm)
  ·rw [hm];exact hQ21
 have hU':TI.rd w21 (λk=>H k/\k≠b1/\k≠b5) ⟨a67,x.2.1.n,c69,x.2.1.l.set pa.toNat (usC C bl pa+1)⟩:=by
  rw [iv,<- flat_ints] at hFU
  refine own_rdF (t:=.int .i64) hFU (by decide) aU λy hy=>?_
  rcases List.mem_or_eq_of_mem_set hy with hm | hm
  ·exact hx21.2.1.2.2.2.2 y hm
  ·rw [hm];exact Rng.i64 (by omega) (by omega)
 have rla:Rng .i64 (max x.2.2.1 pa):=Rng.i64 (by omega) (by omega)
 have hx':TBd.rd w21 (λk=>H k/\k≠b1/\k≠b5) (⟨a58,x.1.n,c60,x.1.l.set pa.toNat ⟨va,vn,vc,Q⟩⟩,⟨a67,x.2.1.n,c69,x.2.1.l.set pa.toNat (usC C bl pa+1)⟩,max x.2.2.1 pa,x.2.2.2.1,x.2.2.2.2.1,()):=
  ⟨hP',hU',rla,trivial,hx21.2.2.2.2.1,trivial⟩
 have hB':(Ty.sl TBd).rd w21 (λk=>H k/\k≠b1/\k≠b5) B:=Ty.rd_ext X21 _ ((Ty.sl TBd).rd_mono (λk hk1 hk=>old k ⟨hk,hk1⟩) h.rb)
 have hN1:=S.bl6
 have hN5:=S.bl4
 refine (with_c (f:=f) (C:=C) (n:=bl) (x:=(⟨a58,x.1.n,c60,x.1.l.set pa.toNat ⟨va,vn,vc,Q⟩⟩,⟨a67,x.2.1.n,c69,x.2.1.l.set pa.toNat (usC C bl pa+1)⟩,max x.2.2.1 pa,x.2.2.2.1,x.2.2.2.2.1,())) hB' (by omega) (by omega) hx' ⟨hi.1.1,by have:=hi.1.2;omega⟩).mono ?_
 rintro ⟨_,⟨⟩⟩ w22 ⟨B',hr',hrd',hl',x22⟩
 dsimp only at hr'
 subst hr'
 have S:=S.stepE x22
 refine S.st6 (by rfl) λw23 S f23=>S.su6 (j:=8) (by rfl) λw24 S f24=>S.la6 rfl (S.st4 (by rfl) λw25 S f25=>S.la4 rfl ?_)
 have X:=S.ext
 have hbd2:bdOf (⟨a58,x.1.n,c60,x.1.l.set pa.toNat ⟨va,vn,vc,Q⟩⟩,⟨a67,x.2.1.n,c69,x.2.1.l.set pa.toNat (usC C bl pa+1)⟩,max x.2.2.1 pa,x.2.2.2.1,x.2.2.2.2.1,())={blkC C bl with pg:=(blkC C bl).pg.set pa.toNat Q,us:=(blkC C bl).us.set pa.toNat (usC C bl pa+1),la:=max (blkC C bl).la pa}:=by
  rw [<-hbd]
  unfold bdOf
  dsimp only
  rw [List.map_set]
 have hC':(progC C bl pa xs).1={C with bs:=B'.l.map bdOf,off:=(codeC C).2.2,ops:=C.ops+1,tr:=(progC C bl pa xs).1.tr}:=by
  unfold progC
  rw [if_pos href0]
  unfold progX
  rw [hQ,hl',List.map_set,h.db,hbd2]
 refine ⟨B',?_,?_,⟨?_,?_,Ty.rd_ext X _ h.rf,?_⟩,X⟩
 ·rw [hC']
 ·unfold progC;rw [if_pos href0]
 ·have g:Fr (λk=>k=b1\/k=b5) w22 w25:=((f23.mono λk hk=>.inl hk).trans (f24.mono λk hk=>.inl hk)).trans (f25.mono λk hk=>.inr hk)
  exact rd_keep hrd' g (λk hk=>by
   rcases hk with hk | hk
   ·exact hk.1
   ·exact hH k (by have:=X21.size;omega)) λk hk hlt=>by
   rcases hk with hk | hk
   ·exact λe=>e.elim hk.2.1 hk.2.2
   ·omega
 ·rw [hC']
 ·rw [hC'];exact h.df
end
section
variable {H:Nat->Prop} {w:World} {B:SlP TBd.T} {f:SlP TF.T} {C:CD}
theorem own_rdB {w:World} {F G:Nat->Prop} {e:TypeId} {a:Option Addr} {n c:Nat} {xs:List Int} (ho:(OwnA e 1 a n c (xs.map (Value.int .u8))).p w F) (hF:∀ k,F k->G k) (bx:Byt xs):TB.rd w G ⟨a,n,c,xs⟩:=by
 rw [<-flat_ints] at ho
 exact own_rdF (t:=.int .u8) ho (by decide) hF λy hy=>rngU8 (bx y hy)
end
end Go.Proofs.YtcekmdehjnlkpaaGreat.Vc
namespace Go.Proofs.YtcekmdehjnlkpaaGreat.Vc
open Go Go.Eng
def ledger_New.A:Ann:=.two .no (.two .no (.two .no (.two (.two .no (.one (.loop [14,15,16,17,18,19,20,21,22,23,24,25,26] [(14,.one (.int .i64))] .no))) .no)))
def ledger_New.P (p0:Int) (w:World) (K:(Option Addr)×Int×Unit->World->Prop):Prop:=
 cond (decide (p0<0))
 (K (none,(2:Int),()) w)
 (cond (decide (p0>64))
 (K (none,(2:Int),()) w)
 (NewV #[.slice none 0 0] 144 w λb1 w2=>
 LoopV [.one (.int .i64)] ((0:Int),()) w2 λ(z3:Int×Unit) w4 (K5:Int×Unit->World->Prop)=>
 cond (decide (z3.1<p0))
 (LoadS w4 ⟨b1,0,none⟩ .sl λ(x6:SlV)=>
 NewV #[.int .i64 (-1),.int .i64 0,.int .i64 0,.int .i64 0,.bool false,.bool false,.bool false,.bool false,.bool false] 98 w4 λb7 w8=>
 AppS w8 (some ⟨b7,0,none⟩) 1 9 λns13=>
 AppV w8 98 9 40 x6.a x6.n x6.c ns13 1 λa9 n10 c11 w12=>
 StoreV w12 ⟨b1,0,none⟩ [.slice a9 n10 c11] λw14=>
 Rng .i64 (z3.1+1) /\
 K5 (z3.1+1,()) w14)
 (K ((some ⟨b1,0,none⟩),(0:Int),()) w4)))
theorem ledger_New.vc (p0:Int) (w:World) (K:(Option Addr)×Int×Unit->World->Prop) (h:ledger_New.P p0 w K):CallV Tryz.prog 34 #[.int .i64 p0] w [.one .ptr,.one (.int .i64)] K:=by
 refine vcFun.of (A:=ledger_New.A) (wr:=false) okf_ok follows h Tryz.func34 ?_
 kernel_rfl
def ledger_Ledger_has.A:Ann:=.no
def ledger_Ledger_has.P (p0:Addr) (p1:Int) (w:World) (K:Bool×Unit->World->Prop):Prop:=
 cond (decide (p1≥0))
 (CallV Tryz.prog 22 #[.pointer (some p0)] w [.one (.int .i64)] λ(r1:Int×Unit) w2=>
 K (decide (p1<r1.1),()) w2)
 (K (false,()) w)
theorem ledger_Ledger_has.vc (p0:Addr) (p1:Int) (w:World) (K:Bool×Unit->World->Prop) (h:ledger_Ledger_has.P p0 p1 w K):CallV Tryz.prog 56 #[.pointer (some p0),.int .i64 p1] w [.one .bool] K:=by
 refine vcFun.of (A:=ledger_Ledger_has.A) (wr:=false) okf_ok follows h Tryz.func56 ?_
 kernel_rfl
def ledger_Ledger_Len.A:Ann:=.no
def ledger_Ledger_Len.P (p0:Addr) (w:World) (K:Int×Unit->World->Prop):Prop:=
 LoadS w p0 .sl λ(x1:SlV)=>
 K (((x1.n:Nat):Int),()) w
theorem ledger_Ledger_Len.vc (p0:Addr) (w:World) (K:Int×Unit->World->Prop) (h:ledger_Ledger_Len.P p0 w K):CallV Tryz.prog 22 #[.pointer (some p0)] w [.one (.int .i64)] K:=by
 refine vcFun.of (A:=ledger_Ledger_Len.A) (wr:=false) okf_ok follows h Tryz.func22 ?_
 kernel_rfl
def ledger_Ledger_change.A:Ann:=.no
def ledger_Ledger_change.P (p0:Addr) (p1:Int) (g2:FuncId) (cap2:Array Value) (w:World) (K:Int×Unit->World->Prop):Prop:=
 CallV Tryz.prog 56 #[.pointer (some p0),.int .i64 p1] w [.one .bool] λ(r1:Bool×Unit) w2=>
 cond (!r1.1)
 (K ((2:Int),()) w2)
 (LoadS w2 p0 .sl λ(x3:SlV)=>
 (0<=p1/\p1<((x3.n:Nat):Int))/\∃ q4:Addr,x3.a=some q4 /\
 cond (okf g2)
 (CallV Tryz.prog g2 ([]++((([.pointer (some (q4.add (p1.toNat*9)))]:List Value))++(cap2).toList)).toArray w2 [] λ(r5:Unit) w6=>
 K ((0:Int),()) w6)
 False)
theorem ledger_Ledger_change.vc (p0:Addr) (p1:Int) (g2:FuncId) (cap2:Array Value) (w:World) (K:Int×Unit->World->Prop) (h:ledger_Ledger_change.P p0 p1 g2 cap2 w K):CallV Tryz.prog 77 #[.pointer (some p0),.int .i64 p1,.func (.func g2) #[] cap2] w [.one (.int .i64)] K:=by
 refine vcFun.of (A:=ledger_Ledger_change.A) (wr:=false) okf_ok follows h Tryz.func77 ?_
 kernel_rfl
def ledger_Ledger_At.A:Ann:=.no
def ledger_Ledger_At.P (p0:Addr) (p1:Int) (w:World) (K:(Int×Int×Int×Int×Bool×Bool×Bool×Bool×Bool×Unit)×Unit->World->Prop):Prop:=
 NewV #[.int .i64 0,.int .i64 0,.int .i64 0,.int .i64 0,.bool false,.bool false,.bool false,.bool false,.bool false] 98 w λb1 w2=>
 CallV Tryz.prog 56 #[.pointer (some p0),.int .i64 p1] w2 [.one .bool] λ(r3:Bool×Unit) w4=>
 cond (!r3.1)
 (StoreV w4 ⟨b1,0,none⟩ [.int .i64 0,.int .i64 0,.int .i64 0,.int .i64 0,.bool false,.bool false,.bool false,.bool false,.bool false] λw5=>
 LoadA w5 ⟨b1,0,none⟩ [.int .i64,.int .i64,.int .i64,.int .i64,.bool,.bool,.bool,.bool,.bool] λ(x6:Int×Int×Int×Int×Bool×Bool×Bool×Bool×Bool×Unit)=>
 K ((x6.1,x6.2.1,x6.2.2.1,x6.2.2.2.1,x6.2.2.2.2.1,x6.2.2.2.2.2.1,x6.2.2.2.2.2.2.1,x6.2.2.2.2.2.2.2.1,x6.2.2.2.2.2.2.2.2.1,()),()) w5)
 (LoadS w4 p0 .sl λ(x7:SlV)=>
 (0<=p1/\p1<((x7.n:Nat):Int))/\∃ q8:Addr,x7.a=some q8 /\
 LoadA w4 (q8.add (p1.toNat*9)) [.int .i64,.int .i64,.int .i64,.int .i64,.bool,.bool,.bool,.bool,.bool] λ(x9:Int×Int×Int×Int×Bool×Bool×Bool×Bool×Bool×Unit)=>
 StoreV w4 ⟨b1,0,none⟩ [.int .i64 x9.1,.int .i64 x9.2.1,.int .i64 x9.2.2.1,.int .i64 x9.2.2.2.1,.bool x9.2.2.2.2.1,.bool x9.2.2.2.2.2.1,.bool x9.2.2.2.2.2.2.1,.bool x9.2.2.2.2.2.2.2.1,.bool x9.2.2.2.2.2.2.2.2.1] λw10=>
 LoadA w10 ⟨b1,0,none⟩ [.int .i64,.int .i64,.int .i64,.int .i64,.bool,.bool,.bool,.bool,.bool] λ(x11:Int×Int×Int×Int×Bool×Bool×Bool×Bool×Bool×Unit)=>
 K ((x11.1,x11.2.1,x11.2.2.1,x11.2.2.2.1,x11.2.2.2.2.1,x11.2.2.2.2.2.1,x11.2.2.2.2.2.2.1,x11.2.2.2.2.2.2.2.1,x11.2.2.2.2.2.2.2.2.1,()),()) w10)
theorem ledger_Ledger_At.vc (p0:Addr) (p1:Int) (w:World) (K:(Int×Int×Int×Int×Bool×Bool×Bool×Bool×Bool×Unit)×Unit->World->Prop) (h:ledger_Ledger_At.P p0 p1 w K):CallV Tryz.prog 23 #[.pointer (some p0),.int .i64 p1] w [.agg [.int .i64,.int .i64,.int .i64,.int .i64,.bool,.bool,.bool,.bool,.bool]] K:=by
 refine vcFun.of (A:=ledger_Ledger_At.A) (wr:=false) okf_ok follows h Tryz.func23 ?_
 kernel_rfl
def ledger_Ledger_Set.A:Ann:=.no
def ledger_Ledger_Set.P (p0:Addr) (p1 p2_0 p2_1 p2_2 p2_3:Int) (p2_4 p2_5 p2_6 p2_7 p2_8:Bool) (w:World) (K:Int×Unit->World->Prop):Prop:=
 NewV #[.int .i64 p2_0,.int .i64 p2_1,.int .i64 p2_2,.int .i64 p2_3,.bool p2_4,.bool p2_5,.bool p2_6,.bool p2_7,.bool p2_8] 98 w λb1 w2=>
 CallV Tryz.prog 77 #[.pointer (some p0),.int .i64 p1,.func (.func 78) #[] #[.pointer (some ⟨b1,0,none⟩)]] w2 [.one (.int .i64)] λ(r3:Int×Unit) w4=>
 K (r3.1,()) w4
theorem ledger_Ledger_Set.vc (p0:Addr) (p1 p2_0 p2_1 p2_2 p2_3:Int) (p2_4 p2_5 p2_6 p2_7 p2_8:Bool) (w:World) (K:Int×Unit->World->Prop) (h:ledger_Ledger_Set.P p0 p1 p2_0 p2_1 p2_2 p2_3 p2_4 p2_5 p2_6 p2_7 p2_8 w K):CallV Tryz.prog 38 #[.pointer (some p0),.int .i64 p1,.agg #[.int .i64 p2_0,.int .i64 p2_1,.int .i64 p2_2,.int .i64 p2_3,.bool p2_4,.bool p2_5,.bool p2_6,.bool p2_7,.bool p2_8]] w [.one (.int .i64)] K:=by
 refine vcFun.of (A:=ledger_Ledger_Set.A) (wr:=false) okf_ok follows h Tryz.func38 ?_
 kernel_rfl
def ledger_Ledger_Set_1.A:Ann:=.no
def ledger_Ledger_Set_1.P (p0 cq0:Addr) (w:World) (K:Unit->World->Prop):Prop:=
 LoadA w cq0 [.int .i64,.int .i64,.int .i64,.int .i64,.bool,.bool,.bool,.bool,.bool] λ(x1:Int×Int×Int×Int×Bool×Bool×Bool×Bool×Bool×Unit)=>
 StoreV w p0 [.int .i64 x1.1,.int .i64 x1.2.1,.int .i64 x1.2.2.1,.int .i64 x1.2.2.2.1,.bool x1.2.2.2.2.1,.bool x1.2.2.2.2.2.1,.bool x1.2.2.2.2.2.2.1,.bool x1.2.2.2.2.2.2.2.1,.bool x1.2.2.2.2.2.2.2.2.1] λw2=>
 K () w2
set_option maxRecDepth 65536 in
theorem ledger_Ledger_Set_1.vc (p0 cq0:Addr) (w:World) (K:Unit->World->Prop) (h:ledger_Ledger_Set_1.P p0 cq0 w K):CallV Tryz.prog 78 #[.pointer (some p0),.pointer (some cq0)] w [] K:=by
 refine vcFun.of (A:=ledger_Ledger_Set_1.A) (wr:=false) okf_ok follows h Tryz.func78 ?_
 kernel_rfl
end Go.Proofs.YtcekmdehjnlkpaaGreat.Vc
