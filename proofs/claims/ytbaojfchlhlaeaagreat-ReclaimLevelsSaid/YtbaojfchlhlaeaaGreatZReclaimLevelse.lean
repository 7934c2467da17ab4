/- Texts in one: The contracts of layer 22 (pagemap): the map's parts, and what only reads them. The contracts of layer 22 (pagemap): a new map, a namespace more, the sectors of which a spot speaks, a spot lost. The contract of slices.SortFunc, laid at this program by the library's own command, in plain words. The contracts of layer 22 (pagemap): places, sorted. Plain laws of layer 22 (pagemap): what a map holds, and how often each place is a spot's. Plain laws of layer 22 (pagemap): what a put leaves, and which places it tells. The contracts of the document's map of layer 22: what it tells. The contracts of the document's map of layer 22: what changes it. Plain laws of layer 22 (pagemap): the map and the document's list. Plain data of layer 25 (stream): what each of its operations makes of an array, a ledger, orders, and a map. The contracts of layer 22 (pagemap): a spot, put. The sort of the library, told in parts. The contracts of layer 22 (pagemap): places, sorted. Plain laws of layer 25 (stream): what is kept of the ledger and the map, whatever fails. Plain laws of layer 25 (stream): what is kept by each operation, whatever fails. Plain laws of layer 25 (stream): live places, moved to a block; a block, emptied; a page, written. A map's entry, set. The contracts of layer 22 (pagemap): a namespace less, a place moved, data. The contracts of layer 22 (pagemap): spots, sorted by their places. The contracts of layer 22 (pagemap): a block's live places. -/
import Derived.Test.YtbaojfchlhlaeaaGreatZReclaimLevelsd
set_option linter.unusedVariables false
set_option linter.unusedSimpArgs false
namespace Go.Proofs.YtbaojfchlhlaeaaGreat.Vc
open Go Go.Eng Go.RowKit
structure Ce where
 has:Bool
 s:Sp
abbrev Ce.vs (x:Ce):List Value:=.bool x.has::x.s.vs
abbrev Ce.val (x:Ce):Value:=.agg #[.bool x.has,.int .i64 x.s.b,.int .i64 x.s.p,.int .i64 x.s.h.k,.int .i64 x.s.h.n,.int .i64 x.s.h.c,.int .u32 x.s.h.l,.int .u64 x.s.h.e,.int .u64 x.s.h.t,.int .i64 x.s.o.k,.int .i64 x.s.o.n,.int .i64 x.s.o.c,.int .u32 x.s.o.l,.int .u64 x.s.o.e,.int .u64 x.s.o.t]
abbrev Ce.tup (x:Ce):Bool×Int×Int×Int×Int×Int×Int×Int×Int×Int×Int×Int×Int×Int×Int×Unit:=(x.has,x.s.b,x.s.p,x.s.h.k,x.s.h.n,x.s.h.c,x.s.h.l,x.s.h.e,x.s.h.t,x.s.o.k,x.s.o.n,x.s.o.c,x.s.o.l,x.s.o.e,x.s.o.t,())
theorem Ce_len (x:Ce):x.vs.length=15:=rfl
theorem Ce_one (x:Ce):oneAll x.vs:=fun u hu=>by
 simp only [List.mem_cons,List.not_mem_nil,or_false] at hu
 rcases hu with rfl | rfl | rfl | rfl | rfl | rfl | rfl | rfl | rfl | rfl | rfl | rfl | rfl | rfl | rfl <;> rfl
def Ce0:Ce:=⟨false,Sp0⟩
abbrev slM (x:SlP Ce):Value:=.slice x.a x.n x.c
abbrev ownC (x:SlP Ce):Asr:=OwnA 178 15 x.a x.n x.c (x.l.flatMap Ce.vs)
abbrev PmQ (p r:Nat) (X:List (SlP Ce)) (m:Int×Int→Int) (Rs:List Asr):List Asr:=BoxA p 186 (X.map slM++[.map (some r)])::MapF r m::(X.map ownC++Rs)
def noC:SlP Ce:=⟨none,0,0,[]⟩
def getX (X:List (SlP Ce)) (ns:Int):SlP Ce:=if 0≤ns∧ns<4 then X.getD ns.toNat noC else noC
section
variable {E:Nat→Prop} {w0 w:World} {p r:Nat} {X:List (SlP Ce)} {m:Int×Int→Int} {Rs:List Asr}
theorem PmQ_own (hX:X.length=4) {ns:Int} (hn:0≤ns∧ns<4):(PmQ p r X m Rs)[ns.toNat+2]? = some (ownC (getX X ns)):=by
 show (X.map ownC++Rs)[ns.toNat]? = _
 have hl:ns.toNat<X.length:=by omega
 rw [List.getElem?_append_left (by rw [List.length_map];exact hl),List.getElem?_map,List.getElem?_eq_getElem hl]
 unfold getX
 rw [if_pos hn,List.getD_eq_getElem?_getD,List.getElem?_eq_getElem hl]
 rfl
theorem getX_len (hX:X.length=4) (S:Sep E w0 w (PmQ p r X m Rs)) (ns:Int):(getX X ns).l.length=(getX X ns).n∧(getX X ns).n≤(getX X ns).c:=by
 by_cases hn:0≤ns∧ns<4
 ·have ho:=S.own (ns.toNat+2) (PmQ_own hX hn)
  have hl:=ho.len
  rw [flatF_len (f:=Ce.vs) (m:=15) Ce_len] at hl
  exact ⟨Nat.eq_of_mul_eq_mul_right (by omega) hl,ho.cap⟩
 ·unfold getX;rw [if_neg hn];exact ⟨rfl,Nat.le_refl _⟩
theorem slot_c (hX:X.length=4) (S:Sep E w0 w (PmQ p r X m Rs)) {ns:Int} (hn:0≤ns∧ns<4) {K:SlV→Prop} (hk:K ⟨(getX X ns).a,(getX X ns).n,(getX X ns).c⟩):LoadS w ((⟨p,0,none⟩:Addr).add (ns.toNat*1)) .sl K:=by
 have hl:ns.toNat<X.length:=by omega
 rw [Nat.mul_one,show (⟨p,0,none⟩:Addr).add ns.toNat=⟨p,ns.toNat,none⟩ by simp [Addr.add_lit]]
 refine S.ld0 (j:=ns.toNat) (h:=.sl) (v:=slM (getX X ns)) (x:=⟨(getX X ns).a,(getX X ns).n,(getX X ns).c⟩) ?_ rfl hk
 rw [List.getElem?_append_left (by rw [List.length_map];exact hl),List.getElem?_map,List.getElem?_eq_getElem hl]
 unfold getX
 rw [if_pos hn,List.getD_eq_getElem?_getD,List.getElem?_eq_getElem hl]
 rfl
theorem refs_c (hX:X.length=4) (S:Sep E w0 w (PmQ p r X m Rs)) {K:Option Nat→Prop} (hk:K (some r)):LoadS w ((⟨p,0,none⟩:Addr).add 4) .map K:=by
 rw [show (⟨p,0,none⟩:Addr).add 4=⟨p,4,none⟩ by simp [Addr.add_lit]]
 refine S.ld0 (j:=4) (h:=.map) (v:=.map (some r)) (x:=some r) ?_ rfl hk
 rw [List.getElem?_append_right (by rw [List.length_map,hX];omega),List.length_map,hX]
 rfl
theorem own22_c {ns:Int} (hX:X.length=4) (S:Sep E w0 w (PmQ p r X m Rs)):CallV Tryz.prog 92 #[.pointer (some ⟨p,0,none⟩),.int .i64 ns] w [.one .sl] fun r w'=>r.1=(⟨(getX X ns).a,(getX X ns).n,(getX X ns).c⟩:SlV)∧w'=w:=by
 apply pagemap_Map_own.vc
 unfold pagemap_Map_own.P
 have no:¬ (0≤ns∧ns<4)→(⟨none,0,0⟩:SlV)=⟨(getX X ns).a,(getX X ns).n,(getX X ns).c⟩:=fun h=>by unfold getX;rw [if_neg h];rfl
 refine cond_d (fun h=>⟨no (by omega),rfl⟩) fun h0=>cond_d (fun h=>⟨no (by omega),rfl⟩) fun h4=>?_
 exact ⟨⟨by omega,by omega⟩,slot_c hX S ⟨by omega,by omega⟩ ⟨rfl,rfl⟩⟩
theorem Size22_c {ns:Int} (hX:X.length=4) (S:Sep E w0 w (PmQ p r X m Rs)):CallV Tryz.prog 25 #[.pointer (some ⟨p,0,none⟩),.int .i64 ns] w [.one (.int .i64)] fun r w'=>r.1=(((getX X ns).n:Nat):Int)∧w'=w:=by
 apply pagemap_Map_Size.vc
 unfold pagemap_Map_Size.P
 refine (own22_c (ns:=ns) hX S).mono ?_
 rintro ⟨⟨a,n,c⟩,⟨⟩⟩ w1 ⟨h1,rfl⟩
 cases h1
 exact ⟨rfl,rfl⟩
theorem cell_c (hX:X.length=4) (S:Sep E w0 w (PmQ p r X m Rs)) {ns i:Int} (h0:0≤i) (h1:i<((getX X ns).n:Int)) :
  ∃ q x,(getX X ns).a=some q∧(getX X ns).l[i.toNat]? = some x∧CellsAt w (q.add (i.toNat*15)) x.vs:=by
 by_cases hn:0≤ns∧ns<4
 ·exact S.nthF (f:=Ce.vs) (m:=15) (ns.toNat+2) (PmQ_own hX hn) Ce_len (by decide) h0 h1
 ·have:(getX X ns).n=0:=by unfold getX;rw [if_neg hn];rfl
  omega
def getC (X:List (SlP Ce)) (ns i:Int):Ce:=if 0≤i∧i<((getX X ns).n:Int) then (getX X ns).l.getD i.toNat Ce0 else Ce0
theorem Get22_c {ns i:Int} (hX:X.length=4) (S:Sep E w0 w (PmQ p r X m Rs)):CallV Tryz.prog 39 #[.pointer (some ⟨p,0,none⟩),.int .i64 ns,.int .i64 i] w [.agg SH14,.one .bool] fun r w'=>r.1=(if (getC X ns i).has then (getC X ns i).s else Sp0).tup∧r.2.1=(getC X ns i).has∧Ext w w':=by
 apply pagemap_Map_Get.vc
 unfold pagemap_Map_Get.P
 have T:=Sep.start NoB w
 refine T.newB fun b1 w1 T f1 _=>?_
 have S:=S.stepE T.ext
 refine (own22_c (ns:=ns) hX S).mono ?_
 rintro ⟨⟨a,n,c⟩,⟨⟩⟩ w2 ⟨h2,rfl⟩
 dsimp only at h2
 have no:getC X ns i=Ce0→_:=fun h=>T.st0 (by rfl) fun w3 T f3=>T.la0 (l:=SH14) (x:=Sp0.tup) rfl (K:=fun x6=>(x6.1,x6.2.1,x6.2.2.1,x6.2.2.2.1,x6.2.2.2.2.1,x6.2.2.2.2.2.1,x6.2.2.2.2.2.2.1,x6.2.2.2.2.2.2.2.1,x6.2.2.2.2.2.2.2.2.1,x6.2.2.2.2.2.2.2.2.2.1,x6.2.2.2.2.2.2.2.2.2.2.1,x6.2.2.2.2.2.2.2.2.2.2.2.1,x6.2.2.2.2.2.2.2.2.2.2.2.2.1,x6.2.2.2.2.2.2.2.2.2.2.2.2.2.1,())=(if (getC X ns i).has then (getC X ns i).s else Sp0).tup∧false=(getC X ns i).has∧Ext w w3) ⟨by rw [h];rfl,by rw [h];rfl,T.ext⟩
 refine cond_d (fun h=>no (by unfold getC;rw [if_neg (by omega)])) fun h0=>?_
 cases h2
 dsimp only
 refine cond_d (fun h=>no (by unfold getC;rw [if_neg (by omega)])) fun h1=>?_
 obtain ⟨q,x,hq,hx,hc⟩:=cell_c (ns:=ns) (i:=i) hX S (by omega) (by omega)
 have hg:getC X ns i=x:=by
  unfold getC
  rw [if_pos ⟨by omega,by omega⟩,List.getD_eq_getElem?_getD,hx];rfl
 refine ⟨⟨by omega,by omega⟩,q,hq,ldp0 hc (h:=.bool) (x:=x.has) rfl ?_⟩
 cases hh:x.has with
 | false=>
  refine cond_t rfl (T.st0 (by rfl) fun w3 T f3=>T.la0 (l:=SH14) (x:=Sp0.tup) rfl ⟨?_,?_,T.ext⟩)
  ·rw [hg,hh];rfl
  ·rw [hg,hh]
 | true=>
  refine cond_f rfl ⟨⟨by omega,by omega⟩,q,hq,x.s.tup,hc.drop 1,T.st0 (by rfl) fun w3 T f3=>T.la0 (l:=SH14) (x:=x.s.tup) rfl ⟨?_,?_,T.ext⟩⟩
  ·rw [hg,hh];rfl
  ·rw [hg,hh]
theorem Refs22_c {b q:Int} (hX:X.length=4) (S:Sep E w0 w (PmQ p r X m Rs)):CallV Tryz.prog 120 #[.pointer (some ⟨p,0,none⟩),.agg #[.int .i64 b,.int .i64 q]] w [.one (.int .i64)] fun r w'=>r.1=m (b,q)∧Ext w w':=by
 apply pagemap_Map_Refs.vc
 unfold pagemap_Map_Refs.P
 have T:=Sep.start NoB w
 refine T.newB fun b1 w1 T f1 _=>?_
 have S:=(S.stepE T.ext).drew
 have hp:p<w1.heap.size:=S.lt 0 rfl
 refine T.reg fun D hD hkeep T U=>⟨by rw [add_block];exact hD _ hp,refs_c hX S ⟨hD _ T.bl0,T.la0 rfl ?_⟩⟩
 have h:=S.lookM (k:=(b,q)) (K:=fun r6 w7=>KeepOn D w1.drew w7∧r6.1=m (b,q)∧Ext w w7) 1 rfl ⟨hkeep _ (Fr.refl _ _),rfl,T.ext⟩
 exact h
end
end Go.Proofs.YtbaojfchlhlaeaaGreat.Vc
namespace Go.Proofs.YtbaojfchlhlaeaaGreat.Vc
open Go Go.Eng Go.RowKit
theorem _root_.Go.Eng.Sep.swapIn {E:Nat→Prop} {w0 w:World} {Rs:List Asr} {R R':Asr} {i:Nat} (S:Sep E w0 w (R'::Rs)) (hi:Rs[i]? = some R):Sep E w0 w (Rs.set i R'):=
 (S.perm (((perm_front hi).cons R').trans ((List.Perm.swap R R' (Rs.eraseIdx i)).trans ((perm_set hi).cons R)))).tail
abbrev plV (k:Int×Int):List Value:=[.int .i64 k.1,.int .i64 k.2]
theorem plV_len (k:Int×Int):(plV k).length=2:=rfl
theorem plV_one (k:Int×Int):oneAll (plV k):=fun u hu=>by
 simp only [List.mem_cons,List.not_mem_nil,or_false] at hu
 rcases hu with rfl | rfl <;> rfl
abbrev outA (a:Option Addr) (n c:Nat) (L:List (Int×Int)):Asr:=OwnA 81 2 a n c (L.flatMap plV)
section
variable {E:Nat→Prop} {w0 w:World} {p r:Nat} {X:List (SlP Ce)} {m:Int×Int→Int} {Rs:List Asr}
theorem New22_c:CallV Tryz.prog 43 #[] w [.one .ptr] fun r w'=>∃ p rr:Nat,r.1=some (⟨p,0,none⟩:Addr)∧Sep NoB w w' (PmQ p rr [noC,noC,noC,noC] (fun _=>0) []):=by
 apply pagemap_New.vc
 unfold pagemap_New.P
 have S:=Sep.start NoB w
 refine S.newM fun b1 w1 S f1 _=>?_
 refine S.newB fun b3 w2 S f2 _=>⟨b3,b1,rfl,?_⟩
 have S:=(((S.nilOwn 178 15).nilOwn 178 15).nilOwn 178 15).nilOwn 178 15
 exact S.sel [4,4,0,0,0,0] rfl
def addE (X:List (SlP Ce)) (ns size:Int):Int:=if ¬ (0≤ns∧ns<4) then 2 else if ¬ (1≤size∧size≤65535) then 2 else if 0<(getX X ns).n then 11 else 0
theorem Add22_c {ns size:Int} (hX:X.length=4) (S:Sep E w0 w (PmQ p r X m [])) :
  CallV Tryz.prog 81 #[.pointer (some ⟨p,0,none⟩),.int .i64 ns,.int .i64 size] w [.one (.int .i64)] fun rr w'=>rr.1=addE X ns size∧(addE X ns size≠0→Sep E w0 w' (PmQ p r X m [])) ∧
   (addE X ns size=0→∃ x:SlP Ce,x.l=List.replicate size.toNat Ce0∧x.n=size.toNat∧Sep E w0 w' (PmQ p r (X.set ns.toNat x) m [])):=by
 apply pagemap_Map_Add.vc
 unfold pagemap_Map_Add.P
 have no:∀ {e:Int},addE X ns size=e→e≠0→e=addE X ns size∧(addE X ns size≠0→Sep E w0 w (PmQ p r X m []))∧(addE X ns size=0→∃ x:SlP Ce,x.l=List.replicate size.toNat Ce0∧x.n=size.toNat∧Sep E w0 w (PmQ p r (X.set ns.toNat x) m [])):=fun h1 h2=>⟨h1.symm,fun _=>S,fun h=>absurd (h1.symm.trans h) h2⟩
 refine cond_d (fun h=>no (e:=2) (by unfold addE;rw [if_pos (by omega)]) (by decide)) fun h0=>cond_d (fun h=>no (e:=2) (by unfold addE;rw [if_pos (by omega)]) (by decide)) fun h4=>?_
 have hn:0≤ns∧ns<4:=by omega
 refine cond_d (fun h=>no (e:=2) (by unfold addE;rw [if_neg (fun k=>k hn),if_pos (by omega)]) (by decide)) fun h1=>cond_d (fun h=>no (e:=2) (by unfold addE;rw [if_neg (fun k=>k hn),if_pos (by omega)]) (by decide)) fun h6=>?_
 have hs:1≤size∧size≤65535:=by omega
 refine ⟨⟨hn.1,hn.2⟩,slot_c hX S hn ?_⟩
 dsimp only
 refine cond_d (fun h=>no (e:=11) (by unfold addE;rw [if_neg (fun k=>k hn),if_neg (fun k=>k hs),if_pos (by omega)]) (by decide)) fun hz=>?_
 have hE:addE X ns size=0:=by unfold addE;rw [if_neg (fun k=>k hn),if_neg (fun k=>k hs),if_neg (by omega)]
 refine refs_c hX S (cond_f rfl ?_)
 refine S.regX (fun k=>k=p) fun D hD hkeep S T=>?_
 refine ⟨⟨by omega,Int.le_refl _,by omega,by omega⟩,?_⟩
 refine S.newB fun b7 w8 S f8 _=>?_
 have S:=S.asOwn (sz:=15) (n:=size.toNat) (by rw [List.length_flatten,List.map_replicate,List.sum_replicate_nat];rfl) (by omega) (fun u hu=>by
  obtain ⟨l,hl,hul⟩:=List.mem_flatten.1 hu
  rw [(List.mem_replicate.1 hl).2] at hul
  exact Ce_one Ce0 u hul)
 refine ⟨hkeep _ f8.any,⟨hn.1,hn.2⟩,?_⟩
 have hl:ns.toNat<X.length:=by omega
 rw [Nat.mul_one,show (⟨p,0,none⟩:Addr).add ns.toNat=⟨p,ns.toNat,none⟩ by simp [Addr.add_lit]]
 refine S.storeR1 (i:=1) rfl (j:=ns.toNat) (by rw [List.length_append,List.length_map];omega) fun w9 S f9=>⟨hkeep _ (f8.any.trans f9),hE.symm,fun h=>absurd hE h,fun _=>⟨⟨some ⟨b7,0,none⟩,size.toNat,size.toNat,List.replicate size.toNat Ce0⟩,rfl,rfl,?_⟩⟩
 have e1:(X.map slM++[Value.map (some r)]).set ns.toNat (.slice (some ⟨b7,0,none⟩) size.toNat size.toNat)=(X.set ns.toNat ⟨some ⟨b7,0,none⟩,size.toNat,size.toNat,List.replicate size.toNat Ce0⟩).map slM++[.map (some r)]:=by
  rw [List.set_append_left _ _ (by rw [List.length_map];exact hl),List.map_set]
 have e2:(List.replicate size.toNat Ce0.vs).flatten=(List.replicate size.toNat Ce0).flatMap Ce.vs:=by rw [List.flatMap_def,List.map_replicate]
 have S2:Sep E w0 w9 (OwnA 178 15 (some ⟨b7,0,none⟩) size.toNat size.toNat (List.replicate size.toNat Ce0.vs).flatten::BoxA p 186 ((X.map slM++[Value.map (some r)]).set ns.toNat (.slice (some ⟨b7,0,none⟩) size.toNat size.toNat))::MapF r m::(X.map ownC++[])):=S
 rw [e1,e2] at S2
 have S3:=S2.swapIn (i:=ns.toNat+2) (R:=ownC (getX X ns)) (PmQ_own (p:=p) (r:=r) (m:=m) (Rs:=[]) hX hn)
 rw [List.set_cons_succ,List.set_cons_succ,List.set_append_left _ _ (by rw [List.length_map];exact hl)] at S3
 show Sep E w0 w9 (BoxA p _ _::MapF r m::((X.set ns.toNat _).map ownC++[]))
 rw [List.map_set (f:=ownC)]
 exact S3
def okT (X:List (SlP Ce)) (s:Sp):Prop:=(s.h.k=1∨s.h.k=2)∧1≤s.h.c∧s.h.c≤((getX X s.h.n).n:Int)∧s.h.l≤((getX X s.h.n).n:Int)-s.h.c
instance (X:List (SlP Ce)) (s:Sp):Decidable (okT X s):=by unfold okT;infer_instance
abbrev spkV (X:List (SlP Ce)) (s:Sp):SlV:=⟨(getX X s.h.n).a.map (·.add (s.h.l.toNat*15)),s.h.c.toNat,(getX X s.h.n).c-s.h.l.toNat⟩
theorem speaks22_c {s:Sp} (hl:0≤s.h.l∧s.h.l<4294967296) (hX:X.length=4) (hN:(getX X s.h.n).n≤100000) (S:Sep E w0 w (PmQ p r X m Rs)) :
  CallV Tryz.prog 170 #[.pointer (some ⟨p,0,none⟩),s.val] w [.one .sl] fun r w'=>Ext w w'∧(okT X s→r.1=spkV X s)∧(¬ okT X s→r.1=(⟨none,0,0⟩:SlV)):=by
 apply pagemap_Map_speaks.vc
 unfold pagemap_Map_speaks.P
 have hcap:=(getX_len hX S s.h.n).2
 have wl:IntKind.i64.wrap s.h.l=s.h.l:=i64_wrap (by omega) (by omega)
 have T:=Sep.start NoB w
 refine T.newB fun b1 w1 T f1 _=>?_
 refine T.reg fun D hD hkeep T U=>⟨hD _ T.bl0,T.ld0 (j:=3) rfl rfl ⟨hD _ T.bl0,T.lb0 (o:=2) rfl ⟨?_,?_⟩⟩⟩
 ·refine (own22_c (ns:=s.h.n) hX (S.stepE T.ext)).mono ?_
  rintro ⟨⟨a,n,c⟩,⟨⟩⟩ w2 ⟨h2,rfl⟩
  cases h2
  dsimp only
  refine ⟨hkeep _ (Fr.refl _ _),U.newB fun b8 w3 U f3 _=>⟨hkeep _ U.fr,U.st0 (by rfl) fun w4 U f4=>⟨hkeep _ U.fr,?_⟩⟩⟩
  have no:¬ okT X s→Ext w w4∧(okT X s→(⟨none,0,0⟩:SlV)=spkV X s)∧(¬ okT X s→(⟨none,0,0⟩:SlV)=(⟨none,0,0⟩:SlV)):=fun h=>⟨T.ext.trans U.ext,fun k=>absurd k h,fun _=>rfl⟩
  refine U.ld0 (j:=0) rfl rfl (cond_ne (fun h1=>?_) (fun h1=>?_))
  ·refine U.ld0 (j:=0) rfl rfl (cond_ne (fun h2=>no fun k=>k.1.elim h1 h2) (fun h2=>?_))
   have hk:s.h.k=1∨s.h.k=2:=.inr h2
   refine U.ld0 (j:=2) rfl rfl (cond_d (fun h=>no fun k=>by have:=k.2.1;omega) fun h3=>?_)
   refine U.ld0 (j:=2) rfl rfl (cond_d (fun h=>no fun k=>by have:=k.2.2.1;omega) fun h4=>?_)
   have r1:Rng .i64 (((getX X s.h.n).n:Int)-s.h.c):=Rng.i64 (by omega) (by omega)
   refine U.ld0 (j:=3) rfl rfl (U.ld0 (j:=2) rfl rfl ⟨r1,?_⟩)
   rw [wl]
   refine cond_d (fun h=>no fun k=>by have:=k.2.2.2;omega) fun h5=>?_
   have hok:okT X s:=⟨hk,by omega,by omega,by omega⟩
   have r2:Rng .i64 (s.h.l+s.h.c):=Rng.i64 (by omega) (by omega)
   refine U.ld0 (j:=3) rfl rfl (U.ld0 (j:=3) rfl rfl (U.ld0 (j:=2) rfl rfl ?_))
   rw [wl]
   refine ⟨r2,⟨by omega,by omega,by omega⟩,?_⟩
   intro a20 ha
   rw [if_neg (by omega)] at ha
   refine ⟨T.ext.trans U.ext,fun _=>?_,fun k=>absurd hok k⟩
   rw [ha,show (s.h.l+s.h.c).toNat-s.h.l.toNat=s.h.c.toNat by omega]
  ·have hk:s.h.k=1∨s.h.k=2:=.inl h1
   refine U.ld0 (j:=2) rfl rfl (cond_d (fun h=>no fun k=>by have:=k.2.1;omega) fun h3=>?_)
   refine U.ld0 (j:=2) rfl rfl (cond_d (fun h=>no fun k=>by have:=k.2.2.1;omega) fun h4=>?_)
   have r1:Rng .i64 (((getX X s.h.n).n:Int)-s.h.c):=Rng.i64 (by omega) (by omega)
   refine U.ld0 (j:=3) rfl rfl (U.ld0 (j:=2) rfl rfl ⟨r1,?_⟩)
   rw [wl]
   refine cond_d (fun h=>no fun k=>by have:=k.2.2.2;omega) fun h5=>?_
   have hok:okT X s:=⟨hk,by omega,by omega,by omega⟩
   have r2:Rng .i64 (s.h.l+s.h.c):=Rng.i64 (by omega) (by omega)
   refine U.ld0 (j:=3) rfl rfl (U.ld0 (j:=3) rfl rfl (U.ld0 (j:=2) rfl rfl ?_))
   rw [wl]
   refine ⟨r2,⟨by omega,by omega,by omega⟩,?_⟩
   intro a20 ha
   rw [if_neg (by omega)] at ha
   refine ⟨T.ext.trans U.ext,fun _=>?_,fun k=>absurd hok k⟩
   rw [ha,show (s.h.l+s.h.c).toNat-s.h.l.toNat=s.h.c.toNat by omega]
 ·refine U.newB fun b8 w3 U f3 _=>⟨hkeep _ U.fr,?_⟩
  refine (own22_c (ns:=s.h.n) hX (S.stepE (T.ext.trans f3.ext))).mono ?_
  rintro ⟨⟨a,n,c⟩,⟨⟩⟩ w2 ⟨h2,rfl⟩
  cases h2
  dsimp only
  refine ⟨hkeep _ U.fr,U.st0 (by rfl) fun w4 U f4=>⟨hkeep _ U.fr,?_⟩⟩
  have no:¬ okT X s→Ext w w4∧(okT X s→(⟨none,0,0⟩:SlV)=spkV X s)∧(¬ okT X s→(⟨none,0,0⟩:SlV)=(⟨none,0,0⟩:SlV)):=fun h=>⟨T.ext.trans U.ext,fun k=>absurd k h,fun _=>rfl⟩
  refine U.ld0 (j:=0) rfl rfl (cond_ne (fun h1=>?_) (fun h1=>?_))
  ·refine U.ld0 (j:=0) rfl rfl (cond_ne (fun h2=>no fun k=>k.1.elim h1 h2) (fun h2=>?_))
   have hk:s.h.k=1∨s.h.k=2:=.inr h2
   refine U.ld0 (j:=2) rfl rfl (cond_d (fun h=>no fun k=>by have:=k.2.1;omega) fun h3=>?_)
   refine U.ld0 (j:=2) rfl rfl (cond_d (fun h=>no fun k=>by have:=k.2.2.1;omega) fun h4=>?_)
   have r1:Rng .i64 (((getX X s.h.n).n:Int)-s.h.c):=Rng.i64 (by omega) (by omega)
   refine U.ld0 (j:=3) rfl rfl (U.ld0 (j:=2) rfl rfl ⟨r1,?_⟩)
   rw [wl]
   refine cond_d (fun h=>no fun k=>by have:=k.2.2.2;omega) fun h5=>?_
   have hok:okT X s:=⟨hk,by omega,by omega,by omega⟩
   have r2:Rng .i64 (s.h.l+s.h.c):=Rng.i64 (by omega) (by omega)
   refine U.ld0 (j:=3) rfl rfl (U.ld0 (j:=3) rfl rfl (U.ld0 (j:=2) rfl rfl ?_))
   rw [wl]
   refine ⟨r2,⟨by omega,by omega,by omega⟩,?_⟩
   intro a20 ha
   rw [if_neg (by omega)] at ha
   refine ⟨T.ext.trans U.ext,fun _=>?_,fun k=>absurd hok k⟩
   rw [ha,show (s.h.l+s.h.c).toNat-s.h.l.toNat=s.h.c.toNat by omega]
  ·have hk:s.h.k=1∨s.h.k=2:=.inl h1
   refine U.ld0 (j:=2) rfl rfl (cond_d (fun h=>no fun k=>by have:=k.2.1;omega) fun h3=>?_)
   refine U.ld0 (j:=2) rfl rfl (cond_d (fun h=>no fun k=>by have:=k.2.2.1;omega) fun h4=>?_)
   have r1:Rng .i64 (((getX X s.h.n).n:Int)-s.h.c):=Rng.i64 (by omega) (by omega)
   refine U.ld0 (j:=3) rfl rfl (U.ld0 (j:=2) rfl rfl ⟨r1,?_⟩)
   rw [wl]
   refine cond_d (fun h=>no fun k=>by have:=k.2.2.2;omega) fun h5=>?_
   have hok:okT X s:=⟨hk,by omega,by omega,by omega⟩
   have r2:Rng .i64 (s.h.l+s.h.c):=Rng.i64 (by omega) (by omega)
   refine U.ld0 (j:=3) rfl rfl (U.ld0 (j:=3) rfl rfl (U.ld0 (j:=2) rfl rfl ?_))
   rw [wl]
   refine ⟨r2,⟨by omega,by omega,by omega⟩,?_⟩
   intro a20 ha
   rw [if_neg (by omega)] at ha
   refine ⟨T.ext.trans U.ext,fun _=>?_,fun k=>absurd hok k⟩
   rw [ha,show (s.h.l+s.h.c).toNat-s.h.l.toNat=s.h.c.toNat by omega]
def losM (m:Int×Int→Int) (c:Ce):Int×Int→Int:=if c.has then updM m (c.s.b,c.s.p) (m (c.s.b,c.s.p)-1) else m
def losL (m:Int×Int→Int) (c:Ce) (L:List (Int×Int)):List (Int×Int):=if c.has=true∧¬ 0<m (c.s.b,c.s.p)-1 then L++[(c.s.b,c.s.p)] else L
theorem lose22_c {c:Ce} {bv:List Value} {a:Option Addr} {n cp:Nat} {L:List (Int×Int)} (hbv:bv[4]? = some (.map (some r))) (hm:c.has=true→1≤m (c.s.b,c.s.p)∧m (c.s.b,c.s.p)≤1000000) (hn:n≤1000000) (S:Sep E w0 w [BoxA p 186 bv,MapF r m,outA a n cp L]) :
  CallV Tryz.prog 159 #[.pointer (some ⟨p,0,none⟩),c.val,.slice a n cp] w [.one .sl] fun rr w'=>∃ (a':Option Addr) (n' c':Nat) (m':Int×Int→Int),rr.1=(⟨a',n',c'⟩:SlV)∧n'≤n+1∧(∀ k,m' k=losM m c k)∧Sep E w0 w' [BoxA p 186 bv,MapF r m',outA a' n' c' (losL m c L)]:=by
 apply pagemap_Map_lose.vc
 unfold pagemap_Map_lose.P
 refine S.newB fun b1 w1 S f1 _=>?_
 refine S.ld0 (j:=0) rfl rfl (cond_of (fun hh=>?_) (fun hh=>?_))
 ·have hh:c.has=false:=by simpa using hh
  refine ⟨a,n,cp,m,rfl,by omega,fun k=>?_,?_⟩
  ·unfold losM;rw [hh];rfl
  ·have:losL m c L=L:=by unfold losL;rw [if_neg (fun k=>by rw [hh] at k;cases k.1)]
   rw [this]
   exact S.tail
 have hh:c.has=true:=by simpa using hh
 obtain ⟨m1,m2⟩:=hm hh
 refine S.lb0 (o:=1) rfl (S.newB fun b5 w2 S f2 _=>S.st0 (by rfl) fun w3 S f3=>?_)
 have ld4:∀ {w0 w':World} {E:Nat→Prop} {A:List Asr} (i:Nat) (S:Sep E w0 w' A) (hi:A[i]? = some (BoxA p 186 bv)) {K:Option Nat→Prop},K (some r)→LoadS w' ((⟨p,0,none⟩:Addr).add 4) .map K:=fun {w0 w' E A} i S hi {K} hk=>by
  rw [show (⟨p,0,none⟩:Addr).add 4=⟨p,4,none⟩ by simp [Addr.add_lit]]
  exact S.ld i hi (j:=4) (h:=.map) (some r) hbv hk
 have S:=S.sel [3,0,0,0,0] rfl
 refine Sep.regC [_] S fun G D hG T S hDt hDo hkeep back=>?_
 have hGr:G r:=by
  obtain ⟨F,⟨h1,l,cc,h2,-⟩,h3⟩:=T.get (i:=0) rfl
  exact (h3 r h1).1.resolve_right (fun h=>by have:=(Array.getElem?_eq_some_iff.1 h2).1;omega)
 have hk2:∀ w',Fr (fun k=>k=r) w3.drew w'→KeepOn D w3.drew w':=fun w' f=>hkeep w' (f.mono fun k hk=>by subst hk;exact hGr)
 have rv:Rng .i64 (m (c.s.b,c.s.p)-1):=Rng.i64 (by omega) (by omega)
 refine ⟨by rw [add_block];exact hDt 2 _ _ _ rfl,ld4 3 S rfl ⟨hDt 0 _ _ _ rfl,S.la1 rfl ⟨?_,?_⟩⟩⟩
 ·refine T.incA (k:=(c.s.b,c.s.p)) (fun x=>x-1) 0 rfl hk2 rv fun w4 T f4=>?_
  have S:=back _ _ T
  dsimp only [List.set_cons_zero,List.cons_append,List.nil_append] at S
  have hu:updM m (c.s.b,c.s.p) (m (c.s.b,c.s.p)-1) (c.s.b,c.s.p)=m (c.s.b,c.s.p)-1:=if_pos rfl
  refine S.reg fun D hD hkeep S T=>?_
  refine ⟨by rw [add_block];exact hD _ (S.lt 3 rfl),ld4 3 S rfl ⟨hD _ S.bl1,S.la1 rfl ?_⟩⟩
  refine S.lookM (k:=(c.s.b,c.s.p)) 0 rfl ⟨hkeep _ (Fr.refl _ _),?_⟩
  dsimp only
  rw [hu]
  refine cond_d (fun hp=>?_) (fun hp=>?_)
  ·refine ⟨a,n,cp,updM m (c.s.b,c.s.p) (m (c.s.b,c.s.p)-1),rfl,by omega,fun k=>by unfold losM;rw [if_pos hh],?_⟩
   have:losL m c L=L:=by unfold losL;rw [if_neg (fun k=>k.2 hp)]
   rw [this]
   exact S.sel [3,0,2] rfl
  ·have S:=S.sel [0,0,0,0,0] rfl
   refine Sep.regC [_] S fun G D hG T S hDt hDo hkeep back=>?_
   have hGr:G r:=by
    obtain ⟨F,⟨h1,l,cc,h2,-⟩,h3⟩:=T.get (i:=0) rfl
    exact (h3 r h1).1.resolve_right (fun h=>by have:=(Array.getElem?_eq_some_iff.1 h2).1;omega)
   refine ⟨by rw [add_block];exact hDt 2 _ _ _ rfl,ld4 3 S rfl ⟨hDt 0 _ _ _ rfl,S.la1 rfl ?_⟩⟩
   refine T.delM (k:=(c.s.b,c.s.p)) 0 rfl fun w5 T f5=>⟨hkeep _ (f5.mono fun k hk=>by subst hk;exact hGr),?_⟩
   have S:=back _ _ T
   dsimp only [List.set_cons_zero,List.cons_append,List.nil_append] at S
   refine S.la1 rfl (S.newB fun b26 w6 S f6 _=>?_)
   refine AppS.of (news:=plV (c.s.b,c.s.p)) rfl (.inr ⟨_,rfl,S.cells 0 rfl⟩) ?_
   refine S.ap5 rfl (plV_one _) (by omega) (by omega) fun a' c' w7 S f7=>?_
   refine ⟨a',n+1,c',updM (updM m (c.s.b,c.s.p) (m (c.s.b,c.s.p)-1)) (c.s.b,c.s.p) 0,rfl,Nat.le_refl _,fun k=>?_,?_⟩
   rotate_left
   ·have e:losL m c L=L++[(c.s.b,c.s.p)]:=by unfold losL;rw [if_pos ⟨hh,hp⟩]
    rw [e]
    unfold outA
    rw [List.flatMap_append,List.flatMap_singleton]
    exact S.sel [4,1,3] rfl
   ·unfold losM updM
    rw [if_pos hh]
    by_cases hkk:k=(c.s.b,c.s.p)
    ·rw [if_pos hkk,if_pos hkk];omega
    ·rw [if_neg hkk,if_neg hkk]
 ·refine T.incB (k:=(c.s.b,c.s.p)) (fun x=>x-1) 0 rfl hk2 rv fun w4 T f4=>?_
  have S:=back _ _ T
  dsimp only [List.set_cons_zero,List.cons_append,List.nil_append] at S
  have hu:updM m (c.s.b,c.s.p) (m (c.s.b,c.s.p)-1) (c.s.b,c.s.p)=m (c.s.b,c.s.p)-1:=if_pos rfl
  refine S.reg fun D hD hkeep S T=>?_
  refine ⟨by rw [add_block];exact hD _ (S.lt 3 rfl),ld4 3 S rfl ⟨hD _ S.bl1,S.la1 rfl ?_⟩⟩
  refine S.lookM (k:=(c.s.b,c.s.p)) 0 rfl ⟨hkeep _ (Fr.refl _ _),?_⟩
  dsimp only
  rw [hu]
  refine cond_d (fun hp=>?_) (fun hp=>?_)
  ·refine ⟨a,n,cp,updM m (c.s.b,c.s.p) (m (c.s.b,c.s.p)-1),rfl,by omega,fun k=>by unfold losM;rw [if_pos hh],?_⟩
   have:losL m c L=L:=by unfold losL;rw [if_neg (fun k=>k.2 hp)]
   rw [this]
   exact S.sel [3,0,2] rfl
  ·have S:=S.sel [0,0,0,0,0] rfl
   refine Sep.regC [_] S fun G D hG T S hDt hDo hkeep back=>?_
   have hGr:G r:=by
    obtain ⟨F,⟨h1,l,cc,h2,-⟩,h3⟩:=T.get (i:=0) rfl
    exact (h3 r h1).1.resolve_right (fun h=>by have:=(Array.getElem?_eq_some_iff.1 h2).1;omega)
   refine ⟨by rw [add_block];exact hDt 2 _ _ _ rfl,ld4 3 S rfl ⟨hDt 0 _ _ _ rfl,S.la1 rfl ?_⟩⟩
   refine T.delM (k:=(c.s.b,c.s.p)) 0 rfl fun w5 T f5=>⟨hkeep _ (f5.mono fun k hk=>by subst hk;exact hGr),?_⟩
   have S:=back _ _ T
   dsimp only [List.set_cons_zero,List.cons_append,List.nil_append] at S
   refine S.la1 rfl (S.newB fun b26 w6 S f6 _=>?_)
   refine AppS.of (news:=plV (c.s.b,c.s.p)) rfl (.inr ⟨_,rfl,S.cells 0 rfl⟩) ?_
   refine S.ap5 rfl (plV_one _) (by omega) (by omega) fun a' c' w7 S f7=>?_
   refine ⟨a',n+1,c',updM (updM m (c.s.b,c.s.p) (m (c.s.b,c.s.p)-1)) (c.s.b,c.s.p) 0,rfl,Nat.le_refl _,fun k=>?_,?_⟩
   rotate_left
   ·have e:losL m c L=L++[(c.s.b,c.s.p)]:=by unfold losL;rw [if_pos ⟨hh,hp⟩]
    rw [e]
    unfold outA
    rw [List.flatMap_append,List.flatMap_singleton]
    exact S.sel [4,1,3] rfl
   ·unfold losM updM
    rw [if_pos hh]
    by_cases hkk:k=(c.s.b,c.s.p)
    ·rw [if_pos hkk,if_pos hkk];omega
    ·rw [if_neg hkk,if_neg hkk]
end
end Go.Proofs.YtbaojfchlhlaeaaGreat.Vc
namespace Go.Proofs.YtbaojfchlhlaeaaGreat
open Go.Shelf Go.Proofs
def Tryz.srtP_ren:Go.Shelf.Ren:=⟨fun | 6=>197 | 15=>186 | 14=>245 | 28=>232 | 29=>233 | 20=>271 | 21=>272 | 22=>273 | 23=>274 | 24=>275 | 25=>276 | 26=>277 | 27=>278 | 46=>287 | 47=>261 | 48=>262 | 49=>288 | 50=>289 | 57=>291 | n=>n,fun | 22=>187 | 24=>81 | 25=>202 | 3=>3 | 39=>247 | 0=>0 | 53=>59 | 55=>60 | 4=>4 | 46=>278 | 45=>277 | 50=>282 | 5=>5 | 9=>9 | 66=>303 | 70=>306 | 76=>316 | 77=>210 | n=>n,fun | n=>n⟩
theorem Tryz.srtP:Go.Proofs.SlLaysF0.n6 Tryz.prog Tryz.srtP_ren:={
 mixed:=by kernel_rfl,
 f6:=⟨Tryz.f197.name,by decide,Tryz.func197.trans (congrArg some (by kernel_rfl))⟩,
 f14:=⟨Tryz.f245.name,by decide,Tryz.func245.trans (congrArg some (by kernel_rfl))⟩,
 f15:=Tryz.func186.trans (congrArg some (by kernel_rfl)),
 f20:=⟨Tryz.f271.name,by decide,Tryz.func271.trans (congrArg some (by kernel_rfl))⟩,
 f21:=⟨Tryz.f272.name,by decide,Tryz.func272.trans (congrArg some (by kernel_rfl))⟩,
 f22:=⟨Tryz.f273.name,by decide,Tryz.func273.trans (congrArg some (by kernel_rfl))⟩,
 f23:=⟨Tryz.f274.name,by decide,Tryz.func274.trans (congrArg some (by kernel_rfl))⟩,
 f24:=⟨Tryz.f275.name,by decide,Tryz.func275.trans (congrArg some (by kernel_rfl))⟩,
 f25:=⟨Tryz.f276.name,by decide,Tryz.func276.trans (congrArg some (by kernel_rfl))⟩,
 f26:=⟨Tryz.f277.name,by decide,Tryz.func277.trans (congrArg some (by kernel_rfl))⟩,
 f27:=⟨Tryz.f278.name,by decide,Tryz.func278.trans (congrArg some (by kernel_rfl))⟩,
 f28:=Tryz.func232.trans (congrArg some (by kernel_rfl)),
 f29:=Tryz.func233.trans (congrArg some (by kernel_rfl)),
 f46:=⟨Tryz.f287.name,by decide,Tryz.func287.trans (congrArg some (by kernel_rfl))⟩,
 f47:=Tryz.func261.trans (congrArg some (by kernel_rfl)),
 f48:=Tryz.func262.trans (congrArg some (by kernel_rfl)),
 f49:=⟨Tryz.f288.name,by decide,Tryz.func288.trans (congrArg some (by kernel_rfl))⟩,
 f50:=⟨Tryz.f289.name,by decide,Tryz.func289.trans (congrArg some (by kernel_rfl))⟩,
 f57:=⟨Tryz.f291.name,by decide,Tryz.func291.trans (congrArg some (by kernel_rfl))⟩,
 t0:=Tryz.underlying0,
 a0:=Tryz.isAgg0,
 z0:=Tryz.sizeOf0,
 v0:=Tryz.zeroValue0,
 t3:=Tryz.underlying3,
 a3:=Tryz.isAgg3,
 z3:=Tryz.sizeOf3,
 v3:=Tryz.zeroValue3,
 t4:=Tryz.underlying4,
 a4:=Tryz.isAgg4,
 z4:=Tryz.sizeOf4,
 v4:=Tryz.zeroValue4,
 t5:=Tryz.underlying5,
 a5:=Tryz.isAgg5,
 z5:=Tryz.sizeOf5,
 v5:=Tryz.zeroValue5,
 t9:=Tryz.underlying9,
 a9:=Tryz.isAgg9,
 z9:=Tryz.sizeOf9,
 v9:=Tryz.zeroValue9,
 t22:=Tryz.underlying187,
 a22:=Tryz.isAgg187,
 z22:=Tryz.sizeOf187,
 v22:=Tryz.zeroValue187,
 t25:=Tryz.underlying202,
 a25:=Tryz.isAgg202,
 z25:=Tryz.sizeOf202,
 v25:=Tryz.zeroValue202,
 t39:=Tryz.underlying247,
 a39:=Tryz.isAgg247,
 z39:=Tryz.sizeOf247,
 v39:=Tryz.zeroValue247,
 t45:=Tryz.underlying277,
 a45:=Tryz.isAgg277,
 z45:=Tryz.sizeOf277,
 v45:=Tryz.zeroValue277,
 t46:=Tryz.underlying278,
 a46:=Tryz.isAgg278,
 z46:=Tryz.sizeOf278,
 v46:=Tryz.zeroValue278,
 t50:=Tryz.underlying282,
 a50:=Tryz.isAgg282,
 z50:=Tryz.sizeOf282,
 v50:=Tryz.zeroValue282,
 t53:=Tryz.underlying59,
 a53:=Tryz.isAgg59,
 z53:=Tryz.sizeOf59,
 v53:=Tryz.zeroValue59,
 t55:=Tryz.underlying60,
 a55:=Tryz.isAgg60,
 z55:=Tryz.sizeOf60,
 v55:=Tryz.zeroValue60,
 t66:=Tryz.underlying303,
 a66:=Tryz.isAgg303,
 z66:=Tryz.sizeOf303,
 v66:=Tryz.zeroValue303,
 t70:=Tryz.underlying306,
 a70:=Tryz.isAgg306,
 z70:=Tryz.sizeOf306,
 v70:=Tryz.zeroValue306,
 t76:=Tryz.underlying316,
 a76:=Tryz.isAgg316,
 z76:=Tryz.sizeOf316,
 v76:=Tryz.zeroValue316,
 t77:=Tryz.underlying210,
 a77:=Tryz.isAgg210,
 z77:=Tryz.sizeOf210,
 v77:=Tryz.zeroValue210}
def Tryz.srtS_ren:Go.Shelf.Ren:=⟨fun | 6=>126 | 15=>186 | 14=>185 | 28=>232 | 29=>233 | 20=>224 | 21=>225 | 22=>226 | 23=>227 | 24=>228 | 25=>229 | 26=>230 | 27=>231 | 46=>260 | 47=>261 | 48=>262 | 49=>263 | 50=>264 | 57=>285 | n=>n,fun | 22=>100 | 24=>83 | 25=>203 | 3=>3 | 39=>247 | 0=>0 | 53=>59 | 55=>60 | 4=>4 | 46=>278 | 45=>277 | 50=>282 | 5=>5 | 9=>9 | 66=>303 | 70=>306 | 76=>316 | 77=>210 | n=>n,fun | n=>n⟩
theorem Tryz.srtS:Go.Proofs.SlLaysF0.n6 Tryz.prog Tryz.srtS_ren:={
 mixed:=by kernel_rfl,
 f6:=⟨Tryz.f126.name,by decide,Tryz.func126.trans (congrArg some (by kernel_rfl))⟩,
 f14:=⟨Tryz.f185.name,by decide,Tryz.func185.trans (congrArg some (by kernel_rfl))⟩,
 f15:=Tryz.func186.trans (congrArg some (by kernel_rfl)),
 f20:=⟨Tryz.f224.name,by decide,Tryz.func224.trans (congrArg some (by kernel_rfl))⟩,
 f21:=⟨Tryz.f225.name,by decide,Tryz.func225.trans (congrArg some (by kernel_rfl))⟩,
 f22:=⟨Tryz.f226.name,by decide,Tryz.func226.trans (congrArg some (by kernel_rfl))⟩,
 f23:=⟨Tryz.f227.name,by decide,Tryz.func227.trans (congrArg some (by kernel_rfl))⟩,
 f24:=⟨Tryz.f228.name,by decide,Tryz.func228.trans (congrArg some (by kernel_rfl))⟩,
 f25:=⟨Tryz.f229.name,by decide,Tryz.func229.trans (congrArg some (by kernel_rfl))⟩,
 f26:=⟨Tryz.f230.name,by decide,Tryz.func230.trans (congrArg some (by kernel_rfl))⟩,
 f27:=⟨Tryz.f231.name,by decide,Tryz.func231.trans (congrArg some (by kernel_rfl))⟩,
 f28:=Tryz.func232.trans (congrArg some (by kernel_rfl)),
 f29:=Tryz.func233.trans (congrArg some (by kernel_rfl)),
 f46:=⟨Tryz.f260.name,by decide,Tryz.func260.trans (congrArg some (by kernel_rfl))⟩,
 f47:=Tryz.func261.trans (congrArg some (by kernel_rfl)),
 f48:=Tryz.func262.trans (congrArg some (by kernel_rfl)),
 f49:=⟨Tryz.f263.name,by decide,Tryz.func263.trans (congrArg some (by kernel_rfl))⟩,
 f50:=⟨Tryz.f264.name,by decide,Tryz.func264.trans (congrArg some (by kernel_rfl))⟩,
 f57:=⟨Tryz.f285.name,by decide,Tryz.func285.trans (congrArg some (by kernel_rfl))⟩,
 t0:=Tryz.underlying0,
 a0:=Tryz.isAgg0,
 z0:=Tryz.sizeOf0,
 v0:=Tryz.zeroValue0,
 t3:=Tryz.underlying3,
 a3:=Tryz.isAgg3,
 z3:=Tryz.sizeOf3,
 v3:=Tryz.zeroValue3,
 t4:=Tryz.underlying4,
 a4:=Tryz.isAgg4,
 z4:=Tryz.sizeOf4,
 v4:=Tryz.zeroValue4,
 t5:=Tryz.underlying5,
 a5:=Tryz.isAgg5,
 z5:=Tryz.sizeOf5,
 v5:=Tryz.zeroValue5,
 t9:=Tryz.underlying9,
 a9:=Tryz.isAgg9,
 z9:=Tryz.sizeOf9,
 v9:=Tryz.zeroValue9,
 t22:=Tryz.underlying100,
 a22:=Tryz.isAgg100,
 z22:=Tryz.sizeOf100,
 v22:=Tryz.zeroValue100,
 t25:=Tryz.underlying203,
 a25:=Tryz.isAgg203,
 z25:=Tryz.sizeOf203,
 v25:=Tryz.zeroValue203,
 t39:=Tryz.underlying247,
 a39:=Tryz.isAgg247,
 z39:=Tryz.sizeOf247,
 v39:=Tryz.zeroValue247,
 t45:=Tryz.underlying277,
 a45:=Tryz.isAgg277,
 z45:=Tryz.sizeOf277,
 v45:=Tryz.zeroValue277,
 t46:=Tryz.underlying278,
 a46:=Tryz.isAgg278,
 z46:=Tryz.sizeOf278,
 v46:=Tryz.zeroValue278,
 t50:=Tryz.underlying282,
 a50:=Tryz.isAgg282,
 z50:=Tryz.sizeOf282,
 v50:=Tryz.zeroValue282,
 t53:=Tryz.underlying59,
 a53:=Tryz.isAgg59,
 z53:=Tryz.sizeOf59,
 v53:=Tryz.zeroValue59,
 t55:=Tryz.underlying60,
 a55:=Tryz.isAgg60,
 z55:=Tryz.sizeOf60,
 v55:=Tryz.zeroValue60,
 t66:=Tryz.underlying303,
 a66:=Tryz.isAgg303,
 z66:=Tryz.sizeOf303,
 v66:=Tryz.zeroValue303,
 t70:=Tryz.underlying306,
 a70:=Tryz.isAgg306,
 z70:=Tryz.sizeOf306,
 v70:=Tryz.zeroValue306,
 t76:=Tryz.underlying316,
 a76:=Tryz.isAgg316,
 z76:=Tryz.sizeOf316,
 v76:=Tryz.zeroValue316,
 t77:=Tryz.underlying210,
 a77:=Tryz.isAgg210,
 z77:=Tryz.sizeOf210,
 v77:=Tryz.zeroValue210}
end Go.Proofs.YtbaojfchlhlaeaaGreat
namespace Go.Proofs.YtbaojfchlhlaeaaGreat.Vc
open Go Go.Eng Go.RowKit
theorem sort0_c {w:World} {a:Option Addr} {c:Nat} {fv:Value}:CallV Tryz.prog 197 #[.slice a 0 c,fv] w [] fun _ w'=>w'=w:=
 Calls.mono (Go.Proofs.AnyF.slices_SortFunc_none Tryz.srtP a c fv w) fun e w' ⟨h1,h2⟩=>⟨(),h1,h2⟩
theorem told0_c {w:World} {a:Option Addr} {c:Nat}:CallV Tryz.prog 160 #[.slice a 0 c] w [.one .sl] fun r w'=>r.1=(⟨a,0,c⟩:SlV)∧w'=w:=by
 apply pagemap_told.vc
 unfold pagemap_told.P
 refine sort0_c.mono ?_
 rintro ⟨⟩ w1 rfl
 exact ⟨rfl,rfl⟩
end Go.Proofs.YtbaojfchlhlaeaaGreat.Vc
namespace Go.Proofs.YtbaojfchlhlaeaaGreat.Vc
open Go Go.Eng Go.RowKit
abbrev Ce.pl (c:Ce):Int×Int:=(c.s.b,c.s.p)
def isP (k:Int×Int) (c:Ce):Bool:=c.has && decide (c.pl=k)
def cntC (l:List Ce) (k:Int×Int):Nat:=l.countP (isP k)
def flatX (X:List (SlP Ce)):List Ce:=X.flatMap (·.l)
def cntX (X:List (SlP Ce)):Int×Int→Int:=fun k=>(cntC (flatX X) k:Int)
def setX (X:List (SlP Ce)) (ns:Int) (j:Nat) (c:Ce):List (SlP Ce):=X.set ns.toNat ⟨(getX X ns).a,(getX X ns).n,(getX X ns).c,(getX X ns).l.set j c⟩
structure XOk (X:List (SlP Ce)):Prop where
 four:X.length=4
 len:∀ x∈X,x.l.length=x.n∧x.n≤65535
theorem getX_at {X:List (SlP Ce)} (hX:X.length=4) {ns:Int} (hn:0≤ns∧ns<4):X[ns.toNat]? = some (getX X ns):=by
 have hl:ns.toNat<X.length:=by omega
 unfold getX
 rw [if_pos hn,List.getD_eq_getElem?_getD,List.getElem?_eq_getElem hl]
 rfl
theorem XOk.get {X:List (SlP Ce)} (h:XOk X) (ns:Int):(getX X ns).l.length=(getX X ns).n∧(getX X ns).n≤65535:=by
 by_cases hn:0≤ns∧ns<4
 ·exact h.len _ (List.mem_of_getElem? (getX_at h.four hn))
 ·unfold getX;rw [if_neg hn];exact ⟨rfl,Nat.zero_le _⟩
theorem setX_get {X:List (SlP Ce)} (hX:X.length=4) {ns:Int} (hn:0≤ns∧ns<4) {j:Nat} {c:Ce} (ns':Int):getX (setX X ns j c) ns'=if ns'=ns then ⟨(getX X ns).a,(getX X ns).n,(getX X ns).c,(getX X ns).l.set j c⟩ else getX X ns':=by
 by_cases hn':0≤ns'∧ns'<4
 ·have h1:=getX_at (X:=setX X ns j c) (by unfold setX;rw [List.length_set];exact hX) hn'
  unfold setX at h1
  rw [List.getElem?_set] at h1
  by_cases h:ns'=ns
  ·subst h
   rw [if_pos rfl,if_pos (by omega)] at h1
   rw [if_pos rfl]
   exact (Option.some.inj h1).symm
  ·rw [if_neg (by omega),getX_at hX hn'] at h1
   rw [if_neg h]
   exact (Option.some.inj h1).symm
 ·have h:ns'≠ns:=fun e=>hn' (e ▸ hn)
  rw [if_neg h]
  unfold getX
  rw [if_neg hn',if_neg hn']
theorem XOk.set {X:List (SlP Ce)} (h:XOk X) {ns:Int} {j:Nat} {c:Ce}:XOk (setX X ns j c):=by
 refine ⟨by unfold setX;rw [List.length_set];exact h.four,fun x hx=>?_⟩
 unfold setX at hx
 rcases List.mem_or_eq_of_mem_set hx with hx | hx
 ·exact h.len x hx
 ·rw [hx]
  have:=h.get ns
  exact ⟨by show ((getX X ns).l.set j c).length=_;rw [List.length_set];exact this.1,this.2⟩
theorem setX_sl {X:List (SlP Ce)} (hX:X.length=4) {ns:Int} (hn:0≤ns∧ns<4) {j:Nat} {c:Ce}:(setX X ns j c).map slM=X.map slM:=by
 unfold setX
 rw [List.map_set]
 exact List.set_getElem?_self' (by rw [List.getElem?_map,getX_at hX hn];rfl)
theorem cntC_set {l:List Ce} {j:Nat} {c d:Ce} (hj:l[j]? = some c) (k:Int×Int):(cntC (l.set j d) k:Int)=cntC l k-(if isP k c=true then 1 else 0)+(if isP k d=true then 1 else 0):=by
 have hl:j<l.length:=(List.getElem?_eq_some_iff.1 hj).1
 unfold cntC
 have h1:l=l.take j++c::l.drop (j+1):=by
  conv=>lhs;rw [←List.take_append_drop j l,List.drop_eq_getElem_cons hl,(List.getElem?_eq_some_iff.1 hj).2]
 have h2:l.set j d=l.take j++d::l.drop (j+1):=by rw [List.set_eq_take_append_cons_drop,if_pos hl]
 rw [h2]
 conv=>rhs;rw [h1]
 rw [List.countP_append,List.countP_append,List.countP_cons,List.countP_cons]
 have e:List.take j (l.take j++c::l.drop (j+1))=l.take j:=by rw [←h1]
 have e':List.drop (j+1) (l.take j++c::l.drop (j+1))=l.drop (j+1):=by rw [←h1]
 split <;> split <;> omega
theorem cntX_set {X:List (SlP Ce)} (hX:X.length=4) {ns:Int} (hn:0≤ns∧ns<4) {j:Nat} {c d:Ce} (hj:(getX X ns).l[j]? = some c) (k:Int×Int):cntX (setX X ns j d) k=cntX X k-(if isP k c=true then 1 else 0)+(if isP k d=true then 1 else 0):=by
 unfold cntX
 obtain ⟨m1,m2⟩:=flat_mid (f:=fun x:SlP Ce=>x.l) (z:=(⟨(getX X ns).a,(getX X ns).n,(getX X ns).c,(getX X ns).l.set j d⟩:SlP Ce)) (getX_at hX hn)
 have h1:flatX X=_:=m1
 have h2:flatX (setX X ns j d)=_:=m2
 rw [h1,h2]
 have:=cntC_set (d:=d) hj k
 unfold cntC at this ⊢
 simp only [List.countP_append] at this ⊢
 push_cast
 omega
theorem cntX_pos {X:List (SlP Ce)} (hX:X.length=4) {ns:Int} (hn:0≤ns∧ns<4) {j:Nat} {c:Ce} (hj:(getX X ns).l[j]? = some c) (hh:c.has=true):1≤cntX X c.pl:=by
 unfold cntX cntC
 have:0<(flatX X).countP (isP c.pl):=by
  rw [List.countP_pos_iff]
  refine ⟨c,?_,by unfold isP;rw [hh];simp⟩
  unfold flatX
  exact List.mem_flatMap.2 ⟨_,List.mem_of_getElem? (getX_at hX hn),List.mem_of_getElem? hj⟩
 omega
theorem cntX_le {X:List (SlP Ce)} (h:XOk X) (k:Int×Int):0≤cntX X k∧cntX X k≤262140:=by
 unfold cntX cntC
 refine ⟨Int.natCast_nonneg _,?_⟩
 have h1:=List.countP_le_length (p:=isP k) (l:=flatX X)
 have h2:(flatX X).length≤X.length*65535:=by
  unfold flatX
  have:∀ (Y:List (SlP Ce)),(∀ x∈Y,x.l.length≤65535)→(Y.flatMap (·.l)).length≤Y.length*65535:=by
   intro Y
   induction Y with
   | nil=>intro _;simp
   | cons x Y ih=>
    intro hY
    rw [List.flatMap_cons,List.length_append,List.length_cons]
    have:=ih fun y hy=>hY y (List.mem_cons_of_mem _ hy)
    have:=hY x List.mem_cons_self
    omega
  exact this X fun x hx=>by have:=h.len x hx;omega
 rw [h.four] at h2
 omega
theorem put_m {Y:List (SlP Ce)} (hY:XOk Y) {ns:Int} (hns:0≤ns∧ns<4) {j:Nat} {x:Ce} (hx:(getX Y ns).l[j]? = some x) (s:Sp) (L:List (Int×Int)) :
  (x.has=true→1≤updM (cntX Y) (s.b,s.p) (cntX Y (s.b,s.p)+1) (x.s.b,x.s.p)∧updM (cntX Y) (s.b,s.p) (cntX Y (s.b,s.p)+1) (x.s.b,x.s.p)≤1000000) ∧
  (∀ k,losM (updM (cntX Y) (s.b,s.p) (cntX Y (s.b,s.p)+1)) x k=cntX (setX Y ns j ⟨true,s⟩) k) ∧
  losL (updM (cntX Y) (s.b,s.p) (cntX Y (s.b,s.p)+1)) x L=if x.has=true∧cntX (setX Y ns j ⟨true,s⟩) x.pl=0 then L++[x.pl] else L:=by
 have hm:∀ k,updM (cntX Y) (s.b,s.p) (cntX Y (s.b,s.p)+1) k=cntX Y k+(if isP k ⟨true,s⟩=true then 1 else 0):=fun k=>by
  unfold updM
  by_cases h:k=(s.b,s.p)
  ·rw [if_pos h,h,if_pos (by simp [isP])]
  ·rw [if_neg h,if_neg (by simpa [isP] using fun e=>h e.symm)];omega
 generalize updM (cntX Y) (s.b,s.p) (cntX Y (s.b,s.p)+1)=m1 at hm
 have hl:∀ k,losM m1 x k=m1 k-(if isP k x=true then 1 else 0):=fun k=>by
  unfold losM
  by_cases hh:x.has=true
  ·rw [if_pos hh]
   unfold updM
   by_cases h:k=x.pl
   ·rw [if_pos h,h,if_pos (by simp [isP,hh])]
   ·rw [if_neg h,if_neg (by simpa [isP,hh] using fun e=>h e.symm)];omega
  ·rw [if_neg hh,if_neg (by simp [isP,hh])];omega
 have hc:=cntX_set (d:=⟨true,s⟩) hY.four hns hx
 have hmm:∀ k,losM m1 x k=cntX (setX Y ns j ⟨true,s⟩) k:=fun k=>by rw [hl,hm,hc];omega
 have h1:x.has=true→1≤m1 x.pl∧m1 x.pl≤1000000:=fun h=>by
  have h1:=cntX_pos hY.four hns hx h
  have h2:=(cntX_le hY x.pl).2
  rw [hm]
  split <;> omega
 refine ⟨h1,hmm,?_⟩
 unfold losL
 by_cases hh:x.has=true
 ·have h2:=hmm x.pl
  rw [hl,if_pos (by simp [isP,hh])] at h2
  have h3:=(h1 hh).1
  by_cases h4:0<m1 x.pl-1
  ·rw [if_neg (fun k=>k.2 h4),if_neg (fun k=>by omega)]
  ·rw [if_pos ⟨hh,h4⟩,if_pos ⟨hh,by omega⟩]
 ·rw [if_neg (fun k=>hh k.1),if_neg (fun k=>hh k.1)]
def stepP (s:Sp) (j:Nat) (st:List (SlP Ce)×List (Int×Int)):List (SlP Ce)×List (Int×Int):=
 let c:=(getX st.1 s.h.n).l.getD j Ce0
 if c.has=true∧¬ nwrH s c.s then st else (setX st.1 s.h.n j ⟨true,s⟩,if c.has=true∧cntX (setX st.1 s.h.n j ⟨true,s⟩) c.pl=0 then st.2++[c.pl] else st.2)
def putP (s:Sp) (X:List (SlP Ce)):Nat→List (SlP Ce)×List (Int×Int)
 | 0=>(X,[])
 | i+1=>stepP s (s.h.l.toNat+i) (putP s X i)
theorem stepP_ok {s:Sp} {j:Nat} {st:List (SlP Ce)×List (Int×Int)} (h:XOk st.1):XOk (stepP s j st).1:=by
 unfold stepP
 dsimp only
 split
 ·exact h
 ·exact h.set
theorem stepP_sl {s:Sp} {j:Nat} {st:List (SlP Ce)×List (Int×Int)} (h:XOk st.1) (hn:0≤s.h.n∧s.h.n<4):(stepP s j st).1.map slM=st.1.map slM:=by
 unfold stepP
 dsimp only
 split
 ·rfl
 ·exact setX_sl h.four hn
theorem nodup_sub {α:Type} [DecidableEq α]:∀ (L M:List α),L.Nodup→(∀ k∈L,k∈M)→L.length≤M.length
 | [],M,_,_=>Nat.zero_le _
 | k::L,M,hn,hs=>by
  rw [List.nodup_cons] at hn
  have h1:k∈M:=hs k List.mem_cons_self
  have h2:=nodup_sub L (M.erase k) hn.2 fun x hx=>by
   have:x≠k:=fun e=>hn.1 (e ▸ hx)
   exact (List.mem_erase_of_ne this).2 (hs x (List.mem_cons_of_mem _ hx))
  rw [List.length_erase_of_mem h1] at h2
  have:=List.length_pos_of_mem h1
  rw [List.length_cons]
  omega
theorem mem_flatX {X:List (SlP Ce)} (hX:X.length=4) {c:Ce} (h:c∈flatX X):∃ (ns:Int) (j:Nat),(0≤ns∧ns<4)∧(getX X ns).l[j]? = some c:=by
 obtain ⟨x,hx,hc⟩:=List.mem_flatMap.1 h
 obtain ⟨i,hi,rfl⟩:=List.getElem_of_mem hx
 obtain ⟨j,hj⟩:=List.getElem?_of_mem hc
 refine ⟨(i:Int),j,by omega,?_⟩
 have:=getX_at hX (ns:=(i:Int)) (by omega)
 rw [Int.toNat_natCast,List.getElem?_eq_getElem hi] at this
 rw [←Option.some.inj this]
 exact hj
theorem cntX_ex {X:List (SlP Ce)} (hX:X.length=4) {k:Int×Int} (h:1≤cntX X k):∃ (ns:Int) (j:Nat) (c:Ce),(0≤ns∧ns<4)∧(getX X ns).l[j]? = some c∧c.has=true∧c.pl=k:=by
 unfold cntX cntC at h
 have h:0<(flatX X).countP (isP k):=by omega
 obtain ⟨c,hc,hp⟩:=List.countP_pos_iff.1 h
 obtain ⟨ns,j,hn,hj⟩:=mem_flatX hX hc
 unfold isP at hp
 rw [Bool.and_eq_true,decide_eq_true_iff] at hp
 exact ⟨ns,j,c,hn,hj,hp.1,hp.2⟩
end Go.Proofs.YtbaojfchlhlaeaaGreat.Vc
namespace Go.Proofs.YtbaojfchlhlaeaaGreat.Vc
open Go Go.Eng Go.RowKit
abbrev Sp.pl (s:Sp):Int×Int:=(s.b,s.p)
def putC (s:Sp) (c:Ce):Ce:=if c.has=true∧¬ nwrH s c.s then c else ⟨true,s⟩
theorem getX_l_set {X:List (SlP Ce)} (hX:X.length=4) {ns:Int} (hn:0≤ns∧ns<4) {j:Nat} {c:Ce} (ns':Int):(getX (setX X ns j c) ns').l=if ns'=ns then (getX X ns).l.set j c else (getX X ns').l:=by
 rw [setX_get hX hn];split <;> rfl
structure PutI (s:Sp) (X:List (SlP Ce)) (i:Nat) (Y:List (SlP Ce)) (L:List (Int×Int)):Prop where
 ok:XOk Y
 nd:L.Nodup
 mem:∀ k,k∈L↔1≤cntX X k∧cntX Y k=0
 up:cntX X s.pl≤cntX Y s.pl
 cell:∀ (ns:Int) (j:Nat),(getX Y ns).l[j]? = if ns=s.h.n∧s.h.l.toNat≤j∧j<s.h.l.toNat+i then ((getX X ns).l[j]?).map (putC s) else (getX X ns).l[j]?
 sl:Y.map slM=X.map slM
theorem putP_inv {s:Sp} {X:List (SlP Ce)} (hX:XOk X) (hn:0≤s.h.n∧s.h.n<4):∀ (i:Nat),s.h.l.toNat+i≤(getX X s.h.n).n→PutI s X i (putP s X i).1 (putP s X i).2
 | 0,_=>⟨hX,.nil,fun k=>⟨fun h=>(List.not_mem_nil h).elim,fun h=>by have h1:=h.1;have h2:cntX X k=0:=h.2;omega⟩,Int.le_refl _,fun ns j=>by rw [if_neg (by omega)];rfl,rfl⟩
 | i+1,hi=>by
  have ih:=putP_inv hX hn i (by omega)
  show PutI s X (i+1) (stepP s (s.h.l.toNat+i) (putP s X i)).1 (stepP s (s.h.l.toNat+i) (putP s X i)).2
  generalize putP s X i=st at ih ⊢
  obtain ⟨Y,L⟩:=st
  dsimp only at ih
  obtain ⟨c,hc⟩:∃ c,(getX X s.h.n).l[s.h.l.toNat+i]? = some c:=⟨_,List.getElem?_eq_getElem (by rw [(hX.get _).1];omega)⟩
  have hy:(getX Y s.h.n).l[s.h.l.toNat+i]? = some c:=by rw [ih.cell,if_neg (by omega),hc]
  have hd:(getX Y s.h.n).l.getD (s.h.l.toNat+i) Ce0=c:=by rw [List.getD_eq_getElem?_getD,hy];rfl
  unfold stepP
  dsimp only
  rw [hd]
  by_cases h:c.has=true∧¬ nwrH s c.s
  ·rw [if_pos h]
   refine ⟨ih.ok,ih.nd,ih.mem,ih.up,fun ns j=>?_,ih.sl⟩
   rw [ih.cell]
   by_cases h1:ns=s.h.n∧j=s.h.l.toNat+i
   ·rw [if_neg (by omega),if_pos (by omega),h1.1,h1.2,hc]
    show some c=some (putC s c)
    unfold putC;rw [if_pos h]
   ·by_cases h2:ns=s.h.n∧s.h.l.toNat≤j∧j<s.h.l.toNat+i
    ·rw [if_pos h2,if_pos (by omega)]
    ·rw [if_neg h2,if_neg (by omega)]
  ·rw [if_neg h]
   dsimp only
   have hcnt:=cntX_set (d:=⟨true,s⟩) ih.ok.four hn hy
   have hpos:=fun hh=>cntX_pos ih.ok.four hn hy hh
   have hle:=cntX_le ih.ok
   have isC:∀ k,isP k c=true↔c.has=true∧c.pl=k:=fun k=>by unfold isP;simp
   have isS:∀ k,isP k ⟨true,s⟩=true↔s.pl=k:=fun k=>by unfold isP;simp [Sp.pl]
   have hup:cntX X s.pl≤cntX (setX Y s.h.n (s.h.l.toNat+i) ⟨true,s⟩) s.pl:=by
    have:=ih.up
    rw [hcnt,if_pos ((isS _).2 rfl)]
    split <;> omega
   refine ⟨ih.ok.set,?_,fun k=>?_,hup,fun ns j=>?_,(setX_sl ih.ok.four hn).trans ih.sl⟩
   ·split
    ·rename_i h1
     rw [List.nodup_append]
     refine ⟨ih.nd,by simp,fun a ha b hb e=>?_⟩
     have hb:=List.mem_singleton.1 hb
     have:=((ih.mem a).1 ha).2
     have:=hpos h1.1
     rw [e,hb] at *
     omega
    ·exact ih.nd
   ·have hck:=hcnt k
    have hk0:=(hle k).1
    have hup2:=ih.up
    by_cases hs:s.pl=k
    ·subst hs
     have hcs:=hcnt s.pl
     rw [if_pos ((isS _).2 rfl)] at hcs
     have hpl:cntX (setX Y s.h.n (s.h.l.toNat+i) ⟨true,s⟩) s.pl≥1:=by
      by_cases hh:isP s.pl c=true
      ·have:=hpos ((isC _).1 hh).1
       rw [((isC _).1 hh).2] at this
       rw [if_pos hh] at hcs
       omega
      ·rw [if_neg hh] at hcs;omega
     refine ⟨fun hm=>?_,fun hm=>by omega⟩
     exfalso
     split at hm
     ·rename_i h1
      rw [List.mem_append] at hm
      rcases hm with hm | hm
      ·have:=(ih.mem _).1 hm;omega
      ·have hm:=List.mem_singleton.1 hm
       rw [←hm] at h1
       omega
     ·have:=(ih.mem _).1 hm;omega
    ·rw [if_neg (fun e=>hs ((isS _).1 e)),Int.add_zero] at hck
     by_cases hh:isP k c=true
     ·rw [if_pos hh] at hck
      obtain ⟨h1,h2⟩:=(isC _).1 hh
      have hp:=hpos h1
      rw [h2] at hp ⊢
      have hX1:1≤cntX X k:=by
       rw [←h2];exact cntX_pos hX.four hn hc h1
      by_cases h0:cntX (setX Y s.h.n (s.h.l.toNat+i) ⟨true,s⟩) k=0
      ·rw [if_pos ⟨h1,h0⟩]
       exact ⟨fun _=>⟨hX1,h0⟩,fun _=>by simp⟩
      ·rw [if_neg (fun e=>h0 e.2)]
       exact ⟨fun hm=>by have:=(ih.mem _).1 hm;omega,fun hm=>absurd hm.2 h0⟩
     ·rw [if_neg hh,Int.sub_zero] at hck
      rw [hck]
      split
      ·rename_i h1
       rw [List.mem_append]
       refine ⟨fun hm=>hm.elim (fun x=>(ih.mem k).1 x) fun x=>?_,fun hm=>.inl ((ih.mem k).2 hm)⟩
       exact absurd ((isC k).2 ⟨h1.1,(List.mem_singleton.1 x).symm⟩) hh
      ·exact ih.mem k
   ·rw [getX_l_set ih.ok.four hn]
    by_cases h1:ns=s.h.n
    ·rw [if_pos h1,List.getElem?_set,← h1,ih.cell,h1]
     by_cases h2:s.h.l.toNat+i=j
     ·rw [if_pos h2,if_pos (List.getElem?_eq_some_iff.1 hy).1,if_pos (by omega),← h2,hc]
      show some _=some (putC s c)
      unfold putC;rw [if_neg h]
     ·rw [if_neg h2]
      by_cases h3:s.h.l.toNat≤j∧j<s.h.l.toNat+i
      ·rw [if_pos ⟨rfl,h3⟩,if_pos (by omega)]
      ·rw [if_neg (fun e=>h3 e.2),if_neg (by omega)]
    ·rw [if_neg h1,ih.cell,if_neg (fun e=>h1 e.1),if_neg (fun e=>h1 e.1)]
end Go.Proofs.YtbaojfchlhlaeaaGreat.Vc
namespace Go.Eng
open Go Go.RowKit
theorem Own.lenF {w:World} {B m:Nat} {e:TypeId} {α:Type} {f:α→List Value} {a:Option Addr} {n c:Nat} {L:List α} (h:Own w B e m a n c (L.flatMap f)) (hm:∀ x,(f x).length=m) (hp:0<m):L.length=n:=by
 have:=h.len
 rw [flatF_len hm] at this
 exact Nat.eq_of_mul_eq_mul_right hp this
end Go.Eng
namespace Go.Proofs.YtbaojfchlhlaeaaGreat.Vc
open Go Go.Eng Go.RowKit
structure Rc where
 ns:Int
 lba:Int
 s:Sp
abbrev Rc.vs (c:Rc):List Value:=[.int .i64 c.ns,.int .i64 c.lba,.int .i64 c.s.b,.int .i64 c.s.p,.int .i64 c.s.h.k,.int .i64 c.s.h.n,.int .i64 c.s.h.c,.int .u32 c.s.h.l,.int .u64 c.s.h.e,.int .u64 c.s.h.t,.int .i64 c.s.o.k,.int .i64 c.s.o.n,.int .i64 c.s.o.c,.int .u32 c.s.o.l,.int .u64 c.s.o.e,.int .u64 c.s.o.t]
abbrev Rc.pl (c:Rc):Int×Int:=(c.s.b,c.s.p)
structure Sz where
 a:Int
 b:Int
 c:Int
 d:Int
def cntR (L:List Rc) (k:Int×Int):Nat:=L.countP fun c=>decide (c.pl=k)
end Go.Proofs.YtbaojfchlhlaeaaGreat.Vc
namespace Go.Proofs.YtbaojfchlhlaeaaGreat.Vc
open Go Go.Eng Go.RowKit
def Sz.get (z:Sz) (n:Int):Int:=if n=0 then z.a else if n=1 then z.b else if n=2 then z.c else if n=3 then z.d else 0
end Go.Proofs.YtbaojfchlhlaeaaGreat.Vc
namespace Go.Proofs.YtbaojfchlhlaeaaGreat.Vc
open Go Go.Eng Go.RowKit
def Rc.key (c:Rc):Int×Int:=(c.ns,c.lba)
structure RelX (X:List (SlP Ce)) (z:Sz) (L:List Rc):Prop where
 ok:XOk X
 sz:∀ ns,z.get ns=((getX X ns).n:Int)
 nd:(L.map Rc.key).Nodup
 mem:∀ c:Rc,c∈L↔(0≤c.ns∧c.ns<4)∧0≤c.lba∧(getX X c.ns).l[c.lba.toNat]? = some ⟨true,c.s⟩
def canL (ns:Int):Nat→List Ce→List Rc
 | _,[]=>[]
 | j,c::l=>if c.has=true then ⟨ns,j,c.s⟩::canL ns (j+1) l else canL ns (j+1) l
theorem canL_cnt (ns:Int) (p:Sp→Bool):∀ (l:List Ce) (j:Nat),(canL ns j l).countP (fun c=>p c.s)=l.countP fun c=>c.has && p c.s
 | [],j=>rfl
 | c::l,j=>by
  unfold canL
  have ih:=canL_cnt ns p l (j+1)
  by_cases h:c.has=true
  ·rw [if_pos h,List.countP_cons,List.countP_cons,ih,h]
   rfl
  ·rw [if_neg h,ih,List.countP_cons]
   have:c.has=false:=by simpa using h
   rw [this]
   rfl
theorem canL_mem (ns:Int) (c:Rc):∀ (l:List Ce) (j:Nat),c∈canL ns j l↔c.ns=ns∧∃ i:Nat,c.lba=(j:Int)+i∧l[i]? = some ⟨true,c.s⟩
 | [],j=>⟨fun h=>(List.not_mem_nil h).elim,fun ⟨_,i,_,h⟩=>by simp at h⟩
 | d::l,j=>by
  have ih:=canL_mem ns c l (j+1)
  unfold canL
  have tl:(∃ i:Nat,c.lba=((j+1:Nat):Int)+i∧l[i]? = some ⟨true,c.s⟩)→∃ i:Nat,c.lba=(j:Int)+i∧(d::l)[i]? = some ⟨true,c.s⟩:=fun ⟨i,h1,h2⟩=>⟨i+1,by push_cast at h1⊢;omega,by rw [List.getElem?_cons_succ];exact h2⟩
  have back:∀ i:Nat,c.lba=(j:Int)+i→(d::l)[i]? = some ⟨true,c.s⟩→(i=0∧d=⟨true,c.s⟩)∨∃ i:Nat,c.lba=((j+1:Nat):Int)+i∧l[i]? = some ⟨true,c.s⟩:=fun i h1 h2=>by
   cases i with
   | zero=>exact .inl ⟨rfl,by simpa using h2⟩
   | succ i=>exact .inr ⟨i,by push_cast at h1⊢;omega,by rw [List.getElem?_cons_succ] at h2;exact h2⟩
  by_cases h:d.has=true
  ·rw [if_pos h,List.mem_cons,ih]
   constructor
   ·rintro (e | ⟨e,h2⟩)
    ·subst e
     exact ⟨rfl,0,by simp,by obtain ⟨a,b⟩:=d;cases h;rfl⟩
    ·exact ⟨e,tl h2⟩
   ·rintro ⟨e,i,h1,h2⟩
    rcases back i h1 h2 with ⟨h3,h4⟩ | h3
    ·subst h3
     refine .inl ?_
     obtain ⟨a,b,s⟩:=c
     rw [h4]
     simp at h1 e ⊢
     exact ⟨e,h1⟩
    ·exact .inr ⟨e,h3⟩
  ·rw [if_neg h,ih]
   refine and_congr_right fun e=>⟨tl,fun ⟨i,h1,h2⟩=>?_⟩
   rcases back i h1 h2 with ⟨h3,h4⟩ | h3
   ·rw [h4] at h;exact absurd rfl h
   ·exact h3
theorem canL_ge (ns:Int):∀ (l:List Ce) (j:Nat),∀ c∈canL ns j l,c.ns=ns∧(j:Int)≤c.lba:=fun l j c hc=>by
 obtain ⟨h1,i,h2,-⟩:=(canL_mem ns c l j).1 hc
 exact ⟨h1,by omega⟩
theorem canL_nd (ns:Int):∀ (l:List Ce) (j:Nat),(canL ns j l).Pairwise fun a b=>a≠b
 | [],j=>.nil
 | c::l,j=>by
  have ih:=canL_nd ns l (j+1)
  unfold canL
  split
  ·refine List.pairwise_cons.2 ⟨fun d hd e=>?_,ih⟩
   have:=(canL_ge ns l (j+1) d hd).2
   rw [←e] at this
   push_cast at this
   have:((j:Int)+1)≤(j:Int):=this
   omega
  ·exact ih
def canX (X:List (SlP Ce)):List Rc:=canL 0 0 (getX X 0).l++(canL 1 0 (getX X 1).l++(canL 2 0 (getX X 2).l++canL 3 0 (getX X 3).l))
theorem flatX_four {X:List (SlP Ce)} (hX:X.length=4):flatX X=(getX X 0).l++((getX X 1).l++((getX X 2).l++(getX X 3).l)):=by
 match X,hX with
 | [a,b,c,d],_=>simp [flatX,getX]
theorem canX_cnt {X:List (SlP Ce)} (hX:X.length=4) (p:Sp→Bool):(canX X).countP (fun c=>p c.s)=(flatX X).countP fun c=>c.has && p c.s:=by
 rw [flatX_four hX]
 unfold canX
 simp only [List.countP_append,canL_cnt]
theorem canX_mem {X:List (SlP Ce)} (c:Rc):c∈canX X↔(0≤c.ns∧c.ns<4)∧0≤c.lba∧(getX X c.ns).l[c.lba.toNat]? = some ⟨true,c.s⟩:=by
 unfold canX
 simp only [List.mem_append,canL_mem]
 constructor
 ·rintro (⟨e,i,h1,h2⟩ | ⟨e,i,h1,h2⟩ | ⟨e,i,h1,h2⟩ | ⟨e,i,h1,h2⟩) <;>
  ·rw [e]
   refine ⟨by omega,by omega,?_⟩
   rw [show c.lba.toNat=i by omega]
   exact h2
 ·rintro ⟨h1,h2,h3⟩
  have hl:c.lba=((0:Nat):Int)+(c.lba.toNat:Nat):=by omega
  have:c.ns=0∨c.ns=1∨c.ns=2∨c.ns=3:=by omega
  rcases this with e | e | e | e <;> rw [e] at h3
  ·exact .inl ⟨e,_,hl,h3⟩
  ·exact .inr (.inl ⟨e,_,hl,h3⟩)
  ·exact .inr (.inr (.inl ⟨e,_,hl,h3⟩))
  ·exact .inr (.inr (.inr ⟨e,_,hl,h3⟩))
theorem canX_nd (X:List (SlP Ce)):(canX X).Nodup:=by
 unfold canX
 have dis:∀ {a b:Int} {l m:List Ce},a≠b→∀ x∈canL a 0 l,∀ y∈canL b 0 m,x≠y:=fun h x hx y hy e=>by
  have h1:=(canL_ge _ _ _ x hx).1
  have h2:=(canL_ge _ _ _ y hy).1
  rw [e] at h1
  exact h (h1.symm.trans h2)
 have d2:∀ {a b c:Int} {l m n:List Ce},a≠b→a≠c→∀ x∈canL a 0 l,∀ y∈canL b 0 m++canL c 0 n,x≠y:=fun h1 h2 x hx y hy=>(List.mem_append.1 hy).elim (dis h1 x hx y) (dis h2 x hx y)
 refine List.nodup_append.2 ⟨canL_nd _ _ _,List.nodup_append.2 ⟨canL_nd _ _ _,List.nodup_append.2 ⟨canL_nd _ _ _,canL_nd _ _ _,dis (by decide)⟩,d2 (by decide) (by decide)⟩,fun x hx y hy=>(List.mem_append.1 hy).elim (dis (by decide) x hx y) (d2 (by decide) (by decide) x hx y)⟩
section
variable {X:List (SlP Ce)} {z:Sz} {L:List Rc}
theorem RelX.perm (h:RelX X z L):L.Perm (canX X):=by
 have hn:L.Nodup:=(List.pairwise_map.1 h.nd).imp fun {a b} h e=>h (by rw [e])
 exact (List.perm_ext_iff_of_nodup hn (canX_nd X)).2 fun c=>(h.mem c).trans (canX_mem c).symm
theorem RelX.cnt (h:RelX X z L) (k:Int×Int):(cntR L k:Int)=cntX X k:=by
 unfold cntR cntX cntC
 rw [h.perm.countP_eq,canX_cnt h.ok.four (fun s=>decide ((s.b,s.p)=k))]
 rfl
def movC (f t:Int×Int) (o:Hh) (c:Ce):Ce:=if c.has=true∧c.pl=f then ⟨true,⟨t.1,t.2,c.s.h,o⟩⟩ else c
def movX (f t:Int×Int) (o:Hh) (X:List (SlP Ce)):List (SlP Ce):=X.map fun x=>⟨x.a,x.n,x.c,x.l.map (movC f t o)⟩
theorem getX_mov (f t:Int×Int) (o:Hh) (ns:Int) (hX:X.length=4):getX (movX f t o X) ns=⟨(getX X ns).a,(getX X ns).n,(getX X ns).c,(getX X ns).l.map (movC f t o)⟩:=by
 by_cases hn:0≤ns∧ns<4
 ·have h1:=getX_at (X:=movX f t o X) (by unfold movX;rw [List.length_map];exact hX) hn
  unfold movX at h1
  rw [List.getElem?_map,getX_at hX hn] at h1
  exact (Option.some.inj h1).symm
 ·unfold getX
  rw [if_neg hn,if_neg hn]
  rfl
theorem movX_ok {f t:Int×Int} {o:Hh} (h:XOk X):XOk (movX f t o X):=⟨by unfold movX;rw [List.length_map];exact h.four,fun x hx=>by
 obtain ⟨y,hy,rfl⟩:=List.mem_map.1 hx
 have:=h.len y hy
 exact ⟨by show (y.l.map _).length=_;rw [List.length_map];exact this.1,this.2⟩⟩
theorem cntC_mov (f t:Int×Int) (o:Hh) (k:Int×Int):∀ l:List Ce,(cntC (l.map (movC f t o)) k:Int)=cntC l k-(if k=f then (cntC l f:Int) else 0)+(if k=t then (cntC l f:Int) else 0)
 | []=>by simp [cntC]
 | c::l=>by
  have ih:=cntC_mov f t o k l
  unfold cntC at ih ⊢
  rw [List.map_cons,List.countP_cons,List.countP_cons,List.countP_cons]
  have h1:isP k (movC f t o c)=if isP f c=true then decide (t=k) else isP k c:=by
   unfold movC isP
   by_cases hh:c.has=true
   ·by_cases hp:c.pl=f
    ·rw [if_pos ⟨hh,hp⟩,if_pos (by simp [hh,hp])];rfl
    ·rw [if_neg (fun e=>hp e.2),if_neg (by simp [hp])]
   ·rw [if_neg (fun e=>hh e.1),if_neg (by simp [hh])]
  have h2:isP f c=true→(isP k c=true↔k=f):=fun h=>by
   unfold isP at h ⊢
   rw [Bool.and_eq_true,decide_eq_true_iff] at h
   rw [h.1,h.2]
   simp
   exact eq_comm
  rw [h1]
  by_cases hf:isP f c=true
  ·rw [if_pos hf,if_pos hf]
   by_cases hk:k=f
   ·rw [if_pos ((h2 hf).2 hk)]
    rw [if_pos hk] at ih ⊢
    by_cases ht:k=t
    ·rw [if_pos ht] at ih ⊢
     rw [if_pos (by simpa using ht.symm)]
     push_cast
     omega
    ·rw [if_neg ht] at ih ⊢
     rw [if_neg (by simpa using fun e=>ht e.symm)]
     push_cast
     omega
   ·rw [if_neg (fun e=>hk ((h2 hf).1 e))]
    rw [if_neg hk] at ih ⊢
    by_cases ht:k=t
    ·rw [if_pos ht] at ih ⊢
     rw [if_pos (by simpa using ht.symm)]
     push_cast
     omega
    ·rw [if_neg ht] at ih ⊢
     rw [if_neg (by simpa using fun e=>ht e.symm)]
     push_cast
     omega
  ·rw [if_neg hf,if_neg hf]
   by_cases hk:k=f
   ·rw [if_pos hk] at ih ⊢
    by_cases ht:k=t
    ·rw [if_pos ht] at ih ⊢
     push_cast
     omega
    ·rw [if_neg ht] at ih ⊢
     push_cast
     omega
   ·rw [if_neg hk] at ih ⊢
    by_cases ht:k=t
    ·rw [if_pos ht] at ih ⊢
     push_cast
     omega
    ·rw [if_neg ht] at ih ⊢
     push_cast
     omega
theorem cntX_mov (f t:Int×Int) (o:Hh) (k:Int×Int):cntX (movX f t o X) k=cntX X k-(if k=f then cntX X f else 0)+(if k=t then cntX X f else 0):=by
 unfold cntX
 have:flatX (movX f t o X)=(flatX X).map (movC f t o):=by
  unfold flatX movX
  rw [List.flatMap_map,List.map_flatMap]
 rw [this]
 exact cntC_mov f t o k _
end
end Go.Proofs.YtbaojfchlhlaeaaGreat.Vc
namespace Go.Proofs.YtbaojfchlhlaeaaGreat.Vc
open Go Go.Eng Go.RowKit
structure SD where
 C:CD
 L:List Blk
 O:List Hd
 X:List (SlP Ce)
 fr:List Int
 ep:Int
 op:Int
 ct:Int
 ro:Bool
def Hd.hh (h:Hd):Hh:=⟨h.k,h.n,h.c,h.l,h.e,h.t⟩
abbrev u64w (z:Int):Int:=IntKind.u64.wrap z
def inP (X:List (SlP Ce)) (bl:Int):List (Int×Int):=((List.range 32).map fun i:Nat=>(bl,(i:Int))).filter fun k=>decide (1≤cntX X k)
def gonP (X Y:List (SlP Ce)):List (Int×Int):=((List.range 64).flatMap fun b:Nat=>(List.range 32).map fun i:Nat=>((b:Int),(i:Int))).filter fun k=>decide (1≤cntX X k∧cntX Y k=0)
def bads (L:List Blk):Int:=manyT L (fun x=>x.ba) L.length
def overP (s:SD):SD×Int:=
 if s.C.g.sp<bads s.L then ({s with ro:=true},15) else (s,if s.ro=true then 15 else 0)
def chS (s:SD) (b:Int) (φ:Blk→Blk):SD:={s with L:=chL b s.L.length φ s.L}
def frG (s:SD) (ns:Int):Int:=s.fr.getD ns.toNat 0
def frS (s:SD) (ns v:Int):SD:={s with fr:=s.fr.set ns.toNat v}
def roS (s:SD) (e:Int):SD:=if e=19 then {s with ro:=true} else s
def leftP (s:SD) (e:Int):SD×Int:=
 if e=4 then (s,4) else if (overP (roS s e)).2≠0 then overP (roS s e) else ((overP (roS s e)).1,e)
def closP (s:SD) (ns:Int):SD:=if 0≤frG s ns∧(gx s.L (frG s ns).toNat).li=0 then chS (frS s ns (-1)) (frG s ns) rB else frS s ns (-1)
def opnS (ns:Int) (sl:Bool) (s:SD):SD×Int×Int:=
 let r:=opC ns ⟨0,0,0,0,s.ep,u64w (s.op+1)⟩ sl s.C s.L s.O
 ({s with op:=u64w (s.op+1),C:=r.1.1,L:=r.1.2.1,O:=r.1.2.2},r.2.1,r.2.2)
def dstS (s:SD) (b:Int):SD×Int:=
 if 0≤b∧b<(s.L.length:Int) then ((overP {s with C:=(dstP s.C s.L b).1,L:=(dstP s.C s.L b).2.1}).1,(dstP s.C s.L b).2.2) else (s,2)
def cpyS (s:SD) (to pa:Int) (k:Int×Int):SD×Int:=
 let r:=cpyC s.L.length s.C to pa k.1 k.2
 ({s with L:=chL to s.L.length uB s.L,C:=r.1},r.2)
def copP (to:Int):List (Int×Int)→Int→SD→SD×Int
 | [],_,s=>({s with C:=(slC s.L.length s.C to).1},(slC s.L.length s.C to).2)
 | k::l,i,s=>if (cpyS s to i k).2≠0 then cpyS s to i k else copP to l (i+1) (cpyS s to i k).1
def mov1 (f t:Int×Int) (o:Hh) (X:List (SlP Ce)):List (SlP Ce):=if f≠t∧0<cntX X t then X else movX f t o X
def movL (to:Int) (o:Hh):List (Int×Int)→Int→List (SlP Ce)→List (SlP Ce)
 | [],_,X=>X
 | k::l,i,X=>movL to o l (i+1) (mov1 k (4+to,i) o X)
def ordO (O:List Hd) (b:Int):Hd:=if 0≤b∧b<(O.length:Int) then O.getD b.toNat zHd else zHd
def movP (s:SD) (b to ns:Int) (l:List (Int×Int)):SD:=
 let s3:=chS (chS {s with X:=movL to (ordO s.O to).hh l 1 s.X} to (cB (l.length:Int))) b rB
 if frG s3 ns<0 then frS s3 ns to else s3
def spoP (s:SD) (b:Int):SD×Int:=
 if (dstS (chS (chS s b fB) b rB) b).2=4 then ((dstS (chS (chS s b fB) b rB) b).1,4) else overP (dstS (chS (chS s b fB) b rB) b).1
def empL (b ns:Int) (l:List (Int×Int)):Nat→SD→SD×Int
 | 0,s=>(s,19)
 | k+1,s=>
  let r:=opnS ns false s
  let f:=leftP r.1 r.2.2
  if f.2≠0 then (if r.2.2=0 then chS f.1 r.2.1 rB else f.1,f.2) else
  let c:=copP r.2.1 l 1 f.1
  if c.2=0 then (movP c.1 b r.2.1 ns l,0) else
  if c.2=5 then (if (spoP c.1 r.2.1).2≠0 then spoP c.1 r.2.1 else empL b ns l k (spoP c.1 r.2.1).1) else c
def empP (s:SD) (b ns:Int):SD×Int:=
 let s0:=if frG s ns=b then frS s ns (-1) else s
 if inP s.X (4+b)=[] then (chS s0 b rB,0) else empL b ns (inP s.X (4+b)) 256 s0
def quoS (s:SD) (ns:Int):Int:=quo s.C.g ((getX s.X ns).n:Int)
def heldS (s:SD) (ns:Int):Int:=manyT s.L (ownB ns) s.L.length
def roomP (s:SD) (ns:Int):SD×Int:=
 if quoS s ns-1≤heldS (closP s ns) ns then empP (closP s ns) (victT (closP s ns).L ns (-1) s.L.length) ns else
 let r:=opnS ns true (closP s ns)
 leftP (if r.2.2=0 then frS r.1 ns r.2.1 else r.1) r.2.2
def fulP (s:SD) (ns:Int):Prop:=frG s ns<0∨s.C.g.p-1≤(gx s.L (frG s ns).toNat).us
instance (s:SD) (ns:Int):Decidable (fulP s ns):=by unfold fulP;infer_instance
def faiP (s:SD) (ns:Int):SD×Int:=
 let b:=frG s ns
 let o:=overP (chS (frS s ns (-1)) b fB)
 if o.2≠0 then o else
 let e:=empP o.1 b ns
 if e.2≠0 then e else
 let d:=dstS e.1 b
 if d.2=4 then (d.1,4) else overP d.1
def wrtT (n:Nat) (C:CD) (b pa:Int) (h:Hd) (xs tg:List Int):CD×Int:=if 0≤b∧b<(n:Int) then (if HRight h then prgP C (4+b) pa (mkL C.g h xs tg) else (C,2)) else (C,2)
def wr1 (s:SD) (ns:Int) (h:Hd) (xs tg:List Int):SD×Int:=
 let b:=frG s ns
 let s1:=chS s b uB
 let r:=wrtT s.L.length s1.C b (gx s1.L b.toNat).us h xs tg
 ({s1 with C:=r.1},r.2)
def plc (s:SD) (ns:Int):Int×Int:=(4+frG s ns,(gx s.L (frG s ns).toNat).us+1)
def wrP (ns:Int) (h:Hd) (xs tg:List Int):Nat→SD→SD×(Int×Int)×Int
 | 0,s=>(s,(0,0),19)
 | k+1,s=>
  if fulP s ns then (if (roomP s ns).2≠0 then ((roomP s ns).1,(0,0),(roomP s ns).2) else wrP ns h xs tg k (roomP s ns).1) else
  let r:=wr1 s ns h xs tg
  if r.2=0 then (r.1,plc s ns,0) else
  if r.2=5 then (if (faiP r.1 ns).2≠0 then ((faiP r.1 ns).1,(0,0),(faiP r.1 ns).2) else wrP ns h xs tg k (faiP r.1 ns).1) else (r.1,(0,0),r.2)
def ded1 (s:SD) (k:Int×Int):SD:=
 let b:=k.1-4
 let s1:=chS s b (cB (-1))
 let x:=gx s1.L b.toNat
 if x.li=0∧x.he=true∧b∉s.fr then chS s1 b rB else s1
def dedP (l:List (Int×Int)) (s:SD):SD:=l.foldl ded1 s
def mayP (s:SD) (h:Hd):Prop:=(h.k=1∨h.k=2)∧1≤h.c∧h.c≤((getX s.X h.n).n:Int)∧h.l≤((getX s.X h.n).n:Int)-h.c
instance (s:SD) (h:Hd):Decidable (mayP s h):=by unfold mayP;infer_instance
def sptS (s:SD) (h:Hd) (at_:Int×Int):Sp:=⟨at_.1,at_.2,h.hh,(ordO s.O (at_.1-4)).hh⟩
def lndX (s:SD) (h:Hd) (at_:Int×Int):List (SlP Ce):=(putP (sptS s h at_) s.X h.c.toNat).1
def lnd1 (s:SD) (h:Hd) (at_:Int×Int):SD:=if 0<cntX (lndX s h at_) at_ then chS {s with X:=lndX s h at_} (at_.1-4) (cB 1) else {s with X:=lndX s h at_}
def lndP (s:SD) (h:Hd) (at_:Int×Int):SD:=dedP (gonP s.X (lndX s h at_)) (lnd1 s h at_)
def putS (s:SD) (h:Hd) (xs tg:List Int):SD×Int:=
 if ¬ mayP s h then (s,2) else if s.ro=true then (s,15) else
 let r:=wrP h.n h xs tg 256 s
 if r.2.2≠0 then (r.1,r.2.2) else (lndP r.1 h r.2.1,0)
def nxtS (s:SD) (h:Hd):SD×Hd:=({s with ct:=u64w (s.ct+1)},⟨h.k,h.n,h.c,h.l,s.ep,u64w (s.ct+1)⟩)
def emtS (s:SD) (b:Int):SD×Int:=
 if ¬ (0≤b∧b<(s.L.length:Int)) then (s,2) else
 let x:=gx s.L b.toNat
 if x.he=false∨x.ow<0∨4≤x.ow then (s,0) else
 if 0<x.li∧s.ro=true then (s,15) else empP s b x.ow
end Go.Proofs.YtbaojfchlhlaeaaGreat.Vc
namespace Go.Proofs.YtbaojfchlhlaeaaGreat.Vc
open Go Go.Eng Go.RowKit
abbrev ownsA (X:List (SlP Ce)):Asr:=StarA (X.map ownC)
abbrev boxP (p r:Nat) (X:List (SlP Ce)):Asr:=BoxA p 186 (X.map slM++[.map (some r)])
section
variable {E:Nat→Prop} {w0 w:World} {p r:Nat} {X:List (SlP Ce)} {m:Int×Int→Int} {Rs:List Asr}
theorem toQ (S:Sep E w0 w [boxP p r X,MapF r m,ownsA X]):Sep E w0 w (PmQ p r X m []):=by
 have h:=(((S.sel [2,0,0] rfl).unfold (Rs:=X.map ownC) (Ts:=[boxP p r X,MapF r m])).perm List.perm_append_comm)
 show Sep E w0 w (_::_::(X.map ownC++[]))
 rw [List.append_nil]
 exact h
theorem fromQ (S:Sep E w0 w (PmQ p r X m [])):Sep E w0 w [boxP p r X,MapF r m,ownsA X]:=by
 have S:Sep E w0 w ([boxP p r X,MapF r m]++X.map ownC):=by
  have S:Sep E w0 w (_::_::(X.map ownC++[])):=S
  rw [List.append_nil] at S
  exact S
 exact ((S.perm List.perm_append_comm).fold (Rs:=X.map ownC)).sel [1,1,0] rfl
theorem owns_nth (hX:X.length=4) {ns:Int} (hn:0≤ns∧ns<4):(X.map ownC)[ns.toNat]? = some (ownC (getX X ns)):=by
 rw [List.getElem?_map,getX_at hX hn];rfl
theorem cellR (hX:X.length=4) {ns:Int} (hn:0≤ns∧ns<4) (i:Nat) (S:Sep E w0 w Rs) (hi:Rs[i]? = some (ownsA X)) {j:Int} (h0:0≤j) (h1:j<((getX X ns).n:Int)) :
  ∃ q x,(getX X ns).a=some q∧(getX X ns).l[j.toNat]? = some x∧CellsAt w (q.add (j.toNat*15)) x.vs∧q.block<w.heap.size:=by
 have S:=(S.perm (perm_front hi)).unfold (Rs:=X.map ownC)
 have hi2:(X.map ownC++Rs.eraseIdx i)[ns.toNat]? = some (ownC (getX X ns)):=by
  have:=owns_nth hX hn
  rw [List.getElem?_append_left (List.getElem?_eq_some_iff.1 this).1,this]
 obtain ⟨q,x,hq,hx,hc⟩:=S.nthF (f:=Ce.vs) (m:=15) ns.toNat hi2 Ce_len (by decide) h0 h1
 exact ⟨q,x,hq,hx,hc,(S.own ns.toNat hi2).lt q hq⟩
theorem cellW (hX:X.length=4) {ns:Int} (hn:0≤ns∧ns<4) (i:Nat) (S:Sep E w0 w Rs) (hi:Rs[i]? = some (ownsA X)) {q:Addr} (hq:(getX X ns).a=some q) {j:Nat} (hj:j<(getX X ns).n) (c:Ce) {K:World→Prop}
  (hk:∀ w',Sep E w0 w' (Rs.set i (ownsA (setX X ns j c)))→Fr (fun k=>k=q.block) w w'→K w'):StoreV w (q.add (j*15)) c.vs K:=by
 have S1:=(S.perm (perm_front hi)).unfold (Rs:=X.map ownC)
 have h4:=owns_nth hX hn
 have S2:Sep E w0 w (ownC (getX X ns)::((X.map ownC).eraseIdx ns.toNat++Rs.eraseIdx i)):=S1.perm ((perm_front h4).append_right (Rs.eraseIdx i))
 obtain ⟨q2,hq2,h⟩:=S2.putF (f:=Ce.vs) (m:=15) Ce_len Ce_one (by decide) (j:=(j:Int)) ⟨by omega,by omega⟩ c (K:=K) fun w' S3 f3=>hk w' (by
  rw [Int.toNat_natCast] at S3
  have S4:Sep E w0 w' ((X.map ownC).set ns.toNat (ownC ⟨(getX X ns).a,(getX X ns).n,(getX X ns).c,(getX X ns).l.set j c⟩)++Rs.eraseIdx i):=S3.perm (((perm_set h4).append_right (Rs.eraseIdx i)))
  rw [←List.map_set (f:=ownC)] at S4
  exact (S4.fold (Rs:=(setX X ns j c).map ownC)).perm (perm_set hi)) (f3.mono fun k ⟨q3,hq3,hk⟩=>by rw [hq] at hq3;cases hq3;exact hk)
 rw [hq] at hq2
 cases hq2
 rw [Int.toNat_natCast] at h
 exact h
theorem ld4P (hX:X.length=4) (i:Nat) (S:Sep E w0 w Rs) (hi:Rs[i]? = some (boxP p r X)) {K:Option Nat→Prop} (hk:K (some r)):LoadS w ((⟨p,0,none⟩:Addr).add 4) .map K:=by
 rw [show (⟨p,0,none⟩:Addr).add 4=⟨p,4,none⟩ by simp [Addr.add_lit]]
 refine S.ld i hi (j:=4) (h:=.map) (some r) ?_ hk
 rw [List.getElem?_append_right (by rw [List.length_map,hX];omega),List.length_map,hX]
 rfl
theorem bv4 (hX:X.length=4):(X.map slM++[Value.map (some r)])[4]? = some (.map (some r)):=by
 rw [List.getElem?_append_right (by rw [List.length_map,hX];omega),List.length_map,hX]
 rfl
def Told (T:List (Int×Int)→List (Int×Int)→Prop) (L:List (Int×Int)):Prop:=∀ {E:Nat→Prop} {w0 w:World} {Rs:List Asr} {a:Option Addr} {n c:Nat},Sep E w0 w (outA a n c L::Rs) →
 CallV Tryz.prog 160 #[.slice a n c] w [.one .sl] fun rr w'=>∃ L',T L L'∧rr.1=(⟨a,n,c⟩:SlV)∧Sep E w0 w' (outA a n c L'::Rs)
theorem Told.nil {T:List (Int×Int)→List (Int×Int)→Prop} (hT:T [] []):Told T []:=fun {E w0 w Rs a n c} S=>by
 have hl:=(S.own 0 rfl).len
 have hn:n=0:=by simp at hl;omega
 subst hn
 refine told0_c.mono ?_
 rintro ⟨_,⟨⟩⟩ w1 ⟨h1,rfl⟩
 exact ⟨[],hT,h1,S⟩
theorem Put22_c {s:Sp} {T:List (Int×Int)→List (Int×Int)→Prop} (hl:0≤s.h.l∧s.h.l<4294967296) (hX:XOk X) (hT:okT X s→Told T (putP s X s.h.c.toNat).2) (S:Sep E w0 w [boxP p r X,MapF r (cntX X),ownsA X]) :
  CallV Tryz.prog 118 #[.pointer (some ⟨p,0,none⟩),s.val] w [.one .sl,.one (.int .i64)] fun rr w'=>(¬ okT X s→rr.1=(⟨none,0,0⟩:SlV)∧rr.2.1=(2:Int)∧Sep E w0 w' [boxP p r X,MapF r (cntX X),ownsA X]) ∧
   (okT X s→rr.2.1=(0:Int)∧∃ (L':List (Int×Int)),T (putP s X s.h.c.toNat).2 L'∧Sep E w0 w' [outA rr.1.a rr.1.n rr.1.c L',boxP p r (putP s X s.h.c.toNat).1,MapF r (cntX (putP s X s.h.c.toNat).1),ownsA (putP s X s.h.c.toNat).1]):=by
 apply pagemap_Map_Put.vc
 unfold pagemap_Map_Put.P
 refine S.newB fun b1 w1 S f1 _=>?_
 refine S.la0 rfl ?_
 refine (speaks22_c (s:=s) hl hX.four (by have:=(hX.get s.h.n).2;omega) (toQ (S.sel [1,1,1] rfl))).mono ?_
 rintro ⟨⟨ra,rn,rc⟩,⟨⟩⟩ w2 ⟨x2,h2,h2'⟩
 dsimp only at h2 h2' ⊢
 have S:=S.stepE x2
 by_cases hok:okT X s
 case neg=>
  have h:=h2' hok
  cases h
  exact cond_t rfl ⟨fun _=>⟨rfl,rfl,S.tail⟩,fun h=>absurd h hok⟩
 have h:=h2 hok
 cases h
 clear h2 h2'
 obtain ⟨hkd,hc1,hc2,hc3⟩:=hok
 have hns:0≤s.h.n∧s.h.n<4:=by
  refine Classical.byContradiction fun h=>?_
  have:(getX X s.h.n).n=0:=by unfold getX;rw [if_neg h];rfl
  omega
 have hgn:=(hX.get s.h.n).2
 refine cond_eq (fun h=>?_) (fun _=>?_)
 ·exfalso
  have h:((s.h.c.toNat:Nat):Int)=0:=h
  omega
 have S:=S.nilOwn 81 2
 obtain ⟨q0,hq0⟩:∃ q0,(getX X s.h.n).a=some q0:=by
  obtain ⟨q,_,hq,_⟩:=cellR hX.four hns 4 S rfl (j:=0) (by omega) (by omega)
  exact ⟨q,hq⟩
 have hput:∀ i:Nat,XOk (putP s X i).1∧(putP s X i).1.map slM=X.map slM:=by
  intro i
  induction i with
  | zero=>exact ⟨hX,rfl⟩
  | succ i ih=>exact ⟨stepP_ok ih.1,(stepP_sl ih.1 hns).trans ih.2⟩
 have hsl:∀ i:Nat,(getX (putP s X i).1 s.h.n).a=(getX X s.h.n).a∧(getX (putP s X i).1 s.h.n).n=(getX X s.h.n).n∧(getX (putP s X i).1 s.h.n).c=(getX X s.h.n).c:=by
  intro i
  have h1:((putP s X i).1.map slM)[s.h.n.toNat]? = (X.map slM)[s.h.n.toNat]?:=by rw [(hput i).2]
  rw [List.getElem?_map,List.getElem?_map,getX_at (hput i).1.four hns,getX_at hX.four hns] at h1
  have h2:=Option.some.inj h1
  unfold slM at h2
  injection h2 with e1 e2 e3
  exact ⟨e1,e2,e3⟩
 refine Loop1 (fun (v:SlV×Int×Unit) w'=>∃ i:Nat,v.2.1=(i:Int)∧(i:Int)≤s.h.c∧v.1.n≤i∧Sep E w0 w' [outA v.1.a v.1.n v.1.c (putP s X i).2,BoxA b1 83 s.vs,boxP p r (putP s X i).1,MapF r (cntX (putP s X i).1),ownsA (putP s X i).1])
  (fun (v:SlV×Int×Unit) _=>(s.h.c-v.2.1).toNat) ⟨0,rfl,by omega,Nat.le_refl _,S⟩ ?_
 clear S
 rintro ⟨⟨oa,on,oc⟩,(v:Int),⟨⟩⟩ w3 ⟨i,hv,hi,hon,S⟩
 dsimp only at hv hon S ⊢
 subst hv
 have hcn:((s.h.c.toNat:Nat):Int)=s.h.c:=by omega
 refine cond_d (fun hlt=>?_) (fun hge=>?_)
 case refine_2=>
  have hie:i=s.h.c.toNat:=by omega
  subst hie
  refine (hT ⟨hkd,hc1,hc2,hc3⟩ S).mono ?_
  rintro ⟨_,⟨⟩⟩ w4 ⟨L',hL',hr,S⟩
  dsimp only at hr
  subst hr
  exact ⟨fun h=>absurd ⟨hkd,hc1,hc2,hc3⟩ h,fun _=>⟨rfl,L',hL',S.sel [0,1,1,1] rfl⟩⟩
 obtain ⟨hXi,hbx⟩:=hput i
 obtain ⟨g1,g2,g3⟩:=hsl i
 generalize hXX:(putP s X i).1=Y at S hXi hbx g1 g2 g3
 generalize hLL:(putP s X i).2=L at S
 have hst:putP s X (i+1)=stepP s (s.h.l.toNat+i) (Y,L):=by
  show stepP _ _ (putP s X i)=_
  rw [←hXX,← hLL]
 have hj:0≤s.h.l+(i:Int)∧s.h.l+(i:Int)<((getX Y s.h.n).n:Int):=by omega
 have hjn:(s.h.l+(i:Int)).toNat=s.h.l.toNat+i:=by omega
 obtain ⟨q,x,hq,hx,hcx,hqb⟩:=cellR hXi.four hns 4 S rfl hj.1 hj.2
 rw [g1,hq0] at hq
 cases hq
 rw [hjn] at hx hcx
 have hadd:(q0.add (s.h.l.toNat*15)).add (((i:Int)).toNat*15)=q0.add ((s.h.l.toNat+i)*15):=by rw [add_add,Int.toNat_natCast,Nat.add_mul]
 have bnd:0≤(i:Int)∧(i:Int)<((s.h.c.toNat:Nat):Int):=by omega
 refine ⟨bnd,q0.add (s.h.l.toNat*15),by rw [hq0];rfl,x.tup,by rw [hadd];exact hcx,?_⟩
 refine S.newB fun b11 w4 S f4 _=>?_
 refine S.st0 (by rfl) fun w5 S f5=>?_
 have hgx:(getX Y s.h.n).l.getD (s.h.l.toNat+i) Ce0=x:=by rw [List.getD_eq_getElem?_getD,hx];rfl
 have r1:Rng .i64 ((i:Int)+1):=Rng.i64 (by omega) (by omega)
 have Q:∀ {w':World} {v:SlV×Int×Unit},v.2.1=(i:Int)+1→v.1.n≤i+1→Sep E w0 w' [outA v.1.a v.1.n v.1.c (stepP s (s.h.l.toNat+i) (Y,L)).2,BoxA b1 83 s.vs,boxP p r (stepP s (s.h.l.toNat+i) (Y,L)).1,MapF r (cntX (stepP s (s.h.l.toNat+i) (Y,L)).1),ownsA (stepP s (s.h.l.toNat+i) (Y,L)).1] →
   (∃ j:Nat,v.2.1=(j:Int)∧(j:Int)≤s.h.c∧v.1.n≤j∧Sep E w0 w' [outA v.1.a v.1.n v.1.c (putP s X j).2,BoxA b1 83 s.vs,boxP p r (putP s X j).1,MapF r (cntX (putP s X j).1),ownsA (putP s X j).1])∧(s.h.c-v.2.1).toNat<(s.h.c-(i:Int)).toNat:=fun {w' v} h1 h2 h3=>
  ⟨⟨i+1,by rw [h1];push_cast;rfl,by push_cast;omega,h2,by rw [hst];exact h3⟩,by rw [h1];omega⟩
 /- what is done where the spot is put -/
 have hbd:∀ k,0≤cntX Y k∧cntX Y k≤262140:=cntX_le hXi
 refine S.ld0 (j:=0) rfl rfl (cond_of (fun hh=>?_) (fun hh=>?_))
 ·have hh:x.has=true:=hh
  refine S.la2 rfl (S.lb0 (o:=1) rfl ?_)
  refine (Newer22_c (a:=s) (b:=x.s)).mono ?_
  rintro ⟨(rn2:Bool),⟨⟩⟩ w6 ⟨h6,x6⟩
  dsimp only at h6 ⊢
  subst h6
  have S:=S.stepE x6
  by_cases hnw:nwrH s x.s
  case neg=>
   refine cond_t (by rw [decide_eq_false hnw];rfl) ⟨r1,Q (v:=(⟨oa,on,oc⟩,(i:Int)+1,())) rfl (Nat.le_succ_of_le hon) ?_⟩
   have e:stepP s (s.h.l.toNat+i) (Y,L)=(Y,L):=by unfold stepP;dsimp only;rw [hgx,if_pos ⟨hh,hnw⟩]
   rw [e]
   exact S.sel [1,1,1,1,1] rfl
  refine cond_f (by rw [decide_eq_true hnw];rfl) ?_
  have e:stepP s (s.h.l.toNat+i) (Y,L)=(setX Y s.h.n (s.h.l.toNat+i) ⟨true,s⟩,if x.has=true∧cntX (setX Y s.h.n (s.h.l.toNat+i) ⟨true,s⟩) x.pl=0 then L++[x.pl] else L):=by unfold stepP;dsimp only;rw [hgx,if_neg (fun k=>k.2 hnw)]
  have S:=S.sel [4,0,0,0,0,0] rfl
  refine Sep.regC [_] S fun G D hG T S hDt hDo hkeep back=>?_
  have hGr:G r:=by
   obtain ⟨F,⟨h1,l,cc,h2,-⟩,h3⟩:=T.get (i:=0) rfl
   exact (h3 r h1).1.resolve_right (fun h=>by have:=(Array.getElem?_eq_some_iff.1 h2).1;omega)
  have hk2:=fun w' (f:Fr (fun k=>k=r) _ w')=>hkeep w' (f.mono fun k hk=>by subst hk;exact hGr)
  have rv:Rng .i64 (cntX Y (s.b,s.p)+1):=Rng.i64 (by have:=hbd (s.b,s.p);omega) (by have:=hbd (s.b,s.p);omega)
  refine ⟨by rw [add_block];exact hDt 3 _ _ _ rfl,ld4P hXi.four 4 S rfl ⟨hDt 2 _ _ _ rfl,S.lb3 (o:=0) rfl ⟨?_,?_⟩⟩⟩
  ·refine T.incA (k:=(s.b,s.p)) (fun x=>x+1) 0 rfl hk2 rv fun w7 T f7=>?_
   have S:=back _ _ T
   dsimp only [List.set_cons_zero,List.cons_append,List.nil_append] at S
   refine S.la3 rfl ⟨bnd,q0.add (s.h.l.toNat*15),by rw [hq0];rfl,?_⟩
   rw [hadd]
   refine cellW hXi.four hns 5 S rfl (by rw [g1,hq0]) (j:=s.h.l.toNat+i) (by omega) ⟨true,s⟩ fun w8 S f8=>?_
   dsimp only [List.set_cons_succ,List.set_cons_zero] at S
   have S:=S.sel [4,0,1,0,0,0] rfl
   refine S.la3 rfl ?_
   obtain ⟨hm1,hmm,hL⟩:=put_m hXi hns hx s L
   have hbY:Y.map slM=(setX Y s.h.n (s.h.l.toNat+i) ⟨true,s⟩).map slM:=(setX_sl hXi.four hns).symm
   refine Sep.call [_,_,_] (Ts:=[_,_,_]) S (fun G SG=>lose22_c (c:=x) (bv4 hXi.four) hm1 (by omega) SG) fun G fr rr w9 hr=>?_
   obtain ⟨a9,n9,c9,m9,hr1,hn9,hm9,S9⟩:=hr
   have hm9:m9=cntX (setX Y s.h.n (s.h.l.toNat+i) ⟨true,s⟩):=funext fun k=>(hm9 k).trans (hmm k)
   subst hm9
   have S:=fr _ _ S9
   rw [hL] at S
   obtain ⟨rr1,⟨⟩⟩:=rr
   dsimp only at hr1
   subst hr1
   refine ⟨r1,Q (v:=(⟨a9,n9,c9⟩,(i:Int)+1,())) rfl (by dsimp only;omega) ?_⟩
   rw [e]
   show Sep E w0 w9 [_,_,BoxA p _ ((setX Y s.h.n (s.h.l.toNat+i) ⟨true,s⟩).map slM++_),_,_]
   rw [←hbY]
   exact S.sel [2,3,0,0,1] rfl
  ·refine T.incB (k:=(s.b,s.p)) (fun x=>x+1) 0 rfl hk2 rv fun w7 T f7=>?_
   have S:=back _ _ T
   dsimp only [List.set_cons_zero,List.cons_append,List.nil_append] at S
   refine S.la3 rfl ⟨bnd,q0.add (s.h.l.toNat*15),by rw [hq0];rfl,?_⟩
   rw [hadd]
   refine cellW hXi.four hns 5 S rfl (by rw [g1,hq0]) (j:=s.h.l.toNat+i) (by omega) ⟨true,s⟩ fun w8 S f8=>?_
   dsimp only [List.set_cons_succ,List.set_cons_zero] at S
   have S:=S.sel [4,0,1,0,0,0] rfl
   refine S.la3 rfl ?_
   obtain ⟨hm1,hmm,hL⟩:=put_m hXi hns hx s L
   have hbY:Y.map slM=(setX Y s.h.n (s.h.l.toNat+i) ⟨true,s⟩).map slM:=(setX_sl hXi.four hns).symm
   refine Sep.call [_,_,_] (Ts:=[_,_,_]) S (fun G SG=>lose22_c (c:=x) (bv4 hXi.four) hm1 (by omega) SG) fun G fr rr w9 hr=>?_
   obtain ⟨a9,n9,c9,m9,hr1,hn9,hm9,S9⟩:=hr
   have hm9:m9=cntX (setX Y s.h.n (s.h.l.toNat+i) ⟨true,s⟩):=funext fun k=>(hm9 k).trans (hmm k)
   subst hm9
   have S:=fr _ _ S9
   rw [hL] at S
   obtain ⟨rr1,⟨⟩⟩:=rr
   dsimp only at hr1
   subst hr1
   refine ⟨r1,Q (v:=(⟨a9,n9,c9⟩,(i:Int)+1,())) rfl (by dsimp only;omega) ?_⟩
   rw [e]
   show Sep E w0 w9 [_,_,BoxA p _ ((setX Y s.h.n (s.h.l.toNat+i) ⟨true,s⟩).map slM++_),_,_]
   rw [←hbY]
   exact S.sel [2,3,0,0,1] rfl
 ·have hh:x.has=false:=hh
  have e:stepP s (s.h.l.toNat+i) (Y,L)=(setX Y s.h.n (s.h.l.toNat+i) ⟨true,s⟩,if x.has=true∧cntX (setX Y s.h.n (s.h.l.toNat+i) ⟨true,s⟩) x.pl=0 then L++[x.pl] else L):=by unfold stepP;dsimp only;rw [hgx,if_neg (fun k=>by rw [hh] at k;cases k.1)]
  have S:=S.sel [4,0,0,0,0,0] rfl
  refine Sep.regC [_] S fun G D hG T S hDt hDo hkeep back=>?_
  have hGr:G r:=by
   obtain ⟨F,⟨h1,l,cc,h2,-⟩,h3⟩:=T.get (i:=0) rfl
   exact (h3 r h1).1.resolve_right (fun h=>by have:=(Array.getElem?_eq_some_iff.1 h2).1;omega)
  have hk2:=fun w' (f:Fr (fun k=>k=r) _ w')=>hkeep w' (f.mono fun k hk=>by subst hk;exact hGr)
  have rv:Rng .i64 (cntX Y (s.b,s.p)+1):=Rng.i64 (by have:=hbd (s.b,s.p);omega) (by have:=hbd (s.b,s.p);omega)
  refine ⟨by rw [add_block];exact hDt 3 _ _ _ rfl,ld4P hXi.four 4 S rfl ⟨hDt 2 _ _ _ rfl,S.lb3 (o:=0) rfl ⟨?_,?_⟩⟩⟩
  ·refine T.incA (k:=(s.b,s.p)) (fun x=>x+1) 0 rfl hk2 rv fun w7 T f7=>?_
   have S:=back _ _ T
   dsimp only [List.set_cons_zero,List.cons_append,List.nil_append] at S
   refine S.la3 rfl ⟨bnd,q0.add (s.h.l.toNat*15),by rw [hq0];rfl,?_⟩
   rw [hadd]
   refine cellW hXi.four hns 5 S rfl (by rw [g1,hq0]) (j:=s.h.l.toNat+i) (by omega) ⟨true,s⟩ fun w8 S f8=>?_
   dsimp only [List.set_cons_succ,List.set_cons_zero] at S
   have S:=S.sel [4,0,1,0,0,0] rfl
   refine S.la3 rfl ?_
   obtain ⟨hm1,hmm,hL⟩:=put_m hXi hns hx s L
   have hbY:Y.map slM=(setX Y s.h.n (s.h.l.toNat+i) ⟨true,s⟩).map slM:=(setX_sl hXi.four hns).symm
   refine Sep.call [_,_,_] (Ts:=[_,_,_]) S (fun G SG=>lose22_c (c:=x) (bv4 hXi.four) hm1 (by omega) SG) fun G fr rr w9 hr=>?_
   obtain ⟨a9,n9,c9,m9,hr1,hn9,hm9,S9⟩:=hr
   have hm9:m9=cntX (setX Y s.h.n (s.h.l.toNat+i) ⟨true,s⟩):=funext fun k=>(hm9 k).trans (hmm k)
   subst hm9
   have S:=fr _ _ S9
   rw [hL] at S
   obtain ⟨rr1,⟨⟩⟩:=rr
   dsimp only at hr1
   subst hr1
   refine ⟨r1,Q (v:=(⟨a9,n9,c9⟩,(i:Int)+1,())) rfl (by dsimp only;omega) ?_⟩
   rw [e]
   show Sep E w0 w9 [_,_,BoxA p _ ((setX Y s.h.n (s.h.l.toNat+i) ⟨true,s⟩).map slM++_),_,_]
   rw [←hbY]
   exact S.sel [2,3,0,0,1] rfl
  ·refine T.incB (k:=(s.b,s.p)) (fun x=>x+1) 0 rfl hk2 rv fun w7 T f7=>?_
   have S:=back _ _ T
   dsimp only [List.set_cons_zero,List.cons_append,List.nil_append] at S
   refine S.la3 rfl ⟨bnd,q0.add (s.h.l.toNat*15),by rw [hq0];rfl,?_⟩
   rw [hadd]
   refine cellW hXi.four hns 5 S rfl (by rw [g1,hq0]) (j:=s.h.l.toNat+i) (by omega) ⟨true,s⟩ fun w8 S f8=>?_
   dsimp only [List.set_cons_succ,List.set_cons_zero] at S
   have S:=S.sel [4,0,1,0,0,0] rfl
   refine S.la3 rfl ?_
   obtain ⟨hm1,hmm,hL⟩:=put_m hXi hns hx s L
   have hbY:Y.map slM=(setX Y s.h.n (s.h.l.toNat+i) ⟨true,s⟩).map slM:=(setX_sl hXi.four hns).symm
   refine Sep.call [_,_,_] (Ts:=[_,_,_]) S (fun G SG=>lose22_c (c:=x) (bv4 hXi.four) hm1 (by omega) SG) fun G fr rr w9 hr=>?_
   obtain ⟨a9,n9,c9,m9,hr1,hn9,hm9,S9⟩:=hr
   have hm9:m9=cntX (setX Y s.h.n (s.h.l.toNat+i) ⟨true,s⟩):=funext fun k=>(hm9 k).trans (hmm k)
   subst hm9
   have S:=fr _ _ S9
   rw [hL] at S
   obtain ⟨rr1,⟨⟩⟩:=rr
   dsimp only at hr1
   subst hr1
   refine ⟨r1,Q (v:=(⟨a9,n9,c9⟩,(i:Int)+1,())) rfl (by dsimp only;omega) ?_⟩
   rw [e]
   show Sep E w0 w9 [_,_,BoxA p _ ((setX Y s.h.n (s.h.l.toNat+i) ⟨true,s⟩).map slM++_),_,_]
   rw [←hbY]
   exact S.sel [2,3,0,0,1] rfl
end
end Go.Proofs.YtbaojfchlhlaeaaGreat.Vc
namespace Go.Eng
open Go Go.RowKit
theorem flat_get {α:Type} {enc:α→List Value} {k:Nat} (hk:∀ x,(enc x).length=k):∀ (l:List α) (i j:Nat),j<k→(l.flatMap enc)[i*k+j]? = (l[i]?).bind fun x=>(enc x)[j]?
 | [],i,j,h=>by simp
 | x::l,0,j,h=>by
  simp only [List.flatMap_cons,Nat.zero_mul,Nat.zero_add,List.getElem?_cons_zero,Option.bind_some]
  exact List.getElem?_append_left (by rw [hk];exact h)
 | x::l,i+1,j,h=>by
  simp only [List.flatMap_cons,List.getElem?_cons_succ]
  rw [List.getElem?_append_right (by rw [hk,Nat.succ_mul];omega),hk,show (i+1)*k+j-k=i*k+j by rw [Nat.succ_mul];omega]
  exact flat_get hk l i j h
theorem flat_len {α:Type} {enc:α→List Value} {k:Nat} (hk:∀ x,(enc x).length=k) (l:List α):(l.flatMap enc).length=l.length*k:=by
 induction l with
 | nil=>simp
 | cons x l ih=>simp only [List.flatMap_cons,List.length_append,hk,ih,List.length_cons,Nat.succ_mul];omega
theorem flatK_list {α:Type} [Inhabited α] {enc:α→List Value} {k:Nat} (hk:∀ x,(enc x).length=k) (d:Array α):(Go.Sort.flatK enc k d).toList=d.toList.flatMap enc:=by
 have hl:(Go.Sort.flatK enc k d).toList.length=(d.toList.flatMap enc).length:=by simp [flat_len hk]
 refine List.ext_getElem? fun t=>?_
 by_cases h:t<d.size*k
 ·have k0:0<k:=by exact Nat.pos_of_ne_zero fun e=>by subst e;simp at h
  have h1:t / k<d.size:=(Nat.div_lt_iff_lt_mul k0).2 h
  have h2:t % k<k:=Nat.mod_lt _ k0
  have e:=Go.Sort.get_flatK enc k d t h
  have e1:=flat_get hk d.toList (t / k) (t % k) h2
  rw [show t / k*k+t % k=t by rw [Nat.mul_comm];exact Nat.div_add_mod t k] at e1
  rw [e1]
  have e2:d.toList[t / k]? = some d[t / k]!:=by simp [h1]
  rw [e2,Option.bind_some]
  have e3:t % k<(enc d[t / k]!).length:=by rw [hk];exact h2
  rw [List.getElem?_eq_getElem e3]
  have h3:t<(Go.Sort.flatK enc k d).size:=by simpa using h
  rw [Array.getElem?_toList,Array.getElem?_eq_getElem h3]
  rw [getElem!_pos _ t h3,getElem!_pos _ (t % k) e3] at e
  rw [e]
 ·rw [List.getElem?_eq_none (by rw [hl,flat_len hk];simpa using h),List.getElem?_eq_none (by rw [flat_len hk];simpa using h)]
theorem sortedIn_pw {α:Type} [Inhabited α] {lt:α→α→Bool} {d:Array α} (h:Go.Sort.SortedIn lt 0 d.size d):d.toList.Pairwise fun x y=>lt y x=false:=by
 rw [List.pairwise_iff_getElem]
 intro i j hi hj hij
 have hj':j<d.size:=by simpa using hj
 have hi':i<d.size:=by omega
 have:=h i j (Nat.zero_le _) hij hj'
 rw [getElem!_pos d i hi',getElem!_pos d j hj'] at this
 simpa using this
section
variable {α:Type} [Inhabited α] {enc:α→List Value} {k:Nat} {w:World} {b:Nat} {e:TypeId} {n c:Nat}
theorem Own.holdsK (hk:∀ x,(enc x).length=k) {d:Array α} (h:Own w 0 e k (some ⟨b,0,none⟩) n c (d.toList.flatMap enc)):Go.Sort.HoldsK enc k w b 0 d:=by
 intro j hj
 rcases h.at_ with ⟨h1,_,_⟩ | ⟨b',cs,h1,_,h2,h3,h4⟩
 ·cases h1
 cases h1
 rw [Go.Sort.size_flatK] at hj
 have hl:j<(d.toList.flatMap enc).length:=by rw [flat_len hk];simpa using hj
 have e1:cs.toList[j]? = (Go.Sort.flatK enc k d).toList[j]?:=by
  rw [flatK_list hk,← h4,List.getElem?_take,if_pos (by rw [flat_len hk] at hl⊢;exact hl)]
 have hj':j<(Go.Sort.flatK enc k d).size:=by simpa using hj
 rw [Array.getElem?_toList,Array.getElem?_toList,Array.getElem?_eq_getElem hj'] at e1
 refine ⟨?_,?_⟩
 ·simp only [World.cell?,h2,Nat.zero_add,id]
  rw [getElem!_pos _ j hj']
  simpa using e1
 ·simp [World.frozen?,h2]
theorem sortWorldK_own (hk:∀ x,(enc x).length=k) (h1:∀ x,∀ v∈enc x,v.oneCell'=true) {L:List α} (h:Own w 0 e k (some ⟨b,0,none⟩) n c (L.flatMap enc)) {d:Array α} (hd:d.size=L.length) (m:Nat) (os:Array Obj) :
  Own (Go.Proofs.sortWorldK enc k w b 0 m d os) 0 e k (some ⟨b,0,none⟩) n c (d.toList.flatMap enc)∧Fr (fun x=>x=b) w (Go.Proofs.sortWorldK enc k w b 0 m d os):=by
 have hlen:(d.toList.flatMap enc).length=(L.flatMap enc).length:=by rw [flat_len hk,flat_len hk];simp [hd]
 rcases h.at_ with ⟨e1,_,_⟩ | ⟨b',cs,e1,e0,e2,e3,e4⟩
 ·cases e1
 cases e1
 have hb:b<w.heap.size:=(Array.getElem?_eq_some_iff.1 e2).1
 have hh:∀ x,x<w.heap.size→(Go.Proofs.sortWorldK enc k w b 0 m d os).heap[x]? = if x=b then some (Obj.cells (Go.Sort.putCells id 0 (Go.Sort.flatK enc k d) cs) e (0,0)) else w.heap[x]?:=by
  intro x hx
  unfold Go.Proofs.sortWorldK
  rw [Go.Sort.heap_grow_old _ _ (by unfold Go.Sort.putRowK;rw [Go.Sort.size_putRow];exact hx)]
  show (w.heap.modify b _)[x]? = _
  rw [Array.getElem?_modify]
  by_cases hx':x=b
  ·subst hx';simp [e2,Go.Sort.onCells]
  ·rw [if_neg hx',if_neg (fun h=>hx' h.symm)]
 refine ⟨⟨hlen.trans h.len,h.cap,h.lim,?_,.inr ⟨b,_,rfl,e0,by rw [hh b hb,if_pos rfl],by simp [Go.Sort.putCells,e3],?_⟩⟩,⟨rfl,rfl,rfl,?_,fun x hx hn=>?_⟩⟩
 ·intro v hv
  obtain ⟨x,_,hx⟩:=List.mem_flatMap.1 hv
  exact h1 x v hx
 ·refine List.ext_getElem? fun t=>?_
  rw [List.getElem?_take]
  by_cases ht:t<(d.toList.flatMap enc).length
  ·rw [if_pos ht,← flatK_list hk]
   have ht':t<(Go.Sort.flatK enc k d).size:=by rw [flat_len hk] at ht;simpa using ht
   have htc:t<cs.size:=by
    have:=congrArg List.length e4
    rw [List.length_take,← hlen] at this
    exact Nat.lt_of_lt_of_le ht (by have h5:=Nat.min_le_right (d.toList.flatMap enc).length cs.toList.length;have h6:cs.toList.length=cs.size:=rfl;rw [this] at h5;exact h5)
   simp only [Go.Sort.putCells,Array.getElem?_toList,Array.getElem?_mapIdx,Array.getElem?_eq_getElem htc,Option.map_some]
   rw [if_pos ⟨Nat.zero_le _,by omega⟩,Array.getElem?_eq_getElem ht']
   simp only [Nat.sub_zero,id]
   rw [getElem!_pos _ t ht']
  ·rw [if_neg ht,List.getElem?_eq_none (Nat.le_of_not_lt ht)]
 ·unfold Go.Proofs.sortWorldK Go.Sort.putRowK
  rw [Go.Sort.size_grow,Go.Sort.size_putRow]
  exact Nat.le_add_right _ _
 ·rw [hh x hx,if_neg hn]
theorem Sep.sorted {E:Nat→Prop} {w0:World} {Rs:List Asr} (hk:∀ x,(enc x).length=k) (h1:∀ x,∀ v∈enc x,v.oneCell'=true) {L:List α} (S:Sep E w0 w (OwnA e k (some ⟨b,0,none⟩) n c (L.flatMap enc)::Rs)) {d:Array α} (hd:d.size=L.length) (m:Nat) (os:Array Obj) :
  Sep E w0 (Go.Proofs.sortWorldK enc k w b 0 m d os) (OwnA e k (some ⟨b,0,none⟩) n c (d.toList.flatMap enc)::Rs):=by
 obtain ⟨F,⟨ho,hF⟩,h3,h4⟩:=S.step (i:=0) rfl
 obtain ⟨o',fr⟩:=sortWorldK_own hk h1 ho hd m os
 exact h4 _ F (OwnA e k (some ⟨b,0,none⟩) n c (d.toList.flatMap enc)) ⟨o',hF⟩ (fr.mono fun x hx=>by subst hx;exact hF ⟨x,0,none⟩ rfl) fun x hx=>⟨.inl hx,Nat.lt_of_lt_of_le (h3 x hx) fr.size⟩
end
end Go.Eng
namespace Go.Proofs
open Go.Shelf Go.RowKit Go.Lib Go.Sort
def Tryz.plC (x y:Int×Int):Int:=if (x.1 != y.1)=true then wrap64 (x.1-y.1) else wrap64 (x.2-y.2)
set_option maxHeartbeats 1000000 in
theorem Tryz.less_walk (x y:Int×Int) (W:World):Calls Tryz.prog 128 #[.agg #[.int .i64 x.1,.int .i64 x.2],.agg #[.int .i64 y.1,.int .i64 y.2]] W fun e w'=>e=.returned (.int .i64 (Tryz.plC x y))∧∃ q os',w'=grow (W.drewN q) os':=by
 go_enter Tryz.func128,Tryz.ntmps128
 go_wp2
 all_goals rename_i h
 all_goals go_ret
 all_goals exact ⟨by unfold Tryz.plC;rw [h];rfl,0,_,by rw [alloc_eq_grow,alloc_eq_grow,grow_grow];rfl⟩
end Go.Proofs
namespace Go.Proofs.YtbaojfchlhlaeaaGreat.Vc
open Go Go.Eng Go.RowKit Go.Shelf Go.Proofs
theorem plV_one1 (x:Int×Int):∀ v∈plV x,v.oneCell'=true:=fun v hv=>by simp at hv;rcases hv with rfl | rfl <;> rfl
theorem less_enters:∀ args w,(callFunc 128 args).run Tryz.prog w=.ok (.enter 128 args) w:=enters_of Tryz.func128 (by kernel_rfl) rfl
def Bd (k:Int×Int):Prop:=-1000<k.1∧k.1<1000∧-1000<k.2∧k.2<1000
def plL (x y:Int×Int):Prop:=x.1<y.1∨x.1=y.1∧x.2<y.2
abbrev BdT:={k:Int×Int // Bd k}
instance:Inhabited BdT:=⟨⟨(0,0),by unfold Bd;decide⟩⟩
theorem wrap64_in {z:Int} (h:-10000<z∧z<10000):wrap64 z=z:=by
 unfold wrap64;omega
theorem plC_lt0 (x y:Int×Int) (hx:Bd x) (hy:Bd y):Tryz.plC x y<0↔plL x y:=by
 unfold Bd at hx hy
 unfold Tryz.plC plL
 rw [wrap64_in (by omega),wrap64_in (by omega)]
 by_cases h:x.1=y.1
 ·rw [if_neg (by simp [h])];omega
 ·rw [if_pos (by simpa using h)];omega
def cfB (x y:BdT):Int:=Tryz.plC x.1 y.1
def encB (x:BdT):List Value:=plV x.1
theorem encB_len (x:BdT):(encB x).length=2:=rfl
theorem encB_one (x:BdT):∀ v∈encB x,v.oneCell'=true:=fun v hv=>plV_one1 x.1 v hv
theorem plC_lt (x y:BdT):ltOf cfB x y=true↔plL x.1 y.1:=by
 unfold ltOf
 rw [decide_eq_true_iff]
 exact plC_lt0 x.1 y.1 x.2 y.2
theorem plC_swo:Go.Sort.SWO (ltOf cfB) where
 irrefl x:=Bool.eq_false_iff.2 fun h=>by have:=(plC_lt x x).1 h;unfold plL at this;omega
 trans x y z h1 h2:=by rw [plC_lt] at *;unfold plL at *;omega
 ntrans x y z h1 h2:=by
  rw [Bool.eq_false_iff,Ne,plC_lt] at *;unfold plL at *;omega
theorem sortAll_c {E:Nat→Prop} {w0 w:World} {Rs:List Asr} {b n c:Nat} {L:List (Int×Int)} (hB:∀ k∈L,Bd k) (hn:n≤1000000) (S:Sep E w0 w (outA (some ⟨b,0,none⟩) n c L::Rs)) :
  CallV Tryz.prog 197 #[.slice (some ⟨b,0,none⟩) n c,.func (.func 128) #[] #[]] w [] fun _ w'=>∃ L',(L'.Perm L∧L'.Pairwise fun x y=>¬ plL y x)∧Sep E w0 w' (outA (some ⟨b,0,none⟩) n c L'::Rs):=by
 obtain ⟨M,rfl⟩:∃ M:List BdT,L=M.map (·.1):=⟨L.pmap Subtype.mk hB,by rw [List.map_pmap];simp⟩
 have e:∀ M:List BdT,(M.map (·.1)).flatMap plV=M.flatMap encB:=fun M=>by rw [List.flatMap_map];rfl
 have o:=S.own 0 rfl
 have hL:M.length=n:=by have:=o.len;rw [flat_len plV_len] at this;simp at this;omega
 unfold outA at S
 rw [e] at S o
 have h:=AnyQ.slices_SortFunc Tryz.srtP 2 Tryz.isAgg81 Tryz.sizeOf81 encB encB_len encB_one cfB plC_swo 128 #[] b 0 c M.toArray w less_enters (fun _ _ _ _ x y=>Tryz.less_walk x.1 y.1 _) (Own.holdsK encB_len (d:=M.toArray) o) (o.lt _ rfl) (by simp [hL];omega)
 rw [show M.toArray.size=n by simpa using hL] at h
 refine h.mono fun e' w' ⟨he,d',m,os,hp,hs,hw⟩=>⟨(),he,?_⟩
 subst hw
 have hsz:d'.size=M.length:=by simpa using hp.1
 refine ⟨d'.toList.map (·.1),⟨?_,?_⟩,?_⟩
 ·have:=hp.2.2
  rw [show n=d'.size by omega,Array.extract_size,show d'.size=M.toArray.size by simpa using hsz,Array.extract_size] at this
  exact this.map _
 ·rw [List.pairwise_map]
  have:=sortedIn_pw (d:=d') (by rw [hsz,hL];exact hs)
  exact this.imp fun {x y} h=>fun k=>by rw [(plC_lt y x).2 k] at h;cases h
 ·unfold outA
  rw [e]
  exact S.sorted encB_len encB_one hsz m os
section
variable {T:List (Int×Int)→List (Int×Int)→Prop} {L:List (Int×Int)}
theorem Told.all (hB:∀ k∈L,Bd k) (hl:L.length≤1000000):Told (fun L L'=>L'.Perm L∧L'.Pairwise fun x y=>¬ plL y x) L:=fun {E w0 w Rs a n c} S=>by
 have o:=S.own 0 rfl
 have hn:L.length=n:=by have:=o.len;rw [flat_len plV_len] at this;omega
 rcases o.at_ with ⟨h1,h2,h3⟩ | ⟨b,cs,h1,-⟩
 ·have h0:L=[]:=by cases L with | nil=>rfl | cons x l=>cases h3
  subst h0
  exact (Told.nil (T:=fun L L'=>L'.Perm L∧L'.Pairwise fun x y=>¬ plL y x) ⟨.refl _,.nil⟩) S
 ·subst h1
  apply pagemap_told.vc
  unfold pagemap_told.P
  refine (sortAll_c hB (by omega) S).mono ?_
  rintro ⟨⟩ w1 ⟨L',h,S⟩
  exact ⟨L',h,rfl,S⟩
end
end Go.Proofs.YtbaojfchlhlaeaaGreat.Vc
namespace Go.Proofs.YtbaojfchlhlaeaaGreat.Vc
open Go Go.Eng Go.RowKit
theorem gx_ch {b:Int} {n:Nat} {φ:Blk→Blk} {L:List Blk} (hl:L.length=n) (i:Nat):gx (chL b n φ L) i=if (0≤b∧b<(n:Int))∧i=b.toNat then φ (gx L i) else gx L i:=by
 unfold chL
 by_cases hb:0≤b∧b<(n:Int)
 ·rw [if_pos (show inB b n from hb)]
  by_cases hi:i=b.toNat
  ·subst hi
   rw [if_pos ⟨hb,rfl⟩]
   show (L.set b.toNat _).getD b.toNat default=_
   rw [List.getD_eq_getElem?_getD,List.getElem?_set_self (by omega)]
   rfl
  ·rw [if_neg (fun h=>hi h.2)]
   show (L.set b.toNat _).getD i default=L.getD i default
   rw [List.getD_eq_getElem?_getD,List.getElem?_set_ne (fun e=>hi e.symm),← List.getD_eq_getElem?_getD]
 ·rw [if_neg (show ¬ inB b n from hb),if_neg (fun h=>hb h.1)]
theorem gx_mem {L:List Blk} {i:Nat} (h:i<L.length):gx L i∈L:=by
 show L.getD i default∈L
 rw [List.getD_eq_getElem?_getD,List.getElem?_eq_getElem h]
 exact List.getElem_mem h
theorem mem_gx {L:List Blk} {x:Blk} (h:x∈L):∃ i,i<L.length∧gx L i=x:=by
 obtain ⟨i,hi,rfl⟩:=List.getElem_of_mem h
 refine ⟨i,hi,?_⟩
 show L.getD i default=_
 rw [List.getD_eq_getElem?_getD,List.getElem?_eq_getElem hi]
 rfl
theorem inP_mem {X:List (SlP Ce)} {bl:Int} {k:Int×Int}:k∈inP X bl↔k.1=bl∧(0≤k.2∧k.2<32)∧1≤cntX X k:=by
 unfold inP
 rw [List.mem_filter,List.mem_map,decide_eq_true_iff]
 constructor
 ·rintro ⟨⟨i,hi,rfl⟩,h2⟩
  have:=List.mem_range.1 hi
  exact ⟨rfl,⟨by dsimp only;omega,by dsimp only;omega⟩,h2⟩
 ·rintro ⟨h1,h2,h3⟩
  refine ⟨⟨k.2.toNat,List.mem_range.2 (by omega),Prod.ext h1.symm (by dsimp only;omega)⟩,h3⟩
theorem inP_so (X:List (SlP Ce)) (bl:Int):(inP X bl).Pairwise plL:=by
 unfold inP
 refine List.Pairwise.filter _ (List.pairwise_map.2 (List.pairwise_lt_range.imp fun {a b} h=>?_))
 exact .inr ⟨rfl,by dsimp only;omega⟩
theorem so_nd {l:List (Int×Int)} (h:l.Pairwise plL):l.Nodup:=h.imp fun {a b} h e=>by subst e;unfold plL at h;omega
structure LI (X:List (SlP Ce)) (p:Int) (n:Nat) (L:List Blk):Prop where
 pp:4≤p∧p≤32
 four:X.length=4
 ll:L.length=n
 xb:∀ k,1≤cntX X k→(4≤k.1∧k.1<4+(n:Int))∧(1≤k.2∧k.2<p)
 us:∀ i,i<n→0≤(gx L i).us∧(gx L i).us≤p-1
 li:∀ i,i<n→(gx L i).li=((inP X (4+(i:Int))).length:Int)
 he:∀ i,i<n→(gx L i).li≠0→(gx L i).he=true
 ho:∀ i,i<n→(gx L i).he=true→0≤(gx L i).ow∧(gx L i).ow<4
 pu:∀ k,1≤cntX X k→k.2≤(gx L (k.1-4).toNat).us
 ow:∀ (ns:Int) (j:Nat) (c:Ce),(0≤ns∧ns<4)→(getX X ns).l[j]? = some c→c.has=true→(gx L (c.s.b-4).toNat).ow=ns
section
variable {X:List (SlP Ce)} {p:Int} {n:Nat} {L:List Blk}
theorem LI.none (h:LI X p n L) {b:Int} (hb:0≤b∧b<(n:Int)) (h0:(gx L b.toNat).li=0) {k:Int×Int} (hk:k.1=4+b):¬ 1≤cntX X k:=fun h1=>by
 have e:=h.li b.toNat (by omega)
 rw [h0,show 4+((b.toNat:Nat):Int)=4+b by omega] at e
 have e2:inP X (4+b)=[]:=List.length_eq_zero_iff.1 (by omega)
 have:=(inP_mem (X:=X) (bl:=4+b) (k:=k)).2 ⟨hk,⟨by have:=(h.xb k h1).2;omega,by have:=(h.xb k h1).2;have:=h.pp;omega⟩,h1⟩
 rw [e2] at this
 cases this
theorem LI.ch1 (h:LI X p n L) (b:Int) {φ:Blk→Blk} (h1:∀ x,(φ x).ow=x.ow) (h2:∀ x,(φ x).li=x.li) (h3:∀ x,(φ x).he=x.he) (h4:0≤b∧b<(n:Int)→(gx L b.toNat).us≤(φ (gx L b.toNat)).us∧(φ (gx L b.toNat)).us≤p-1):LI X p n (chL b n φ L):=by
 have g:=gx_ch (b:=b) (φ:=φ) h.ll
 have go:∀ i,(gx (chL b n φ L) i).ow=(gx L i).ow:=fun i=>by rw [g];split;exact h1 _;rfl
 have gl:∀ i,(gx (chL b n φ L) i).li=(gx L i).li:=fun i=>by rw [g];split;exact h2 _;rfl
 have gh:∀ i,(gx (chL b n φ L) i).he=(gx L i).he:=fun i=>by rw [g];split;exact h3 _;rfl
 have gu:∀ i,(gx L i).us≤(gx (chL b n φ L) i).us:=fun i=>by
  rw [g];split
  ·rename_i e;rw [e.2];exact (h4 e.1).1
  ·exact Int.le_refl _
 refine ⟨h.pp,h.four,by rw [chL_len];exact h.ll,h.xb,fun i hi=>⟨Int.le_trans (h.us i hi).1 (gu i),?_⟩,fun i hi=>by rw [gl];exact h.li i hi,fun i hi e=>by rw [gh];exact h.he i hi (by rw [←gl];exact e),fun i hi e=>by rw [go];exact h.ho i hi (by rw [←gh];exact e),fun k hk=>Int.le_trans (h.pu k hk) (gu _),fun ns j c hn hj hc=>by rw [go];exact h.ow ns j c hn hj hc⟩
 rw [g];split
 ·rename_i e;rw [e.2];exact (h4 e.1).2
 ·exact (h.us i hi).2
theorem LI.ch0 (h:LI X p n L) (b:Int) {φ:Blk→Blk} (h0:0≤b∧b<(n:Int)→(gx L b.toNat).li=0∧(φ (gx L b.toNat)).li=0∧(0≤(φ (gx L b.toNat)).us∧(φ (gx L b.toNat)).us≤p-1)∧((φ (gx L b.toNat)).he=true→0≤(φ (gx L b.toNat)).ow∧(φ (gx L b.toNat)).ow<4)):LI X p n (chL b n φ L):=by
 have g:=gx_ch (b:=b) (φ:=φ) h.ll
 refine ⟨h.pp,h.four,by rw [chL_len];exact h.ll,h.xb,fun i hi=>?_,fun i hi=>?_,fun i hi e=>?_,fun i hi e=>?_,fun k hk=>?_,fun ns j c hn hj hc=>?_⟩
 ·rw [g];split
  ·rename_i e;rw [e.2];exact (h0 e.1).2.2.1
  ·exact h.us i hi
 ·rw [g];split
  ·rename_i e;have:=h.li i hi;rw [e.2] at this⊢;rw [(h0 e.1).2.1,← this];exact (h0 e.1).1.symm
  ·exact h.li i hi
 ·rw [g] at e⊢;split
  ·rename_i e1;rw [if_pos e1,e1.2] at e;exact absurd (h0 e1.1).2.1 e
  ·rename_i e1;rw [if_neg e1] at e;exact h.he i hi e
 ·rw [g] at e⊢;split
  ·rename_i e1;rw [if_pos e1,e1.2] at e;rw [e1.2];exact (h0 e1.1).2.2.2 e
  ·rename_i e1;rw [if_neg e1] at e;exact h.ho i hi e
 ·rw [g,if_neg]
  ·exact h.pu k hk
  ·rintro ⟨e1,e2⟩
   exact h.none e1 (h0 e1).1 (k:=k) (by have:=(h.xb k hk).1;omega) hk
 ·rw [g,if_neg]
  ·exact h.ow ns j c hn hj hc
  ·rintro ⟨e1,e2⟩
   have hk:=cntX_pos h.four hn hj hc
   exact h.none e1 (h0 e1).1 (k:=c.pl) (by have:=(h.xb _ hk).1;show c.s.b=4+b;change 4≤c.s.b∧_ at this;omega) hk
theorem LI.f (h:LI X p n L) (b:Int):LI X p n (chL b n fB L):=h.ch1 b (fun _=>rfl) (fun _=>rfl) (fun _=>rfl) fun hb=>⟨Int.le_refl _,(h.us _ (by omega)).2⟩
theorem LI.u (h:LI X p n L) (b:Int) (hu:0≤b∧b<(n:Int)→(gx L b.toNat).us+1≤p-1):LI X p n (chL b n uB L):=h.ch1 b (fun _=>rfl) (fun _=>rfl) (fun _=>rfl) fun hb=>⟨by show _≤(gx L b.toNat).us+1;omega,hu hb⟩
theorem LI.r (h:LI X p n L) (b:Int) (h0:0≤b∧b<(n:Int)→(gx L b.toNat).li=0):LI X p n (chL b n rB L):=h.ch0 b fun hb=>⟨h0 hb,rfl,h.us _ (by omega),fun e=>by cases e⟩
theorem LI.e (h:LI X p n L) (b:Int) (h0:0≤b∧b<(n:Int)→(gx L b.toNat).li=0):LI X p n (chL b n eB L):=h.ch0 b fun hb=>⟨h0 hb,rfl,⟨Int.le_refl _,by have:=h.pp;show (0:Int)≤p-1;omega⟩,fun e=>by cases e⟩
theorem LI.s (h:LI X p n L) (b:Int) {m:Bool} (h0:0≤b∧b<(n:Int)→(gx L b.toNat).li=0):LI X p n (chL b n (sB m) L):=h.ch0 b fun hb=>⟨h0 hb,h0 hb,h.us _ (by omega),fun e=>by cases e⟩
theorem LI.h (h:LI X p n L) (b:Int) {ns:Int} (hn:0≤ns∧ns<4) (h0:0≤b∧b<(n:Int)→(gx L b.toNat).li=0):LI X p n (chL b n (hB ns) L):=h.ch0 b fun hb=>⟨h0 hb,rfl,⟨Int.le_refl _,by have:=h.pp;show (0:Int)≤p-1;omega⟩,fun _=>hn⟩
theorem LI.free (h:LI X p n L) {i:Nat} (hi:i<n) (hf:(gx L i).he=false):(gx L i).li=0:=by
 refine Classical.byContradiction fun e=>?_
 have:=h.he i hi e
 rw [hf] at this
 cases this
theorem gx_ch_li {b:Int} {φ:Blk→Blk} (hl:L.length=n) (hφ:∀ x,(φ x).li=x.li) (i:Nat):(gx (chL b n φ L) i).li=(gx L i).li:=by
 rw [gx_ch hl];split
 ·exact hφ _
 ·rfl
theorem dst_L (C:CD) (hl:L.length=n) (b:Int):(dstP C L b).2.1=L∨(dstP C L b).2.1=chL b n eB L∨(dstP C L b).2.1=chL b n fB L∨∃ m,(dstP C L b).2.1=chL b n (sB m) (chL b n fB L):=by
 subst hl
 unfold dstP
 split
 ·split
  ·exact .inr (.inr (.inl rfl))
  ·exact .inr (.inr (.inr ⟨_,rfl⟩))
 ·dsimp only
  split
  ·exact .inr (.inl rfl)
  ·exact .inl rfl
theorem LI.d (h:LI X p n L) (C:CD) (b:Int) (h0:0≤b∧b<(n:Int)→(gx L b.toNat).li=0):LI X p n (dstP C L b).2.1:=by
 rcases dst_L C h.ll b with e | e | e | ⟨m,e⟩ <;> rw [e]
 ·exact h
 ·exact h.e b h0
 ·exact h.f b
 ·exact (h.f b).s b fun hb=>by rw [gx_ch_li (φ:=fB) h.ll (fun _=>rfl)];exact h0 hb
theorem dst_oth (C:CD) (hl:L.length=n) (b:Int) {i:Nat} (hi:i≠b.toNat):gx (dstP C L b).2.1 i=gx L i:=by
 have g:∀ (φ:Blk→Blk) {M:List Blk},M.length=n→gx (chL b n φ M) i=gx M i:=fun φ M hM=>by rw [gx_ch hM,if_neg (fun h=>hi h.2)]
 rcases dst_L C hl b with e | e | e | ⟨m,e⟩ <;> rw [e]
 ·exact g _ hl
 ·exact g _ hl
 ·rw [g _ (by rw [chL_len];exact hl),g _ hl]
def KeptH (n:Nat) (L L':List Blk):Prop:=∀ i,i<n→(gx L i).he=true→gx L' i=gx L i
theorem KeptH.refl:KeptH n L L:=fun _ _ _=>rfl
theorem KeptH.trans {L1 L2:List Blk} (h:KeptH n L L1) (k:KeptH n L1 L2):KeptH n L L2:=fun i hi hh=>by
 have e:=h i hi hh
 rw [k i hi (by rw [e];exact hh),e]
theorem pick_free (h:0≤pickT L L.length):(gx L (pickT L L.length).toNat).he=false∧(gx L (pickT L L.length).toNat).ba=false:=by
 have:=bestT_is (L:=L) (m:=fun _ x=>freeB x) (ah:=fun x y=>decide (x.er<y.er)) L.length h
 unfold freeB at this
 rw [Bool.and_eq_true,Bool.not_eq_true',Bool.not_eq_true'] at this
 exact this
theorem KeptH.of {b:Int} {L':List Blk} (hf:(gx L b.toNat).he=false) (ho:∀ i,i≠b.toNat→gx L' i=gx L i):KeptH n L L':=fun i hi hh=>ho i fun e=>by subst e;rw [hf] at hh;cases hh
theorem ch_oth (hl:L.length=n) {b:Int} (φ:Blk→Blk) {i:Nat} (hi:i≠b.toNat):gx (chL b n φ L) i=gx L i:=by rw [gx_ch hl,if_neg (fun h=>hi h.2)]
structure OpI (X:List (SlP Ce)) (p:Int) (n:Nat) (ns:Int) (L L':List Blk) (b e:Int):Prop where
 li:LI X p n L'
 kp:KeptH n L L'
 ok:e=0→(0≤b∧b<(n:Int))∧(gx L b.toNat).he=false∧∃ y,gx L' b.toNat=hB ns y∧y.ba=false
theorem opn_LI {ns:Int} {o:Hd} {sl:Bool} (hp:0≤ns∧ns<4):∀ (k:Nat) {C:CD} {L:List Blk} {O:List Hd},LI X p n L→OpI X p n ns L (opnP ns o sl k C L O).1.2.1 (opnP ns o sl k C L O).2.1 (opnP ns o sl k C L O).2.2
 | 0,C,L,O,h=>⟨h,.refl,fun e=>by cases e⟩
 | k+1,C,L,O,h=>by
  unfold opnP
  by_cases hlt:pickT L L.length<0
  ·rw [if_pos hlt]
   exact ⟨h,.refl,fun e=>by cases e⟩
  rw [if_neg hlt]
  obtain ⟨hf,hfb⟩:=pick_free (L:=L) (by omega)
  have hbd:0≤pickT L L.length∧pickT L L.length<(n:Int):=⟨by omega,by have:=(bestT_bd (L:=L) (m:=fun _ x=>freeB x) (ah:=fun x y=>decide (x.er<y.er)) L.length).2;rw [←h.ll];exact this⟩
  have hln:=h.ll
  generalize pickT L L.length=b at hlt hf hfb hbd ⊢
  rw [hln]
  have h0:(gx L b.toNat).li=0:=h.free (by omega) hf
  have d1:=h.d C b fun _=>h0
  have k1:=fun {i:Nat} (hi:i≠b.toNat)=>dst_oth C hln b hi
  have hX:∃ C1 L1 e1,(if (gx L b.toNat).cl=true then (C,L,(0:Int)) else dstP C L b)=(C1,L1,e1)∧LI X p n L1∧(∀ i,i≠b.toNat→gx L1 i=gx L i)∧(gx L1 b.toNat).li=0∧(e1=0→(gx L1 b.toNat).ba=false):=by
   split
   ·exact ⟨_,_,_,rfl,h,fun _ _=>rfl,h0,fun _=>hfb⟩
   ·refine ⟨(dstP C L b).1,(dstP C L b).2.1,(dstP C L b).2.2,rfl,d1,fun i hi=>k1 hi,?_,fun e=>?_⟩
    ·rcases dst_L C hln b with e | e | e | ⟨m,e⟩ <;> rw [e]
     ·exact h0
     ·rw [gx_ch hln,if_pos ⟨hbd,rfl⟩];rfl
     ·rw [gx_ch_li (φ:=fB) hln (fun _=>rfl)];exact h0
     ·rw [gx_ch_li (φ:=sB m) (by rw [chL_len];exact hln) (fun _=>rfl),gx_ch_li (φ:=fB) hln (fun _=>rfl)];exact h0
    ·have:(dstP C L b).2.1=if (eraC C (4+b)).2=0 then chL b n eB L else L:=by
      unfold dstP at e ⊢
      rw [hln] at *
      split at e
      ·split at e
       ·cases e
       ·dsimp only at e;split at e <;> cases e
      ·rename_i h5
       rw [if_neg h5]
     rw [this]
     split
     ·rw [gx_ch hln,if_pos ⟨hbd,rfl⟩];exact hfb
     ·exact hfb
  obtain ⟨C1,L1,e1,hq,l1,o1,z1,b1⟩:=hX
  rw [hq]
  dsimp only
  have kp1:KeptH n L L1:=.of hf o1
  have hL1:=l1.ll
  by_cases he1:e1=0
  case neg=>
   rw [if_neg he1]
   split
   ·exact ⟨l1,kp1,fun e=>by cases e⟩
   ·obtain ⟨i1,i2,i3⟩:=opn_LI (ns:=ns) (o:=o) (sl:=sl) hp k (C:=C1) (O:=O) l1
    refine ⟨i1,kp1.trans i2,fun e=>?_⟩
    obtain ⟨x1,x2,x3⟩:=i3 e
    refine ⟨x1,?_,x3⟩
    by_cases hb2:((opnP ns o sl k C1 L1 O).2.1).toNat=b.toNat
    ·rw [hb2];exact hf
    ·rw [←o1 _ hb2];exact x2
  rw [if_pos he1]
  have hb1:=b1 he1
  have hbeg:∃ C2 L2 O2 e2,begP C1 L1 O b ns o sl=(C2,L2,O2,e2)∧LI X p n L2∧(∀ i,i≠b.toNat→gx L2 i=gx L i)∧(gx L2 b.toNat).li=0∧(e2=0→gx L2 b.toNat=hB ns (gx L1 b.toNat)):=by
   unfold begP
   rw [hL1]
   split
   ·refine ⟨_,_,_,_,rfl,l1.h b hp fun _=>z1,fun i hi=>?_,?_,fun _=>?_⟩
    ·rw [ch_oth hL1 _ hi];exact o1 i hi
    ·rw [gx_ch hL1,if_pos ⟨hbd,rfl⟩];rfl
    ·rw [gx_ch hL1,if_pos ⟨hbd,rfl⟩]
   ·rename_i hne
    exact ⟨_,_,_,_,rfl,l1,o1,z1,fun e=>absurd e hne⟩
  obtain ⟨C2,L2,O2,e2,hq2,l2,o2,z2,b2⟩:=hbeg
  rw [hq2]
  dsimp only
  by_cases he2:e2=0
  ·rw [if_pos he2]
   exact ⟨l2,.of hf o2,fun _=>⟨hbd,hf,_,b2 he2,hb1⟩⟩
  rw [if_neg he2]
  split
  ·exact ⟨l2,.of hf o2,fun e=>by cases e⟩
  have l3:=(l2.f b).d C2 b fun _=>(gx_ch_li (φ:=fB) l2.ll (fun _=>rfl) _).trans z2
  have o3:∀ i,i≠b.toNat→gx (dstP C2 (chL b n fB L2) b).2.1 i=gx L i:=fun i hi=>by
   exact (dst_oth C2 ((chL_len ..).trans l2.ll) b hi).trans ((ch_oth l2.ll _ hi).trans (o2 i hi))
  split
  ·exact ⟨l3,.of hf o3,fun e=>by cases e⟩
  ·obtain ⟨i1,i2,i3⟩:=opn_LI (ns:=ns) (o:=o) (sl:=sl) hp k (C:=(dstP C2 (chL b n fB L2) b).1) (O:=O2) l3
   refine ⟨i1,(KeptH.of hf o3).trans i2,fun e=>?_⟩
   obtain ⟨x1,x2,x3⟩:=i3 e
   refine ⟨x1,?_,x3⟩
   by_cases hb2:((opnP ns o sl k (dstP C2 (chL b n fB L2) b).1 (dstP C2 (chL b n fB L2) b).2.1 O2).2.1).toNat=b.toNat
   ·rw [hb2];exact hf
   ·rw [←o3 _ hb2];exact x2
end
end Go.Proofs.YtbaojfchlhlaeaaGreat.Vc
namespace Go.Proofs.YtbaojfchlhlaeaaGreat.Vc
open Go Go.Eng Go.RowKit
abbrev fat (s:SD) (i:Nat):Int:=s.fr.getD i 0
def frOk (n:Nat) (L:List Blk) (i:Nat) (b:Int):Prop:=b=-1∨((0≤b∧b<(n:Int))∧(gx L b.toNat).he=true∧(gx L b.toNat).ow=(i:Int))
def u64R (z:Int):Prop:=0≤z∧z<18446744073709551616
structure SI (g:Geo) (n:Nat) (s:SD):Prop where
 pi:PI g n s.C s.L s.O
 xo:XOk s.X
 l:LI s.X g.p n s.L
 fl:s.fr.length=4
 fo:∀ i,i<4→frOk n s.L i (fat s i)
 ep:u64R s.ep
 op:u64R s.op
 ct:u64R s.ct
structure St (g:Geo) (n K:Nat) (s s':SD):Prop where
 i:SI g n s'
 o1:s.C.ops≤s'.C.ops
 o2:s'.C.ops≤s.C.ops+K
 sz:∀ ns,(getX s'.X ns).n=(getX s.X ns).n
 ep:s'.ep=s.ep
 ct:s'.ct=s.ct
theorem u64w_R (z:Int):u64R (u64w z):=by
 have:u64w z=z % 18446744073709551616:=by simp [u64w,IntKind.wrap,IntKind.signed,IntKind.bits]
 unfold u64R
 rw [this]
 omega
section
variable {g:Geo} {n K J:Nat} {s s' t:SD}
theorem St.refl (h:SI g n s):St g n 0 s s:=⟨h,Nat.le_refl _,Nat.le_refl _,fun _=>rfl,rfl,rfl⟩
theorem St.trans (h:St g n K s s') (k:St g n J s' t):St g n (K+J) s t:=⟨k.i,Nat.le_trans h.o1 k.o1,by have:=h.o2;have:=k.o2;omega,fun ns=>(k.sz ns).trans (h.sz ns),k.ep.trans h.ep,k.ct.trans h.ct⟩
theorem St.up (h:St g n K s s') (hk:K≤J):St g n J s s':=⟨h.i,h.o1,by have:=h.o2;omega,h.sz,h.ep,h.ct⟩
theorem SI.ln (h:SI g n s):s.L.length=n:=h.pi.ll
theorem SI.no (h:SI g n s):(n:Int)≤60∧4≤g.p∧g.p≤32:=⟨h.pi.le,h.l.pp.1,h.l.pp.2⟩
theorem frOk.ch1 {L:List Blk} {b:Int} {φ:Blk→Blk} (hl:L.length=n) (h1:∀ x,(φ x).ow=x.ow) (h3:∀ x,(φ x).he=x.he) {i:Nat} {f:Int} (h:frOk n L i f):frOk n (chL b n φ L) i f:=by
 rcases h with h | ⟨h,h2,h4⟩
 ·exact .inl h
 ·refine .inr ⟨h,?_,?_⟩ <;> rw [gx_ch hl] <;> split
  ·rw [h3];exact h2
  ·exact h2
  ·rw [h1];exact h4
  ·exact h4
theorem frOk.oth {L L':List Blk} {i:Nat} {f:Int} (h:frOk n L i f) (ho:0≤f∧f<(n:Int)→gx L' f.toNat=gx L f.toNat):frOk n L' i f:=by
 rcases h with h | ⟨h,h2,h4⟩
 ·exact .inl h
 ·exact .inr ⟨h,by rw [ho h];exact h2,by rw [ho h];exact h4⟩
def nfr (s:SD) (b:Int):Prop:=∀ i,i<4→0≤fat s i→fat s i≠b
theorem SI.nfr_of (h:SI g n s) {b:Int} (hb:0≤b) (hh:(gx s.L b.toNat).he=false):nfr s b:=fun i hi h0 e=>by
 rcases h.fo i hi with k | ⟨-,k,-⟩
 ·omega
 ·rw [e,hh] at k;cases k
theorem SI.set_C (h:SI g n s) {C':CD} (hp:PI g n C' s.L s.O) (h1:s.C.ops≤C'.ops) (h2:C'.ops≤s.C.ops+K):St g n K s {s with C:=C'}:=⟨⟨hp,h.xo,h.l,h.fl,h.fo,h.ep,h.op,h.ct⟩,h1,h2,fun _=>rfl,rfl,rfl⟩
theorem SI.set_ro (h:SI g n s) (r:Bool):St g n 0 s {s with ro:=r}:=⟨⟨h.pi,h.xo,h.l,h.fl,h.fo,h.ep,h.op,h.ct⟩,Nat.le_refl _,Nat.le_refl _,fun _=>rfl,rfl,rfl⟩
theorem SI.over (h:SI g n s):St g n 0 s (overP s).1:=by
 unfold overP
 split
 ·exact h.set_ro true
 ·exact .refl h
theorem over_f (s:SD):(overP s).1.C=s.C∧(overP s).1.L=s.L∧(overP s).1.O=s.O∧(overP s).1.X=s.X∧(overP s).1.fr=s.fr∧(overP s).1.op=s.op:=by
 unfold overP;split <;> exact ⟨rfl,rfl,rfl,rfl,rfl,rfl⟩
theorem SI.roS (h:SI g n s) (e:Int):St g n 0 s (roS s e):=by
 unfold Vc.roS
 split
 ·exact h.set_ro true
 ·exact .refl h
theorem roS_f (s:SD) (e:Int):(roS s e).C=s.C∧(roS s e).L=s.L∧(roS s e).O=s.O∧(roS s e).X=s.X∧(roS s e).fr=s.fr∧(roS s e).op=s.op:=by
 unfold Vc.roS;split <;> exact ⟨rfl,rfl,rfl,rfl,rfl,rfl⟩
theorem left_is (s:SD) (e:Int):(leftP s e).1=s∨(leftP s e).1=(overP (roS s e)).1:=by
 unfold leftP
 split
 ·exact .inl rfl
 ·split <;> exact .inr rfl
theorem left0 (s:SD) (e:Int) (h:(leftP s e).2=0):e=0:=by
 unfold leftP at h
 split at h
 ·cases h
 ·split at h
  ·rename_i h2;exact absurd h h2
  ·exact h
theorem SI.left (h:SI g n s) (e:Int):St g n 0 s (leftP s e).1:=by
 rcases left_is s e with k | k <;> rw [k]
 ·exact .refl h
 ·exact (h.roS e).trans (h.roS e).i.over
theorem left_f (s:SD) (e:Int):(leftP s e).1.C=s.C∧(leftP s e).1.L=s.L∧(leftP s e).1.O=s.O∧(leftP s e).1.X=s.X∧(leftP s e).1.fr=s.fr∧(leftP s e).1.op=s.op:=by
 rcases left_is s e with k | k <;> rw [k]
 ·exact ⟨rfl,rfl,rfl,rfl,rfl,rfl⟩
 ·have h1:=over_f (roS s e)
  have h2:=roS_f s e
  exact ⟨h1.1.trans h2.1,h1.2.1.trans h2.2.1,h1.2.2.1.trans h2.2.2.1,h1.2.2.2.1.trans h2.2.2.2.1,h1.2.2.2.2.1.trans h2.2.2.2.2.1,h1.2.2.2.2.2.trans h2.2.2.2.2.2⟩
theorem SI.ch (h:SI g n s) (b:Int) {φ:Blk→Blk} (he:∀ x,(φ x).er=x.er) (hl:LI s.X g.p n (chL b n φ s.L)) (hf:∀ i,i<4→frOk n (chL b n φ s.L) i (fat s i)):St g n 0 s (chS s b φ):=by
 have hp:=h.pi.chL b he
 rw [h.ln] at hp
 refine ⟨⟨?_,h.xo,?_,h.fl,?_,h.ep,h.op,h.ct⟩,Nat.le_refl _,Nat.le_refl _,fun _=>rfl,rfl,rfl⟩
 ·show PI g n s.C (chL b s.L.length φ s.L) s.O;rw [h.ln];exact hp
 ·show LI s.X g.p n (chL b s.L.length φ s.L);rw [h.ln];exact hl
 ·show ∀ i,i<4→frOk n (chL b s.L.length φ s.L) i (fat s i);rw [h.ln];exact hf
theorem SI.ch1 (h:SI g n s) (b:Int) {φ:Blk→Blk} (he:∀ x,(φ x).er=x.er) (h1:∀ x,(φ x).ow=x.ow) (h3:∀ x,(φ x).he=x.he) (hl:LI s.X g.p n (chL b n φ s.L)):St g n 0 s (chS s b φ):=
 h.ch b he hl fun i hi=>(h.fo i hi).ch1 h.ln h1 h3
theorem SI.f (h:SI g n s) (b:Int):St g n 0 s (chS s b fB):=h.ch1 b (fun _=>rfl) (fun _=>rfl) (fun _=>rfl) (h.l.f b)
theorem SI.r (h:SI g n s) (b:Int) (h0:0≤b∧b<(n:Int)→(gx s.L b.toNat).li=0) (hf:nfr s b):St g n 0 s (chS s b rB):=
 h.ch b (fun _=>rfl) (h.l.r b h0) fun i hi=>(h.fo i hi).oth fun e=>by
  rw [gx_ch h.ln,if_neg]
  rintro ⟨e1,e2⟩
  exact hf i hi e.1 (by omega)
theorem fat_set (h:s.fr.length=4) {ns:Int} (hn:0≤ns∧ns<4) (v:Int) (i:Nat):fat (frS s ns v) i=if (i:Int)=ns then v else fat s i:=by
 show (s.fr.set ns.toNat v).getD i 0=_
 rw [List.getD_eq_getElem?_getD,List.getElem?_set]
 by_cases e:(i:Int)=ns
 ·rw [if_pos (by omega),if_pos (by omega),if_pos e];rfl
 ·rw [if_neg (by omega),if_neg e,← List.getD_eq_getElem?_getD]
theorem SI.fr (h:SI g n s) {ns v:Int} (hn:0≤ns∧ns<4) (hv:frOk n s.L ns.toNat v):St g n 0 s (frS s ns v):=
 ⟨⟨h.pi,h.xo,h.l,by show (s.fr.set _ _).length=4;rw [List.length_set];exact h.fl,fun i hi=>by
  rw [fat_set h.fl hn]
  split
  ·rename_i e;rw [show i=ns.toNat by omega];exact hv
  ·exact h.fo i hi,h.ep,h.op,h.ct⟩,Nat.le_refl _,Nat.le_refl _,fun _=>rfl,rfl,rfl⟩
theorem SI.frm (h:SI g n s) {ns:Int} (hn:0≤ns∧ns<4):St g n 0 s (frS s ns (-1)):=h.fr hn (.inl rfl)
theorem SI.fG (h:SI g n s) {ns:Int} (hn:0≤ns∧ns<4):frG s ns=-1∨((0≤frG s ns∧frG s ns<(n:Int))∧(gx s.L (frG s ns).toNat).he=true∧(gx s.L (frG s ns).toNat).ow=ns):=by
 have:=h.fo ns.toNat (by omega)
 rcases this with k | ⟨k1,k2,k3⟩
 ·exact .inl k
 ·exact .inr ⟨k1,k2,k3.trans (by omega)⟩
theorem SI.nfr_set (h:SI g n s) {ns:Int} (hn:0≤ns∧ns<4) {b:Int} (hb:0≤b→(gx s.L b.toNat).ow=ns):nfr (frS s ns (-1)) b:=fun i hi h0 e=>by
 rw [fat_set h.fl hn] at h0 e
 split at h0
 ·omega
 ·rename_i hne
  rw [if_neg hne] at e
  rcases h.fo i hi with k | ⟨-,-,k⟩
  ·omega
  ·rw [e,hb (by omega)] at k
   exact hne k.symm
theorem SI.clos (h:SI g n s) {ns:Int} (hn:0≤ns∧ns<4):St g n 0 s (closP s ns):=by
 unfold closP
 split
 ·rename_i hc
  have k:=h.frm hn
  refine k.trans (k.i.r _ (fun _=>hc.2) (h.nfr_set hn fun h0=>?_))
  rcases h.fG hn with e | e
  ·omega
  ·exact e.2.2
 ·exact h.frm hn
theorem clos_f (s:SD) (ns:Int):(closP s ns).C=s.C∧(closP s ns).O=s.O∧(closP s ns).X=s.X∧(closP s ns).fr=s.fr.set ns.toNat (-1)∧(closP s ns).op=s.op:=by
 unfold closP;split <;> exact ⟨rfl,rfl,rfl,rfl,rfl⟩
theorem SI.opn (h:SI g n s) {ns:Int} (hn:0≤ns∧ns<4) {sl:Bool} (ho:s.C.ops+768≤1000000000000):St g n 768 s (opnS ns sl s).1∧OpI s.X g.p n ns s.L (opnS ns sl s).1.L (opnS ns sl s).2.1 (opnS ns sl s).2.2∧(opnS ns sl s).1.X=s.X∧(opnS ns sl s).1.fr=s.fr:=by
 have hr:(⟨0,0,0,0,s.ep,u64w (s.op+1)⟩:Hd).rng:=⟨⟨Int.le_refl _,by show (0:Int)<4294967296;decide⟩,h.ep,u64w_R _⟩
 have e:opC ns ⟨0,0,0,0,s.ep,u64w (s.op+1)⟩ sl s.C s.L s.O=opnP ns ⟨0,0,0,0,s.ep,u64w (s.op+1)⟩ sl 128 s.C s.L s.O:=if_pos hn
 obtain ⟨p1,p2,p3⟩:=PI.opn hn hr sl 128 h.pi (by omega)
 have q:=opn_LI (ns:=ns) (o:=⟨0,0,0,0,s.ep,u64w (s.op+1)⟩) (sl:=sl) hn 128 (C:=s.C) (O:=s.O) h.l
 unfold opnS
 rw [e]
 dsimp only
 refine ⟨⟨⟨p1,h.xo,q.li,h.fl,fun i hi=>(h.fo i hi).imp id fun ⟨k1,k2,k3⟩=>?_,h.ep,u64w_R _,h.ct⟩,p3,by omega,fun _=>rfl,rfl,rfl⟩,q,rfl,rfl⟩
 rw [q.kp _ (by omega) k2]
 exact ⟨k1,k2,k3⟩
theorem SI.dst0 (h:SI g n s) {b:Int} (hb:0≤b∧b<(n:Int)) (hh:(gx s.L b.toNat).he=false) (ho:s.C.ops+2≤1000000000000):St g n 2 s {s with C:=(dstP s.C s.L b).1,L:=(dstP s.C s.L b).2.1}:=by
 obtain ⟨p1,p2,p3⟩:=h.pi.dst b ho
 have hl:=h.l.d s.C b fun _=>h.l.free (by omega) hh
 exact ⟨⟨p1,h.xo,hl,h.fl,fun i hi=>(h.fo i hi).oth fun e=>dst_oth s.C h.ln b fun e2=>h.nfr_of hb.1 hh i hi e.1 (by omega),h.ep,h.op,h.ct⟩,p3,p2,fun _=>rfl,rfl,rfl⟩
theorem SI.dst (h:SI g n s) {b:Int} (hh:0≤b∧b<(n:Int)→(gx s.L b.toNat).he=false) (ho:s.C.ops+2≤1000000000000):St g n 2 s (dstS s b).1∧(dstS s b).1.X=s.X∧(dstS s b).1.fr=s.fr:=by
 unfold dstS
 by_cases hb:0≤b∧b<(n:Int)
 ·rw [if_pos (by rw [h.ln];exact hb)]
  have hs:=h.dst0 hb (hh hb) ho
  have k:=over_f {s with C:=(dstP s.C s.L b).1,L:=(dstP s.C s.L b).2.1}
  exact ⟨hs.trans hs.i.over,k.2.2.2.1,k.2.2.2.2.1⟩
 ·rw [if_neg (by rw [h.ln];exact hb)]
  exact ⟨(St.refl h).up (by omega),rfl,rfl⟩
theorem prg_byt {C:CD} (h:COk C) {bl pa:Int} (hin:inC C bl pa):Byt (pgC13 C bl pa):=(h.page hin).2.2
theorem read_in {C:CD} {fb fp:Int} (hrd:readC C fb fp=0):inC C fb fp:=by
 unfold readC at hrd
 split at hrd
 ·omega
 ·split at hrd
  ·assumption
  ·omega
theorem PI.cpy {C:CD} {L:List Blk} {O:List Hd} (h:PI g n C L O) {m:Nat} {b pa fb fp:Int} (ho:C.ops+2≤1000000000000):PI g n (cpyC m C b pa fb fp).1 L O∧(cpyC m C b pa fb fp).1.ops≤C.ops+2∧C.ops≤(cpyC m C b pa fb fp).1.ops:=by
 unfold cpyC
 split
 ·split
  ·rename_i hrd
   exact h.prg _ _ (cpyL_byt (prg_byt h.ok (read_in hrd))) ho
  ·exact ⟨h,Nat.le_add_right _ _,Nat.le_refl _⟩
 ·exact ⟨h,Nat.le_add_right _ _,Nat.le_refl _⟩
theorem PI.slc {C:CD} {L:List Blk} {O:List Hd} (h:PI g n C L O) {m:Nat} {b:Int} (ho:C.ops+1≤1000000000000):PI g n (slC m C b).1 L O∧(slC m C b).1.ops≤C.ops+1∧C.ops≤(slC m C b).1.ops:=by
 unfold slC
 split
 ·exact h.sel b ho
 ·exact ⟨h,Nat.le_add_right _ _,Nat.le_refl _⟩
theorem SI.cpy (h:SI g n s) {to pa:Int} {k:Int×Int} (hu:0≤to∧to<(n:Int)→(gx s.L to.toNat).us+1≤g.p-1) (ho:s.C.ops+2≤1000000000000):St g n 2 s (cpyS s to pa k).1:=by
 have h1:=h.ch1 to (φ:=uB) (fun _=>rfl) (fun _=>rfl) (fun _=>rfl) (h.l.u to hu)
 obtain ⟨p1,p2,p3⟩:=h1.i.pi.cpy (m:=s.L.length) (b:=to) (pa:=pa) (fb:=k.1) (fp:=k.2) ho
 exact h1.trans (h1.i.set_C p1 p3 p2)
theorem SI.cop {to:Int} (ht:0≤to∧to<(n:Int)):∀ (l:List (Int×Int)) (i:Int) {s:SD},SI g n s→(gx s.L to.toNat).us+(l.length:Int)≤g.p-1→s.C.ops+(2*l.length+1)≤1000000000000 →
  St g n (2*l.length+1) s (copP to l i s).1∧(copP to l i s).1.X=s.X∧(copP to l i s).1.fr=s.fr∧(copP to l i s).1.O=s.O∧(copP to l i s).1.op=s.op∧(copP to l i s).1.ro=s.ro∧(∀ j,j≠to.toNat→gx (copP to l i s).1.L j=gx s.L j) ∧
  (gx (copP to l i s).1.L to.toNat).he=(gx s.L to.toNat).he∧(gx (copP to l i s).1.L to.toNat).ow=(gx s.L to.toNat).ow∧(gx (copP to l i s).1.L to.toNat).li=(gx s.L to.toNat).li∧(gx (copP to l i s).1.L to.toNat).ba=(gx s.L to.toNat).ba∧((copP to l i s).2=0→(gx (copP to l i s).1.L to.toNat).us=(gx s.L to.toNat).us+(l.length:Int))
 | [],i,s,h,hu,ho=>by
  obtain ⟨p1,p2,p3⟩:=h.pi.slc (m:=s.L.length) (b:=to) (by omega)
  refine ⟨h.set_C p1 p3 p2,rfl,rfl,rfl,rfl,rfl,fun _ _=>rfl,rfl,rfl,rfl,rfl,fun _=>?_⟩
  show (gx s.L to.toNat).us=(gx s.L to.toNat).us+0
  omega
 | k::l,i,s,h,hu,ho=>by
  rw [List.length_cons] at hu ho ⊢
  push_cast at hu
  have h1:=h.cpy (to:=to) (pa:=i) (k:=k) (fun _=>by omega) (by omega)
  have gt:gx (cpyS s to i k).1.L to.toNat=uB (gx s.L to.toNat):=by
   show gx (chL to s.L.length uB s.L) to.toNat=_
   rw [gx_ch rfl,if_pos ⟨by rw [h.ln];exact ht,rfl⟩]
  have go:∀ j,j≠to.toNat→gx (cpyS s to i k).1.L j=gx s.L j:=fun j hj=>by
   show gx (chL to s.L.length uB s.L) j=_
   rw [gx_ch rfl,if_neg (fun e=>hj e.2)]
  rw [show copP to (k::l) i s=if (cpyS s to i k).2≠0 then cpyS s to i k else copP to l (i+1) (cpyS s to i k).1 from rfl]
  split
  ·rename_i hne
   exact ⟨h1.up (by omega),rfl,rfl,rfl,rfl,rfl,go,by rw [gt];rfl,by rw [gt];rfl,by rw [gt];rfl,by rw [gt];rfl,fun e=>absurd e hne⟩
  ·have hu':(gx (cpyS s to i k).1.L to.toNat).us+(l.length:Int)≤g.p-1:=by rw [gt];show (gx s.L to.toNat).us+1+(l.length:Int)≤_;omega
   obtain ⟨a1,a2,a3,a4,a4',a5,a6,a7,a8,a9,a10,a11⟩:=SI.cop ht l (i+1) h1.i hu' (by have:=h1.o2;omega)
   refine ⟨(h1.trans a1).up (J:=2*(l.length+1)+1) (by omega),a2,a3,a4,a4',a5,fun j hj=>(a6 j hj).trans (go j hj),by rw [a7,gt];rfl,by rw [a8,gt];rfl,by rw [a9,gt];rfl,by rw [a10,gt];rfl,fun e=>?_⟩
   rw [a11 e,gt]
   show (gx s.L to.toNat).us+1+(l.length:Int)=_
   omega
end
end Go.Proofs.YtbaojfchlhlaeaaGreat.Vc
namespace Go.Proofs.YtbaojfchlhlaeaaGreat.Vc
open Go Go.Eng Go.RowKit
def movF (to:Int) (o:Hh):List (Int×Int)→Int→Ce→Ce
 | [],_,c=>c
 | k::l,i,c=>movF to o l (i+1) (movC k (4+to,i) o c)
theorem movL_all (to:Int) (o:Hh):∀ (l:List (Int×Int)) (i:Int) {X:List (SlP Ce)},XOk X→l.Nodup→(∀ k∈l,k.1≠4+to)→(∀ j,i≤j→cntX X (4+to,j)=0) →
  XOk (movL to o l i X)∧(∀ ns,getX (movL to o l i X) ns=⟨(getX X ns).a,(getX X ns).n,(getX X ns).c,(getX X ns).l.map (movF to o l i)⟩) ∧
  ∀ k,cntX (movL to o l i X) k=if k∈l then 0 else if k.1=4+to∧i≤k.2∧k.2<i+(l.length:Int) then cntX X (l.getD (k.2-i).toNat (0,0)) else cntX X k
 | [],i,X,hX,_,_,_=>by
  refine ⟨hX,fun ns=>?_,fun k=>?_⟩
  ·show getX X ns=⟨_,_,_,(getX X ns).l.map fun c=>c⟩
   rw [List.map_id']
  ·rw [if_neg (fun h=>List.not_mem_nil h),if_neg (by rintro ⟨h1,h2,h3⟩;simp at h3;omega)]
   rfl
 | k0::l,i,X,hX,hnd,hto,hz=>by
  have hnd':=List.nodup_cons.1 hnd
  have hk0:=hto k0 List.mem_cons_self
  have hz0:=hz i (Int.le_refl _)
  have e1:mov1 k0 (4+to,i) o X=movX k0 (4+to,i) o X:=by
   unfold mov1
   rw [if_neg]
   rintro ⟨-,h⟩
   omega
  have hX1:XOk (movX k0 (4+to,i) o X):=movX_ok hX
  have hc:=fun k=>cntX_mov k0 (4+to,i) o k (X:=X)
  have hz1:∀ j,i+1≤j→cntX (movX k0 (4+to,i) o X) (4+to,j)=0:=fun j hj=>by
   rw [hc,hz j (by omega),if_neg (by intro e;rw [←e] at hk0;exact hk0 rfl),if_neg (by intro e;have:=congrArg Prod.snd e;dsimp only at this;omega)]
   rfl
  obtain ⟨a1,a2,a3⟩:=movL_all to o l (i+1) hX1 hnd'.2 (fun k hk=>hto k (List.mem_cons_of_mem _ hk)) hz1
  show XOk (movL to o l (i+1) (mov1 k0 (4+to,i) o X))∧(∀ ns,getX (movL to o l (i+1) (mov1 k0 (4+to,i) o X)) ns=_)∧∀ k,cntX (movL to o l (i+1) (mov1 k0 (4+to,i) o X)) k=_
  rw [e1]
  refine ⟨a1,fun ns=>?_,fun k=>?_⟩
  ·rw [a2,getX_mov _ _ _ _ hX.four,List.map_map]
   rfl
  ·rw [a3]
   by_cases hkl:k∈l
   ·rw [if_pos hkl,if_pos (List.mem_cons_of_mem _ hkl)]
   rw [if_neg hkl]
   by_cases hkk:k=k0
   ·subst hkk
    rw [if_pos List.mem_cons_self,if_neg (fun h=>hk0 h.1),hc,if_pos rfl,if_neg (by intro e;rw [e] at hk0;exact hk0 rfl)]
    omega
   have hkc:k∉k0::l:=fun h=>(List.mem_cons.1 h).elim hkk hkl
   rw [if_neg hkc,List.length_cons]
   by_cases hk1:k.1=4+to
   ·by_cases hki:k.2=i
    ·rw [if_neg (by omega),if_pos ⟨hk1,by omega,by push_cast;omega⟩,hki,Int.sub_self,hc,if_neg hkk,if_pos (Prod.ext hk1 hki)]
     have e:k=(4+to,i):=Prod.ext hk1 hki
     rw [e,hz0]
     show (0:Int)-0+_=cntX X k0
     omega
    ·by_cases hr:i+1≤k.2∧k.2<i+1+(l.length:Int)
     ·rw [if_pos ⟨hk1,hr⟩,if_pos ⟨hk1,by omega,by push_cast;omega⟩,hc]
      obtain ⟨m,hm⟩:∃ m:Nat,(k.2-i).toNat=m+1:=⟨(k.2-i).toNat-1,by omega⟩
      have hm2:(k.2-(i+1)).toNat=m:=by omega
      rw [hm,hm2,List.getD_cons_succ]
      have hml:m<l.length:=by omega
      have hmem:l.getD m (0,0)∈l:=by rw [List.getD_eq_getElem?_getD,List.getElem?_eq_getElem hml];exact List.getElem_mem hml
      rw [if_neg (fun e:l.getD m (0,0)=k0=>hnd'.1 (e ▸ hmem)),if_neg (fun e:l.getD m (0,0)=(4+to,i)=>hto _ (List.mem_cons_of_mem _ hmem) (by rw [e]))]
      omega
     ·rw [if_neg (fun h=>hr h.2),if_neg (by rintro ⟨-,h2,h3⟩;push_cast at h3;omega),hc,if_neg hkk,if_neg (fun e=>hki (by rw [e]))]
      omega
   ·rw [if_neg (fun h=>hk1 h.1),if_neg (fun h=>hk1 h.1),hc,if_neg hkk,if_neg (fun e=>hk1 (by rw [e]))]
    omega
theorem movF_is (to:Int) (o:Hh):∀ (l:List (Int×Int)) (i:Int) (c:Ce),l.Nodup→(∀ k∈l,k.1≠4+to) →
  (c.has=true∧c.pl∈l∧∃ m:Nat,l[m]? = some c.pl∧movF to o l i c=⟨true,⟨4+to,i+(m:Int),c.s.h,o⟩⟩)∨(¬ (c.has=true∧c.pl∈l)∧movF to o l i c=c)
 | [],i,c,_,_=>.inr ⟨fun h=>List.not_mem_nil h.2,rfl⟩
 | k0::l,i,c,hnd,hto=>by
  have hnd':=List.nodup_cons.1 hnd
  have ht':∀ k∈l,k.1≠4+to:=fun k hk=>hto k (List.mem_cons_of_mem _ hk)
  show (_∧_∧∃ m:Nat,_∧movF to o l (i+1) (movC k0 (4+to,i) o c)=_)∨(_∧movF to o l (i+1) (movC k0 (4+to,i) o c)=c)
  by_cases h0:c.has=true∧c.pl=k0
  ·have e:movC k0 (4+to,i) o c=⟨true,⟨4+to,i,c.s.h,o⟩⟩:=by unfold movC;rw [if_pos h0]
   rw [e]
   rcases movF_is to o l (i+1) (⟨true,⟨4+to,i,c.s.h,o⟩⟩:Ce) hnd'.2 ht' with ⟨-,h2,-⟩ | ⟨-,h2⟩
   ·exact absurd rfl (ht' _ h2)
   ·refine .inl ⟨h0.1,by rw [h0.2];exact List.mem_cons_self,0,by rw [h0.2];rfl,?_⟩
    rw [h2]
    simp
  ·have e:movC k0 (4+to,i) o c=c:=by unfold movC;rw [if_neg h0]
   rw [e]
   rcases movF_is to o l (i+1) c hnd'.2 ht' with ⟨h1,h2,m,h3,h4⟩ | ⟨h1,h2⟩
   ·refine .inl ⟨h1,List.mem_cons_of_mem _ h2,m+1,h3,?_⟩
    rw [h4]
    push_cast
    rw [show i+1+(m:Int)=i+((m:Int)+1) by omega]
   ·refine .inr ⟨fun h=>?_,h2⟩
    rcases List.mem_cons.1 h.2 with h3 | h3
    ·exact h0 ⟨h.1,h3⟩
    ·exact h1 ⟨h.1,h3⟩
theorem len_eq {α:Type} [DecidableEq α] {L M:List α} (h1:L.Nodup) (h2:M.Nodup) (h:∀ k,k∈L↔k∈M):L.length=M.length:=
 Nat.le_antisymm (nodup_sub L M h1 fun k hk=>(h k).1 hk) (nodup_sub M L h2 fun k hk=>(h k).2 hk)
theorem inP_congr {X Y:List (SlP Ce)} {bl:Int} (h:∀ k,k.1=bl→(1≤cntX X k↔1≤cntX Y k)):inP X bl=inP Y bl:=by
 unfold inP
 refine List.filter_congr fun k hk=>?_
 obtain ⟨i,hi,rfl⟩:=List.mem_map.1 hk
 exact decide_eq_decide.2 (h _ rfl)
theorem inP_nil {X:List (SlP Ce)} {bl:Int} (h:∀ k,k.1=bl→¬ 1≤cntX X k):inP X bl=[]:=by
 refine List.eq_nil_iff_forall_not_mem.2 fun k hk=>?_
 have:=inP_mem.1 hk
 exact h k this.1 this.2.2
section
variable {g:Geo} {n K J:Nat} {s s' t:SD}
theorem LI.len {X:List (SlP Ce)} {p:Int} {L:List Blk} (h:LI X p n L) (bl:Int):((inP X bl).length:Int)≤p-1:=by
 have h1:(inP X bl).length≤((List.range (p-1).toNat).map fun i:Nat=>(bl,(i:Int)+1)).length:=by
  refine nodup_sub _ _ (so_nd (inP_so X bl)) fun k hk=>?_
  obtain ⟨e1,e2,e3⟩:=inP_mem.1 hk
  have:=h.xb k e3
  exact List.mem_map.2 ⟨(k.2-1).toNat,List.mem_range.2 (by omega),Prod.ext e1.symm (by dsimp only;omega)⟩
 rw [List.length_map,List.length_range] at h1
 have h2:=h.pp
 omega
theorem gx_ne {L:List Blk} (hl:L.length=n) {b:Int} {φ:Blk→Blk} {i:Nat} (hi:i≠b.toNat):gx (chL b n φ L) i=gx L i:=ch_oth hl φ hi
theorem gx_eq {L:List Blk} (hl:L.length=n) {b:Int} {φ:Blk→Blk} (hb:0≤b∧b<(n:Int)):gx (chL b n φ L) b.toNat=φ (gx L b.toNat):=by rw [gx_ch hl,if_pos ⟨hb,rfl⟩]
theorem SI.mov (h:SI g n s) {b to ns:Int} (hn:0≤ns∧ns<4) (hb:0≤b∧b<(n:Int)) (ht:0≤to∧to<(n:Int)) (hne:b≠to) (hob:(gx s.L b.toNat).ow=ns) (hot:(gx s.L to.toNat).ow=ns) (hht:(gx s.L to.toNat).he=true)
  (hl0:(gx s.L to.toNat).li=0) (hus:(gx s.L to.toNat).us=((inP s.X (4+b)).length:Int)) (hf:nfr s b):St g n 0 s (movP s b to ns (inP s.X (4+b))):=by
 have hnd:=so_nd (inP_so s.X (4+b))
 have hlen:=h.l.len (4+b)
 have hmem:=fun k=>inP_mem (X:=s.X) (bl:=4+b) (k:=k)
 generalize inP s.X (4+b)=l at hus hnd hlen hmem ⊢
 have hto:∀ k∈l,k.1≠4+to:=fun k hk e=>by have:=((hmem k).1 hk).1;omega
 have hz:∀ j,1≤j→cntX s.X (4+to,j)=0:=fun j hj=>by
  have:=h.l.none ht hl0 (k:=(4+to,j)) rfl
  have:=(cntX_le h.xo (4+to,j)).1
  omega
 obtain ⟨a1,a2,a3⟩:=movL_all to (ordO s.O to).hh l 1 h.xo hnd hto hz
 have hln:=h.ln
 have hpos:∀ k,1≤cntX (movL to (ordO s.O to).hh l 1 s.X) k↔(k.1=4+to∧1≤k.2∧k.2<1+(l.length:Int))∨(k.1≠4+b∧k.1≠4+to∧1≤cntX s.X k):=fun k=>by
  rw [a3]
  by_cases hk:k∈l
  ·rw [if_pos hk]
   have:=((hmem k).1 hk).1
   exact ⟨fun e=>by omega,fun e=>by omega⟩
  rw [if_neg hk]
  by_cases hr:k.1=4+to∧1≤k.2∧k.2<1+(l.length:Int)
  ·rw [if_pos hr]
   have hml:(k.2-1).toNat<l.length:=by omega
   have hm2:l.getD (k.2-1).toNat (0,0)∈l:=by rw [List.getD_eq_getElem?_getD,List.getElem?_eq_getElem hml];exact List.getElem_mem hml
   exact ⟨fun _=>.inl hr,fun _=>((hmem _).1 hm2).2.2⟩
  ·rw [if_neg hr]
   refine ⟨fun e=>.inr ⟨fun e1=>hk ((hmem k).2 ⟨e1,?_,e⟩),fun e1=>?_,e⟩,fun e=>?_⟩
   ·have:=(h.l.xb k e).2;have:=h.l.pp;omega
   ·exact h.l.none ht hl0 e1 e
   ·rcases e with e | e
    ·exact absurd e hr
    ·exact e.2.2
 have l1:(chL to n (cB (l.length:Int)) s.L).length=n:=by rw [chL_len];exact hln
 have l2:(chL b n rB (chL to n (cB (l.length:Int)) s.L)).length=n:=by rw [chL_len];exact l1
 have gb:gx (chL b n rB (chL to n (cB (l.length:Int)) s.L)) b.toNat=rB (gx s.L b.toNat):=by rw [gx_eq l1 hb,gx_ne hln (by omega)]
 have gt:gx (chL b n rB (chL to n (cB (l.length:Int)) s.L)) to.toNat=cB (l.length:Int) (gx s.L to.toNat):=by rw [gx_ne l1 (by omega),gx_eq hln ht]
 have go:∀ i,i≠b.toNat→i≠to.toNat→gx (chL b n rB (chL to n (cB (l.length:Int)) s.L)) i=gx s.L i:=fun i h1 h2=>by rw [gx_ne l1 h1,gx_ne hln h2]
 have gtl:(cB (l.length:Int) (gx s.L to.toNat)).li=(l.length:Int):=by
  show (if (l.length:Int)<0-(gx s.L to.toNat).li then (0:Int) else (gx s.L to.toNat).li+(l.length:Int))=_
  rw [hl0,if_neg (by omega)]
  omega
 have gow:∀ i,(gx (chL b n rB (chL to n (cB (l.length:Int)) s.L)) i).ow=(gx s.L i).ow:=fun i=>by
  by_cases e1:i=b.toNat
  ·rw [e1,gb];rfl
  ·by_cases e2:i=to.toNat
   ·rw [e2,gt];rfl
   ·rw [go i e1 e2]
 have gus:∀ i,(gx (chL b n rB (chL to n (cB (l.length:Int)) s.L)) i).us=(gx s.L i).us:=fun i=>by
  by_cases e1:i=b.toNat
  ·rw [e1,gb];rfl
  ·by_cases e2:i=to.toNat
   ·rw [e2,gt];rfl
   ·rw [go i e1 e2]
 have hLI:LI (movL to (ordO s.O to).hh l 1 s.X) g.p n (chL b n rB (chL to n (cB (l.length:Int)) s.L)):=by
  refine ⟨h.l.pp,a1.four,l2,fun k hk=>?_,fun i hi=>by rw [gus];exact h.l.us i hi,fun i hi=>?_,fun i hi e=>?_,fun i hi e=>?_,fun k hk=>?_,fun ms j c hm hj hc=>?_⟩
  ·rcases (hpos k).1 hk with e | e
   ·omega
   ·exact h.l.xb k e.2.2
  ·by_cases e1:i=b.toNat
   ·rw [e1,gb,inP_nil]
    ·rfl
    ·intro k hk h1
     rcases (hpos k).1 h1 with e | e <;> omega
   ·by_cases e2:i=to.toNat
    ·rw [e2,gt,gtl]
     have:(inP (movL to (ordO s.O to).hh l 1 s.X) (4+((to.toNat:Nat):Int))).length=((List.range l.length).map fun m:Nat=>(4+to,(m:Int)+1)).length:=by
      refine len_eq (so_nd (inP_so _ _)) ?_ fun k=>?_
      ·exact List.pairwise_map.2 (List.nodup_range.imp fun {a b} hab e=>hab (by have:=congrArg Prod.snd e;dsimp only at this;omega))
      ·rw [inP_mem,hpos,List.mem_map]
       constructor
       ·rintro ⟨h1,h2,h3⟩
        have h3:k.1=4+to∧1≤k.2∧k.2<1+(l.length:Int):=by omega
        exact ⟨(k.2-1).toNat,List.mem_range.2 (by omega),Prod.ext (by dsimp only;omega) (by dsimp only;omega)⟩
       ·rintro ⟨m,hm,rfl⟩
        have hm:=List.mem_range.1 hm
        have:=h.l.pp
        exact ⟨by dsimp only;omega,by dsimp only;omega,.inl (by dsimp only;omega)⟩
     rw [this,List.length_map,List.length_range]
    ·rw [go i e1 e2,h.l.li i hi]
     congr 2
     refine inP_congr fun k hk=>?_
     rw [hpos]
     exact ⟨fun e=>.inr ⟨by omega,by omega,e⟩,fun e=>by rcases e with e | e;omega;exact e.2.2⟩
  ·by_cases e1:i=b.toNat
   ·rw [e1,gb] at e;exact absurd rfl e
   ·by_cases e2:i=to.toNat
    ·rw [e2,gt];exact hht
    ·rw [go i e1 e2] at e⊢;exact h.l.he i hi e
  ·rw [gow]
   by_cases e1:i=b.toNat
   ·rw [e1,gb] at e;cases e
   ·by_cases e2:i=to.toNat
    ·rw [e2,hot];exact hn
    ·rw [go i e1 e2] at e;exact h.l.ho i hi e
  ·rw [gus]
   rcases (hpos k).1 hk with e | e
   ·rw [show (k.1-4).toNat=to.toNat by omega,hus];omega
   ·exact h.l.pu k e.2.2
  ·rw [gow]
   rw [a2] at hj
   obtain ⟨c0,hc0,rfl⟩:=Option.map_eq_some_iff.1 (by rw [←List.getElem?_map];exact hj)
   rcases movF_is to (ordO s.O to).hh l 1 c0 hnd hto with ⟨h1,h2,m,h3,h4⟩ | ⟨h1,h2⟩
   ·rw [h4]
    have:=h.l.ow ms j c0 hm hc0 h1
    have hcb:c0.s.b=4+b:=((hmem _).1 h2).1
    rw [hcb,show (4+b-4).toNat=b.toNat by omega,hob] at this
    show (gx s.L (4+to-4).toNat).ow=ms
    rw [show (4+to-4).toNat=to.toNat by omega,hot,this]
   ·rw [h2] at hc ⊢
    exact h.l.ow ms j c0 hm hc0 hc
 have hp1:=(h.pi.chL to (φ:=cB (l.length:Int)) (fun _=>rfl)).chL b (φ:=rB) (fun _=>rfl)
 rw [chL_len,hln] at hp1
 have hfo:∀ i,i<4→frOk n (chL b n rB (chL to n (cB (l.length:Int)) s.L)) i (fat s i):=fun i hi=>(h.fo i hi).imp id fun ⟨k1,k2,k3⟩=>⟨k1,by
  have e1:(fat s i).toNat≠b.toNat:=fun e=>hf i hi k1.1 (by omega)
  by_cases e2:(fat s i).toNat=to.toNat
  ·rw [e2,gt];exact hht
  ·rw [go _ e1 e2];exact k2,by rw [gow];exact k3⟩
 have key:SI g n (chS (chS {s with X:=movL to (ordO s.O to).hh l 1 s.X} to (cB (l.length:Int))) b rB):=by
  have e:chS (chS {s with X:=movL to (ordO s.O to).hh l 1 s.X} to (cB (l.length:Int))) b rB={s with X:=movL to (ordO s.O to).hh l 1 s.X,L:=chL b n rB (chL to n (cB (l.length:Int)) s.L)}:=by
   unfold chS
   dsimp only
   rw [hln,l1]
  rw [e]
  exact ⟨hp1,a1,hLI,h.fl,hfo,h.ep,h.op,h.ct⟩
 have hst:St g n 0 s (chS (chS {s with X:=movL to (ordO s.O to).hh l 1 s.X} to (cB (l.length:Int))) b rB):=⟨key,Nat.le_refl _,Nat.le_refl _,fun ns=>by show (getX (movL to (ordO s.O to).hh l 1 s.X) ns).n=_;rw [a2],rfl,rfl⟩
 unfold movP
 dsimp only
 split
 ·refine hst.trans (key.fr hn (.inr ⟨ht,?_⟩))
  show (gx (chL b (chS _ to _).L.length rB (chL to s.L.length _ s.L)) to.toNat).he=true∧(gx (chL b (chS _ to _).L.length rB (chL to s.L.length _ s.L)) to.toNat).ow=_
  have e:(chS {s with X:=movL to (ordO s.O to).hh l 1 s.X} to (cB (l.length:Int))).L.length=n:=by unfold chS;dsimp only;rw [hln];exact l1
  rw [e,hln,gt]
  exact ⟨hht,by show (gx s.L to.toNat).ow=_;rw [hot];omega⟩
 ·exact hst
end
end Go.Proofs.YtbaojfchlhlaeaaGreat.Vc
namespace Go.Proofs.YtbaojfchlhlaeaaGreat.Vc
open Go Go.Eng Go.RowKit
section
variable {w:World} {r:Nat} {l:List ME} {c:Nat} {k:Int×Int}
theorem run_upd (v:Int) (hb:w.heap[r]? = some (.map (l.map ME.e).toArray c)):∃ l' c',(Instr.mapUpdate 183 (.map (some r)) (kV k) (.int .i64 v)).run Tryz.prog w=.ok () (setM w r (.map (l'.map ME.e).toArray c')) ∧
  (MOk l c→MOk l' c'∧∀ k',getM l' k'=updM (getM l) k v k'):=by
 have hu:Tryz.prog.underlying 183=some (.map 81 3):=by kernel_rfl
 cases hf:fndM k l 0 with
 | none=>
  refine ⟨l++[⟨k,v,c⟩],c+1,?_,fun h=>⟨⟨?_,?_,?_⟩,?_⟩⟩
  ·simp only [Instr.mapUpdate,Sem.run_bind,run_underlying hu,Result.andThen_ok,run_getM hb,run_chk,run_find,hf,Option.map_none,run_setM _ hb,Sem.run_pure]
   have e:(l.map ME.e).toArray.push (⟨kV k,.int .i64 v,c⟩:MapEntry)=((l++[(⟨k,v,c⟩:ME)]).map ME.e).toArray:=by simp
   rw [e]
  ·rw [List.map_append]
   refine List.nodup_append.2 ⟨h.kn,by simp,?_⟩
   intro a ha b hb2 e
   obtain ⟨x,hx,rfl⟩:=List.mem_map.1 ha
   have hb2:b=k:=by simpa using hb2
   subst hb2
   exact fndM_none.1 hf x hx e
  ·rw [List.map_append]
   refine List.nodup_append.2 ⟨h.bn,by simp,?_⟩
   intro a ha b hb2 e
   obtain ⟨x,hx,rfl⟩:=List.mem_map.1 ha
   have hb2:b=c:=by simpa using hb2
   subst hb2
   have:=h.bc x hx
   omega
  ·intro x hx
   rcases List.mem_append.1 hx with hx | hx
   ·have:=h.bc x hx;omega
   ·rw [List.mem_singleton.1 hx];exact Nat.lt_succ_self _
  ·intro k'
   unfold getM updM
   rw [fndM_app]
   by_cases hk2:k'=k
   ·subst hk2
    rw [hf,if_pos rfl]
    dsimp only
    rw [if_pos rfl]
   ·rw [if_neg hk2]
    show _=(match fndM k' l 0 with | some r=>r.2 | none=>0)
    cases hf':fndM k' l 0 with
    | some q=>rfl
    | none=>
     dsimp only
     rw [if_neg (fun e=>hk2 e.symm)]
 | some q=>
  obtain ⟨i,v0⟩:=q
  obtain ⟨-,x,hx,hk,hv⟩:=fndM_some hf
  rw [Nat.sub_zero] at hx
  have hxe:((l.map ME.e).toArray)[i]? = some x.e:=by rw [List.getElem?_toArray,List.getElem?_map,hx];rfl
  have hil:i<l.length:=(List.getElem?_eq_some_iff.1 hx).1
  have hm:(l.map ME.e).toArray.modify i (fun e=>{e with key:=kV k,val:=.int .i64 v})=((l.set i ⟨x.k,v,x.b⟩).map ME.e).toArray:=by
   apply Array.ext_getElem?
   intro j
   rw [Array.getElem?_modify,List.getElem?_toArray,List.getElem?_toArray,List.getElem?_map,List.getElem?_map,List.getElem?_set]
   by_cases hij:i=j
   ·subst hij
    rw [if_pos rfl,if_pos rfl,if_pos hil,hx,← hk]
    rfl
   ·rw [if_neg hij,if_neg hij]
  have hs:(Instr.keyThatStays (kV k) (kV k)).run Tryz.prog w=.ok (kV k) w:=by simp only [Instr.keyThatStays,same_bits,if_true,Sem.run_pure]
  have hk2:((((l.map ME.e).toArray)[i]?).map (·.key)).getD (kV k)=kV k:=by rw [hxe,← hk];rfl
  refine ⟨l.set i ⟨x.k,v,x.b⟩,c,?_,fun hM=>?_⟩
  ·simp only [Instr.mapUpdate,Sem.run_bind,run_underlying hu,Result.andThen_ok,run_getM hb,run_chk,run_find,hf,Option.map_some,hk2,hs,hm,run_setM _ hb,Sem.run_pure]
  ·obtain ⟨l',hr,g1,g2⟩:=run_sto (v:=v) hM (List.mem_of_getElem? hx) hb
   have hkk:(l.set i ⟨x.k,v,x.b⟩).map (·.k)=l.map (·.k):=by
    rw [List.map_set];exact List.set_getElem?_self' (by rw [List.getElem?_map,hx];rfl)
   have hbb:(l.set i ⟨x.k,v,x.b⟩).map (·.b)=l.map (·.b):=by
    rw [List.map_set];exact List.set_getElem?_self' (by rw [List.getElem?_map,hx];rfl)
   have hM':MOk (l.set i ⟨x.k,v,x.b⟩) c:=⟨by rw [hkk];exact hM.kn,by rw [hbb];exact hM.bn,fun y hy=>by
    rcases List.mem_or_eq_of_mem_set hy with h | h
    ·exact hM.bc y h
    ·rw [h];exact hM.bc x (List.mem_of_getElem? hx)⟩
   refine ⟨hM',fun k'=>?_⟩
   unfold updM
   by_cases he:k'=k
   ·rw [if_pos he,he,← hk]
    exact hM'.get (x:=⟨x.k,v,x.b⟩) (List.mem_set hil _)
   ·rw [if_neg he]
    rcases getM_cases hM k' with ⟨y,hy,rfl,h2⟩ | ⟨h1,h2⟩
    ·rw [h2]
     refine hM'.get (x:=y) ?_
     obtain ⟨j,hj⟩:=List.getElem?_of_mem hy
     refine List.mem_of_getElem? (i:=j) ?_
     rw [List.getElem?_set,if_neg (fun e=>?_),hj]
     subst e
     rw [hx] at hj
     cases hj
     exact he hk
    ·rw [h2]
     refine getM_none fun y hy=>?_
     rcases List.mem_or_eq_of_mem_set hy with h | h
     ·exact h1 y h
     ·rw [h];exact fun e=>he (e.symm.trans hk)
end
section
variable {E:Nat→Prop} {w0 w:World} {Rs:List Asr} {r:Nat} {m:Int×Int→Int} {k:Int×Int}
theorem _root_.Go.Eng.Sep.updM (S:Sep E w0 w Rs) (i:Nat) (hi:Rs[i]? = some (MapF r m)) {v:Int} {K:World→Prop} (hk:∀ w',Sep E w0 w' (Rs.set i (MapF r (Vc.updM m k v)))→Fr (fun k=>k=r) w w'→K w') :
  RunU Tryz.prog (Instr.mapUpdate 183 (.map (some r)) (kV k) (.int .i64 v)) w K:=by
 obtain ⟨F,⟨hF,l,c,h1,h2,h3⟩,hb⟩:=S.get hi
 have hlt:=(hb r hF).2
 obtain ⟨l',c',hr,hM⟩:=run_upd (k:=k) v h1
 obtain ⟨g1,g2⟩:=hM h2
 refine ⟨_,hr,hk _ (S.mstep hi (P:=fun _=>True) (fun F h=>⟨h.1,trivial⟩) hlt fun w' F hF hw=>⟨hF,l',c',hw,g1,fun k'=>?_⟩) (setM_fr hlt).1⟩
 rw [g2]
 unfold Vc.updM
 split
 ·rfl
 ·exact h3 k'
end
end Go.Proofs.YtbaojfchlhlaeaaGreat.Vc
namespace Go.Proofs.YtbaojfchlhlaeaaGreat.Vc
open Go Go.Eng Go.RowKit
section
variable {E:Nat→Prop} {w0 w:World} {p r:Nat} {X:List (SlP Ce)} {m:Int×Int→Int} {Rs:List Asr}
theorem cellP (hX:X.length=4) {ns:Int} (hn:0≤ns∧ns<4) (i:Nat) (S:Sep E w0 w Rs) (hi:Rs[i]? = some (ownsA X)) {q:Addr} (hq:(getX X ns).a=some q) {j:Nat} (hj:j<(getX X ns).n) {x:Ce} (hx:(getX X ns).l[j]? = some x) (k:Nat) (c:Ce) {news:List Value} (hl:k+news.length≤15) (hy:c.vs=x.vs.take k++(news++x.vs.drop (k+news.length))) {K:World→Prop}
  (hk:∀ w',Sep E w0 w' (Rs.set i (ownsA (setX X ns j c)))→Fr (fun k=>k=q.block) w w'→K w'):StoreV w ((q.add (j*15)).add k) news K:=by
 have S1:=(S.perm (perm_front hi)).unfold (Rs:=X.map ownC)
 have h4:=owns_nth hX hn
 have S2:Sep E w0 w (ownC (getX X ns)::((X.map ownC).eraseIdx ns.toNat++Rs.eraseIdx i)):=S1.perm ((perm_front h4).append_right (Rs.eraseIdx i))
 obtain ⟨q2,hq2,h⟩:=S2.stF (f:=Ce.vs) (m:=15) Ce_len Ce_one (by decide) (j:=(j:Int)) ⟨by omega,by omega⟩ k (x:=x) (y:=c) (by rw [Int.toNat_natCast];exact hx) hl hy (K:=K) fun w' S3 f3=>hk w' (by
  rw [Int.toNat_natCast] at S3
  have S4:Sep E w0 w' ((X.map ownC).set ns.toNat (ownC ⟨(getX X ns).a,(getX X ns).n,(getX X ns).c,(getX X ns).l.set j c⟩)++Rs.eraseIdx i):=S3.perm (((perm_set h4).append_right (Rs.eraseIdx i)))
  rw [←List.map_set (f:=ownC)] at S4
  exact (S4.fold (Rs:=(setX X ns j c).map ownC)).perm (perm_set hi)) (f3.mono fun k ⟨q3,hq3,hk⟩=>by rw [hq] at hq3;cases hq3;exact hk)
 rw [hq] at hq2
 cases hq2
 rw [Int.toNat_natCast] at h
 exact h
structure MovI (f t:Int×Int) (o:Hh) (X:List (SlP Ce)) (a:Int) (b:Nat) (Y:List (SlP Ce)):Prop where
 ok:XOk Y
 sl:Y.map slM=X.map slM
 cell:∀ (ns:Int) (j:Nat),(0≤ns∧ns<4)→(getX Y ns).l[j]? = if ns<a∨(ns=a∧j<b) then ((getX X ns).l[j]?).map (movC f t o) else (getX X ns).l[j]?
theorem sl_all {Y:List (SlP Ce)} (hY:Y.length=4) (hX:X.length=4) (h:Y.map slM=X.map slM) (ns:Int):(getX Y ns).a=(getX X ns).a∧(getX Y ns).n=(getX X ns).n∧(getX Y ns).c=(getX X ns).c:=by
 by_cases hn:0≤ns∧ns<4
 ·have h1:(Y.map slM)[ns.toNat]? = (X.map slM)[ns.toNat]?:=by rw [h]
  rw [List.getElem?_map,List.getElem?_map,getX_at hY hn,getX_at hX hn] at h1
  have h2:=Option.some.inj h1
  unfold slM at h2
  injection h2 with e1 e2 e3
  exact ⟨e1,e2,e3⟩
 ·unfold getX
  rw [if_neg hn,if_neg hn]
  exact ⟨rfl,rfl,rfl⟩
theorem MovI.end {f t:Int×Int} {o:Hh} {Y:List (SlP Ce)} (hX:XOk X) (h:MovI f t o X 4 0 Y):Y=movX f t o X:=by
 refine List.ext_getElem? fun i=>?_
 have hm:(movX f t o X).length=4:=by unfold movX;rw [List.length_map];exact hX.four
 by_cases hi:i<4
 ·have hn:0≤(i:Int)∧(i:Int)<4:=by omega
  have e1:=getX_at h.ok.four hn
  have e2:=getX_at hm hn
  rw [Int.toNat_natCast] at e1 e2
  rw [e1,e2,getX_mov _ _ _ _ hX.four]
  obtain ⟨a1,a2,a3⟩:=sl_all h.ok.four hX.four h.sl (i:Int)
  have a4:(getX Y (i:Int)).l=(getX X (i:Int)).l.map (movC f t o):=by
   refine List.ext_getElem? fun j=>?_
   rw [h.cell _ _ hn,if_pos (.inl hn.2),List.getElem?_map]
  rw [←a1,← a2,← a3,← a4]
 ·rw [List.getElem?_eq_none (by have:=h.ok.four;omega),List.getElem?_eq_none (by omega)]
theorem MovI.nil {f t:Int×Int} {o:Hh} (hX:XOk X):MovI f t o X 0 0 X:=⟨hX,rfl,fun ns j hn=>by rw [if_neg (by omega)]⟩
theorem MovI.next {f t:Int×Int} {o:Hh} {Y:List (SlP Ce)} {a:Int} (hX:XOk X) (h:MovI f t o X a (getX X a).n Y):MovI f t o X (a+1) 0 Y:=⟨h.ok,h.sl,fun ns j hn=>by
 rw [h.cell ns j hn]
 by_cases h1:ns<a
 ·rw [if_pos (.inl h1),if_pos (.inl (by omega))]
 ·by_cases h2:ns=a
  ·subst h2
   by_cases h3:j<(getX X ns).n
   ·rw [if_pos (.inr ⟨rfl,h3⟩),if_pos (.inl (by omega))]
   ·have:(getX X ns).l[j]? = none:=List.getElem?_eq_none (by rw [(hX.get ns).1];omega)
    rw [this]
    split <;> split <;> rfl
  ·rw [if_neg (by omega),if_neg (by omega)]⟩
theorem MovI.skip {f t:Int×Int} {o:Hh} {Y:List (SlP Ce)} {a:Int} {b:Nat} (h:MovI f t o X a b Y) {c:Ce} (hc:(getX X a).l[b]? = some c) (he:movC f t o c=c):MovI f t o X a (b+1) Y:=⟨h.ok,h.sl,fun ns j hn=>by
 rw [h.cell ns j hn]
 by_cases h1:ns=a∧j=b
 ·obtain ⟨rfl,rfl⟩:=h1
  rw [if_neg (by omega),if_pos (by omega),hc]
  exact congrArg some he.symm
 ·by_cases h2:ns<a∨ns=a∧j<b
  ·rw [if_pos h2,if_pos (by omega)]
  ·rw [if_neg h2,if_neg (by omega)]⟩
theorem MovI.put {f t:Int×Int} {o:Hh} {Y:List (SlP Ce)} {a:Int} {b:Nat} (h:MovI f t o X a b Y) (ha:0≤a∧a<4) {c:Ce} (hc:(getX X a).l[b]? = some c):MovI f t o X a (b+1) (setX Y a b (movC f t o c)):=⟨h.ok.set,(setX_sl h.ok.four ha).trans h.sl,fun ns j hn=>by
 rw [getX_l_set h.ok.four ha]
 have hy:(getX Y a).l[b]? = some c:=by rw [h.cell a b ha,if_neg (by omega),hc]
 by_cases e:ns=a
 ·subst e
  rw [if_pos rfl,List.getElem?_set]
  by_cases e2:b=j
  ·subst e2
   rw [if_pos rfl,if_pos (List.getElem?_eq_some_iff.1 hy).1,if_pos (by omega),hc]
   rfl
  ·rw [if_neg e2,h.cell ns j hn]
   by_cases h2:ns<ns∨ns=ns∧j<b
   ·rw [if_pos h2,if_pos (by omega)]
   ·rw [if_neg h2,if_neg (by omega)]
 ·rw [if_neg e,h.cell ns j hn]
  by_cases h2:ns<a
  ·rw [if_pos (.inl h2),if_pos (.inl h2)]
  ·rw [if_neg (by omega),if_neg (by omega)]⟩
attribute [local irreducible] cntX
theorem Move22_c {f t:Int×Int} {o:Hh} (hX:XOk X) (S:Sep E w0 w [boxP p r X,MapF r (cntX X),ownsA X]):CallV Tryz.prog 211 #[.pointer (some ⟨p,0,none⟩),.agg #[.int .i64 f.1,.int .i64 f.2],.agg #[.int .i64 t.1,.int .i64 t.2],o.val] w [.one (.int .i64)] fun rr w'=>
  (f≠t∧0<cntX X t→rr.1=(2:Int)∧Sep E w0 w' [boxP p r X,MapF r (cntX X),ownsA X])∧(¬ (f≠t∧0<cntX X t)→rr.1=(0:Int)∧Sep E w0 w' [boxP p r (movX f t o X),MapF r (cntX (movX f t o X)),ownsA (movX f t o X)]):=by
 apply pagemap_Map_Move.vc
 unfold pagemap_Map_Move.P
 refine S.newB fun b1 w1 S f1 _=>?_
 refine S.newB fun b3 w1 S f1 _=>?_
 refine S.newB (vs:=o.vs) fun b5 w1 S f1 _=>?_
 have hlb:∀ {w':World} {E':Nat→Prop} {wz:World} {A:List Asr},Sep E' wz w' A→∀ (i:Nat),A[i]? = some (boxP p r X)→((⟨p,0,none⟩:Addr).add 4).block<w'.heap.size:=fun S i hi=>by rw [add_block];exact S.lt i hi
 have hcn:=cntX_le hX
 refine S.reg fun D hD hkeep S U=>⟨hD _ S.bl2,S.la2 rfl ⟨hD _ S.bl1,S.la1 rfl (eqPl ?_)⟩⟩
 have hft:∀ {P:Prop} [Decidable P],(P↔f=t)→decide P=decide (f=t):=fun h=>decide_eq_decide.2 h
 rw [hft (show _↔f=t from ⟨fun h=>Prod.ext h.1 h.2,fun h=>by rw [h];exact ⟨rfl,rfl⟩⟩)]
 by_cases hne:f=t
 case neg=>
  rw [decide_eq_false hne]
  have hp1:=hlb S 3 rfl
  refine cond_t rfl ⟨hD _ hp1,ld4P hX.four 3 S rfl ⟨hD _ S.bl1,S.la1 rfl ?_⟩⟩
  refine S.lookM (k:=t) 4 rfl ?_
  refine ⟨hkeep _ U.fr,?_⟩
  refine cond_d (fun (hg:cntX X t>0)=>⟨fun _=>⟨rfl,S.sel [3,3,3] rfl⟩,fun h=>absurd ⟨hne,hg⟩ h⟩) (fun (hg:¬ cntX X t>0)=>?_)
  have hno:¬ (f≠t∧0<cntX X t):=fun h=>hg h.2
  clear hD hkeep U
  refine S.reg fun D hD hkeep S U=>?_
  have hp1:=hlb S 3 rfl
  refine ⟨hD _ hp1,ld4P hX.four 3 S rfl ⟨hD _ S.bl2,S.la2 rfl ?_⟩⟩
  refine S.lookM (k:=f) 4 rfl ?_
  refine ⟨hkeep _ U.fr,?_⟩
  clear hD hkeep U
  have hsl:=(S.cells 3 rfl).take 4
  rw [List.take_append_of_le_length (by rw [List.length_map,hX.four];exact Nat.le_refl _),List.take_of_length_le (by rw [List.length_map,hX.four];exact Nat.le_refl _)] at hsl
  have h4:X.map slM=[.slice (getX X 0).a (getX X 0).n (getX X 0).c,.slice (getX X 1).a (getX X 1).n (getX X 1).c,.slice (getX X 2).a (getX X 2).n (getX X 2).c,.slice (getX X 3).a (getX X 3).n (getX X 3).c]:=by
   have:=hX.four
   match X,this with
   | [a,b,c,d],_=>rfl
  rw [h4] at hsl
  refine ⟨(⟨(getX X 0).a,(getX X 0).n,(getX X 0).c⟩,⟨(getX X 1).a,(getX X 1).n,(getX X 1).c⟩,⟨(getX X 2).a,(getX X 2).n,(getX X 2).c⟩,⟨(getX X 3).a,(getX X 3).n,(getX X 3).c⟩,()),hsl,?_⟩
  clear hsl
  refine Loop1 (fun (v:Int×Unit) w'=>∃ (a:Int) (Y:List (SlP Ce)),v.1=a∧(0≤a∧a≤4)∧MovI f t o X a 0 Y∧Sep E w0 w' [BoxA b5 62 o.vs,BoxA b3 81 [.int .i64 t.1,.int .i64 t.2],BoxA b1 81 [.int .i64 f.1,.int .i64 f.2],boxP p r X,MapF r (cntX X),ownsA Y])
   (fun (v:Int×Unit) _=>(4-v.1).toNat) ⟨0,X,rfl,by omega,.nil hX,S⟩ ?_
  clear S
  rintro ⟨(v:Int),⟨⟩⟩ w2 ⟨a,Y,hv,ha,hY,S⟩
  dsimp only at hv ⊢
  subst hv
  refine cond_d (fun hlt=>?_) (fun hge=>?_)
  ·have hn:0≤v∧v<4:=⟨ha.1,hlt⟩
   refine ⟨hn,⟨(getX X v).a,(getX X v).n,(getX X v).c⟩,?_,?_⟩
   ·have:v=0∨v=1∨v=2∨v=3:=by omega
    rcases this with e | e | e | e <;> subst e <;> rfl
   dsimp only
   have hln:=hX.get v
   refine Loop1 (fun (u:Int×Unit) w'=>∃ (i:Nat) (Y:List (SlP Ce)),u.1=(i:Int)∧i≤(getX X v).n∧MovI f t o X v i Y∧Sep E w0 w' [BoxA b5 62 o.vs,BoxA b3 81 [.int .i64 t.1,.int .i64 t.2],BoxA b1 81 [.int .i64 f.1,.int .i64 f.2],boxP p r X,MapF r (cntX X),ownsA Y])
    (fun (u:Int×Unit) _=>(((getX X v).n:Int)-u.1).toNat) ⟨0,Y,rfl,by omega,hY,S⟩ ?_
   clear S hY
   rintro ⟨(u:Int),⟨⟩⟩ w3 ⟨i,Y,hu,hi,hY,S⟩
   dsimp only at hu ⊢
   subst hu
   obtain ⟨g1,g2,g3⟩:=sl_all hY.ok.four hX.four hY.sl v
   refine cond_d (fun hlt2=>?_) (fun hge2=>?_)
   ·have rg:Rng .i64 ((i:Int)+1):=Rng.i64 (by omega) (by omega)
    obtain ⟨q,x,hq,hx,hcx,hqb⟩:=cellR hY.ok.four hn 5 S rfl (j:=(i:Int)) (by omega) (by rw [g2];exact hlt2)
    rw [Int.toNat_natCast] at hx
    have hxX:(getX X v).l[i]? = some x:=by rw [hY.cell v i hn,if_neg (by omega)] at hx;exact hx
    refine ⟨⟨by omega,hlt2⟩,q,g1 ▸ hq,x.tup,hcx,?_⟩
    refine S.newB fun b30 w4 S f4 _=>?_
    refine S.st0 (by rfl) fun w5 S f5=>?_
    have skip:movC f t o x=x→Rng .i64 ((i:Int)+1)∧(∃ (i':Nat) (Y:List (SlP Ce)),(i:Int)+1=(i':Int)∧i'≤(getX X v).n∧MovI f t o X v i' Y∧Sep E w0 w5 [BoxA b5 62 o.vs,BoxA b3 81 [.int .i64 t.1,.int .i64 t.2],BoxA b1 81 [.int .i64 f.1,.int .i64 f.2],boxP p r X,MapF r (cntX X),ownsA Y])∧(((getX X v).n:Int)-((i:Int)+1)).toNat<(((getX X v).n:Int)-(i:Int)).toNat:=fun he=>
     ⟨rg,⟨i+1,Y,by push_cast;rfl,by omega,hY.skip hxX he,S.sel [1,1,1,1,1,1] rfl⟩,by omega⟩
    refine S.ld0 (j:=0) rfl rfl (cond_of (fun (hh:x.has=true)=>?_) (fun (hh:x.has=false)=>skip (by unfold movC;rw [if_neg (fun e=>by rw [hh] at e;cases e.1)])))
    refine S.lb0 (o:=1) rfl (S.la3 rfl (eqPl (cond_d (fun e=>?_) (fun e=>skip (by unfold movC;rw [if_neg (fun k=>e ⟨by have:=congrArg Prod.fst k.2;exact this,by have:=congrArg Prod.snd k.2;exact this⟩)])))))
    have hxf:x.pl=f:=Prod.ext e.1 e.2
    have hmv:movC f t o x=⟨true,⟨t.1,t.2,x.s.h,o⟩⟩:=by unfold movC;rw [if_pos ⟨hh,hxf⟩]
    have S:=S.sel [6,0,0,0,0,0,0] rfl
    refine Sep.regC [_] S fun G D hG T S hDt hDo hkeep back=>?_
    refine ⟨hDt 2 _ _ _ rfl,S.la3 rfl ⟨hDt 1 _ _ _ rfl,S.la2 rfl ⟨⟨by omega,hlt2⟩,q,g1 ▸ hq,?_⟩⟩⟩
    rw [Int.toNat_natCast]
    have hin:i<(getX Y v).n:=by rw [g2];omega
    refine cellP hY.ok.four hn 0 T rfl hq hin hx 1 ⟨x.has,⟨t.1,t.2,x.s.h,x.s.o⟩⟩ (by show 1+2≤15;decide) rfl fun w6 T f6=>⟨hkeep _ T.fr,⟨by omega,hlt2⟩,q,g1 ▸ hq,?_⟩
    have hY2:XOk (setX Y v i ⟨x.has,⟨t.1,t.2,x.s.h,x.s.o⟩⟩):=hY.ok.set
    have gs:=setX_get hY.ok.four hn (j:=i) (c:=⟨x.has,⟨t.1,t.2,x.s.h,x.s.o⟩⟩) v
    rw [if_pos rfl] at gs
    have hil:i<(getX Y v).l.length:=(List.getElem?_eq_some_iff.1 hx).1
    rw [add_add (q.add _)]
    refine cellP hY2.four hn 0 T rfl (by rw [gs];exact hq) (by rw [gs];exact hin) (x:=⟨x.has,⟨t.1,t.2,x.s.h,x.s.o⟩⟩) (by rw [gs];show ((getX Y v).l.set i _)[i]? = _;rw [List.getElem?_set,if_pos rfl,if_pos hil]) (1+8) ⟨x.has,⟨t.1,t.2,x.s.h,o⟩⟩ (by show 1+8+6≤15;decide) rfl fun w7 T f7=>⟨hkeep _ T.fr,rg,⟨i+1,_,by push_cast;rfl,by omega,hY.put hn hxX,?_⟩,by omega⟩
    have e2:setX (setX Y v i ⟨x.has,⟨t.1,t.2,x.s.h,x.s.o⟩⟩) v i ⟨x.has,⟨t.1,t.2,x.s.h,o⟩⟩=setX Y v i (movC f t o x):=by
     rw [hmv,hh]
     unfold setX
     rw [List.set_set]
     have gs':=gs
     unfold setX at gs'
     rw [hh] at gs'
     rw [gs',List.set_set]
    have S:=back _ _ T
    dsimp only [List.set_cons_zero] at S
    rw [e2] at S
    exact S.sel [2,2,2,2,2,0] rfl
   ·have hie:i=(getX X v).n:=by omega
    subst hie
    exact ⟨Rng.i64 (by omega) (by omega),⟨v+1,Y,rfl,by omega,hY.next hX,S⟩,by omega⟩
  have hv4:v=4:=by omega
  subst hv4
  have hYe:=hY.end hX
  subst hYe
  have hm:∀ k,cntX (movX f t o X) k=_:=fun k=>cntX_mov f t o k
  have hbx:boxP p r X=boxP p r (movX f t o X):=by
   show BoxA p _ (X.map slM++_)=BoxA p _ ((movX f t o X).map slM++_)
   rw [hY.sl]
  rw [hbx] at S
  have hX2:XOk (movX f t o X):=hY.ok
  refine cond_d (fun (hg:cntX X f>0)=>?_) (fun (hg:¬ cntX X f>0)=>?_)
  case refine_2=>
   have hcf:=(hcn f).1
   have e:cntX X=cntX (movX f t o X):=funext fun k=>by
    rw [hm,show cntX X f=0 by omega]
    split <;> split <;> omega
   rw [e] at S
   exact ⟨fun h=>absurd h hno,fun _=>⟨rfl,S.sel [3,3,3] rfl⟩⟩
  refine S.la2 rfl (S.la1 rfl (eqPl ?_))
  rw [hft (show _↔f=t from ⟨fun h=>Prod.ext h.1 h.2,fun h=>by rw [h];exact ⟨rfl,rfl⟩⟩)]
  rw [decide_eq_false hne]
  refine cond_t rfl ?_
  have S:=S.sel [4,0,0,0,0,0] rfl
  refine Sep.regC [_] S fun G D hG T S hDt hDo hkeep back=>?_
  refine ⟨by rw [add_block];exact hDt 3 _ _ _ rfl,ld4P hX2.four 4 S rfl ⟨hDt 1 _ _ _ rfl,S.la2 rfl ?_⟩⟩
  refine T.updM (k:=t) 0 rfl fun w3 T f3=>?_
  refine ⟨hkeep _ T.fr,?_⟩
  have S:=back _ _ T
  dsimp only [List.set_cons_zero,List.cons_append,List.nil_append] at S
  refine Sep.regC [_] S fun G D hG T S hDt hDo hkeep back=>?_
  refine ⟨by rw [add_block];exact hDt 3 _ _ _ rfl,ld4P hX2.four 4 S rfl ⟨hDt 2 _ _ _ rfl,S.la3 rfl ?_⟩⟩
  refine T.delM (k:=f) 0 rfl fun w4 T f4=>?_
  refine ⟨hkeep _ T.fr,?_⟩
  have S:=back _ _ T
  dsimp only [List.set_cons_zero,List.cons_append,List.nil_append] at S
  have e:updM (updM (cntX X) t (cntX X f)) f 0=cntX (movX f t o X):=funext fun k=>by
   rw [hm]
   unfold updM
   have hct:=(hcn t).1
   by_cases h1:k=f
   ·rw [if_pos h1,if_pos h1,if_neg (fun e=>hne (h1.symm.trans e)),h1];omega
   ·rw [if_neg h1,if_neg h1]
    by_cases h2:k=t
    ·rw [if_pos h2,if_pos h2,h2,show cntX X t=0 by omega];omega
    ·rw [if_neg h2,if_neg h2];omega
  rw [e] at S
  exact ⟨fun h=>absurd h hno,fun _=>⟨rfl,S.sel [4,0,3] rfl⟩⟩
 rw [decide_eq_true hne]
 refine cond_f rfl ?_
 have hno:¬ (f≠t∧0<cntX X t):=fun h=>h.1 hne
 clear hD hkeep U
 refine S.reg fun D hD hkeep S U=>?_
 have hp1:=hlb S 3 rfl
 refine ⟨hD _ hp1,ld4P hX.four 3 S rfl ⟨hD _ S.bl2,S.la2 rfl ?_⟩⟩
 refine S.lookM (k:=f) 4 rfl ?_
 refine ⟨hkeep _ U.fr,?_⟩
 clear hD hkeep U
 have hsl:=(S.cells 3 rfl).take 4
 rw [List.take_append_of_le_length (by rw [List.length_map,hX.four];exact Nat.le_refl _),List.take_of_length_le (by rw [List.length_map,hX.four];exact Nat.le_refl _)] at hsl
 have h4:X.map slM=[.slice (getX X 0).a (getX X 0).n (getX X 0).c,.slice (getX X 1).a (getX X 1).n (getX X 1).c,.slice (getX X 2).a (getX X 2).n (getX X 2).c,.slice (getX X 3).a (getX X 3).n (getX X 3).c]:=by
  have:=hX.four
  match X,this with
  | [a,b,c,d],_=>rfl
 rw [h4] at hsl
 refine ⟨(⟨(getX X 0).a,(getX X 0).n,(getX X 0).c⟩,⟨(getX X 1).a,(getX X 1).n,(getX X 1).c⟩,⟨(getX X 2).a,(getX X 2).n,(getX X 2).c⟩,⟨(getX X 3).a,(getX X 3).n,(getX X 3).c⟩,()),hsl,?_⟩
 clear hsl
 refine Loop1 (fun (v:Int×Unit) w'=>∃ (a:Int) (Y:List (SlP Ce)),v.1=a∧(0≤a∧a≤4)∧MovI f t o X a 0 Y∧Sep E w0 w' [BoxA b5 62 o.vs,BoxA b3 81 [.int .i64 t.1,.int .i64 t.2],BoxA b1 81 [.int .i64 f.1,.int .i64 f.2],boxP p r X,MapF r (cntX X),ownsA Y])
  (fun (v:Int×Unit) _=>(4-v.1).toNat) ⟨0,X,rfl,by omega,.nil hX,S⟩ ?_
 clear S
 rintro ⟨(v:Int),⟨⟩⟩ w2 ⟨a,Y,hv,ha,hY,S⟩
 dsimp only at hv ⊢
 subst hv
 refine cond_d (fun hlt=>?_) (fun hge=>?_)
 ·have hn:0≤v∧v<4:=⟨ha.1,hlt⟩
  refine ⟨hn,⟨(getX X v).a,(getX X v).n,(getX X v).c⟩,?_,?_⟩
  ·have:v=0∨v=1∨v=2∨v=3:=by omega
   rcases this with e | e | e | e <;> subst e <;> rfl
  dsimp only
  have hln:=hX.get v
  refine Loop1 (fun (u:Int×Unit) w'=>∃ (i:Nat) (Y:List (SlP Ce)),u.1=(i:Int)∧i≤(getX X v).n∧MovI f t o X v i Y∧Sep E w0 w' [BoxA b5 62 o.vs,BoxA b3 81 [.int .i64 t.1,.int .i64 t.2],BoxA b1 81 [.int .i64 f.1,.int .i64 f.2],boxP p r X,MapF r (cntX X),ownsA Y])
   (fun (u:Int×Unit) _=>(((getX X v).n:Int)-u.1).toNat) ⟨0,Y,rfl,by omega,hY,S⟩ ?_
  clear S hY
  rintro ⟨(u:Int),⟨⟩⟩ w3 ⟨i,Y,hu,hi,hY,S⟩
  dsimp only at hu ⊢
  subst hu
  obtain ⟨g1,g2,g3⟩:=sl_all hY.ok.four hX.four hY.sl v
  refine cond_d (fun hlt2=>?_) (fun hge2=>?_)
  ·have rg:Rng .i64 ((i:Int)+1):=Rng.i64 (by omega) (by omega)
   obtain ⟨q,x,hq,hx,hcx,hqb⟩:=cellR hY.ok.four hn 5 S rfl (j:=(i:Int)) (by omega) (by rw [g2];exact hlt2)
   rw [Int.toNat_natCast] at hx
   have hxX:(getX X v).l[i]? = some x:=by rw [hY.cell v i hn,if_neg (by omega)] at hx;exact hx
   refine ⟨⟨by omega,hlt2⟩,q,g1 ▸ hq,x.tup,hcx,?_⟩
   refine S.newB fun b30 w4 S f4 _=>?_
   refine S.st0 (by rfl) fun w5 S f5=>?_
   have skip:movC f t o x=x→Rng .i64 ((i:Int)+1)∧(∃ (i':Nat) (Y:List (SlP Ce)),(i:Int)+1=(i':Int)∧i'≤(getX X v).n∧MovI f t o X v i' Y∧Sep E w0 w5 [BoxA b5 62 o.vs,BoxA b3 81 [.int .i64 t.1,.int .i64 t.2],BoxA b1 81 [.int .i64 f.1,.int .i64 f.2],boxP p r X,MapF r (cntX X),ownsA Y])∧(((getX X v).n:Int)-((i:Int)+1)).toNat<(((getX X v).n:Int)-(i:Int)).toNat:=fun he=>
    ⟨rg,⟨i+1,Y,by push_cast;rfl,by omega,hY.skip hxX he,S.sel [1,1,1,1,1,1] rfl⟩,by omega⟩
   refine S.ld0 (j:=0) rfl rfl (cond_of (fun (hh:x.has=true)=>?_) (fun (hh:x.has=false)=>skip (by unfold movC;rw [if_neg (fun e=>by rw [hh] at e;cases e.1)])))
   refine S.lb0 (o:=1) rfl (S.la3 rfl (eqPl (cond_d (fun e=>?_) (fun e=>skip (by unfold movC;rw [if_neg (fun k=>e ⟨by have:=congrArg Prod.fst k.2;exact this,by have:=congrArg Prod.snd k.2;exact this⟩)])))))
   have hxf:x.pl=f:=Prod.ext e.1 e.2
   have hmv:movC f t o x=⟨true,⟨t.1,t.2,x.s.h,o⟩⟩:=by unfold movC;rw [if_pos ⟨hh,hxf⟩]
   have S:=S.sel [6,0,0,0,0,0,0] rfl
   refine Sep.regC [_] S fun G D hG T S hDt hDo hkeep back=>?_
   refine ⟨hDt 2 _ _ _ rfl,S.la3 rfl ⟨hDt 1 _ _ _ rfl,S.la2 rfl ⟨⟨by omega,hlt2⟩,q,g1 ▸ hq,?_⟩⟩⟩
   rw [Int.toNat_natCast]
   have hin:i<(getX Y v).n:=by rw [g2];omega
   refine cellP hY.ok.four hn 0 T rfl hq hin hx 1 ⟨x.has,⟨t.1,t.2,x.s.h,x.s.o⟩⟩ (by show 1+2≤15;decide) rfl fun w6 T f6=>⟨hkeep _ T.fr,⟨by omega,hlt2⟩,q,g1 ▸ hq,?_⟩
   have hY2:XOk (setX Y v i ⟨x.has,⟨t.1,t.2,x.s.h,x.s.o⟩⟩):=hY.ok.set
   have gs:=setX_get hY.ok.four hn (j:=i) (c:=⟨x.has,⟨t.1,t.2,x.s.h,x.s.o⟩⟩) v
   rw [if_pos rfl] at gs
   have hil:i<(getX Y v).l.length:=(List.getElem?_eq_some_iff.1 hx).1
   rw [add_add (q.add _)]
   refine cellP hY2.four hn 0 T rfl (by rw [gs];exact hq) (by rw [gs];exact hin) (x:=⟨x.has,⟨t.1,t.2,x.s.h,x.s.o⟩⟩) (by rw [gs];show ((getX Y v).l.set i _)[i]? = _;rw [List.getElem?_set,if_pos rfl,if_pos hil]) (1+8) ⟨x.has,⟨t.1,t.2,x.s.h,o⟩⟩ (by show 1+8+6≤15;decide) rfl fun w7 T f7=>⟨hkeep _ T.fr,rg,⟨i+1,_,by push_cast;rfl,by omega,hY.put hn hxX,?_⟩,by omega⟩
   have e2:setX (setX Y v i ⟨x.has,⟨t.1,t.2,x.s.h,x.s.o⟩⟩) v i ⟨x.has,⟨t.1,t.2,x.s.h,o⟩⟩=setX Y v i (movC f t o x):=by
    rw [hmv,hh]
    unfold setX
    rw [List.set_set]
    have gs':=gs
    unfold setX at gs'
    rw [hh] at gs'
    rw [gs',List.set_set]
   have S:=back _ _ T
   dsimp only [List.set_cons_zero] at S
   rw [e2] at S
   exact S.sel [2,2,2,2,2,0] rfl
  ·have hie:i=(getX X v).n:=by omega
   subst hie
   exact ⟨Rng.i64 (by omega) (by omega),⟨v+1,Y,rfl,by omega,hY.next hX,S⟩,by omega⟩
 have hv4:v=4:=by omega
 subst hv4
 have hYe:=hY.end hX
 subst hYe
 have hm:∀ k,cntX (movX f t o X) k=_:=fun k=>cntX_mov f t o k
 have hbx:boxP p r X=boxP p r (movX f t o X):=by
  show BoxA p _ (X.map slM++_)=BoxA p _ ((movX f t o X).map slM++_)
  rw [hY.sl]
 rw [hbx] at S
 have hX2:XOk (movX f t o X):=hY.ok
 refine cond_d (fun (hg:cntX X f>0)=>?_) (fun (hg:¬ cntX X f>0)=>?_)
 case refine_2=>
  have hcf:=(hcn f).1
  have e:cntX X=cntX (movX f t o X):=funext fun k=>by
   rw [hm,show cntX X f=0 by omega]
   split <;> split <;> omega
  rw [e] at S
  exact ⟨fun h=>absurd h hno,fun _=>⟨rfl,S.sel [3,3,3] rfl⟩⟩
 refine S.la2 rfl (S.la1 rfl (eqPl ?_))
 rw [hft (show _↔f=t from ⟨fun h=>Prod.ext h.1 h.2,fun h=>by rw [h];exact ⟨rfl,rfl⟩⟩)]
 rw [decide_eq_true hne]
 refine cond_f rfl ?_
 have e:cntX X=cntX (movX f t o X):=funext fun k=>by
  rw [hm,hne]
  split <;> omega
 rw [e] at S
 exact ⟨fun h=>absurd h hno,fun _=>⟨rfl,S.sel [3,3,3] rfl⟩⟩
end
end Go.Proofs.YtbaojfchlhlaeaaGreat.Vc
namespace Go.Proofs
open Go.Shelf Go.RowKit Go.Lib Go.Sort
set_option maxHeartbeats 4000000 in
theorem Tryz.lessS_walk (x y:Go.Proofs.YtbaojfchlhlaeaaGreat.Vc.Sp) (W:World):Calls Tryz.prog 127 #[x.val,y.val] W fun e w'=>e=.returned (.int .i64 (Tryz.plC (x.b,x.p) (y.b,y.p)))∧∃ q os',w'=grow (W.drewN q) os':=by
 obtain ⟨x1,x2,⟨x3,x4,x5,x6,x7,x8⟩,⟨x9,x10,x11,x12,x13,x14⟩⟩:=x
 obtain ⟨y1,y2,⟨y3,y4,y5,y6,y7,y8⟩,⟨y9,y10,y11,y12,y13,y14⟩⟩:=y
 have hcon:=fun W'=>Tryz.less_walk (x1,x2) (y1,y2) W'
 dsimp only at hcon ⊢
 change ∀ W',Calls Tryz.prog 128 _ _ _ at hcon
 generalize Tryz.plC (x1,x2) (y1,y2)=r at hcon ⊢
 go_enter Tryz.func127,Tryz.ntmps127
 go_wp2_with (go_at_call 128;refine (hcon _).mono ?_;rintro e w' ⟨rfl,q,os,rfl⟩)
 go_ret
 exact ⟨rfl,q,_,by rw [alloc_eq_grow,alloc_eq_grow,grow_grow];show grow (grow (W.drewN q) _) os=_;rw [grow_grow]⟩
end Go.Proofs
namespace Go.Proofs.YtbaojfchlhlaeaaGreat.Vc
open Go Go.Eng Go.RowKit Go.Shelf Go.Proofs
theorem lessS_enters:∀ args w,(callFunc 127 args).run Tryz.prog w=.ok (.enter 127 args) w:=enters_of Tryz.func127 (by kernel_rfl) rfl
abbrev Sp.pk (s:Sp):Int×Int:=(s.b,s.p)
abbrev BdS:={s:Sp // Bd s.pk}
instance:Inhabited BdS:=⟨⟨Sp0,by unfold Bd;decide⟩⟩
def cfS (x y:BdS):Int:=Tryz.plC x.1.pk y.1.pk
def encS (x:BdS):List Value:=x.1.vs
theorem encS_len (x:BdS):(encS x).length=14:=rfl
theorem encS_one (x:BdS):∀ v∈encS x,v.oneCell'=true:=fun v hv=>by
 simp [encS] at hv
 rcases hv with h | h | h | h | h | h | h | h | h | h | h | h | h | h <;> subst h <;> rfl
theorem cfS_lt (x y:BdS):ltOf cfS x y=true↔plL x.1.pk y.1.pk:=by
 unfold ltOf
 rw [decide_eq_true_iff]
 exact plC_lt0 x.1.pk y.1.pk x.2 y.2
theorem cfS_swo:Go.Sort.SWO (ltOf cfS) where
 irrefl x:=Bool.eq_false_iff.2 fun h=>by have:=(cfS_lt x x).1 h;unfold plL at this;omega
 trans x y z h1 h2:=by rw [cfS_lt] at *;unfold plL at *;omega
 ntrans x y z h1 h2:=by
  rw [Bool.eq_false_iff,Ne,cfS_lt] at *;unfold plL at *;omega
abbrev outS (a:Option Addr) (n c:Nat) (L:List Sp):Asr:=OwnA 83 14 a n c (L.flatMap Sp.vs)
theorem Spv_len (s:Sp):s.vs.length=14:=rfl
theorem sortSp_c {E:Nat→Prop} {w0 w:World} {Rs:List Asr} {a:Option Addr} {n c:Nat} {L:List Sp} (hB:∀ s∈L,Bd s.pk) (hn:n≤1000000) (S:Sep E w0 w (outS a n c L::Rs)) :
  CallV Tryz.prog 126 #[.slice a n c,.func (.func 127) #[] #[]] w [] fun _ w'=>∃ L',(L'.Perm L∧L'.Pairwise fun x y=>¬ plL y.pk x.pk)∧Sep E w0 w' (outS a n c L'::Rs):=by
 have o:=S.own 0 rfl
 rcases o.at_ with ⟨h1,h2,h3⟩ | ⟨b,cs,h1,-⟩
 ·have h0:L=[]:=by cases L with | nil=>rfl | cons x l=>cases h3
  subst h0
  have hn0:n=0:=by have:=o.len;simp at this;omega
  subst hn0
  exact Calls.mono (Go.Proofs.AnyF.slices_SortFunc_none Tryz.srtS a c _ w) fun e w' ⟨h1,h2⟩=>⟨(),h1,[],⟨.refl _,.nil⟩,by rw [h2];exact S⟩
 subst h1
 obtain ⟨M,rfl⟩:∃ M:List BdS,L=M.map (·.1):=⟨L.pmap Subtype.mk hB,by rw [List.map_pmap];simp⟩
 have e:∀ M:List BdS,(M.map (·.1)).flatMap Sp.vs=M.flatMap encS:=fun M=>by rw [List.flatMap_map];rfl
 have hL:M.length=n:=by have:=o.len;rw [flat_len Spv_len] at this;simp at this;omega
 unfold outS at S
 rw [e] at S o
 have h:=AnyQ.slices_SortFunc Tryz.srtS 14 Tryz.isAgg83 Tryz.sizeOf83 encS encS_len encS_one cfS cfS_swo 127 #[] b 0 c M.toArray w lessS_enters (fun _ _ _ _ x y=>Tryz.lessS_walk x.1 y.1 _) (Own.holdsK encS_len (d:=M.toArray) o) (o.lt _ rfl) (by simp [hL];omega)
 rw [show M.toArray.size=n by simpa using hL] at h
 refine h.mono fun e' w' ⟨he,d',m,os,hp,hs,hw⟩=>⟨(),he,?_⟩
 subst hw
 have hsz:d'.size=M.length:=by simpa using hp.1
 refine ⟨d'.toList.map (·.1),⟨?_,?_⟩,?_⟩
 ·have:=hp.2.2
  rw [show n=d'.size by omega,Array.extract_size,show d'.size=M.toArray.size by simpa using hsz,Array.extract_size] at this
  exact this.map _
 ·rw [List.pairwise_map]
  have:=sortedIn_pw (d:=d') (by rw [hsz,hL];exact hs)
  exact this.imp fun {x y} h=>fun k=>by rw [(cfS_lt y x).2 k] at h;cases h
 ·unfold outS
  rw [e]
  exact S.sorted encS_len encS_one hsz m os
end Go.Proofs.YtbaojfchlhlaeaaGreat.Vc
namespace Go.Proofs.YtbaojfchlhlaeaaGreat.Vc
open Go Go.Eng Go.RowKit
theorem SpS_one (s:Sp):oneAll s.vs:=fun u hu=>by
 simp only [List.mem_cons,List.not_mem_nil,or_false] at hu
 rcases hu with h | h | h | h | h | h | h | h | h | h | h | h | h | h <;> subst h <;> rfl
structure InI (X:List (SlP Ce)) (blk:Int) (a:Int) (b:Nat) (O:List Sp):Prop where
 nd:(O.map Sp.pk).Nodup
 ok:∀ s∈O,s.b=blk∧1≤cntX X s.pk
 all:∀ (ns:Int) (j:Nat) (c:Ce),(0≤ns∧ns<4)→(ns<a∨(ns=a∧j<b))→(getX X ns).l[j]? = some c→c.has=true→c.s.b=blk→c.s.pk∈O.map Sp.pk
theorem InI.nil {X:List (SlP Ce)} {blk:Int}:InI X blk 0 0 []:=⟨.nil,fun s h=>(List.not_mem_nil h).elim,fun ns j c h1 h2=>by omega⟩
theorem InI.next {X:List (SlP Ce)} {blk a:Int} {O:List Sp} (hX:XOk X) (h:InI X blk a (getX X a).n O):InI X blk (a+1) 0 O:=⟨h.nd,h.ok,fun ns j c h1 h2 hc=>by
 by_cases h3:ns<a
 ·exact h.all ns j c h1 (.inl h3) hc
 ·have h4:ns=a:=by omega
  subst h4
  exact h.all ns j c h1 (.inr ⟨rfl,by rw [←(hX.get ns).1];exact (List.getElem?_eq_some_iff.1 hc).1⟩) hc⟩
theorem InI.skip {X:List (SlP Ce)} {blk a:Int} {b:Nat} {O:List Sp} {x:Ce} (h:InI X blk a b O) (hx:(getX X a).l[b]? = some x) (hs:x.has=true→x.s.b=blk→x.s.pk∈O.map Sp.pk):InI X blk a (b+1) O:=⟨h.nd,h.ok,fun ns j c h1 h2 hc hh hb=>by
 by_cases h3:ns=a∧j=b
 ·obtain ⟨rfl,rfl⟩:=h3
  rw [hx] at hc
  cases hc
  exact hs hh hb
 ·exact h.all ns j c h1 (by omega) hc hh hb⟩
theorem InI.put {X:List (SlP Ce)} {blk a:Int} {b:Nat} {O:List Sp} {x:Ce} (hX:XOk X) (ha:0≤a∧a<4) (h:InI X blk a b O) (hx:(getX X a).l[b]? = some x) (hh:x.has=true) (hb:x.s.b=blk) (hn:x.s.pk∉O.map Sp.pk):InI X blk a (b+1) (O++[x.s]):=by
 refine ⟨?_,fun s hs=>?_,fun ns j c h1 h2 hc hh2 hb2=>?_⟩
 ·rw [List.map_append,List.nodup_append]
  refine ⟨h.nd,by simp,fun u hu v hv e=>?_⟩
  have hv:v=x.s.pk:=List.mem_singleton.1 hv
  rw [e,hv] at hu
  exact hn hu
 ·rcases List.mem_append.1 hs with hs | hs
  ·exact h.ok s hs
  ·rw [List.mem_singleton.1 hs]
   exact ⟨hb,cntX_pos hX.four ha hx hh⟩
 ·rw [List.map_append,List.mem_append]
  by_cases h3:ns=a∧j=b
  ·obtain ⟨rfl,rfl⟩:=h3
   rw [hx] at hc
   cases hc
   exact .inr (List.mem_singleton.2 rfl)
  ·exact .inl (h.all ns j c h1 (by omega) hc hh2 hb2)
structure InF (X:List (SlP Ce)) (blk:Int) (O:List Sp):Prop where
 so:O.Pairwise fun x y=>plL x.pk y.pk
 ok:∀ s∈O,s.b=blk∧1≤cntX X s.pk
 all:∀ c∈flatX X,c.has=true→c.s.b=blk→c.s.pk∈O.map Sp.pk
theorem InI.fin {X:List (SlP Ce)} {blk:Int} {O O':List Sp} (hX:XOk X) (h:InI X blk 4 0 O) (hp:O'.Perm O) (hs:O'.Pairwise fun x y=>¬ plL y.pk x.pk):InF X blk O':=by
 refine ⟨?_,fun s hs=>h.ok s (hp.mem_iff.1 hs),fun c hc hh hb=>?_⟩
 ·have hn:(O'.map Sp.pk).Nodup:=(hp.map Sp.pk).nodup_iff.2 h.nd
  have hn2:O'.Pairwise fun x y=>x.pk≠y.pk:=List.pairwise_map.1 hn
  refine (hs.and hn2).imp fun {x y} ⟨h1,h2⟩=>?_
  have h3:¬ (x.pk.1=y.pk.1∧x.pk.2=y.pk.2):=fun e=>h2 (Prod.ext e.1 e.2)
  unfold plL at h1 ⊢
  omega
 ·obtain ⟨x,hx,hc⟩:=List.mem_flatMap.1 hc
  obtain ⟨i,hi,rfl⟩:=List.getElem_of_mem hx
  obtain ⟨j,hj⟩:=List.getElem?_of_mem hc
  have h4:=hX.four
  have hg:=getX_at h4 (ns:=(i:Int)) (by omega)
  rw [Int.toNat_natCast,List.getElem?_eq_getElem hi] at hg
  rw [Option.some.inj hg] at hj
  have:=h.all (i:Int) j c (by omega) (.inl (by omega)) hj hh hb
  exact (hp.map Sp.pk).mem_iff.2 this
section
variable {E:Nat→Prop} {w0 w:World} {p r:Nat} {X:List (SlP Ce)} {m:Int×Int→Int} {Rs:List Asr}
theorem In22_c {blk:Int} (hX:XOk X) (hB:∀ (ns:Int) (j:Nat) (c:Ce),(0≤ns∧ns<4)→(getX X ns).l[j]? = some c→c.has=true→Bd c.s.pk) (S:Sep E w0 w [boxP p r X,MapF r m,ownsA X]) :
  CallV Tryz.prog 53 #[.pointer (some ⟨p,0,none⟩),.int .i64 blk] w [.one .sl] fun rr w'=>∃ O,InF X blk O∧O.length≤262140∧Sep E w0 w' [outS rr.1.a rr.1.n rr.1.c O,boxP p r X,MapF r m,ownsA X]:=by
 apply pagemap_Map_In.vc
 unfold pagemap_Map_In.P
 have h4:=hX.four
 refine S.newM fun b1 w1 S f1 _=>?_
 have S:=S.nilOwn 83 14
 refine Loop1 (fun (v:SlV×Int×Unit) w'=>∃ (O:List Sp) (sn:Int×Int→Int),(0≤v.2.1∧v.2.1≤4)∧InI X blk v.2.1 0 O∧(O.length:Int)≤65535*v.2.1∧(∀ s∈O,Bd s.pk)∧(∀ k,sn k=if k∈O.map Sp.pk then 1 else 0)∧Sep E w0 w' [outS v.1.a v.1.n v.1.c O,MapF b1 sn,boxP p r X,MapF r m,ownsA X])
  (fun (v:SlV×Int×Unit) _=>(4-v.2.1).toNat) ⟨[],_,⟨by decide,by decide⟩,.nil,by decide,fun s hs=>(List.not_mem_nil hs).elim,fun k=>rfl,S⟩ ?_
 clear S
 rintro ⟨⟨oa,on,oc⟩,(v:Int),⟨⟩⟩ w2 ⟨O,sn,hv,hI,hOl,hOB,hsn,S⟩
 dsimp only at hv hI hOl S ⊢
 refine cond_d (fun hlt=>?_) (fun hge=>?_)
 case refine_2=>
  have hv4:v=4:=by omega
  subst hv4
  have hl:=(S.own 0 rfl).lenF Spv_len (by decide)
  refine (sortSp_c hOB (by omega) S).mono ?_
  rintro ⟨⟩ w3 ⟨O',⟨hp,hs⟩,S⟩
  exact ⟨O',hI.fin hX hp hs,by rw [hp.length_eq];omega,S.sel [0,1,1,1] rfl⟩
 have hn:0≤v∧v<4:=⟨hv.1,hlt⟩
 refine (own22_c (ns:=v) h4 (toQ (S.sel [2,2,2] rfl))).mono ?_
 rintro ⟨_,⟨⟩⟩ w3 ⟨h3,e3⟩
 subst e3
 dsimp only at h3
 subst h3
 dsimp only
 have hln:=hX.get v
 have h40:=hln.2
 refine Loop1 (fun (u:SlV×Int×Unit) w'=>∃ (i:Nat) (O:List Sp) (sn:Int×Int→Int),u.2.1=(i:Int)∧i≤(getX X v).n∧InI X blk v i O∧(O.length:Int)≤65535*v+i∧(∀ s∈O,Bd s.pk)∧(∀ k,sn k=if k∈O.map Sp.pk then 1 else 0)∧Sep E w0 w' [outS u.1.a u.1.n u.1.c O,MapF b1 sn,boxP p r X,MapF r m,ownsA X])
  (fun (u:SlV×Int×Unit) _=>(((getX X v).n:Int)-u.2.1).toNat) ⟨0,O,sn,rfl,by omega,hI,by omega,hOB,hsn,S⟩ ?_
 clear S hI hOl hOB hsn
 rintro ⟨⟨oa,on,oc⟩,(u:Int),⟨⟩⟩ w4 ⟨i,O,sn,hu,hi,hI,hOl,hOB,hsn,S⟩
 dsimp only at hu S ⊢
 subst hu
 refine cond_d (fun hlt2=>?_) (fun hge2=>?_)
 case refine_2=>
  have hie:i=(getX X v).n:=by omega
  subst hie
  exact ⟨Rng.i64 (by omega) (by omega),⟨O,sn,by omega,hI.next hX,by omega,hOB,hsn,S⟩,by omega⟩
 have rg:Rng .i64 ((i:Int)+1):=Rng.i64 (by omega) (by omega)
 obtain ⟨q,x,hq,hx,hcx,hqb⟩:=cellR h4 hn 4 S rfl (j:=(i:Int)) (by omega) hlt2
 rw [Int.toNat_natCast] at hx
 refine ⟨⟨by omega,hlt2⟩,q,hq,x.tup,hcx,?_⟩
 refine S.newB fun b13 w5 S f5 _=>?_
 refine S.st0 (by rfl) fun w6 S f6=>?_
 have skip:∀ {w':World},(x.has=true→x.s.b=blk→x.s.pk∈O.map Sp.pk)→Sep E w0 w' [outS oa on oc O,MapF b1 sn,boxP p r X,MapF r m,ownsA X]→(∃ (i':Nat) (O':List Sp) (sn':Int×Int→Int),(i:Int)+1=(i':Int)∧i'≤(getX X v).n∧InI X blk v i' O'∧(O'.length:Int)≤65535*v+i'∧(∀ s∈O',Bd s.pk)∧(∀ k,sn' k=if k∈O'.map Sp.pk then 1 else 0)∧Sep E w0 w' [outS oa on oc O',MapF b1 sn',boxP p r X,MapF r m,ownsA X])∧(((getX X v).n:Int)-((i:Int)+1)).toNat<(((getX X v).n:Int)-(i:Int)).toNat:=fun hs S=>
  ⟨⟨i+1,O,sn,by push_cast;rfl,by omega,hI.skip hx hs,by push_cast;omega,hOB,hsn,S⟩,by omega⟩
 refine S.ld0 (j:=0) rfl rfl (cond_of (fun (hh:x.has=true)=>?_) (fun (hh:x.has=false)=>⟨rg,skip (fun e=>by rw [hh] at e;cases e) S.tail⟩))
 refine S.ld0 (j:=1) rfl rfl (cond_eq (fun (hb:x.s.b=blk)=>?_) (fun (hb:x.s.b≠blk)=>⟨rg,skip (fun _ e=>absurd e hb) S.tail⟩))
 refine S.lb0 (o:=1) rfl ?_
 refine S.lookM (k:=x.s.pk) 2 rfl ?_
 refine cond_eq (fun (h0:sn x.s.pk=0)=>?_) (fun (h0:sn x.s.pk≠0)=>⟨rg,skip (fun _ _=>?_) S.tail⟩)
 case refine_2=>
  refine Classical.byContradiction fun e=>h0 ?_
  rw [hsn,if_neg e]
 have hnm:x.s.pk∉O.map Sp.pk:=fun e=>by rw [hsn,if_pos e] at h0;cases h0
 have hxB:=hB v i x hn hx hh
 have hon:O.length=on:=(S.own 1 rfl).lenF Spv_len (by decide)
 have S:=S.sel [2,0,0,0,0,0] rfl
 refine Sep.regC [_] S fun G D hG T S hDt hDo hkeep back=>?_
 have hGr:G b1:=by
  obtain ⟨F,⟨h1,l,cc,h2,-⟩,h3⟩:=T.get (i:=0) rfl
  exact (h3 b1 h1).1.resolve_right (fun h=>by have:=(Array.getElem?_eq_some_iff.1 h2).1;omega)
 have hk2:=fun w' (f:Fr (fun k=>k=b1) _ w')=>hkeep w' (f.mono fun k hk=>by subst hk;exact hGr)
 have rv:Rng .i64 (sn x.s.pk+1):=by rw [h0];exact Rng.i64 (by decide) (by decide)
 have hsn':∀ k,updM sn x.s.pk (sn x.s.pk+1) k=if k∈(O++[x.s]).map Sp.pk then 1 else 0:=fun k=>by
  unfold updM
  rw [h0]
  by_cases e:k=x.s.pk
  ·rw [if_pos e,if_pos (by rw [List.map_append,List.mem_append];exact .inr (List.mem_singleton.2 e))];rfl
  ·rw [if_neg e,hsn]
   by_cases e2:k∈O.map Sp.pk
   ·rw [if_pos e2,if_pos (by rw [List.map_append,List.mem_append];exact .inl e2)]
   ·rw [if_neg e2,if_neg (by rw [List.map_append,List.mem_append];exact fun h=>h.elim e2 fun h=>e (List.mem_singleton.1 h))]
 have app:∀ {w':World},Sep E w0 w' [MapF b1 (updM sn x.s.pk (sn x.s.pk+1)),BoxA b13 178 x.vs,outS oa on oc O,boxP p r X,MapF r m,ownsA X]→LoadA w' ⟨b13,1,none⟩ SH14 fun (y:Int×Int×Int×Int×Int×Int×Int×Int×Int×Int×Int×Int×Int×Int×Unit)=>
   NewV #[.int .i64 y.1,.int .i64 y.2.1,.int .i64 y.2.2.1,.int .i64 y.2.2.2.1,.int .i64 y.2.2.2.2.1,.int .u32 y.2.2.2.2.2.1,.int .u64 y.2.2.2.2.2.2.1,.int .u64 y.2.2.2.2.2.2.2.1,.int .i64 y.2.2.2.2.2.2.2.2.1,.int .i64 y.2.2.2.2.2.2.2.2.2.1,.int .i64 y.2.2.2.2.2.2.2.2.2.2.1,.int .u32 y.2.2.2.2.2.2.2.2.2.2.2.1,.int .u64 y.2.2.2.2.2.2.2.2.2.2.2.2.1,.int .u64 y.2.2.2.2.2.2.2.2.2.2.2.2.2.1] 83 w' fun b w2=>
    AppS w2 (some ⟨b,0,none⟩) 1 14 fun ns=>AppV w2 83 14 112 oa on oc ns 1 fun a' n' c' w3=>Rng .i64 ((i:Int)+1)∧(∃ (i':Nat) (O':List Sp) (sn':Int×Int→Int),(i:Int)+1=(i':Int)∧i'≤(getX X v).n∧InI X blk v i' O'∧(O'.length:Int)≤65535*v+i'∧(∀ s∈O',Bd s.pk)∧(∀ k,sn' k=if k∈O'.map Sp.pk then 1 else 0)∧Sep E w0 w3 [outS a' n' c' O',MapF b1 sn',boxP p r X,MapF r m,ownsA X])∧(((getX X v).n:Int)-((i:Int)+1)).toNat<(((getX X v).n:Int)-(i:Int)).toNat:=fun S=>by
  refine S.lb1 (o:=1) rfl ?_
  refine S.newB (vs:=x.s.vs) fun b9 w9 S f9 _=>?_
  refine AppS.of (news:=x.s.vs) rfl (.inr ⟨_,rfl,S.cells 0 rfl⟩) ?_
  refine S.ap3 rfl (SpS_one x.s) (by omega) (by omega) fun a' c' w10 S f10=>⟨rg,⟨i+1,O++[x.s],_,by push_cast;rfl,by omega,hI.put hX hn hx hh hb hnm,by rw [List.length_append];push_cast;simp;omega,fun s hs=>?_,hsn',?_⟩,by omega⟩
  ·rcases List.mem_append.1 hs with hs | hs
   ·exact hOB s hs
   ·rw [List.mem_singleton.1 hs];exact hxB
  ·have e:(O++[x.s]).flatMap Sp.vs=O.flatMap Sp.vs++x.s.vs:=by rw [List.flatMap_append];simp
   show Sep E w0 w10 [OwnA _ _ _ _ _ ((O++[x.s]).flatMap Sp.vs),_,_,_,_]
   rw [e]
   exact S.sel [3,1,2,2,2] rfl
 refine ⟨hDt 0 _ _ _ rfl,S.lb1 (o:=1) rfl ⟨?_,?_⟩⟩
 ·refine T.incA (k:=x.s.pk) (fun x=>x+1) 0 rfl hk2 rv fun w7 T f7=>?_
  have S:=back _ _ T
  dsimp only [List.set_cons_zero,List.cons_append,List.nil_append] at S
  exact app S
 ·refine T.incB (k:=x.s.pk) (fun x=>x+1) 0 rfl hk2 rv fun w7 T f7=>?_
  have S:=back _ _ T
  dsimp only [List.set_cons_zero,List.cons_append,List.nil_append] at S
  exact app S
end
end Go.Proofs.YtbaojfchlhlaeaaGreat.Vc
