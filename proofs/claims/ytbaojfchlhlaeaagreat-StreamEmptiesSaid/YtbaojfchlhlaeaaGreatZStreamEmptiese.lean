/- Texts in one: The contracts of pool (layer 24): new, opened, written, copied. Places are the same where all their numbers are. Maps from places to numbers, as parts. The plans of functions as plain statements, printed by wip/tools/vcgen.py; the kernel holds each to the code. The contracts of layer 22 (pagemap): what is newer. The contracts of layer 22 (pagemap): the map's parts, and what only reads them. The contracts of layer 22 (pagemap): a new map, a namespace more, the sectors of which a spot speaks, a spot lost. The contract of slices.SortFunc, laid at this program by the library's own command, in plain words. The contracts of layer 22 (pagemap): places, sorted. Plain laws of layer 22 (pagemap): what a map holds, and how often each place is a spot's. Plain laws of layer 22 (pagemap): what a put leaves, and which places it tells. The contracts of the document's map of layer 22: what it tells. The contracts of the document's map of layer 22: what changes it. Plain laws of layer 22 (pagemap): the map and the document's list. Plain data of layer 25 (stream): what each of its operations makes of an array, a ledger, orders, and a map. The contracts of layer 22 (pagemap): a spot, put. The sort of the library, told in parts. The contracts of layer 22 (pagemap): places, sorted. -/
import Derived.Test.YtbaojfchlhlaeaaGreatZStreamEmptiesd
set_option linter.unusedVariables false
set_option linter.unusedSimpArgs false
namespace Go.Proofs.YtbaojfchlhlaeaaGreat.Vc
open Go Go.Eng Go.RowKit
theorem set_run {α:Type} (xs:List α) (k i:Nat) (v:α) (h:k+i<xs.length):(xs.take k++(List.replicate i v++xs.drop (k+i))).set (k+i) v=xs.take k++(List.replicate (i+1) v++xs.drop (k+(i+1))):=by
 have hk:(xs.take k).length=k:=by rw [List.length_take];omega
 rw [List.set_append_right _ _ (by omega),hk,show k+i-k=i by omega,List.set_append_right _ _ (by simp),List.length_replicate,Nat.sub_self,List.drop_eq_getElem_cons h,List.set_cons_zero,List.replicate_succ',List.append_assoc]
 rfl
def cpyL (xs:List Int):List Int:=xs.take (xs.length-8)++List.replicate 8 255
def cpyC (n:Nat) (C:CD) (b pa fb fp:Int):CD×Int:=if 0<=b/\b<(n:Int) then (if readC C fb fp=0 then prgP C (4+b) pa (cpyL (pgC13 C fb fp)) else (C,readC C fb fp)) else (C,2)
theorem cpyL_byt {xs:List Int} (bx:Byt xs):Byt (cpyL xs):=by
 intro v hv
 rcases List.mem_append.1 hv with h | h
 ·exact bx v (List.mem_of_mem_take h)
 ·rw [(List.mem_replicate.1 h).2];decide
section
variable {E:Nat->Prop} {w0 w:World} {pp p q n:Nat} {g:Geo} {s:SlV} {O:List Hd} {C:CD} {L:List Blk} {Rs:List Asr}
theorem Open24_c {ns:Int} {o:Hd} (h:PI g n C L O) (hr:o.rng) (ho:C.ops+768<=1000000000000) (S:Sep E w0 w (plS pp p q g s O C L Rs)) :
  CallV Tryz.prog 201 #[.pointer (some ⟨pp,0,none⟩),.int .i64 ns,o.val] w [.one (.int .i64),.one (.int .i64)] λr w'=>
   r.1=(opC ns o true C L O).2.1/\r.2.1=(opC ns o true C L O).2.2/\Sep E w0 w' (plS pp p q g s (opC ns o true C L O).1.2.2 (opC ns o true C L O).1.1 (opC ns o true C L O).1.2.1 Rs):=by
 apply pool_Pool_Open.vc
 unfold pool_Pool_Open.P
 refine S.newB λb1 w1 S f1 _=>S.la0 rfl ?_
 refine (open24_c (ns:=ns) (sl:=true) h hr ho (S.fro [1,1,1,1] rfl)).mono ?_
 rintro ⟨a,e,⟨⟩⟩ w2 ⟨h1,h2,S⟩
 exact ⟨h1,h2,(S.fro [4] rfl).tail⟩
theorem Begin24_c {ns:Int} {o:Hd} (h:PI g n C L O) (hr:o.rng) (ho:C.ops+768<=1000000000000) (S:Sep E w0 w (plS pp p q g s O C L Rs)) :
  CallV Tryz.prog 174 #[.pointer (some ⟨pp,0,none⟩),.int .i64 ns,o.val] w [.one (.int .i64),.one (.int .i64)] λr w'=>
   r.1=(opC ns o false C L O).2.1/\r.2.1=(opC ns o false C L O).2.2/\Sep E w0 w' (plS pp p q g s (opC ns o false C L O).1.2.2 (opC ns o false C L O).1.1 (opC ns o false C L O).1.2.1 Rs):=by
 apply pool_Pool_Begin.vc
 unfold pool_Pool_Begin.P
 refine S.newB λb1 w1 S f1 _=>S.la0 rfl ?_
 refine (open24_c (ns:=ns) (sl:=false) h hr ho (S.fro [1,1,1,1] rfl)).mono ?_
 rintro ⟨a,e,⟨⟩⟩ w2 ⟨h1,h2,S⟩
 exact ⟨h1,h2,(S.fro [4] rfl).tail⟩
theorem PI.R (h:PI g n C L O):Right g:=by have:=h.ok.g;rwa [h.gg] at this
theorem Copy24_c {b pa fb fp:Int} (h:PI g n C L O) (ho:C.ops+2<=1000000000000) (S:Sep E w0 w (plS pp p q g s O C L Rs)) :
  CallV Tryz.prog 209 #[.pointer (some ⟨pp,0,none⟩),.int .i64 b,.int .i64 pa,.agg #[.int .i64 fb,.int .i64 fp]] w [.one (.int .i64)] λr w'=>
   r.1=(cpyC n C b pa fb fp).2/\Sep E w0 w' (plS pp p q g s O (cpyC n C b pa fb fp).1 L Rs):=by
 apply pool_Pool_Copy.vc
 unfold pool_Pool_Copy.P
 simp only [Addr.add_lit,Nat.zero_add]
 have hnn:=plS_n S
 have hol:=h.ol
 have hle:=h.le
 obtain ⟨-,-,⟨n5,n6⟩,n7,n8⟩:=h.ok.num
 refine S.newB λb1 w1 S f1 _=>?_
 refine (has24_c (b:=b) (S.fro [1,1,1,1] rfl)).mono ?_
 rintro ⟨(r:Bool),⟨⟩⟩ w2 ⟨h2,rfl⟩
 dsimp only at h2 ⊢
 subst h2
 unfold cpyC
 by_cases hb:0<=b/\b<(n:Int)
 case neg=>exact cond_t (by rw [decide_eq_false (by omega)];rfl) (by rw [if_neg hb];exact ⟨rfl,S.tail⟩)
 refine cond_f (by rw [decide_eq_true (by omega)];rfl) ?_
 rw [if_pos hb]
 refine S.reg λD hD hkeep S T=>?_
 refine ⟨hD _ S.bl1,S.ld1 (j:=0) rfl rfl ⟨hD _ S.bl0,S.la0 rfl ?_⟩⟩
 refine (Read_e (bl:=fb) (pa:=fp) h.ok (S.fro [4] rfl)).mono ?_
 rintro ⟨⟨va,vn,vc⟩,(e:Int),⟨⟩⟩ w3 ⟨h3,h4,h5⟩
 dsimp only at h3 h4 h5 ⊢
 subst h3
 by_cases hrd:readC C fb fp=0
 case neg=>
  obtain ⟨-,x3⟩:=h4 hrd
  refine ⟨hkeep _ (T.stepE x3).fr,cond_t (by simpa using hrd) ?_⟩
  rw [if_neg hrd]
  exact ⟨rfl,(S.stepE x3).tail⟩
 have r3:=h5 hrd
 clear h4 h5
 rw [if_pos hrd]
 refine ⟨hkeep _ (T.stepE r3.ext).fr,cond_f (by rw [hrd];rfl) ?_⟩
 have hin:inC C fb fp:=by
  unfold readC at hrd
  split at hrd
  ·omega
  ·split at hrd
   ·assumption
   ·omega
 obtain ⟨-,hpl,bx⟩:=h.ok.page hin
 generalize pgC13 C fb fp=xs at r3 hpl bx ⊢
 have hlen:=r3.own.ints.len
 dsimp only at hlen
 have S:=S.pushO r3.ext r3.own
 have hvn:vn=C.g.s.toNat+88:=by omega
 have hv8:((vn:Nat):Int)-8=((vn-8:Nat):Int):=by omega
 rw [hv8]
 refine ⟨Rng.i64 (by omega) (by omega),?_⟩
 refine Loop1 (λ(v:Int×Unit) w'=>∃ i:Nat,v.1=((vn-8+i:Nat):Int)/\i<=8/\Sep E w0 w' (OwnA 5 1 va vn vc (bv8 (xs.take (vn-8)++(List.replicate i 255++xs.drop (vn-8+i))))::BoxA b1 81 [.int .i64 fb,.int .i64 fp]::plS pp p q g s O C L Rs)) (λ(v:Int×Unit) _=>((vn:Int)-v.1).toNat)
  ⟨0,by dsimp only;omega,by omega,?_⟩ ?_
 ·have:xs.take (vn-8)++(List.replicate 0 255++xs.drop (vn-8+0))=xs:=by rw [List.replicate_zero,List.nil_append,Nat.add_zero,List.take_append_drop]
  rw [this]
  exact S
 clear S
 rintro ⟨(v:Int),⟨⟩⟩ w4 ⟨i,hv,hi,S⟩
 dsimp only at hv
 subst hv
 refine cond_d (λhlt=>?_) (λhge=>?_)
 ·refine S.pu0 (by omega) hlt rfl λw5 S f5=>⟨Rng.i64 (by omega) (by omega),⟨i+1,by push_cast;omega,by omega,?_⟩,by omega⟩
  have e:(bv8 (xs.take (vn-8)++(List.replicate i 255++xs.drop (vn-8+i)))).set ((vn-8+i:Nat):Int).toNat (.int .u8 255)=bv8 (xs.take (vn-8)++(List.replicate (i+1) 255++xs.drop (vn-8+(i+1)))):=by
   rw [Int.toNat_natCast,<- set_run _ _ _ _ (by omega)]
   exact List.map_set.symm
  rw [e] at S
  exact S
 have h8:i=8:=by omega
 subst h8
 have he:xs.take (vn-8)++(List.replicate 8 255++xs.drop (vn-8+8))=cpyL xs:=by
  unfold cpyL
  rw [List.drop_eq_nil_of_le (by omega),List.append_nil,hlen]
 rw [he] at S
 have bc:=cpyL_byt bx
 have S:=S.conv (R':=RdL [⟨va,vn,vc,cpyL xs⟩]) λF hF _ x hx=>by
  rw [List.mem_singleton.1 hx]
  exact own_rdB hF (λk hk=>hk) bc
 refine (Place24_c (pp:=pp) (b:=b) (i:=pa) (by omega)).mono ?_
 rintro ⟨x,⟨⟩⟩ w5 ⟨h5,x5⟩
 dsimp only at h5 ⊢
 subst h5
 have S:=S.stepE x5
 refine (programmed_c (bl:=4+b) (pa:=pa) (dd:=⟨va,vn,vc,cpyL xs⟩) h bc ho (by dsimp only;omega) (S.fro [2,2,2,2] rfl)).mono ?_
 rintro ⟨e,⟨⟩⟩ w6 ⟨h6,S⟩
 exact ⟨h6,(S.fro [4,4] rfl).tail.tail⟩
theorem New24_c {y:SlV} (hC:COk C) (hl:L.length<=100) (hy:y.n<=1000) (hO:RdC w y.a (O.flatMap Hd.vs)) (hOl:O.length=y.n) (S:Sep E w0 w (chipE p C::ledE q L::Rs)) :
  CallV Tryz.prog 82 #[.pointer (some ⟨p,0,none⟩),.pointer (some ⟨q,0,none⟩),.slice y.a y.n y.c] w [.one .ptr,.one (.int .i64)] λr w'=>
   (¬ ((L.length:Int)=C.g.b-4/\(y.n:Int)=C.g.b-4)->r.1=none/\r.2.1=(2:Int)/\Ext w w') /\
   ((L.length:Int)=C.g.b-4/\(y.n:Int)=C.g.b-4->r.2.1=(0:Int)/\∃ (pp:Nat) (s:SlV),r.1=some (⟨pp,0,none⟩:Addr)/\Ext w w'/\Sep E w0 w' (plS pp p q C.g s O C L Rs)):=by
 apply pool_New.vc
 unfold pool_New.P
 have hR:=hC.g
 have T:=Sep.start NoB w
 refine (Geometry_e S).mono ?_
 rintro ⟨_,⟨⟩⟩ w1 ⟨h1,x1⟩
 dsimp only at h1
 subst h1
 have S:=S.stepE x1
 have X:=x1
 refine S.newB λb3 w3 S f3 z3=>?_
 refine S.st0 (by rfl) λw4 S f4=>S.la0 rfl ?_
 have X3:=(Fr.of X).trans f3
 have X4:Fr NoB w w4:=X3.trans' f4 λi hi=>.inr (by rw [hi];exact Nat.le_trans X.size z3)
 refine (Data_c (g:=C.g)).mono ?_
 rintro ⟨(d:Int),⟨⟩⟩ w5 ⟨h5,x5⟩
 dsimp only at h5 ⊢
 rw [if_pos hR] at h5
 subst h5
 obtain ⟨⟨n1,n2⟩,-⟩:=hC.num
 have S:=S.stepE x5
 have X5:=X4.trans (.of x5)
 refine cond_f (by simp;omega) ?_
 refine (Len_e (S.fro [2] rfl)).mono ?_
 rintro ⟨(r:Int),⟨⟩⟩ w6 ⟨h6,rfl⟩
 dsimp only at h6 ⊢
 subst h6
 refine cond_ne (λhne=>⟨λ_=>⟨rfl,rfl,X5.ext⟩,λhh=>absurd hh.1 hne⟩) (λhe=>?_)
 refine cond_ne (λhne=>⟨λ_=>⟨rfl,rfl,X5.ext⟩,λhh=>absurd hh.2 hne⟩) (λhe2=>?_)
 refine S.reg λD hD hkeep S T=>?_
 have X:=T.fr
 clear T
 refine ⟨hD _ S.bl0,S.la0 rfl ?_⟩
 refine S.newB λb13 w14 S f14 z14=>?_
 have X:=X.trans f14
 refine ⟨hkeep _ X,?_⟩
 have S:=S.asOwn (sz:=6) (n:=0) rfl (by omega) oneAll.nil
 have hO':RdC w14 y.a (O.flatMap Hd.vs):=hO.imp id λ⟨p,h1,h2⟩=>⟨p,h1,((X5.trans (.drew _ _)).trans X).ext.cells h2⟩
 refine AppS.of (news:=O.flatMap Hd.vs) (by rw [flatF_len Hdv_len,hOl]) hO' ?_
 refine S.ap0 (by rw [flatF_len Hdv_len,hOl]) (flatF_one Hdv_one O) (by omega) (by omega) λa' c' w18 S f18=>?_
 have X:Fr NoB w6.drew w18:=X.trans' f18 λi ⟨q,hq,hi⟩=>.inr (by cases hq;subst hi;exact z14)
 refine ⟨hkeep _ X,?_⟩
 dsimp only [List.nil_append] at S ⊢
 rw [Nat.zero_add] at S ⊢
 refine S.newB λb20 w21 S f21 z21=>?_
 have X:=X.trans f21
 refine ⟨hkeep _ X,λhh=>absurd ⟨he,he2⟩ hh,λ_=>⟨rfl,b20,⟨a',y.n,c'⟩,rfl,((X5.trans (.drew _ _)).trans X).ext,?_⟩⟩
 exact (S.fro [2] rfl).tail.fro [0,0,1] rfl
end
set_option maxRecDepth 100000 in
theorem eqPl0 (a1 a2 b1 b2:Int) (w:World):(Op.equalIn 10000 81 (.agg #[.int .i64 a1,.int .i64 a2]) (.agg #[.int .i64 b1,.int .i64 b2])).run Tryz.prog w=.ok (a1 == b1 && a2 == b2) w:=by
 have u1:=Tryz.underlying3
 have v1:=Tryz.isAgg3
 have z1:=Tryz.sizeOf3
 have hS:Tryz.prog.underlying 81=some (.struct (Tryz.prog.fieldsOf 81)):=by kernel_rfl
 rw [show (10000:Nat)=9999+1 from rfl,run_equalIn_agg w 9999 81 _ _ hS (by kernel_rfl)]
 simp only [Program.fieldsOf,Tryz.underlying81]
 go_simp
 repeat' split
 all_goals simp_all
theorem eqPl {a b c d:Int} {K:Bool->Prop} (hk:K (decide (a=c/\b=d))):AggEq Tryz.prog 81 #[.int .i64 a,.int .i64 b] #[.int .i64 c,.int .i64 d] K:=by
 refine ⟨_,λw=>eqPl0 _ _ _ _ w,by kernel_rfl,?_⟩
 have:(a == c && b == d)=decide (a=c/\b=d):=by
  apply Bool.eq_iff_iff.2
  simp
 rw [this]
 exact hk
abbrev kV (k:Int×Int):Value:=.agg #[.int .i64 k.1,.int .i64 k.2]
structure ME where
 k:Int×Int
 v:Int
 b:Nat
abbrev ME.e (x:ME):MapEntry:=⟨kV x.k,.int .i64 x.v,x.b⟩
def fndM (k:Int×Int):List ME->Nat->Option (Nat×Int)
 | [],_=>none
 | x::l,i=>if x.k=k then some (i,x.v) else fndM k l (i+1)
def getM (l:List ME) (k:Int×Int):Int:=match fndM k l 0 with | some r=>r.2 | none=>0
theorem fndM_some {k:Int×Int}:∀ {l:List ME} {i j:Nat} {v:Int},fndM k l i=some (j,v)->i<=j/\∃ x,l[j-i]? = some x/\x.k=k/\x.v=v
 | [],_,_,_,h=>by cases h
 | x::l,i,j,v,h=>by
  unfold fndM at h
  split at h
  ·rename_i hk
   cases h
   exact ⟨Nat.le_refl _,x,by rw [Nat.sub_self];rfl,hk,rfl⟩
  ·obtain ⟨h1,y,h2,h3⟩:=fndM_some h
   refine ⟨by omega,y,?_,h3⟩
   rw [show j-i=(j-(i+1))+1 by omega,List.getElem?_cons_succ]
   exact h2
theorem fndM_none {k:Int×Int}:∀ {l:List ME} {i:Nat},fndM k l i=none↔∀ x∈l,x.k≠k
 | [],_=>by simp [fndM]
 | x::l,i=>by
  unfold fndM
  by_cases hk:x.k=k
  ·rw [if_pos hk];simp [hk]
  ·rw [if_neg hk,fndM_none (i:=i+1)];simp [hk]
theorem fndM_app {k:Int×Int} {x:ME}:∀ {l:List ME} {i:Nat},fndM k (l++[x]) i=match fndM k l i with | some r=>some r | none=>if x.k=k then some (i+l.length,x.v) else none
 | [],i=>by simp [fndM]
 | y::l,i=>by
  rw [List.cons_append]
  unfold fndM
  by_cases hk:y.k=k
  ·rw [if_pos hk,if_pos hk]
  ·rw [if_neg hk,if_neg hk,fndM_app (l:=l) (i:=i+1),List.length_cons]
   cases fndM k l (i+1) with
   | some r=>rfl
   | none=>simp only;rw [show i+1+l.length=i+(l.length+1) by omega]
structure MOk (l:List ME) (c:Nat):Prop where
 kn:(l.map (·.k)).Nodup
 bn:(l.map (·.b)).Nodup
 bc:∀ x∈l,x.b<c
theorem MOk.get {l:List ME} {c:Nat} (h:MOk l c) {x:ME} (hx:x∈l):getM l x.k=x.v:=by
 unfold getM
 cases hf:fndM x.k l 0 with
 | none=>exact absurd rfl (fndM_none.1 hf x hx)
 | some r=>
  obtain ⟨j,v⟩:=r
  obtain ⟨-,y,hy,hk,hv⟩:=fndM_some hf
  rw [Nat.sub_zero] at hy
  have hym:=List.mem_of_getElem? hy
  have:y=x:=by
   obtain ⟨i,hi⟩:=List.getElem?_of_mem hx
   have h1:(l.map (·.k))[j]? = some x.k:=by rw [List.getElem?_map,hy];exact congrArg some hk
   have h2:(l.map (·.k))[i]? = some x.k:=by rw [List.getElem?_map,hi];rfl
   have hij:=(List.getElem?_inj (by have:=(List.getElem?_eq_some_iff.1 h1).1;exact this) h.kn).1 (h1.trans h2.symm)
   subst hij
   rw [hi] at hy
   exact (Option.some.inj hy).symm
  subst this
  exact hv.symm
theorem getM_none {l:List ME} {k:Int×Int} (h:∀ x∈l,x.k≠k):getM l k=0:=by
 unfold getM
 rw [fndM_none.2 h]
def updM (m:Int×Int->Int) (k:Int×Int) (v:Int):Int×Int->Int:=λk'=>if k'=k then v else m k'
theorem _root_.List.set_getElem?_self' {α:Type} {l:List α} {i:Nat} {x:α} (h:l[i]? = some x):l.set i x=l:=by
 apply List.ext_getElem?
 intro j
 rw [List.getElem?_set]
 split
 ·rename_i e
  subst e
  rw [h,if_pos (List.getElem?_eq_some_iff.1 h).1]
 ·rfl
theorem erase_map:∀ (l:List ME) (i:Nat),(l.map ME.e).eraseIdx i=(l.eraseIdx i).map ME.e
 | [],_=>rfl
 | x::l,0=>rfl
 | x::l,i+1=>by rw [List.map_cons,List.eraseIdx_cons_succ,List.eraseIdx_cons_succ,List.map_cons,erase_map l i]
section
variable {w:World} {r c:Nat} {l:List ME} {k:Int×Int}
theorem run_ask:∀ (l:List ME) (i:Nat),(Instr.findAsking 81 (kV k) (l.map ME.e) i).run Tryz.prog w=.ok ((fndM k l i).map λr=>(r.1,.int .i64 r.2)) w
 | [],i=>by simp [Instr.findAsking,fndM]
 | x::l,i=>by
  have h:(Op.equal 81 (kV k) (kV x.k)).run Tryz.prog w=.ok (k.1 == x.k.1 && k.2 == x.k.2) w:=eqPl0 _ _ _ _ w
  rw [List.map_cons]
  simp only [Instr.findAsking,Sem.run_bind,h,Result.andThen_ok]
  unfold fndM
  by_cases hk:x.k=k
  ·subst hk
   simp
  ·have:(k.1 == x.k.1 && k.2 == x.k.2)=false:=by
    rw [Bool.eq_false_iff]
    intro h2
    simp only [Bool.and_eq_true,beq_iff_eq] at h2
    exact hk (Prod.ext h2.1.symm h2.2.symm)
   rw [this,if_neg hk]
   simp only [Bool.false_eq_true,if_false]
   exact run_ask l (i+1)
theorem run_find (l:List ME):(Instr.findKey 81 (kV k) (l.map ME.e)).run Tryz.prog w=.ok ((fndM k l 0).map λr=>(r.1,.int .i64 r.2)) w:=by
 rw [run_findKey_eq w (by kernel_rfl)]
 exact run_ask l 0
theorem run_chk (em:Bool):(Instr.checkKey em 10000 81 (kV k)).run Tryz.prog w=.ok () w:=by
 cases em <;> kernel_rfl
theorem run_getM (hb:w.heap[r]? = some (.map (l.map ME.e).toArray c)):(getObj r).run Tryz.prog w=.ok (.map (l.map ME.e).toArray c) w:=by simp [getObj,Sem.run,hb]
theorem run_look (hb:w.heap[r]? = some (.map (l.map ME.e).toArray c)):(Instr.lookup 183 (.map (some r)) (kV k) false).run Tryz.prog w=.ok (.int .i64 (getM l k)) w:=by
 have hu:Tryz.prog.underlying 183=some (.map 81 3):=by kernel_rfl
 have hz:(zeroValue 3).run Tryz.prog w=.ok (.int .i64 0) w:=by kernel_rfl
 simp only [Instr.lookup,Sem.run_bind,run_underlying hu,Result.andThen_ok,run_getM hb,Sem.run_pure,run_chk,run_find]
 unfold getM
 cases fndM k l 0 with
 | none=>simp only [Option.map_none,Sem.run_bind,hz,Result.andThen_ok,Sem.run_pure,Bool.false_eq_true,if_false]
 | some q=>simp only [Option.map_some,Sem.run_bind,Result.andThen_ok,Sem.run_pure,Bool.false_eq_true,if_false]
theorem same_bits (k:Int×Int):Instr.sameBits 10000 (kV k) (kV k)=true:=by
 show (#[Value.int .i64 k.1,.int .i64 k.2].size == #[Value.int .i64 k.1,.int .i64 k.2].size && _)=true
 simp [Instr.sameBits]
def setM (w:World) (r:Nat) (o:Obj):World:={w with heap:=w.heap.setIfInBounds r o}
theorem run_setM (o:Obj) (hb:w.heap[r]? = some (.map (l.map ME.e).toArray c)):(setObj r o).run Tryz.prog w=.ok () (setM w r o):=by simp [setObj,Sem.run,hb,setM]
theorem run_ent (hb:w.heap[r]? = some (.map (l.map ME.e).toArray c)):∃ l' c' s,(Instr.mapEntry 183 (.map (some r)) (kV k)).run Tryz.prog w=.ok (.tuple #[.int .i64 (getM l k),.int .i64 ((s:Nat):Int)]) (setM w r (.map (l'.map ME.e).toArray c')) /\
  (MOk l c->MOk l' c'/\(∀ k',getM l' k'=getM l k')/\∃ x∈l',x.k=k/\x.b=s):=by
 have hu:Tryz.prog.underlying 183=some (.map 81 3):=by kernel_rfl
 have hz:(zeroValue 3).run Tryz.prog w=.ok (.int .i64 0) w:=by kernel_rfl
 cases hf:fndM k l 0 with
 | none=>
  refine ⟨l++[⟨k,0,c⟩],c+1,c,?_,λh=>⟨⟨?_,?_,?_⟩,?_,⟨k,0,c⟩,by simp,rfl,rfl⟩⟩
  ·simp only [Instr.mapEntry,Sem.run_bind,run_underlying hu,Result.andThen_ok,run_getM hb,run_chk,run_find,hf,Option.map_none,hz,run_setM _ hb,Sem.run_pure]
   have e:(l.map ME.e).toArray.push (⟨kV k,.int .i64 0,c⟩:MapEntry)=((l++[(⟨k,0,c⟩:ME)]).map ME.e).toArray:=by simp
   rw [e]
   have hg:getM l k=0:=by unfold getM;rw [hf]
   rw [hg]
   rfl
  ·rw [List.map_append]
   refine List.nodup_append.2 ⟨h.kn,by simp,?_⟩
   intro a ha b hb2 e
   obtain ⟨x,hx,rfl⟩:=List.mem_map.1 ha
   simp at hb2
   subst hb2
   exact fndM_none.1 hf x hx e
  ·rw [List.map_append]
   refine List.nodup_append.2 ⟨h.bn,by simp,?_⟩
   intro a ha b hb2 e
   obtain ⟨x,hx,rfl⟩:=List.mem_map.1 ha
   simp at hb2
   subst hb2
   have:=h.bc x hx
   omega
  ·intro x hx
   rcases List.mem_append.1 hx with hx | hx
   ·have:=h.bc x hx;omega
   ·rw [List.mem_singleton.1 hx];exact Nat.lt_succ_self _
  ·intro k'
   unfold getM
   rw [fndM_app]
   cases hf':fndM k' l 0 with
   | some q=>rfl
   | none=>
    dsimp only
    by_cases hk2:k=k'
    ·rw [if_pos hk2]
    ·rw [if_neg hk2]
 | some q=>
  obtain ⟨i,v⟩:=q
  obtain ⟨-,x,hx,hk,hv⟩:=fndM_some hf
  rw [Nat.sub_zero] at hx
  have hxe:((l.map ME.e).toArray)[i]? = some x.e:=by rw [List.getElem?_toArray,List.getElem?_map,hx];rfl
  refine ⟨l,c,x.b,?_,λh=>⟨h,λ_=>rfl,x,List.mem_of_getElem? hx,hk,rfl⟩⟩
  have hm:(l.map ME.e).toArray.modify i (λe=>{e with key:=kV k})=(l.map ME.e).toArray:=by
   apply Array.ext_getElem?
   intro j
   rw [Array.getElem?_modify]
   split
   ·rename_i hij
    subst hij
    rw [hxe,<- hk]
    rfl
   ·rfl
  have hs:(Instr.keyThatStays (kV k) (kV k)).run Tryz.prog w=.ok (kV k) w:=by simp only [Instr.keyThatStays,same_bits,if_true,Sem.run_pure]
  have hk2:((((l.map ME.e).toArray)[i]?).map (·.key)).getD (kV k)=kV k:=by rw [hxe,<- hk];rfl
  have hb2:((((l.map ME.e).toArray)[i]?).map (λe=>((e.born:Nat):Int))).getD 0=((x.b:Nat):Int):=by rw [hxe];rfl
  have hg:getM l k=v:=by unfold getM;rw [hf]
  simp only [Instr.mapEntry,Sem.run_bind,run_underlying hu,Result.andThen_ok,run_getM hb,run_chk,run_find,hf,Option.map_some,hk2,hb2,hs,hm,run_setM _ hb,Sem.run_pure,hg]
  rfl
theorem getM_cases (h:MOk l c) (k:Int×Int):(∃ y∈l,y.k=k/\getM l k=y.v)\/((∀ y∈l,y.k≠k)/\getM l k=0):=by
 by_cases he:∃ y∈l,y.k=k
 ·obtain ⟨y,hy,rfl⟩:=he
  exact .inl ⟨y,hy,rfl,h.get hy⟩
 ·have he:∀ y∈l,y.k≠k:=λy hy e=>he ⟨y,hy,e⟩
  exact .inr ⟨he,getM_none he⟩
theorem MOk.key {x y:ME} (h:MOk l c) (hx:x∈l) (hy:y∈l) (he:x.k=y.k):x=y:=by
 obtain ⟨i,hi⟩:=List.getElem?_of_mem hx
 obtain ⟨j,hj⟩:=List.getElem?_of_mem hy
 have h1:(l.map (·.k))[i]? = some x.k:=by rw [List.getElem?_map,hi];rfl
 have h2:(l.map (·.k))[j]? = some x.k:=by rw [List.getElem?_map,hj];exact congrArg some he.symm
 have hij:=(List.getElem?_inj (List.getElem?_eq_some_iff.1 h1).1 h.kn).1 (h1.trans h2.symm)
 subst hij
 rw [hi] at hj
 exact Option.some.inj hj
theorem run_sto {x:ME} {v:Int} (hM:MOk l c) (hx:x∈l) (hb:w.heap[r]? = some (.map (l.map ME.e).toArray c)):∃ l',(Instr.entryStore 183 (.map (some r)) (.int .i64 ((x.b:Nat):Int)) (.int .i64 v)).run Tryz.prog w=.ok () (setM w r (.map (l'.map ME.e).toArray c)) /\
  MOk l' c/\∀ k',getM l' k'=updM (getM l) x.k v k':=by
 obtain ⟨i,hi⟩:=List.getElem?_of_mem hx
 have hil:i<l.length:=(List.getElem?_eq_some_iff.1 hi).1
 have hfi:(l.map ME.e).toArray.findIdx? (λe=>((e.born:Nat):Int) == ((x.b:Nat):Int))=some i:=by
  rw [List.findIdx?_toArray,List.findIdx?_map,List.findIdx?_eq_some_iff_getElem]
  refine ⟨hil,?_,λj hj=>?_⟩
  ·simp [(List.getElem?_eq_some_iff.1 hi).2]
  ·intro he
   have hjl:j<l.length:=by omega
   have he:(l[j].b:Int)=(x.b:Int):=by simpa using he
   have h1:(l.map (·.b))[j]? = some x.b:=by rw [List.getElem?_map,List.getElem?_eq_getElem hjl];simp;omega
   have h2:(l.map (·.b))[i]? = some x.b:=by rw [List.getElem?_map,hi];rfl
   have:=(List.getElem?_inj (List.getElem?_eq_some_iff.1 h1).1 hM.bn).1 (h1.trans h2.symm)
   omega
 have hmod:(l.map ME.e).toArray.modify i (λe=>{e with val:=.int .i64 v})=((l.set i ⟨x.k,v,x.b⟩).map ME.e).toArray:=by
  apply Array.ext_getElem?
  intro j
  rw [Array.getElem?_modify,List.getElem?_toArray,List.getElem?_toArray,List.getElem?_map,List.getElem?_map,List.getElem?_set]
  by_cases hij:i=j
  ·subst hij
   rw [if_pos rfl,if_pos rfl,if_pos hil,hi]
   rfl
  ·rw [if_neg hij,if_neg hij]
 refine ⟨l.set i ⟨x.k,v,x.b⟩,?_,?_,λk'=>?_⟩
 ·simp only [Instr.entryStore,Sem.run_bind,Result.andThen_ok,run_getM hb,asInt,asIntOf,Sem.run_pure,hfi,hmod,run_setM _ hb]
 all_goals
  have hk:(l.set i ⟨x.k,v,x.b⟩).map (·.k)=l.map (·.k):=by
   rw [List.map_set];exact List.set_getElem?_self' (by rw [List.getElem?_map,hi];rfl)
  have hbb:(l.set i ⟨x.k,v,x.b⟩).map (·.b)=l.map (·.b):=by
   rw [List.map_set];exact List.set_getElem?_self' (by rw [List.getElem?_map,hi];rfl)
  have hM':MOk (l.set i ⟨x.k,v,x.b⟩) c:=⟨by rw [hk];exact hM.kn,by rw [hbb];exact hM.bn,λy hy=>by
   rcases List.mem_or_eq_of_mem_set hy with h | h
   ·exact hM.bc y h
   ·rw [h];exact hM.bc x hx⟩
 ·exact hM'
 ·unfold updM
  by_cases he:k'=x.k
  ·subst he
   rw [if_pos rfl]
   exact hM'.get (x:=⟨x.k,v,x.b⟩) (List.mem_set hil _)
  ·rw [if_neg he]
   rcases getM_cases hM k' with ⟨y,hy,rfl,h2⟩ | ⟨h1,h2⟩
   ·rw [h2]
    refine hM'.get (x:=y) ?_
    obtain ⟨j,hj⟩:=List.getElem?_of_mem hy
    refine List.mem_of_getElem? (i:=j) ?_
    rw [List.getElem?_set,if_neg (λe=>?_),hj]
    subst e
    rw [hi] at hj
    cases hj
    exact he rfl
   ·rw [h2]
    refine getM_none λy hy=>?_
    rcases List.mem_or_eq_of_mem_set hy with h | h
    ·exact h1 y h
    ·rw [h];exact λe=>he e.symm
theorem run_del (hb:w.heap[r]? = some (.map (l.map ME.e).toArray c)):∃ l',(∀ ty,(Builtin.delete_ #[183,81] ty #[.map (some r),kV k]).run Tryz.prog w=.ok (.tuple #[]) (setM w r (.map (l'.map ME.e).toArray c))) /\
  (MOk l c->MOk l' c/\∀ k',getM l' k'=updM (getM l) k 0 k'):=by
 have hu:Tryz.prog.underlying 183=some (.map 81 3):=by kernel_rfl
 cases hf:fndM k l 0 with
 | none=>
  refine ⟨l,λty=>?_,λh=>⟨h,λk'=>?_⟩⟩
  ·simp only [Builtin.delete_,Sem.run_bind,run_underlying hu,Result.andThen_ok,run_getM hb,run_chk,run_find,hf,Option.map_none,run_setM _ hb,Sem.run_pure,List.getElem?_toArray,List.getElem?_cons_zero,List.getElem?_cons_succ]
  ·unfold updM
   split
   ·rename_i e;subst e;exact getM_none (fndM_none.1 hf)
   ·rfl
 | some q=>
  obtain ⟨i,v⟩:=q
  obtain ⟨-,x,hx,hk,hv⟩:=fndM_some hf
  rw [Nat.sub_zero] at hx
  have hil:i<l.length:=(List.getElem?_eq_some_iff.1 hx).1
  have he:(l.map ME.e).toArray.eraseIdxIfInBounds i=((l.eraseIdx i).map ME.e).toArray:=by
   apply Array.ext'
   rw [Array.toList_eraseIdxIfInBounds]
   exact erase_map l i
  refine ⟨l.eraseIdx i,λty=>?_,λh=>?_⟩
  ·simp only [Builtin.delete_,Sem.run_bind,run_underlying hu,Result.andThen_ok,run_getM hb,run_chk,run_find,hf,Option.map_some,he,run_setM _ hb,Sem.run_pure,List.getElem?_toArray,List.getElem?_cons_zero,List.getElem?_cons_succ]
  ·have hsub:=List.eraseIdx_sublist l i
   have hM':MOk (l.eraseIdx i) c:=⟨h.kn.sublist (hsub.map _),h.bn.sublist (hsub.map _),λy hy=>h.bc y (hsub.mem hy)⟩
   refine ⟨hM',λk'=>?_⟩
   unfold updM
   by_cases hkk:k'=k
   ·subst hkk
    rw [if_pos rfl]
    refine getM_none λy hy hyk=>?_
    have hyl:=hsub.mem hy
    have hxy:=h.key (List.mem_of_getElem? hx) hyl (hk.trans hyk.symm)
    subst hxy
    obtain ⟨j,hj⟩:=List.getElem?_of_mem hy
    rw [List.getElem?_eraseIdx] at hj
    have h2:(l.map (·.k))[i]? = some x.k:=by rw [List.getElem?_map,hx];rfl
    split at hj
    ·have h1:(l.map (·.k))[j]? = some x.k:=by rw [List.getElem?_map,hj];rfl
     have:=(List.getElem?_inj (List.getElem?_eq_some_iff.1 h1).1 h.kn).1 (h1.trans h2.symm)
     omega
    ·have h1:(l.map (·.k))[j+1]? = some x.k:=by rw [List.getElem?_map,hj];rfl
     have:=(List.getElem?_inj (List.getElem?_eq_some_iff.1 h1).1 h.kn).1 (h1.trans h2.symm)
     omega
   ·rw [if_neg hkk]
    rcases getM_cases h k' with ⟨y,hy,rfl,h2⟩ | ⟨h1,h2⟩
    ·rw [h2]
     refine hM'.get (x:=y) ?_
     obtain ⟨j,hj⟩:=List.getElem?_of_mem hy
     have hji:j≠i:=λe=>by subst e;rw [hx] at hj;cases hj;exact hkk hk
     by_cases hlt:j<i
     ·exact List.mem_of_getElem? (i:=j) (by rw [List.getElem?_eraseIdx,if_pos hlt,hj])
     ·exact List.mem_of_getElem? (i:=j-1) (by rw [List.getElem?_eraseIdx,if_neg (by omega),show j-1+1=j by omega,hj])
    ·rw [h2]
     exact getM_none λy hy=>h1 y (hsub.mem hy)
end
def MapF (r:Nat) (m:Int×Int->Int):Asr:=⟨λw F=>F r/\∃ l c,w.heap[r]? = some (.map (l.map ME.e).toArray c)/\MOk l c/\∀ k,getM l k=m k,λh k=>⟨h.1,by obtain ⟨l,c,h1,h2⟩:=h.2;exact ⟨l,c,by rw [k _ h.1];exact h1,h2⟩⟩⟩
def MapS (r:Nat) (m:Int×Int->Int) (k:Int×Int) (s:Nat):Asr:=⟨λw F=>F r/\∃ l c,w.heap[r]? = some (.map (l.map ME.e).toArray c)/\MOk l c/\(∀ k,getM l k=m k)/\∃ x∈l,x.k=k/\x.b=s,λh k=>⟨h.1,by obtain ⟨l,c,h1,h2⟩:=h.2;exact ⟨l,c,by rw [k _ h.1];exact h1,h2⟩⟩⟩
theorem setM_fr {w:World} {r:Nat} {o:Obj} (h:r<w.heap.size):Fr (λk=>k=r) w (setM w r o)/\(setM w r o).heap[r]? = some o/\(setM w r o).heap.size=w.heap.size:=by
 refine ⟨⟨rfl,rfl,rfl,by simp [setM],λk hk hn=>?_⟩,by simp [setM,h],by simp [setM]⟩
 show (w.heap.setIfInBounds r o)[k]? = _
 rw [Array.getElem?_setIfInBounds,if_neg (λe=>hn e.symm)]
section
variable {E:Nat->Prop} {w0 w:World} {Rs:List Asr} {r:Nat} {m:Int×Int->Int} {k:Int×Int}
theorem _root_.Go.Eng.Sep.newM (S:Sep E w0 w Rs) {K:Nat->World->Prop} (hk:∀ b w',Sep E w0 w' (MapF b (λ_=>0)::Rs)->Fr NoB w w'->w.heap.size<=b->K b w'):NewM w K:=by
 rintro b w1 rfl rfl
 have f:Fr NoB w (w.alloc (.map #[] 0)):=.of (Ext.alloc _ _)
 refine hk _ _ (S.push (F:=λk=>k=w.heap.size) f ⟨rfl,[],0,heap_new w _,⟨by simp,by simp,λx hx=>by simp at hx⟩,λ_=>rfl⟩ λk hk=>?_) f (Nat.le_refl _)
 subst hk
 exact ⟨Nat.le_refl _,(Array.getElem?_eq_some_iff.1 (heap_new w (.map #[] 0))).1⟩
theorem _root_.Go.Eng.Sep.mstep (S:Sep E w0 w Rs) {i:Nat} {R:Asr} (hi:Rs[i]? = some R) {P:World->Prop} (hR:∀ F,R.p w F->F r/\P w) {o:Obj} {R':Asr} (hlt:r<w.heap.size) (hp:∀ w' F,F r->w'.heap[r]? = some o->R'.p w' F) :
  Sep E w0 (setM w r o) (Rs.set i R'):=by
 obtain ⟨F,h1,h2,h3⟩:=S.step hi
 obtain ⟨fr,hh,hs⟩:=setM_fr (o:=o) hlt
 exact h3 _ F R' (hp _ _ (hR F h1).1 hh) (fr.mono λk hk=>by subst hk;exact (hR F h1).1) λk hk=>⟨.inl hk,by rw [hs];exact h2 k hk⟩
theorem _root_.Go.Eng.Sep.lookM (S:Sep E w0 w Rs) (i:Nat) (hi:Rs[i]? = some (MapF r m)) {K:RT [.one (.int .i64)]->World->Prop} (hk:K (m k,()) w):RunV Tryz.prog (Instr.lookup 183 (.map (some r)) (kV k) false) w [.one (.int .i64)] K:=by
 obtain ⟨F,⟨_,l,c,h1,h2,h3⟩,_⟩:=S.get hi
 exact ⟨(m k,()),w,by rw [run_look h1,h3];rfl,hk⟩
theorem _root_.Go.Eng.Sep.lookS (S:Sep E w0 w Rs) (i:Nat) {k':Int×Int} {s:Nat} (hi:Rs[i]? = some (MapS r m k' s)) {K:RT [.one (.int .i64)]->World->Prop} (hk:K (m k,()) w):RunV Tryz.prog (Instr.lookup 183 (.map (some r)) (kV k) false) w [.one (.int .i64)] K:=by
 obtain ⟨F,⟨_,l,c,h1,h2,h3,_⟩,_⟩:=S.get hi
 exact ⟨(m k,()),w,by rw [run_look h1,h3];rfl,hk⟩
theorem _root_.Go.Eng.Sep.entM (S:Sep E w0 w Rs) (i:Nat) (hi:Rs[i]? = some (MapF r m)) {K:RT [.one (.int .i64),.one (.int .i64)]->World->Prop}
  (hk:∀ (s:Nat) w',Sep E w0 w' (Rs.set i (MapS r m k s))->Fr (λk=>k=r) w w'->K (m k,(s:Int),()) w'):RunV Tryz.prog (Instr.mapEntry 183 (.map (some r)) (kV k)) w [.one (.int .i64),.one (.int .i64)] K:=by
 obtain ⟨F,⟨hF,l,c,h1,h2,h3⟩,hb⟩:=S.get hi
 have hlt:=(hb r hF).2
 obtain ⟨l',c',s,hr,hM⟩:=run_ent (k:=k) h1
 obtain ⟨g1,g2,x,g3⟩:=hM h2
 refine ⟨(m k,(s:Int),()),_,by rw [hr,h3];rfl,hk s _ (S.mstep hi (P:=λ_=>True) (λF h=>⟨h.1,trivial⟩) hlt λw' F hF hw=>⟨hF,l',c',hw,g1,λk'=>(g2 k').trans (h3 k'),x,g3⟩) (setM_fr hlt).1⟩
theorem _root_.Go.Eng.Sep.stoM (S:Sep E w0 w Rs) (i:Nat) {s:Nat} (hi:Rs[i]? = some (MapS r m k s)) {v:Int} {K:World->Prop} (hk:∀ w',Sep E w0 w' (Rs.set i (MapF r (updM m k v)))->Fr (λk=>k=r) w w'->K w') :
  RunU Tryz.prog (Instr.entryStore 183 (.map (some r)) (.int .i64 (s:Int)) (.int .i64 v)) w K:=by
 obtain ⟨F,⟨hF,l,c,h1,h2,h3,x,hx,rfl,rfl⟩,hb⟩:=S.get hi
 have hlt:=(hb r hF).2
 obtain ⟨l',hr,g1,g2⟩:=run_sto (v:=v) h2 hx h1
 refine ⟨_,hr,hk _ (S.mstep hi (P:=λ_=>True) (λF h=>⟨h.1,trivial⟩) hlt λw' F hF hw=>⟨hF,l',c,hw,g1,λk'=>?_⟩) (setM_fr hlt).1⟩
 rw [g2]
 unfold updM
 split
 ·rfl
 ·exact h3 k'
theorem _root_.Go.Eng.Sep.delM (S:Sep E w0 w Rs) (i:Nat) (hi:Rs[i]? = some (MapF r m)) {K:World->Prop} (hk:∀ w',Sep E w0 w' (Rs.set i (MapF r (updM m k 0)))->Fr (λk=>k=r) w w'->K w') :
  DelV Tryz.prog [183,81] [.map (some r),kV k] w K:=by
 obtain ⟨F,⟨hF,l,c,h1,h2,h3⟩,hb⟩:=S.get hi
 have hlt:=(hb r hF).2
 obtain ⟨l',hr,hM⟩:=run_del (k:=k) h1
 obtain ⟨g1,g2⟩:=hM h2
 refine ⟨_,hr,hk _ (S.mstep hi (P:=λ_=>True) (λF h=>⟨h.1,trivial⟩) hlt λw' F hF hw=>⟨hF,l',c,hw,g1,λk'=>?_⟩) (setM_fr hlt).1⟩
 rw [g2]
 unfold updM
 split
 ·rfl
 ·exact h3 k'
theorem _root_.Go.Eng.Sep.incA (f:Int->Int) (S:Sep E w0 w Rs) (i:Nat) (hi:Rs[i]? = some (MapF r m)) {KO:World->Prop} (ko:∀ w',Fr (λk=>k=r) w w'->KO w') (hr:Rng .i64 (f (m k))) {K:World->Prop} (hk:∀ w',Sep E w0 w' (Rs.set i (MapF r (updM m k (f (m k)))))->Fr (λk=>k=r) w w'->K w') :
  RunV Tryz.prog (Instr.lookup 183 (.map (some r)) (kV k) false) w [.one (.int .i64)] λ(r22:Int×Unit) w23=>KO w23/\Rng .i64 (f r22.1) /\
   RunV Tryz.prog (Instr.mapEntry 183 (.map (some r)) (kV k)) w23 [.one (.int .i64),.one (.int .i64)] λ(r24:Int×Int×Unit) w25=>KO w25 /\
    RunU Tryz.prog (Instr.entryStore 183 (.map (some r)) (.int .i64 r24.2.1) (.int .i64 (f r22.1))) w25 λw26=>KO w26/\K w26:=
 S.lookM i hi ⟨ko _ (Fr.refl _ _),hr,S.entM i hi λs w' S' f'=>⟨ko _ f',S'.stoM i (by rw [List.getElem?_set,if_pos rfl,if_pos (List.getElem?_eq_some_iff.1 hi).1]) λw2 S2 f2=>⟨ko _ (f'.trans f2),hk _ (by rw [List.set_set] at S2;exact S2) (f'.trans f2)⟩⟩⟩
theorem _root_.Go.Eng.Sep.incB (f:Int->Int) (S:Sep E w0 w Rs) (i:Nat) (hi:Rs[i]? = some (MapF r m)) {KO:World->Prop} (ko:∀ w',Fr (λk=>k=r) w w'->KO w') (hr:Rng .i64 (f (m k))) {K:World->Prop} (hk:∀ w',Sep E w0 w' (Rs.set i (MapF r (updM m k (f (m k)))))->Fr (λk=>k=r) w w'->K w') :
  RunV Tryz.prog (Instr.mapEntry 183 (.map (some r)) (kV k)) w [.one (.int .i64),.one (.int .i64)] λ(r24:Int×Int×Unit) w25=>KO w25 /\
   RunV Tryz.prog (Instr.lookup 183 (.map (some r)) (kV k) false) w25 [.one (.int .i64)] λ(r22:Int×Unit) w23=>KO w23/\Rng .i64 (f r22.1) /\
    RunU Tryz.prog (Instr.entryStore 183 (.map (some r)) (.int .i64 r24.2.1) (.int .i64 (f r22.1))) w23 λw26=>KO w26/\K w26:=
 S.entM i hi λs w' S' f'=>by
  have hi':(Rs.set i (MapS r m k s))[i]? = some (MapS r m k s):=by rw [List.getElem?_set,if_pos rfl,if_pos (List.getElem?_eq_some_iff.1 hi).1]
  exact ⟨ko _ f',S'.lookS i hi' ⟨ko _ f',hr,S'.stoM i hi' λw2 S2 f2=>⟨ko _ (f'.trans f2),hk _ (by rw [List.set_set] at S2;exact S2) (f'.trans f2)⟩⟩⟩
end
end Go.Proofs.YtbaojfchlhlaeaaGreat.Vc
namespace Go.Proofs.YtbaojfchlhlaeaaGreat.Vc
open Go Go.Eng
def pagemap_New.A:Ann:=.no
def pagemap_New.P  (w:World) (K:(Option Addr)×Unit->World->Prop):Prop:=
 NewM w λb1 w2=>
 NewV #[.slice none 0 0,.slice none 0 0,.slice none 0 0,.slice none 0 0,.map (some b1)] 186 w2 λb3 w4=>
 K ((some ⟨b3,0,none⟩),()) w4
theorem pagemap_New.vc  (w:World) (K:(Option Addr)×Unit->World->Prop) (h:pagemap_New.P  w K):CallV Tryz.prog 43 #[] w [.one .ptr] K:=by
 refine vcFun.of (A:=pagemap_New.A) (wr:=false) okf_ok follows h Tryz.func43 ?_
 kernel_rfl
def pagemap_Map_own.A:Ann:=.no
def pagemap_Map_own.P (p0:Addr) (p1:Int) (w:World) (K:SlV×Unit->World->Prop):Prop:=
 cond (decide (p1<0))
 (K ((⟨none,0,0⟩:SlV),()) w)
 (cond (decide (p1≥4))
 (K ((⟨none,0,0⟩:SlV),()) w)
 ((0<=p1/\p1<(4:Int)) /\
 LoadS w ((p0:Addr).add (p1.toNat*1)) .sl λ(x1:SlV)=>
 K (x1,()) w))
theorem pagemap_Map_own.vc (p0:Addr) (p1:Int) (w:World) (K:SlV×Unit->World->Prop) (h:pagemap_Map_own.P p0 p1 w K):CallV Tryz.prog 92 #[.pointer (some p0),.int .i64 p1] w [.one .sl] K:=by
 refine vcFun.of (A:=pagemap_Map_own.A) (wr:=false) okf_ok follows h Tryz.func92 ?_
 kernel_rfl
def pagemap_Map_Add.A:Ann:=.two .no (.two .no (.two .no (.two .no (.two (.draw (.take 0 (.take 1 (.take 2 (.take 4 (.take 5 (.eff 3 (.take 6 (.eff 7 (.done)))))))))) .no))))
def pagemap_Map_Add.P (p0:Addr) (p1 p2:Int) (w:World) (K:Int×Unit->World->Prop):Prop:=
 cond (decide (p1<0))
 (K ((2:Int),()) w)
 (cond (decide (p1≥4))
 (K ((2:Int),()) w)
 (cond (decide (p2<1))
 (K ((2:Int),()) w)
 (cond (decide (p2>65535))
 (K ((2:Int),()) w)
 ((0<=p1/\p1<(4:Int)) /\
 LoadS w ((p0:Addr).add (p1.toNat*1)) .sl λ(x1:SlV)=>
 cond (decide (((x1.n:Nat):Int)>0))
 (K ((11:Int),()) w)
 (LoadS w (p0.add 4) .map λ(x2:Option Nat)=>
 cond x2.isNone
 (NewM w λb3 w4=>
 StoreV w4 (p0.add 4) [.map (some b3)] λw5=>
 DrawV λD6=>
 ((0:Int)<=(p2:Int)/\(p2:Int)<=(p2:Int)/\(p2:Int)<=9223372036854775807/\((120:Nat):Int)*(p2:Int)<=140737488355328) /\
 NewV (List.replicate p2.toNat [.bool false,.int .i64 0,.int .i64 0,.int .i64 0,.int .i64 0,.int .i64 0,.int .u32 0,.int .u64 0,.int .u64 0,.int .i64 0,.int .i64 0,.int .i64 0,.int .u32 0,.int .u64 0,.int .u64 0]).flatten.toArray 178 w5.drew λb7 w8=>
 KeepOn D6 w5.drew w8 /\
 (0<=p1/\p1<(4:Int)) /\
 StoreV w8 ((p0:Addr).add (p1.toNat*1)) [.slice (some ⟨b7,0,none⟩) p2.toNat p2.toNat] λw9=>
 KeepOn D6 w5.drew w9 /\
 K ((0:Int),()) w9)
 (DrawV λD10=>
 ((0:Int)<=(p2:Int)/\(p2:Int)<=(p2:Int)/\(p2:Int)<=9223372036854775807/\((120:Nat):Int)*(p2:Int)<=140737488355328) /\
 NewV (List.replicate p2.toNat [.bool false,.int .i64 0,.int .i64 0,.int .i64 0,.int .i64 0,.int .i64 0,.int .u32 0,.int .u64 0,.int .u64 0,.int .i64 0,.int .i64 0,.int .i64 0,.int .u32 0,.int .u64 0,.int .u64 0]).flatten.toArray 178 w.drew λb11 w12=>
 KeepOn D10 w.drew w12 /\
 (0<=p1/\p1<(4:Int)) /\
 StoreV w12 ((p0:Addr).add (p1.toNat*1)) [.slice (some ⟨b11,0,none⟩) p2.toNat p2.toNat] λw13=>
 KeepOn D10 w.drew w13 /\
 K ((0:Int),()) w13))))))
theorem pagemap_Map_Add.vc (p0:Addr) (p1 p2:Int) (w:World) (K:Int×Unit->World->Prop) (h:pagemap_Map_Add.P p0 p1 p2 w K):CallV Tryz.prog 81 #[.pointer (some p0),.int .i64 p1,.int .i64 p2] w [.one (.int .i64)] K:=by
 refine vcFun.of (A:=pagemap_Map_Add.A) (wr:=false) okf_ok follows h Tryz.func81 ?_
 kernel_rfl
def pagemap_Map_lose.A:Ann:=.two .no (.two .no (.two .no (.two (.two (.draw (.take 0 (.take 1 (.take 2 (.take 3 (.take 4 (.both 5 (.take 6 (.eff 7 (.take 8 (.eff 9 (.done))))) 7 (.take 8 (.eff 5 (.take 6 (.eff 9 (.done)))))))))))) (.two (.draw (.take 0 (.take 1 (.take 2 (.take 3 (.take 4 (.eff 5 (.take 6 (.done))))))))) .no)) (.two (.draw (.take 0 (.take 1 (.take 2 (.take 3 (.take 4 (.eff 5 (.done)))))))) .no))))
def pagemap_Map_lose.P (p0:Addr) (p1_0:Bool) (p1_1 p1_2 p1_3 p1_4 p1_5 p1_6 p1_7 p1_8 p1_9 p1_10 p1_11 p1_12 p1_13 p1_14:Int) (a2:Option Addr) (n2 c2:Nat) (w:World) (K:SlV×Unit->World->Prop):Prop:=
 NewV #[.bool p1_0,.int .i64 p1_1,.int .i64 p1_2,.int .i64 p1_3,.int .i64 p1_4,.int .i64 p1_5,.int .u32 p1_6,.int .u64 p1_7,.int .u64 p1_8,.int .i64 p1_9,.int .i64 p1_10,.int .i64 p1_11,.int .u32 p1_12,.int .u64 p1_13,.int .u64 p1_14] 178 w λb1 w2=>
 LoadS w2 ⟨b1,0,none⟩ .bool λ(x3:Bool)=>
 cond (!x3)
 (K ((⟨a2,n2,c2⟩:SlV),()) w2)
 (LoadA w2 ⟨b1,1,none⟩ [.int .i64,.int .i64] λ(x4:Int×Int×Unit)=>
 NewV #[.int .i64 0,.int .i64 0] 81 w2 λb5 w6=>
 StoreV w6 ⟨b5,0,none⟩ [.int .i64 x4.1,.int .i64 x4.2.1] λw7=>
 DrawV λD8=>
 (D8 (p0.add 4).block/\LoadS w7.drew (p0.add 4) .map λ(x9:Option Nat)=>
 (D8 b5/\LoadA w7.drew ⟨b5,0,none⟩ [.int .i64,.int .i64] λ(x10:Int×Int×Unit)=>
 ((RunV Tryz.prog (Instr.lookup 183 (.map x9) (.agg #[.int .i64 x10.1,.int .i64 x10.2.1]) false) w7.drew [.one (.int .i64)] λ(r11:Int×Unit) w12=>
 KeepOn D8 w7.drew w12 /\
 Rng .i64 (r11.1-1) /\
 RunV Tryz.prog (Instr.mapEntry 183 (.map x9) (.agg #[.int .i64 x10.1,.int .i64 x10.2.1])) w12 [.one (.int .i64),.one (.int .i64)] λ(r13:Int×Int×Unit) w14=>
 KeepOn D8 w7.drew w14 /\
 RunU Tryz.prog (Instr.entryStore 183 (.map x9) (.int .i64 r13.2.1) (.int .i64 (r11.1-1))) w14 λw15=>
 KeepOn D8 w7.drew w15 /\
 DrawV λD16=>
 (D16 (p0.add 4).block/\LoadS w15.drew (p0.add 4) .map λ(x17:Option Nat)=>
 (D16 b5/\LoadA w15.drew ⟨b5,0,none⟩ [.int .i64,.int .i64] λ(x18:Int×Int×Unit)=>
 RunV Tryz.prog (Instr.lookup 183 (.map x17) (.agg #[.int .i64 x18.1,.int .i64 x18.2.1]) false) w15.drew [.one (.int .i64)] λ(r19:Int×Unit) w20=>
 KeepOn D16 w15.drew w20 /\
 cond (decide (r19.1>0))
 (K ((⟨a2,n2,c2⟩:SlV),()) w20)
 (DrawV λD21=>
 (D21 (p0.add 4).block/\LoadS w20.drew (p0.add 4) .map λ(x22:Option Nat)=>
 (D21 b5/\LoadA w20.drew ⟨b5,0,none⟩ [.int .i64,.int .i64] λ(x23:Int×Int×Unit)=>
 DelV Tryz.prog [183,81] [.map x22,.agg #[.int .i64 x23.1,.int .i64 x23.2.1]] w20.drew λw24=>
 KeepOn D21 w20.drew w24 /\
 LoadA w24 ⟨b5,0,none⟩ [.int .i64,.int .i64] λ(x25:Int×Int×Unit)=>
 NewV #[.int .i64 x25.1,.int .i64 x25.2.1] 81 w24 λb26 w27=>
 AppS w27 (some ⟨b26,0,none⟩) 1 2 λns32=>
 AppV w27 81 2 16 a2 n2 c2 ns32 1 λa28 n29 c30 w31=>
 K ((⟨a28,n29,c30⟩:SlV),()) w31)))))) /\
 (RunV Tryz.prog (Instr.mapEntry 183 (.map x9) (.agg #[.int .i64 x10.1,.int .i64 x10.2.1])) w7.drew [.one (.int .i64),.one (.int .i64)] λ(r33:Int×Int×Unit) w34=>
 KeepOn D8 w7.drew w34 /\
 RunV Tryz.prog (Instr.lookup 183 (.map x9) (.agg #[.int .i64 x10.1,.int .i64 x10.2.1]) false) w34 [.one (.int .i64)] λ(r35:Int×Unit) w36=>
 KeepOn D8 w7.drew w36 /\
 Rng .i64 (r35.1-1) /\
 RunU Tryz.prog (Instr.entryStore 183 (.map x9) (.int .i64 r33.2.1) (.int .i64 (r35.1-1))) w36 λw37=>
 KeepOn D8 w7.drew w37 /\
 DrawV λD38=>
 (D38 (p0.add 4).block/\LoadS w37.drew (p0.add 4) .map λ(x39:Option Nat)=>
 (D38 b5/\LoadA w37.drew ⟨b5,0,none⟩ [.int .i64,.int .i64] λ(x40:Int×Int×Unit)=>
 RunV Tryz.prog (Instr.lookup 183 (.map x39) (.agg #[.int .i64 x40.1,.int .i64 x40.2.1]) false) w37.drew [.one (.int .i64)] λ(r41:Int×Unit) w42=>
 KeepOn D38 w37.drew w42 /\
 cond (decide (r41.1>0))
 (K ((⟨a2,n2,c2⟩:SlV),()) w42)
 (DrawV λD43=>
 (D43 (p0.add 4).block/\LoadS w42.drew (p0.add 4) .map λ(x44:Option Nat)=>
 (D43 b5/\LoadA w42.drew ⟨b5,0,none⟩ [.int .i64,.int .i64] λ(x45:Int×Int×Unit)=>
 DelV Tryz.prog [183,81] [.map x44,.agg #[.int .i64 x45.1,.int .i64 x45.2.1]] w42.drew λw46=>
 KeepOn D43 w42.drew w46 /\
 LoadA w46 ⟨b5,0,none⟩ [.int .i64,.int .i64] λ(x47:Int×Int×Unit)=>
 NewV #[.int .i64 x47.1,.int .i64 x47.2.1] 81 w46 λb48 w49=>
 AppS w49 (some ⟨b48,0,none⟩) 1 2 λns54=>
 AppV w49 81 2 16 a2 n2 c2 ns54 1 λa50 n51 c52 w53=>
 K ((⟨a50,n51,c52⟩:SlV),()) w53))))))))))
theorem pagemap_Map_lose.vc (p0:Addr) (p1_0:Bool) (p1_1 p1_2 p1_3 p1_4 p1_5 p1_6 p1_7 p1_8 p1_9 p1_10 p1_11 p1_12 p1_13 p1_14:Int) (a2:Option Addr) (n2 c2:Nat) (w:World) (K:SlV×Unit->World->Prop) (h:pagemap_Map_lose.P p0 p1_0 p1_1 p1_2 p1_3 p1_4 p1_5 p1_6 p1_7 p1_8 p1_9 p1_10 p1_11 p1_12 p1_13 p1_14 a2 n2 c2 w K):CallV Tryz.prog 159 #[.pointer (some p0),.agg #[.bool p1_0,.int .i64 p1_1,.int .i64 p1_2,.int .i64 p1_3,.int .i64 p1_4,.int .i64 p1_5,.int .u32 p1_6,.int .u64 p1_7,.int .u64 p1_8,.int .i64 p1_9,.int .i64 p1_10,.int .i64 p1_11,.int .u32 p1_12,.int .u64 p1_13,.int .u64 p1_14],.slice a2 n2 c2] w [.one .sl] K:=by
 refine vcFun.of (A:=pagemap_Map_lose.A) (wr:=false) okf_ok follows h Tryz.func159 ?_
 kernel_rfl
def pagemap_told.A:Ann:=.no
def pagemap_told.P (a0:Option Addr) (n0 c0:Nat) (w:World) (K:SlV×Unit->World->Prop):Prop:=
 CallV Tryz.prog 197 #[.slice a0 n0 c0,.func (.func 128) #[] #[]] w [] λ(r1:Unit) w2=>
 K ((⟨a0,n0,c0⟩:SlV),()) w2
theorem pagemap_told.vc (a0:Option Addr) (n0 c0:Nat) (w:World) (K:SlV×Unit->World->Prop) (h:pagemap_told.P a0 n0 c0 w K):CallV Tryz.prog 160 #[.slice a0 n0 c0] w [.one .sl] K:=by
 refine vcFun.of (A:=pagemap_told.A) (wr:=false) okf_ok follows h Tryz.func160 ?_
 kernel_rfl
def pagemap_Map_Drop.A:Ann:=.two .no (.two .no (.two .no (.two .no (.two (.two .no (.one (.loop [7,9,18,19,20,21,22,23,24,25,26] [(7,.one .sl),(18,.one (.int .i64))] .no))) .no))))
def pagemap_Map_Drop.P (p0:Addr) (p1:Int) (w:World) (K:SlV×Int×Unit->World->Prop):Prop:=
 CallV Tryz.prog 92 #[.pointer (some p0),.int .i64 p1] w [.one .sl] λ(r1:SlV×Unit) w2=>
 cond (((r1.1.n:Nat):Int) == 0)
 (K ((⟨none,0,0⟩:SlV),(2:Int),()) w2)
 (LoopV [.one .sl,.one (.int .i64)] ((⟨none,0,0⟩:SlV),(0:Int),()) w2 λ(z3:SlV×Int×Unit) w4 (K5:SlV×Int×Unit->World->Prop)=>
 cond (decide (z3.2.1<((r1.1.n:Nat):Int)))
 ((0<=z3.2.1/\z3.2.1<((r1.1.n:Nat):Int))/\∃ q6:Addr,r1.1.a=some q6 /\
 LoadA w4 (q6.add (z3.2.1.toNat*15)) [.bool,.int .i64,.int .i64,.int .i64,.int .i64,.int .i64,.int .u32,.int .u64,.int .u64,.int .i64,.int .i64,.int .i64,.int .u32,.int .u64,.int .u64] λ(x7:Bool×Int×Int×Int×Int×Int×Int×Int×Int×Int×Int×Int×Int×Int×Int×Unit)=>
 NewV #[.bool false,.int .i64 0,.int .i64 0,.int .i64 0,.int .i64 0,.int .i64 0,.int .u32 0,.int .u64 0,.int .u64 0,.int .i64 0,.int .i64 0,.int .i64 0,.int .u32 0,.int .u64 0,.int .u64 0] 178 w4 λb8 w9=>
 StoreV w9 ⟨b8,0,none⟩ [.bool x7.1,.int .i64 x7.2.1,.int .i64 x7.2.2.1,.int .i64 x7.2.2.2.1,.int .i64 x7.2.2.2.2.1,.int .i64 x7.2.2.2.2.2.1,.int .u32 x7.2.2.2.2.2.2.1,.int .u64 x7.2.2.2.2.2.2.2.1,.int .u64 x7.2.2.2.2.2.2.2.2.1,.int .i64 x7.2.2.2.2.2.2.2.2.2.1,.int .i64 x7.2.2.2.2.2.2.2.2.2.2.1,.int .i64 x7.2.2.2.2.2.2.2.2.2.2.2.1,.int .u32 x7.2.2.2.2.2.2.2.2.2.2.2.2.1,.int .u64 x7.2.2.2.2.2.2.2.2.2.2.2.2.2.1,.int .u64 x7.2.2.2.2.2.2.2.2.2.2.2.2.2.2.1] λw10=>
 LoadA w10 ⟨b8,0,none⟩ [.bool,.int .i64,.int .i64,.int .i64,.int .i64,.int .i64,.int .u32,.int .u64,.int .u64,.int .i64,.int .i64,.int .i64,.int .u32,.int .u64,.int .u64] λ(x11:Bool×Int×Int×Int×Int×Int×Int×Int×Int×Int×Int×Int×Int×Int×Int×Unit)=>
 CallV Tryz.prog 159 #[.pointer (some p0),.agg #[.bool x11.1,.int .i64 x11.2.1,.int .i64 x11.2.2.1,.int .i64 x11.2.2.2.1,.int .i64 x11.2.2.2.2.1,.int .i64 x11.2.2.2.2.2.1,.int .u32 x11.2.2.2.2.2.2.1,.int .u64 x11.2.2.2.2.2.2.2.1,.int .u64 x11.2.2.2.2.2.2.2.2.1,.int .i64 x11.2.2.2.2.2.2.2.2.2.1,.int .i64 x11.2.2.2.2.2.2.2.2.2.2.1,.int .i64 x11.2.2.2.2.2.2.2.2.2.2.2.1,.int .u32 x11.2.2.2.2.2.2.2.2.2.2.2.2.1,.int .u64 x11.2.2.2.2.2.2.2.2.2.2.2.2.2.1,.int .u64 x11.2.2.2.2.2.2.2.2.2.2.2.2.2.2.1],.slice z3.1.a z3.1.n z3.1.c] w10 [.one .sl] λ(r12:SlV×Unit) w13=>
 Rng .i64 (z3.2.1+1) /\
 K5 (r12.1,z3.2.1+1,()) w13)
 ((0<=p1/\p1<(4:Int)) /\
 StoreV w4 ((p0:Addr).add (p1.toNat*1)) [.slice none 0 0] λw14=>
 CallV Tryz.prog 160 #[.slice z3.1.a z3.1.n z3.1.c] w14 [.one .sl] λ(r15:SlV×Unit) w16=>
 K (r15.1,(0:Int),()) w16))
theorem pagemap_Map_Drop.vc (p0:Addr) (p1:Int) (w:World) (K:SlV×Int×Unit->World->Prop) (h:pagemap_Map_Drop.P p0 p1 w K):CallV Tryz.prog 112 #[.pointer (some p0),.int .i64 p1] w [.one .sl,.one (.int .i64)] K:=by
 refine vcFun.of (A:=pagemap_Map_Drop.A) (wr:=false) okf_ok follows h Tryz.func112 ?_
 kernel_rfl
def pagemap_Map_Size.A:Ann:=.no
def pagemap_Map_Size.P (p0:Addr) (p1:Int) (w:World) (K:Int×Unit->World->Prop):Prop:=
 CallV Tryz.prog 92 #[.pointer (some p0),.int .i64 p1] w [.one .sl] λ(r1:SlV×Unit) w2=>
 K (((r1.1.n:Nat):Int),()) w2
theorem pagemap_Map_Size.vc (p0:Addr) (p1:Int) (w:World) (K:Int×Unit->World->Prop) (h:pagemap_Map_Size.P p0 p1 w K):CallV Tryz.prog 25 #[.pointer (some p0),.int .i64 p1] w [.one (.int .i64)] K:=by
 refine vcFun.of (A:=pagemap_Map_Size.A) (wr:=false) okf_ok follows h Tryz.func25 ?_
 kernel_rfl
def pagemap_Newer.A:Ann:=.no
def pagemap_Newer.P (p0_0 p0_1 p0_2 p0_3 p0_4 p0_5 p0_6 p0_7 p0_8 p0_9 p0_10 p0_11 p0_12 p0_13 p1_0 p1_1 p1_2 p1_3 p1_4 p1_5 p1_6 p1_7 p1_8 p1_9 p1_10 p1_11 p1_12 p1_13:Int) (w:World) (K:Bool×Unit->World->Prop):Prop:=
 NewV #[.int .i64 p0_0,.int .i64 p0_1,.int .i64 p0_2,.int .i64 p0_3,.int .i64 p0_4,.int .u32 p0_5,.int .u64 p0_6,.int .u64 p0_7,.int .i64 p0_8,.int .i64 p0_9,.int .i64 p0_10,.int .u32 p0_11,.int .u64 p0_12,.int .u64 p0_13] 83 w λb1 w2=>
 NewV #[.int .i64 p1_0,.int .i64 p1_1,.int .i64 p1_2,.int .i64 p1_3,.int .i64 p1_4,.int .u32 p1_5,.int .u64 p1_6,.int .u64 p1_7,.int .i64 p1_8,.int .i64 p1_9,.int .i64 p1_10,.int .u32 p1_11,.int .u64 p1_12,.int .u64 p1_13] 83 w2 λb3 w4=>
 LoadA w4 ⟨b3,2,none⟩ [.int .i64,.int .i64,.int .i64,.int .u32,.int .u64,.int .u64] λ(x5:Int×Int×Int×Int×Int×Int×Unit)=>
 LoadA w4 ⟨b1,2,none⟩ [.int .i64,.int .i64,.int .i64,.int .u32,.int .u64,.int .u64] λ(x6:Int×Int×Int×Int×Int×Int×Unit)=>
 CallV Tryz.prog 195 #[.agg #[.int .i64 x5.1,.int .i64 x5.2.1,.int .i64 x5.2.2.1,.int .u32 x5.2.2.2.1,.int .u64 x5.2.2.2.2.1,.int .u64 x5.2.2.2.2.2.1],.agg #[.int .i64 x6.1,.int .i64 x6.2.1,.int .i64 x6.2.2.1,.int .u32 x6.2.2.2.1,.int .u64 x6.2.2.2.2.1,.int .u64 x6.2.2.2.2.2.1]] w4 [.one .bool] λ(r7:Bool×Unit) w8=>
 cond r7.1
 (K (true,()) w8)
 (LoadA w8 ⟨b1,2,none⟩ [.int .i64,.int .i64,.int .i64,.int .u32,.int .u64,.int .u64] λ(x9:Int×Int×Int×Int×Int×Int×Unit)=>
 LoadA w8 ⟨b3,2,none⟩ [.int .i64,.int .i64,.int .i64,.int .u32,.int .u64,.int .u64] λ(x10:Int×Int×Int×Int×Int×Int×Unit)=>
 CallV Tryz.prog 195 #[.agg #[.int .i64 x9.1,.int .i64 x9.2.1,.int .i64 x9.2.2.1,.int .u32 x9.2.2.2.1,.int .u64 x9.2.2.2.2.1,.int .u64 x9.2.2.2.2.2.1],.agg #[.int .i64 x10.1,.int .i64 x10.2.1,.int .i64 x10.2.2.1,.int .u32 x10.2.2.2.1,.int .u64 x10.2.2.2.2.1,.int .u64 x10.2.2.2.2.2.1]] w8 [.one .bool] λ(r11:Bool×Unit) w12=>
 cond r11.1
 (K (false,()) w12)
 (LoadA w12 ⟨b3,8,none⟩ [.int .i64,.int .i64,.int .i64,.int .u32,.int .u64,.int .u64] λ(x13:Int×Int×Int×Int×Int×Int×Unit)=>
 LoadA w12 ⟨b1,8,none⟩ [.int .i64,.int .i64,.int .i64,.int .u32,.int .u64,.int .u64] λ(x14:Int×Int×Int×Int×Int×Int×Unit)=>
 CallV Tryz.prog 195 #[.agg #[.int .i64 x13.1,.int .i64 x13.2.1,.int .i64 x13.2.2.1,.int .u32 x13.2.2.2.1,.int .u64 x13.2.2.2.2.1,.int .u64 x13.2.2.2.2.2.1],.agg #[.int .i64 x14.1,.int .i64 x14.2.1,.int .i64 x14.2.2.1,.int .u32 x14.2.2.2.1,.int .u64 x14.2.2.2.2.1,.int .u64 x14.2.2.2.2.2.1]] w12 [.one .bool] λ(r15:Bool×Unit) w16=>
 K (r15.1,()) w16))
theorem pagemap_Newer.vc (p0_0 p0_1 p0_2 p0_3 p0_4 p0_5 p0_6 p0_7 p0_8 p0_9 p0_10 p0_11 p0_12 p0_13 p1_0 p1_1 p1_2 p1_3 p1_4 p1_5 p1_6 p1_7 p1_8 p1_9 p1_10 p1_11 p1_12 p1_13:Int) (w:World) (K:Bool×Unit->World->Prop) (h:pagemap_Newer.P p0_0 p0_1 p0_2 p0_3 p0_4 p0_5 p0_6 p0_7 p0_8 p0_9 p0_10 p0_11 p0_12 p0_13 p1_0 p1_1 p1_2 p1_3 p1_4 p1_5 p1_6 p1_7 p1_8 p1_9 p1_10 p1_11 p1_12 p1_13 w K):CallV Tryz.prog 171 #[.agg #[.int .i64 p0_0,.int .i64 p0_1,.int .i64 p0_2,.int .i64 p0_3,.int .i64 p0_4,.int .u32 p0_5,.int .u64 p0_6,.int .u64 p0_7,.int .i64 p0_8,.int .i64 p0_9,.int .i64 p0_10,.int .u32 p0_11,.int .u64 p0_12,.int .u64 p0_13],.agg #[.int .i64 p1_0,.int .i64 p1_1,.int .i64 p1_2,.int .i64 p1_3,.int .i64 p1_4,.int .u32 p1_5,.int .u64 p1_6,.int .u64 p1_7,.int .i64 p1_8,.int .i64 p1_9,.int .i64 p1_10,.int .u32 p1_11,.int .u64 p1_12,.int .u64 p1_13]] w [.one .bool] K:=by
 refine vcFun.of (A:=pagemap_Newer.A) (wr:=false) okf_ok follows h Tryz.func171 ?_
 kernel_rfl
def pagemap_Map_speaks.A:Ann:=.two .no (.two (.draw (.take 0 (.take 1 (.take 2 (.take 3 (.take 5 (.take 6 (.both 4 (.eff 7 (.take 8 (.eff 9 (.done)))) 7 (.eff 4 (.take 8 (.eff 9 (.done)))))))))))) .no)
def pagemap_Map_speaks.P (p0:Addr) (p1_0 p1_1 p1_2 p1_3 p1_4 p1_5 p1_6 p1_7 p1_8 p1_9 p1_10 p1_11 p1_12 p1_13:Int) (w:World) (K:SlV×Unit->World->Prop):Prop:=
 NewV #[.int .i64 p1_0,.int .i64 p1_1,.int .i64 p1_2,.int .i64 p1_3,.int .i64 p1_4,.int .u32 p1_5,.int .u64 p1_6,.int .u64 p1_7,.int .i64 p1_8,.int .i64 p1_9,.int .i64 p1_10,.int .u32 p1_11,.int .u64 p1_12,.int .u64 p1_13] 83 w λb1 w2=>
 DrawV λD3=>
 (D3 b1/\LoadS w2.drew ⟨b1,3,none⟩ (.int .i64) λ(x4:Int)=>
 (D3 b1/\LoadA w2.drew ⟨b1,2,none⟩ [.int .i64,.int .i64,.int .i64,.int .u32,.int .u64,.int .u64] λ(x5:Int×Int×Int×Int×Int×Int×Unit)=>
 ((CallV Tryz.prog 92 #[.pointer (some p0),.int .i64 x4] w2.drew [.one .sl] λ(r6:SlV×Unit) w7=>
 KeepOn D3 w2.drew w7 /\
 NewV #[.int .i64 0,.int .i64 0,.int .i64 0,.int .u32 0,.int .u64 0,.int .u64 0] 62 w7 λb8 w9=>
 KeepOn D3 w2.drew w9 /\
 StoreV w9 ⟨b8,0,none⟩ [.int .i64 x5.1,.int .i64 x5.2.1,.int .i64 x5.2.2.1,.int .u32 x5.2.2.2.1,.int .u64 x5.2.2.2.2.1,.int .u64 x5.2.2.2.2.2.1] λw10=>
 KeepOn D3 w2.drew w10 /\
 LoadS w10 ⟨b8,0,none⟩ (.int .i64) λ(x11:Int)=>
 cond (x11 != 1)
 (LoadS w10 ⟨b8,0,none⟩ (.int .i64) λ(x12:Int)=>
 cond (x12 != 2)
 (K ((⟨none,0,0⟩:SlV),()) w10)
 (LoadS w10 ⟨b8,2,none⟩ (.int .i64) λ(x13:Int)=>
 cond (decide (x13<1))
 (K ((⟨none,0,0⟩:SlV),()) w10)
 (LoadS w10 ⟨b8,2,none⟩ (.int .i64) λ(x14:Int)=>
 cond (decide (x14>((r6.1.n:Nat):Int)))
 (K ((⟨none,0,0⟩:SlV),()) w10)
 (LoadS w10 ⟨b8,3,none⟩ (.int .u32) λ(x15:Int)=>
 LoadS w10 ⟨b8,2,none⟩ (.int .i64) λ(x16:Int)=>
 Rng .i64 (((r6.1.n:Nat):Int)-x16) /\
 cond (decide ((IntKind.i64.wrap x15)>(((r6.1.n:Nat):Int)-x16)))
 (K ((⟨none,0,0⟩:SlV),()) w10)
 (LoadS w10 ⟨b8,3,none⟩ (.int .u32) λ(x17:Int)=>
 LoadS w10 ⟨b8,3,none⟩ (.int .u32) λ(x18:Int)=>
 LoadS w10 ⟨b8,2,none⟩ (.int .i64) λ(x19:Int)=>
 Rng .i64 ((IntKind.i64.wrap x18)+x19) /\
 ((0:Int)<=x17/\x17<=((IntKind.i64.wrap x18)+x19)/\((IntKind.i64.wrap x18)+x19)<=((r6.1.c:Nat):Int)) /\
 SubK r6.1.a x17.toNat r6.1.c 15 λa20=>
 K ((⟨a20,(((IntKind.i64.wrap x18)+x19).toNat)-x17.toNat,r6.1.c-x17.toNat⟩:SlV),()) w10)))))
 (LoadS w10 ⟨b8,2,none⟩ (.int .i64) λ(x21:Int)=>
 cond (decide (x21<1))
 (K ((⟨none,0,0⟩:SlV),()) w10)
 (LoadS w10 ⟨b8,2,none⟩ (.int .i64) λ(x22:Int)=>
 cond (decide (x22>((r6.1.n:Nat):Int)))
 (K ((⟨none,0,0⟩:SlV),()) w10)
 (LoadS w10 ⟨b8,3,none⟩ (.int .u32) λ(x23:Int)=>
 LoadS w10 ⟨b8,2,none⟩ (.int .i64) λ(x24:Int)=>
 Rng .i64 (((r6.1.n:Nat):Int)-x24) /\
 cond (decide ((IntKind.i64.wrap x23)>(((r6.1.n:Nat):Int)-x24)))
 (K ((⟨none,0,0⟩:SlV),()) w10)
 (LoadS w10 ⟨b8,3,none⟩ (.int .u32) λ(x25:Int)=>
 LoadS w10 ⟨b8,3,none⟩ (.int .u32) λ(x26:Int)=>
 LoadS w10 ⟨b8,2,none⟩ (.int .i64) λ(x27:Int)=>
 Rng .i64 ((IntKind.i64.wrap x26)+x27) /\
 ((0:Int)<=x25/\x25<=((IntKind.i64.wrap x26)+x27)/\((IntKind.i64.wrap x26)+x27)<=((r6.1.c:Nat):Int)) /\
 SubK r6.1.a x25.toNat r6.1.c 15 λa28=>
 K ((⟨a28,(((IntKind.i64.wrap x26)+x27).toNat)-x25.toNat,r6.1.c-x25.toNat⟩:SlV),()) w10))))) /\
 (NewV #[.int .i64 0,.int .i64 0,.int .i64 0,.int .u32 0,.int .u64 0,.int .u64 0] 62 w2.drew λb29 w30=>
 KeepOn D3 w2.drew w30 /\
 CallV Tryz.prog 92 #[.pointer (some p0),.int .i64 x4] w30 [.one .sl] λ(r31:SlV×Unit) w32=>
 KeepOn D3 w2.drew w32 /\
 StoreV w32 ⟨b29,0,none⟩ [.int .i64 x5.1,.int .i64 x5.2.1,.int .i64 x5.2.2.1,.int .u32 x5.2.2.2.1,.int .u64 x5.2.2.2.2.1,.int .u64 x5.2.2.2.2.2.1] λw33=>
 KeepOn D3 w2.drew w33 /\
 LoadS w33 ⟨b29,0,none⟩ (.int .i64) λ(x34:Int)=>
 cond (x34 != 1)
 (LoadS w33 ⟨b29,0,none⟩ (.int .i64) λ(x35:Int)=>
 cond (x35 != 2)
 (K ((⟨none,0,0⟩:SlV),()) w33)
 (LoadS w33 ⟨b29,2,none⟩ (.int .i64) λ(x36:Int)=>
 cond (decide (x36<1))
 (K ((⟨none,0,0⟩:SlV),()) w33)
 (LoadS w33 ⟨b29,2,none⟩ (.int .i64) λ(x37:Int)=>
 cond (decide (x37>((r31.1.n:Nat):Int)))
 (K ((⟨none,0,0⟩:SlV),()) w33)
 (LoadS w33 ⟨b29,3,none⟩ (.int .u32) λ(x38:Int)=>
 LoadS w33 ⟨b29,2,none⟩ (.int .i64) λ(x39:Int)=>
 Rng .i64 (((r31.1.n:Nat):Int)-x39) /\
 cond (decide ((IntKind.i64.wrap x38)>(((r31.1.n:Nat):Int)-x39)))
 (K ((⟨none,0,0⟩:SlV),()) w33)
 (LoadS w33 ⟨b29,3,none⟩ (.int .u32) λ(x40:Int)=>
 LoadS w33 ⟨b29,3,none⟩ (.int .u32) λ(x41:Int)=>
 LoadS w33 ⟨b29,2,none⟩ (.int .i64) λ(x42:Int)=>
 Rng .i64 ((IntKind.i64.wrap x41)+x42) /\
 ((0:Int)<=x40/\x40<=((IntKind.i64.wrap x41)+x42)/\((IntKind.i64.wrap x41)+x42)<=((r31.1.c:Nat):Int)) /\
 SubK r31.1.a x40.toNat r31.1.c 15 λa43=>
 K ((⟨a43,(((IntKind.i64.wrap x41)+x42).toNat)-x40.toNat,r31.1.c-x40.toNat⟩:SlV),()) w33)))))
 (LoadS w33 ⟨b29,2,none⟩ (.int .i64) λ(x44:Int)=>
 cond (decide (x44<1))
 (K ((⟨none,0,0⟩:SlV),()) w33)
 (LoadS w33 ⟨b29,2,none⟩ (.int .i64) λ(x45:Int)=>
 cond (decide (x45>((r31.1.n:Nat):Int)))
 (K ((⟨none,0,0⟩:SlV),()) w33)
 (LoadS w33 ⟨b29,3,none⟩ (.int .u32) λ(x46:Int)=>
 LoadS w33 ⟨b29,2,none⟩ (.int .i64) λ(x47:Int)=>
 Rng .i64 (((r31.1.n:Nat):Int)-x47) /\
 cond (decide ((IntKind.i64.wrap x46)>(((r31.1.n:Nat):Int)-x47)))
 (K ((⟨none,0,0⟩:SlV),()) w33)
 (LoadS w33 ⟨b29,3,none⟩ (.int .u32) λ(x48:Int)=>
 LoadS w33 ⟨b29,3,none⟩ (.int .u32) λ(x49:Int)=>
 LoadS w33 ⟨b29,2,none⟩ (.int .i64) λ(x50:Int)=>
 Rng .i64 ((IntKind.i64.wrap x49)+x50) /\
 ((0:Int)<=x48/\x48<=((IntKind.i64.wrap x49)+x50)/\((IntKind.i64.wrap x49)+x50)<=((r31.1.c:Nat):Int)) /\
 SubK r31.1.a x48.toNat r31.1.c 15 λa51=>
 K ((⟨a51,(((IntKind.i64.wrap x49)+x50).toNat)-x48.toNat,r31.1.c-x48.toNat⟩:SlV),()) w33))))))))
theorem pagemap_Map_speaks.vc (p0:Addr) (p1_0 p1_1 p1_2 p1_3 p1_4 p1_5 p1_6 p1_7 p1_8 p1_9 p1_10 p1_11 p1_12 p1_13:Int) (w:World) (K:SlV×Unit->World->Prop) (h:pagemap_Map_speaks.P p0 p1_0 p1_1 p1_2 p1_3 p1_4 p1_5 p1_6 p1_7 p1_8 p1_9 p1_10 p1_11 p1_12 p1_13 w K):CallV Tryz.prog 170 #[.pointer (some p0),.agg #[.int .i64 p1_0,.int .i64 p1_1,.int .i64 p1_2,.int .i64 p1_3,.int .i64 p1_4,.int .u32 p1_5,.int .u64 p1_6,.int .u64 p1_7,.int .i64 p1_8,.int .i64 p1_9,.int .i64 p1_10,.int .u32 p1_11,.int .u64 p1_12,.int .u64 p1_13]] w [.one .sl] K:=by
 refine vcFun.of (A:=pagemap_Map_speaks.A) (wr:=false) okf_ok follows h Tryz.func170 ?_
 kernel_rfl
def pagemap_Map_Put.A:Ann:=.two .no (.two .no (.two .no (.two .no (.two (.two .no (.one (.loop [7,8,9,18,19,20,21,22,23,24,25,26,27,28,29,30,31,32,33,34,35,36,37,38,39,40,41,42,43,44,45,46,47,48,49,50,51] [(7,.one .sl),(18,.one (.int .i64))] (.two .no (.two .no (.two (.one (.two .no (.two .no (.two (.draw (.take 0 (.take 1 (.take 2 (.take 3 (.take 4 (.take 5 (.both 6 (.take 7 (.eff 8 (.take 9 (.eff 10 (.done))))) 8 (.take 9 (.eff 6 (.take 7 (.eff 10 (.done))))))))))))) .no)))) .no)))))) .no))))
def pagemap_Map_Put.P (p0:Addr) (p1_0 p1_1 p1_2 p1_3 p1_4 p1_5 p1_6 p1_7 p1_8 p1_9 p1_10 p1_11 p1_12 p1_13:Int) (w:World) (K:SlV×Int×Unit->World->Prop):Prop:=
 NewV #[.int .i64 p1_0,.int .i64 p1_1,.int .i64 p1_2,.int .i64 p1_3,.int .i64 p1_4,.int .u32 p1_5,.int .u64 p1_6,.int .u64 p1_7,.int .i64 p1_8,.int .i64 p1_9,.int .i64 p1_10,.int .u32 p1_11,.int .u64 p1_12,.int .u64 p1_13] 83 w λb1 w2=>
 LoadA w2 ⟨b1,0,none⟩ [.int .i64,.int .i64,.int .i64,.int .i64,.int .i64,.int .u32,.int .u64,.int .u64,.int .i64,.int .i64,.int .i64,.int .u32,.int .u64,.int .u64] λ(x3:Int×Int×Int×Int×Int×Int×Int×Int×Int×Int×Int×Int×Int×Int×Unit)=>
 CallV Tryz.prog 170 #[.pointer (some p0),.agg #[.int .i64 x3.1,.int .i64 x3.2.1,.int .i64 x3.2.2.1,.int .i64 x3.2.2.2.1,.int .i64 x3.2.2.2.2.1,.int .u32 x3.2.2.2.2.2.1,.int .u64 x3.2.2.2.2.2.2.1,.int .u64 x3.2.2.2.2.2.2.2.1,.int .i64 x3.2.2.2.2.2.2.2.2.1,.int .i64 x3.2.2.2.2.2.2.2.2.2.1,.int .i64 x3.2.2.2.2.2.2.2.2.2.2.1,.int .u32 x3.2.2.2.2.2.2.2.2.2.2.2.1,.int .u64 x3.2.2.2.2.2.2.2.2.2.2.2.2.1,.int .u64 x3.2.2.2.2.2.2.2.2.2.2.2.2.2.1]] w2 [.one .sl] λ(r4:SlV×Unit) w5=>
 cond (((r4.1.n:Nat):Int) == 0)
 (K ((⟨none,0,0⟩:SlV),(2:Int),()) w5)
 (LoopV [.one .sl,.one (.int .i64)] ((⟨none,0,0⟩:SlV),(0:Int),()) w5 λ(z6:SlV×Int×Unit) w7 (K8:SlV×Int×Unit->World->Prop)=>
 cond (decide (z6.2.1<((r4.1.n:Nat):Int)))
 ((0<=z6.2.1/\z6.2.1<((r4.1.n:Nat):Int))/\∃ q9:Addr,r4.1.a=some q9 /\
 LoadA w7 (q9.add (z6.2.1.toNat*15)) [.bool,.int .i64,.int .i64,.int .i64,.int .i64,.int .i64,.int .u32,.int .u64,.int .u64,.int .i64,.int .i64,.int .i64,.int .u32,.int .u64,.int .u64] λ(x10:Bool×Int×Int×Int×Int×Int×Int×Int×Int×Int×Int×Int×Int×Int×Int×Unit)=>
 NewV #[.bool false,.int .i64 0,.int .i64 0,.int .i64 0,.int .i64 0,.int .i64 0,.int .u32 0,.int .u64 0,.int .u64 0,.int .i64 0,.int .i64 0,.int .i64 0,.int .u32 0,.int .u64 0,.int .u64 0] 178 w7 λb11 w12=>
 StoreV w12 ⟨b11,0,none⟩ [.bool x10.1,.int .i64 x10.2.1,.int .i64 x10.2.2.1,.int .i64 x10.2.2.2.1,.int .i64 x10.2.2.2.2.1,.int .i64 x10.2.2.2.2.2.1,.int .u32 x10.2.2.2.2.2.2.1,.int .u64 x10.2.2.2.2.2.2.2.1,.int .u64 x10.2.2.2.2.2.2.2.2.1,.int .i64 x10.2.2.2.2.2.2.2.2.2.1,.int .i64 x10.2.2.2.2.2.2.2.2.2.2.1,.int .i64 x10.2.2.2.2.2.2.2.2.2.2.2.1,.int .u32 x10.2.2.2.2.2.2.2.2.2.2.2.2.1,.int .u64 x10.2.2.2.2.2.2.2.2.2.2.2.2.2.1,.int .u64 x10.2.2.2.2.2.2.2.2.2.2.2.2.2.2.1] λw13=>
 LoadS w13 ⟨b11,0,none⟩ .bool λ(x14:Bool)=>
 cond x14
 (LoadA w13 ⟨b1,0,none⟩ [.int .i64,.int .i64,.int .i64,.int .i64,.int .i64,.int .u32,.int .u64,.int .u64,.int .i64,.int .i64,.int .i64,.int .u32,.int .u64,.int .u64] λ(x15:Int×Int×Int×Int×Int×Int×Int×Int×Int×Int×Int×Int×Int×Int×Unit)=>
 LoadA w13 ⟨b11,1,none⟩ [.int .i64,.int .i64,.int .i64,.int .i64,.int .i64,.int .u32,.int .u64,.int .u64,.int .i64,.int .i64,.int .i64,.int .u32,.int .u64,.int .u64] λ(x16:Int×Int×Int×Int×Int×Int×Int×Int×Int×Int×Int×Int×Int×Int×Unit)=>
 CallV Tryz.prog 171 #[.agg #[.int .i64 x15.1,.int .i64 x15.2.1,.int .i64 x15.2.2.1,.int .i64 x15.2.2.2.1,.int .i64 x15.2.2.2.2.1,.int .u32 x15.2.2.2.2.2.1,.int .u64 x15.2.2.2.2.2.2.1,.int .u64 x15.2.2.2.2.2.2.2.1,.int .i64 x15.2.2.2.2.2.2.2.2.1,.int .i64 x15.2.2.2.2.2.2.2.2.2.1,.int .i64 x15.2.2.2.2.2.2.2.2.2.2.1,.int .u32 x15.2.2.2.2.2.2.2.2.2.2.2.1,.int .u64 x15.2.2.2.2.2.2.2.2.2.2.2.2.1,.int .u64 x15.2.2.2.2.2.2.2.2.2.2.2.2.2.1],.agg #[.int .i64 x16.1,.int .i64 x16.2.1,.int .i64 x16.2.2.1,.int .i64 x16.2.2.2.1,.int .i64 x16.2.2.2.2.1,.int .u32 x16.2.2.2.2.2.1,.int .u64 x16.2.2.2.2.2.2.1,.int .u64 x16.2.2.2.2.2.2.2.1,.int .i64 x16.2.2.2.2.2.2.2.2.1,.int .i64 x16.2.2.2.2.2.2.2.2.2.1,.int .i64 x16.2.2.2.2.2.2.2.2.2.2.1,.int .u32 x16.2.2.2.2.2.2.2.2.2.2.2.1,.int .u64 x16.2.2.2.2.2.2.2.2.2.2.2.2.1,.int .u64 x16.2.2.2.2.2.2.2.2.2.2.2.2.2.1]] w13 [.one .bool] λ(r17:Bool×Unit) w18=>
 cond (!r17.1)
 (Rng .i64 (z6.2.1+1) /\
 K8 (z6.1,z6.2.1+1,()) w18)
 (DrawV λD19=>
 (D19 (p0.add 4).block/\LoadS w18.drew (p0.add 4) .map λ(x20:Option Nat)=>
 (D19 b1/\LoadA w18.drew ⟨b1,0,none⟩ [.int .i64,.int .i64] λ(x21:Int×Int×Unit)=>
 ((RunV Tryz.prog (Instr.lookup 183 (.map x20) (.agg #[.int .i64 x21.1,.int .i64 x21.2.1]) false) w18.drew [.one (.int .i64)] λ(r22:Int×Unit) w23=>
 KeepOn D19 w18.drew w23 /\
 Rng .i64 (r22.1+1) /\
 RunV Tryz.prog (Instr.mapEntry 183 (.map x20) (.agg #[.int .i64 x21.1,.int .i64 x21.2.1])) w23 [.one (.int .i64),.one (.int .i64)] λ(r24:Int×Int×Unit) w25=>
 KeepOn D19 w18.drew w25 /\
 RunU Tryz.prog (Instr.entryStore 183 (.map x20) (.int .i64 r24.2.1) (.int .i64 (r22.1+1))) w25 λw26=>
 KeepOn D19 w18.drew w26 /\
 LoadA w26 ⟨b1,0,none⟩ [.int .i64,.int .i64,.int .i64,.int .i64,.int .i64,.int .u32,.int .u64,.int .u64,.int .i64,.int .i64,.int .i64,.int .u32,.int .u64,.int .u64] λ(x27:Int×Int×Int×Int×Int×Int×Int×Int×Int×Int×Int×Int×Int×Int×Unit)=>
 (0<=z6.2.1/\z6.2.1<((r4.1.n:Nat):Int))/\∃ q28:Addr,r4.1.a=some q28 /\
 StoreV w26 (q28.add (z6.2.1.toNat*15)) [.bool true,.int .i64 x27.1,.int .i64 x27.2.1,.int .i64 x27.2.2.1,.int .i64 x27.2.2.2.1,.int .i64 x27.2.2.2.2.1,.int .u32 x27.2.2.2.2.2.1,.int .u64 x27.2.2.2.2.2.2.1,.int .u64 x27.2.2.2.2.2.2.2.1,.int .i64 x27.2.2.2.2.2.2.2.2.1,.int .i64 x27.2.2.2.2.2.2.2.2.2.1,.int .i64 x27.2.2.2.2.2.2.2.2.2.2.1,.int .u32 x27.2.2.2.2.2.2.2.2.2.2.2.1,.int .u64 x27.2.2.2.2.2.2.2.2.2.2.2.2.1,.int .u64 x27.2.2.2.2.2.2.2.2.2.2.2.2.2.1] λw29=>
 LoadA w29 ⟨b11,0,none⟩ [.bool,.int .i64,.int .i64,.int .i64,.int .i64,.int .i64,.int .u32,.int .u64,.int .u64,.int .i64,.int .i64,.int .i64,.int .u32,.int .u64,.int .u64] λ(x30:Bool×Int×Int×Int×Int×Int×Int×Int×Int×Int×Int×Int×Int×Int×Int×Unit)=>
 CallV Tryz.prog 159 #[.pointer (some p0),.agg #[.bool x30.1,.int .i64 x30.2.1,.int .i64 x30.2.2.1,.int .i64 x30.2.2.2.1,.int .i64 x30.2.2.2.2.1,.int .i64 x30.2.2.2.2.2.1,.int .u32 x30.2.2.2.2.2.2.1,.int .u64 x30.2.2.2.2.2.2.2.1,.int .u64 x30.2.2.2.2.2.2.2.2.1,.int .i64 x30.2.2.2.2.2.2.2.2.2.1,.int .i64 x30.2.2.2.2.2.2.2.2.2.2.1,.int .i64 x30.2.2.2.2.2.2.2.2.2.2.2.1,.int .u32 x30.2.2.2.2.2.2.2.2.2.2.2.2.1,.int .u64 x30.2.2.2.2.2.2.2.2.2.2.2.2.2.1,.int .u64 x30.2.2.2.2.2.2.2.2.2.2.2.2.2.2.1],.slice z6.1.a z6.1.n z6.1.c] w29 [.one .sl] λ(r31:SlV×Unit) w32=>
 Rng .i64 (z6.2.1+1) /\
 K8 (r31.1,z6.2.1+1,()) w32) /\
 (RunV Tryz.prog (Instr.mapEntry 183 (.map x20) (.agg #[.int .i64 x21.1,.int .i64 x21.2.1])) w18.drew [.one (.int .i64),.one (.int .i64)] λ(r33:Int×Int×Unit) w34=>
 KeepOn D19 w18.drew w34 /\
 RunV Tryz.prog (Instr.lookup 183 (.map x20) (.agg #[.int .i64 x21.1,.int .i64 x21.2.1]) false) w34 [.one (.int .i64)] λ(r35:Int×Unit) w36=>
 KeepOn D19 w18.drew w36 /\
 Rng .i64 (r35.1+1) /\
 RunU Tryz.prog (Instr.entryStore 183 (.map x20) (.int .i64 r33.2.1) (.int .i64 (r35.1+1))) w36 λw37=>
 KeepOn D19 w18.drew w37 /\
 LoadA w37 ⟨b1,0,none⟩ [.int .i64,.int .i64,.int .i64,.int .i64,.int .i64,.int .u32,.int .u64,.int .u64,.int .i64,.int .i64,.int .i64,.int .u32,.int .u64,.int .u64] λ(x38:Int×Int×Int×Int×Int×Int×Int×Int×Int×Int×Int×Int×Int×Int×Unit)=>
 (0<=z6.2.1/\z6.2.1<((r4.1.n:Nat):Int))/\∃ q39:Addr,r4.1.a=some q39 /\
 StoreV w37 (q39.add (z6.2.1.toNat*15)) [.bool true,.int .i64 x38.1,.int .i64 x38.2.1,.int .i64 x38.2.2.1,.int .i64 x38.2.2.2.1,.int .i64 x38.2.2.2.2.1,.int .u32 x38.2.2.2.2.2.1,.int .u64 x38.2.2.2.2.2.2.1,.int .u64 x38.2.2.2.2.2.2.2.1,.int .i64 x38.2.2.2.2.2.2.2.2.1,.int .i64 x38.2.2.2.2.2.2.2.2.2.1,.int .i64 x38.2.2.2.2.2.2.2.2.2.2.1,.int .u32 x38.2.2.2.2.2.2.2.2.2.2.2.1,.int .u64 x38.2.2.2.2.2.2.2.2.2.2.2.2.1,.int .u64 x38.2.2.2.2.2.2.2.2.2.2.2.2.2.1] λw40=>
 LoadA w40 ⟨b11,0,none⟩ [.bool,.int .i64,.int .i64,.int .i64,.int .i64,.int .i64,.int .u32,.int .u64,.int .u64,.int .i64,.int .i64,.int .i64,.int .u32,.int .u64,.int .u64] λ(x41:Bool×Int×Int×Int×Int×Int×Int×Int×Int×Int×Int×Int×Int×Int×Int×Unit)=>
 CallV Tryz.prog 159 #[.pointer (some p0),.agg #[.bool x41.1,.int .i64 x41.2.1,.int .i64 x41.2.2.1,.int .i64 x41.2.2.2.1,.int .i64 x41.2.2.2.2.1,.int .i64 x41.2.2.2.2.2.1,.int .u32 x41.2.2.2.2.2.2.1,.int .u64 x41.2.2.2.2.2.2.2.1,.int .u64 x41.2.2.2.2.2.2.2.2.1,.int .i64 x41.2.2.2.2.2.2.2.2.2.1,.int .i64 x41.2.2.2.2.2.2.2.2.2.2.1,.int .i64 x41.2.2.2.2.2.2.2.2.2.2.2.1,.int .u32 x41.2.2.2.2.2.2.2.2.2.2.2.2.1,.int .u64 x41.2.2.2.2.2.2.2.2.2.2.2.2.2.1,.int .u64 x41.2.2.2.2.2.2.2.2.2.2.2.2.2.2.1],.slice z6.1.a z6.1.n z6.1.c] w40 [.one .sl] λ(r42:SlV×Unit) w43=>
 Rng .i64 (z6.2.1+1) /\
 K8 (r42.1,z6.2.1+1,()) w43))))))
 (DrawV λD44=>
 (D44 (p0.add 4).block/\LoadS w13.drew (p0.add 4) .map λ(x45:Option Nat)=>
 (D44 b1/\LoadA w13.drew ⟨b1,0,none⟩ [.int .i64,.int .i64] λ(x46:Int×Int×Unit)=>
 ((RunV Tryz.prog (Instr.lookup 183 (.map x45) (.agg #[.int .i64 x46.1,.int .i64 x46.2.1]) false) w13.drew [.one (.int .i64)] λ(r47:Int×Unit) w48=>
 KeepOn D44 w13.drew w48 /\
 Rng .i64 (r47.1+1) /\
 RunV Tryz.prog (Instr.mapEntry 183 (.map x45) (.agg #[.int .i64 x46.1,.int .i64 x46.2.1])) w48 [.one (.int .i64),.one (.int .i64)] λ(r49:Int×Int×Unit) w50=>
 KeepOn D44 w13.drew w50 /\
 RunU Tryz.prog (Instr.entryStore 183 (.map x45) (.int .i64 r49.2.1) (.int .i64 (r47.1+1))) w50 λw51=>
 KeepOn D44 w13.drew w51 /\
 LoadA w51 ⟨b1,0,none⟩ [.int .i64,.int .i64,.int .i64,.int .i64,.int .i64,.int .u32,.int .u64,.int .u64,.int .i64,.int .i64,.int .i64,.int .u32,.int .u64,.int .u64] λ(x52:Int×Int×Int×Int×Int×Int×Int×Int×Int×Int×Int×Int×Int×Int×Unit)=>
 (0<=z6.2.1/\z6.2.1<((r4.1.n:Nat):Int))/\∃ q53:Addr,r4.1.a=some q53 /\
 StoreV w51 (q53.add (z6.2.1.toNat*15)) [.bool true,.int .i64 x52.1,.int .i64 x52.2.1,.int .i64 x52.2.2.1,.int .i64 x52.2.2.2.1,.int .i64 x52.2.2.2.2.1,.int .u32 x52.2.2.2.2.2.1,.int .u64 x52.2.2.2.2.2.2.1,.int .u64 x52.2.2.2.2.2.2.2.1,.int .i64 x52.2.2.2.2.2.2.2.2.1,.int .i64 x52.2.2.2.2.2.2.2.2.2.1,.int .i64 x52.2.2.2.2.2.2.2.2.2.2.1,.int .u32 x52.2.2.2.2.2.2.2.2.2.2.2.1,.int .u64 x52.2.2.2.2.2.2.2.2.2.2.2.2.1,.int .u64 x52.2.2.2.2.2.2.2.2.2.2.2.2.2.1] λw54=>
 LoadA w54 ⟨b11,0,none⟩ [.bool,.int .i64,.int .i64,.int .i64,.int .i64,.int .i64,.int .u32,.int .u64,.int .u64,.int .i64,.int .i64,.int .i64,.int .u32,.int .u64,.int .u64] λ(x55:Bool×Int×Int×Int×Int×Int×Int×Int×Int×Int×Int×Int×Int×Int×Int×Unit)=>
 CallV Tryz.prog 159 #[.pointer (some p0),.agg #[.bool x55.1,.int .i64 x55.2.1,.int .i64 x55.2.2.1,.int .i64 x55.2.2.2.1,.int .i64 x55.2.2.2.2.1,.int .i64 x55.2.2.2.2.2.1,.int .u32 x55.2.2.2.2.2.2.1,.int .u64 x55.2.2.2.2.2.2.2.1,.int .u64 x55.2.2.2.2.2.2.2.2.1,.int .i64 x55.2.2.2.2.2.2.2.2.2.1,.int .i64 x55.2.2.2.2.2.2.2.2.2.2.1,.int .i64 x55.2.2.2.2.2.2.2.2.2.2.2.1,.int .u32 x55.2.2.2.2.2.2.2.2.2.2.2.2.1,.int .u64 x55.2.2.2.2.2.2.2.2.2.2.2.2.2.1,.int .u64 x55.2.2.2.2.2.2.2.2.2.2.2.2.2.2.1],.slice z6.1.a z6.1.n z6.1.c] w54 [.one .sl] λ(r56:SlV×Unit) w57=>
 Rng .i64 (z6.2.1+1) /\
 K8 (r56.1,z6.2.1+1,()) w57) /\
 (RunV Tryz.prog (Instr.mapEntry 183 (.map x45) (.agg #[.int .i64 x46.1,.int .i64 x46.2.1])) w13.drew [.one (.int .i64),.one (.int .i64)] λ(r58:Int×Int×Unit) w59=>
 KeepOn D44 w13.drew w59 /\
 RunV Tryz.prog (Instr.lookup 183 (.map x45) (.agg #[.int .i64 x46.1,.int .i64 x46.2.1]) false) w59 [.one (.int .i64)] λ(r60:Int×Unit) w61=>
 KeepOn D44 w13.drew w61 /\
 Rng .i64 (r60.1+1) /\
 RunU Tryz.prog (Instr.entryStore 183 (.map x45) (.int .i64 r58.2.1) (.int .i64 (r60.1+1))) w61 λw62=>
 KeepOn D44 w13.drew w62 /\
 LoadA w62 ⟨b1,0,none⟩ [.int .i64,.int .i64,.int .i64,.int .i64,.int .i64,.int .u32,.int .u64,.int .u64,.int .i64,.int .i64,.int .i64,.int .u32,.int .u64,.int .u64] λ(x63:Int×Int×Int×Int×Int×Int×Int×Int×Int×Int×Int×Int×Int×Int×Unit)=>
 (0<=z6.2.1/\z6.2.1<((r4.1.n:Nat):Int))/\∃ q64:Addr,r4.1.a=some q64 /\
 StoreV w62 (q64.add (z6.2.1.toNat*15)) [.bool true,.int .i64 x63.1,.int .i64 x63.2.1,.int .i64 x63.2.2.1,.int .i64 x63.2.2.2.1,.int .i64 x63.2.2.2.2.1,.int .u32 x63.2.2.2.2.2.1,.int .u64 x63.2.2.2.2.2.2.1,.int .u64 x63.2.2.2.2.2.2.2.1,.int .i64 x63.2.2.2.2.2.2.2.2.1,.int .i64 x63.2.2.2.2.2.2.2.2.2.1,.int .i64 x63.2.2.2.2.2.2.2.2.2.2.1,.int .u32 x63.2.2.2.2.2.2.2.2.2.2.2.1,.int .u64 x63.2.2.2.2.2.2.2.2.2.2.2.2.1,.int .u64 x63.2.2.2.2.2.2.2.2.2.2.2.2.2.1] λw65=>
 LoadA w65 ⟨b11,0,none⟩ [.bool,.int .i64,.int .i64,.int .i64,.int .i64,.int .i64,.int .u32,.int .u64,.int .u64,.int .i64,.int .i64,.int .i64,.int .u32,.int .u64,.int .u64] λ(x66:Bool×Int×Int×Int×Int×Int×Int×Int×Int×Int×Int×Int×Int×Int×Int×Unit)=>
 CallV Tryz.prog 159 #[.pointer (some p0),.agg #[.bool x66.1,.int .i64 x66.2.1,.int .i64 x66.2.2.1,.int .i64 x66.2.2.2.1,.int .i64 x66.2.2.2.2.1,.int .i64 x66.2.2.2.2.2.1,.int .u32 x66.2.2.2.2.2.2.1,.int .u64 x66.2.2.2.2.2.2.2.1,.int .u64 x66.2.2.2.2.2.2.2.2.1,.int .i64 x66.2.2.2.2.2.2.2.2.2.1,.int .i64 x66.2.2.2.2.2.2.2.2.2.2.1,.int .i64 x66.2.2.2.2.2.2.2.2.2.2.2.1,.int .u32 x66.2.2.2.2.2.2.2.2.2.2.2.2.1,.int .u64 x66.2.2.2.2.2.2.2.2.2.2.2.2.2.1,.int .u64 x66.2.2.2.2.2.2.2.2.2.2.2.2.2.2.1],.slice z6.1.a z6.1.n z6.1.c] w65 [.one .sl] λ(r67:SlV×Unit) w68=>
 Rng .i64 (z6.2.1+1) /\
 K8 (r67.1,z6.2.1+1,()) w68))))))
 (CallV Tryz.prog 160 #[.slice z6.1.a z6.1.n z6.1.c] w7 [.one .sl] λ(r69:SlV×Unit) w70=>
 K (r69.1,(0:Int),()) w70))
theorem pagemap_Map_Put.vc (p0:Addr) (p1_0 p1_1 p1_2 p1_3 p1_4 p1_5 p1_6 p1_7 p1_8 p1_9 p1_10 p1_11 p1_12 p1_13:Int) (w:World) (K:SlV×Int×Unit->World->Prop) (h:pagemap_Map_Put.P p0 p1_0 p1_1 p1_2 p1_3 p1_4 p1_5 p1_6 p1_7 p1_8 p1_9 p1_10 p1_11 p1_12 p1_13 w K):CallV Tryz.prog 118 #[.pointer (some p0),.agg #[.int .i64 p1_0,.int .i64 p1_1,.int .i64 p1_2,.int .i64 p1_3,.int .i64 p1_4,.int .u32 p1_5,.int .u64 p1_6,.int .u64 p1_7,.int .i64 p1_8,.int .i64 p1_9,.int .i64 p1_10,.int .u32 p1_11,.int .u64 p1_12,.int .u64 p1_13]] w [.one .sl,.one (.int .i64)] K:=by
 refine vcFun.of (A:=pagemap_Map_Put.A) (wr:=false) okf_ok follows h Tryz.func118 ?_
 kernel_rfl
def pagemap_Map_Get.A:Ann:=.no
def pagemap_Map_Get.P (p0:Addr) (p1 p2:Int) (w:World) (K:(Int×Int×Int×Int×Int×Int×Int×Int×Int×Int×Int×Int×Int×Int×Unit)×Bool×Unit->World->Prop):Prop:=
 NewV #[.int .i64 0,.int .i64 0,.int .i64 0,.int .i64 0,.int .i64 0,.int .u32 0,.int .u64 0,.int .u64 0,.int .i64 0,.int .i64 0,.int .i64 0,.int .u32 0,.int .u64 0,.int .u64 0] 83 w λb1 w2=>
 CallV Tryz.prog 92 #[.pointer (some p0),.int .i64 p1] w2 [.one .sl] λ(r3:SlV×Unit) w4=>
 cond (decide (p2<0))
 (StoreV w4 ⟨b1,0,none⟩ [.int .i64 0,.int .i64 0,.int .i64 0,.int .i64 0,.int .i64 0,.int .u32 0,.int .u64 0,.int .u64 0,.int .i64 0,.int .i64 0,.int .i64 0,.int .u32 0,.int .u64 0,.int .u64 0] λw5=>
 LoadA w5 ⟨b1,0,none⟩ [.int .i64,.int .i64,.int .i64,.int .i64,.int .i64,.int .u32,.int .u64,.int .u64,.int .i64,.int .i64,.int .i64,.int .u32,.int .u64,.int .u64] λ(x6:Int×Int×Int×Int×Int×Int×Int×Int×Int×Int×Int×Int×Int×Int×Unit)=>
 K ((x6.1,x6.2.1,x6.2.2.1,x6.2.2.2.1,x6.2.2.2.2.1,x6.2.2.2.2.2.1,x6.2.2.2.2.2.2.1,x6.2.2.2.2.2.2.2.1,x6.2.2.2.2.2.2.2.2.1,x6.2.2.2.2.2.2.2.2.2.1,x6.2.2.2.2.2.2.2.2.2.2.1,x6.2.2.2.2.2.2.2.2.2.2.2.1,x6.2.2.2.2.2.2.2.2.2.2.2.2.1,x6.2.2.2.2.2.2.2.2.2.2.2.2.2.1,()),false,()) w5)
 (cond (decide (p2≥((r3.1.n:Nat):Int)))
 (StoreV w4 ⟨b1,0,none⟩ [.int .i64 0,.int .i64 0,.int .i64 0,.int .i64 0,.int .i64 0,.int .u32 0,.int .u64 0,.int .u64 0,.int .i64 0,.int .i64 0,.int .i64 0,.int .u32 0,.int .u64 0,.int .u64 0] λw7=>
 LoadA w7 ⟨b1,0,none⟩ [.int .i64,.int .i64,.int .i64,.int .i64,.int .i64,.int .u32,.int .u64,.int .u64,.int .i64,.int .i64,.int .i64,.int .u32,.int .u64,.int .u64] λ(x8:Int×Int×Int×Int×Int×Int×Int×Int×Int×Int×Int×Int×Int×Int×Unit)=>
 K ((x8.1,x8.2.1,x8.2.2.1,x8.2.2.2.1,x8.2.2.2.2.1,x8.2.2.2.2.2.1,x8.2.2.2.2.2.2.1,x8.2.2.2.2.2.2.2.1,x8.2.2.2.2.2.2.2.2.1,x8.2.2.2.2.2.2.2.2.2.1,x8.2.2.2.2.2.2.2.2.2.2.1,x8.2.2.2.2.2.2.2.2.2.2.2.1,x8.2.2.2.2.2.2.2.2.2.2.2.2.1,x8.2.2.2.2.2.2.2.2.2.2.2.2.2.1,()),false,()) w7)
 ((0<=p2/\p2<((r3.1.n:Nat):Int))/\∃ q9:Addr,r3.1.a=some q9 /\
 LoadS w4 (q9.add (p2.toNat*15)) .bool λ(x10:Bool)=>
 cond (!x10)
 (StoreV w4 ⟨b1,0,none⟩ [.int .i64 0,.int .i64 0,.int .i64 0,.int .i64 0,.int .i64 0,.int .u32 0,.int .u64 0,.int .u64 0,.int .i64 0,.int .i64 0,.int .i64 0,.int .u32 0,.int .u64 0,.int .u64 0] λw11=>
 LoadA w11 ⟨b1,0,none⟩ [.int .i64,.int .i64,.int .i64,.int .i64,.int .i64,.int .u32,.int .u64,.int .u64,.int .i64,.int .i64,.int .i64,.int .u32,.int .u64,.int .u64] λ(x12:Int×Int×Int×Int×Int×Int×Int×Int×Int×Int×Int×Int×Int×Int×Unit)=>
 K ((x12.1,x12.2.1,x12.2.2.1,x12.2.2.2.1,x12.2.2.2.2.1,x12.2.2.2.2.2.1,x12.2.2.2.2.2.2.1,x12.2.2.2.2.2.2.2.1,x12.2.2.2.2.2.2.2.2.1,x12.2.2.2.2.2.2.2.2.2.1,x12.2.2.2.2.2.2.2.2.2.2.1,x12.2.2.2.2.2.2.2.2.2.2.2.1,x12.2.2.2.2.2.2.2.2.2.2.2.2.1,x12.2.2.2.2.2.2.2.2.2.2.2.2.2.1,()),false,()) w11)
 ((0<=p2/\p2<((r3.1.n:Nat):Int))/\∃ q13:Addr,r3.1.a=some q13 /\
 LoadA w4 ((q13.add (p2.toNat*15)).add 1) [.int .i64,.int .i64,.int .i64,.int .i64,.int .i64,.int .u32,.int .u64,.int .u64,.int .i64,.int .i64,.int .i64,.int .u32,.int .u64,.int .u64] λ(x14:Int×Int×Int×Int×Int×Int×Int×Int×Int×Int×Int×Int×Int×Int×Unit)=>
 StoreV w4 ⟨b1,0,none⟩ [.int .i64 x14.1,.int .i64 x14.2.1,.int .i64 x14.2.2.1,.int .i64 x14.2.2.2.1,.int .i64 x14.2.2.2.2.1,.int .u32 x14.2.2.2.2.2.1,.int .u64 x14.2.2.2.2.2.2.1,.int .u64 x14.2.2.2.2.2.2.2.1,.int .i64 x14.2.2.2.2.2.2.2.2.1,.int .i64 x14.2.2.2.2.2.2.2.2.2.1,.int .i64 x14.2.2.2.2.2.2.2.2.2.2.1,.int .u32 x14.2.2.2.2.2.2.2.2.2.2.2.1,.int .u64 x14.2.2.2.2.2.2.2.2.2.2.2.2.1,.int .u64 x14.2.2.2.2.2.2.2.2.2.2.2.2.2.1] λw15=>
 LoadA w15 ⟨b1,0,none⟩ [.int .i64,.int .i64,.int .i64,.int .i64,.int .i64,.int .u32,.int .u64,.int .u64,.int .i64,.int .i64,.int .i64,.int .u32,.int .u64,.int .u64] λ(x16:Int×Int×Int×Int×Int×Int×Int×Int×Int×Int×Int×Int×Int×Int×Unit)=>
 K ((x16.1,x16.2.1,x16.2.2.1,x16.2.2.2.1,x16.2.2.2.2.1,x16.2.2.2.2.2.1,x16.2.2.2.2.2.2.1,x16.2.2.2.2.2.2.2.1,x16.2.2.2.2.2.2.2.2.1,x16.2.2.2.2.2.2.2.2.2.1,x16.2.2.2.2.2.2.2.2.2.2.1,x16.2.2.2.2.2.2.2.2.2.2.2.1,x16.2.2.2.2.2.2.2.2.2.2.2.2.1,x16.2.2.2.2.2.2.2.2.2.2.2.2.2.1,()),true,()) w15)))
theorem pagemap_Map_Get.vc (p0:Addr) (p1 p2:Int) (w:World) (K:(Int×Int×Int×Int×Int×Int×Int×Int×Int×Int×Int×Int×Int×Int×Unit)×Bool×Unit->World->Prop) (h:pagemap_Map_Get.P p0 p1 p2 w K):CallV Tryz.prog 39 #[.pointer (some p0),.int .i64 p1,.int .i64 p2] w [.agg [.int .i64,.int .i64,.int .i64,.int .i64,.int .i64,.int .u32,.int .u64,.int .u64,.int .i64,.int .i64,.int .i64,.int .u32,.int .u64,.int .u64],.one .bool] K:=by
 refine vcFun.of (A:=pagemap_Map_Get.A) (wr:=false) okf_ok follows h Tryz.func39 ?_
 kernel_rfl
def pagemap_Map_Refs.A:Ann:=.two .no (.two .no (.two (.draw (.take 0 (.take 1 (.take 2 (.take 3 (.take 4 (.eff 5 (.take 6 (.done))))))))) .no))
def pagemap_Map_Refs.P (p0:Addr) (p1_0 p1_1:Int) (w:World) (K:Int×Unit->World->Prop):Prop:=
 NewV #[.int .i64 p1_0,.int .i64 p1_1] 81 w λb1 w2=>
 DrawV λD3=>
 (D3 (p0.add 4).block/\LoadS w2.drew (p0.add 4) .map λ(x4:Option Nat)=>
 (D3 b1/\LoadA w2.drew ⟨b1,0,none⟩ [.int .i64,.int .i64] λ(x5:Int×Int×Unit)=>
 RunV Tryz.prog (Instr.lookup 183 (.map x4) (.agg #[.int .i64 x5.1,.int .i64 x5.2.1]) false) w2.drew [.one (.int .i64)] λ(r6:Int×Unit) w7=>
 KeepOn D3 w2.drew w7 /\
 K (r6.1,()) w7))
theorem pagemap_Map_Refs.vc (p0:Addr) (p1_0 p1_1:Int) (w:World) (K:Int×Unit->World->Prop) (h:pagemap_Map_Refs.P p0 p1_0 p1_1 w K):CallV Tryz.prog 120 #[.pointer (some p0),.agg #[.int .i64 p1_0,.int .i64 p1_1]] w [.one (.int .i64)] K:=by
 refine vcFun.of (A:=pagemap_Map_Refs.A) (wr:=false) okf_ok follows h Tryz.func120 ?_
 kernel_rfl
def pagemap_Map_Move.A:Ann:=.two .no (.two (.two (.draw (.take 0 (.take 1 (.take 2 (.take 3 (.take 4 (.take 5 (.take 6 (.take 7 (.take 8 (.take 9 (.take 10 (.take 11 (.eff 12 (.take 13 (.take 14 (.take 15 (.done)))))))))))))))))) .no) (.two (.draw (.take 0 (.take 1 (.take 2 (.take 3 (.take 4 (.eff 5 (.take 6 (.done))))))))) (.two (.two .no (.one (.loop [11,12,13,40,41,42,43,44,45,46,47,48,49,50,51,52,53,54,55,56,57,58,59,60,61,62,63,64,65,66,67,68,69,70,71,72] [(40,.one (.int .i64))] (.two .no (.two .no (.two (.one (.two .no (.two .no (.one (.loop [12,13,45,46,47,48,49,50,51,52,53,54,55,56,57,58,59,60,61,62,63,64,65,66,67,68,69,70,71] [(45,.one (.int .i64))] (.two .no (.two .no (.two (.one (.two .no (.two .no (.two (.draw (.take 0 (.take 1 (.take 2 (.take 3 (.take 4 (.take 5 (.take 6 (.take 7 (.take 8 (.eff 9 (.take 10 (.take 11 (.take 12 (.eff 13 (.done)))))))))))))))) .no)))) .no)))))))) .no)))))) (.two (.two .no (.two (.two (.draw (.take 0 (.take 1 (.take 2 (.take 3 (.take 4 (.take 5 (.eff 6 (.done))))))))) (.draw (.take 0 (.take 1 (.take 2 (.take 3 (.take 4 (.eff 5 (.done))))))))) .no)) .no))))
def pagemap_Map_Move.P (p0:Addr) (p1_0 p1_1 p2_0 p2_1 p3_0 p3_1 p3_2 p3_3 p3_4 p3_5:Int) (w:World) (K:Int×Unit->World->Prop):Prop:=
 NewV #[.int .i64 p1_0,.int .i64 p1_1] 81 w λb1 w2=>
 NewV #[.int .i64 p2_0,.int .i64 p2_1] 81 w2 λb3 w4=>
 NewV #[.int .i64 p3_0,.int .i64 p3_1,.int .i64 p3_2,.int .u32 p3_3,.int .u64 p3_4,.int .u64 p3_5] 62 w4 λb5 w6=>
 DrawV λD7=>
 (D7 b1/\LoadA w6.drew ⟨b1,0,none⟩ [.int .i64,.int .i64] λ(x8:Int×Int×Unit)=>
 (D7 b3/\LoadA w6.drew ⟨b3,0,none⟩ [.int .i64,.int .i64] λ(x9:Int×Int×Unit)=>
 AggEq Tryz.prog 81 #[.int .i64 x8.1,.int .i64 x8.2.1] #[.int .i64 x9.1,.int .i64 x9.2.1] λe10=>
 cond (!e10)
 ((D7 (p0.add 4).block/\LoadS w6.drew (p0.add 4) .map λ(x11:Option Nat)=>
 (D7 b3/\LoadA w6.drew ⟨b3,0,none⟩ [.int .i64,.int .i64] λ(x12:Int×Int×Unit)=>
 RunV Tryz.prog (Instr.lookup 183 (.map x11) (.agg #[.int .i64 x12.1,.int .i64 x12.2.1]) false) w6.drew [.one (.int .i64)] λ(r13:Int×Unit) w14=>
 KeepOn D7 w6.drew w14 /\
 cond (decide (r13.1>0))
 (K ((2:Int),()) w14)
 (DrawV λD15=>
 (D15 (p0.add 4).block/\LoadS w14.drew (p0.add 4) .map λ(x16:Option Nat)=>
 (D15 b1/\LoadA w14.drew ⟨b1,0,none⟩ [.int .i64,.int .i64] λ(x17:Int×Int×Unit)=>
 RunV Tryz.prog (Instr.lookup 183 (.map x16) (.agg #[.int .i64 x17.1,.int .i64 x17.2.1]) false) w14.drew [.one (.int .i64)] λ(r18:Int×Unit) w19=>
 KeepOn D15 w14.drew w19 /\
 LoadA w19 p0 [.sl,.sl,.sl,.sl] λ(x20:SlV×SlV×SlV×SlV×Unit)=>
 LoopV [.one (.int .i64)] ((0:Int),()) w19 λ(z21:Int×Unit) w22 (K23:Int×Unit->World->Prop)=>
 cond (decide (z21.1<4))
 ((0<=z21.1/\z21.1<(4:Int))/\∃ y24:SlV,([.slice x20.1.a x20.1.n x20.1.c,.slice x20.2.1.a x20.2.1.n x20.2.1.c,.slice x20.2.2.1.a x20.2.2.1.n x20.2.2.1.c,.slice x20.2.2.2.1.a x20.2.2.2.1.n x20.2.2.2.1.c]:List Value)[z21.1.toNat*1]? = some (.slice y24.a y24.n y24.c) /\
 LoopV [.one (.int .i64)] ((0:Int),()) w22 λ(z25:Int×Unit) w26 (K27:Int×Unit->World->Prop)=>
 cond (decide (z25.1<((y24.n:Nat):Int)))
 ((0<=z25.1/\z25.1<((y24.n:Nat):Int))/\∃ q28:Addr,y24.a=some q28 /\
 LoadA w26 (q28.add (z25.1.toNat*15)) [.bool,.int .i64,.int .i64,.int .i64,.int .i64,.int .i64,.int .u32,.int .u64,.int .u64,.int .i64,.int .i64,.int .i64,.int .u32,.int .u64,.int .u64] λ(x29:Bool×Int×Int×Int×Int×Int×Int×Int×Int×Int×Int×Int×Int×Int×Int×Unit)=>
 NewV #[.bool false,.int .i64 0,.int .i64 0,.int .i64 0,.int .i64 0,.int .i64 0,.int .u32 0,.int .u64 0,.int .u64 0,.int .i64 0,.int .i64 0,.int .i64 0,.int .u32 0,.int .u64 0,.int .u64 0] 178 w26 λb30 w31=>
 StoreV w31 ⟨b30,0,none⟩ [.bool x29.1,.int .i64 x29.2.1,.int .i64 x29.2.2.1,.int .i64 x29.2.2.2.1,.int .i64 x29.2.2.2.2.1,.int .i64 x29.2.2.2.2.2.1,.int .u32 x29.2.2.2.2.2.2.1,.int .u64 x29.2.2.2.2.2.2.2.1,.int .u64 x29.2.2.2.2.2.2.2.2.1,.int .i64 x29.2.2.2.2.2.2.2.2.2.1,.int .i64 x29.2.2.2.2.2.2.2.2.2.2.1,.int .i64 x29.2.2.2.2.2.2.2.2.2.2.2.1,.int .u32 x29.2.2.2.2.2.2.2.2.2.2.2.2.1,.int .u64 x29.2.2.2.2.2.2.2.2.2.2.2.2.2.1,.int .u64 x29.2.2.2.2.2.2.2.2.2.2.2.2.2.2.1] λw32=>
 LoadS w32 ⟨b30,0,none⟩ .bool λ(x33:Bool)=>
 cond x33
 (LoadA w32 ⟨b30,1,none⟩ [.int .i64,.int .i64] λ(x34:Int×Int×Unit)=>
 LoadA w32 ⟨b1,0,none⟩ [.int .i64,.int .i64] λ(x35:Int×Int×Unit)=>
 AggEq Tryz.prog 81 #[.int .i64 x34.1,.int .i64 x34.2.1] #[.int .i64 x35.1,.int .i64 x35.2.1] λe36=>
 cond e36
 (DrawV λD37=>
 (D37 b3/\LoadA w32.drew ⟨b3,0,none⟩ [.int .i64,.int .i64] λ(x38:Int×Int×Unit)=>
 (D37 b5/\LoadA w32.drew ⟨b5,0,none⟩ [.int .i64,.int .i64,.int .i64,.int .u32,.int .u64,.int .u64] λ(x39:Int×Int×Int×Int×Int×Int×Unit)=>
 (0<=z25.1/\z25.1<((y24.n:Nat):Int))/\∃ q40:Addr,y24.a=some q40 /\
 StoreV w32.drew ((q40.add (z25.1.toNat*15)).add 1) [.int .i64 x38.1,.int .i64 x38.2.1] λw41=>
 KeepOn D37 w32.drew w41 /\
 (0<=z25.1/\z25.1<((y24.n:Nat):Int))/\∃ q42:Addr,y24.a=some q42 /\
 StoreV w41 (((q42.add (z25.1.toNat*15)).add 1).add 8) [.int .i64 x39.1,.int .i64 x39.2.1,.int .i64 x39.2.2.1,.int .u32 x39.2.2.2.1,.int .u64 x39.2.2.2.2.1,.int .u64 x39.2.2.2.2.2.1] λw43=>
 KeepOn D37 w32.drew w43 /\
 Rng .i64 (z25.1+1) /\
 K27 (z25.1+1,()) w43)))
 (Rng .i64 (z25.1+1) /\
 K27 (z25.1+1,()) w32))
 (Rng .i64 (z25.1+1) /\
 K27 (z25.1+1,()) w32))
 (Rng .i64 (z21.1+1) /\
 K23 (z21.1+1,()) w26))
 (cond (decide (r18.1>0))
 (LoadA w22 ⟨b1,0,none⟩ [.int .i64,.int .i64] λ(x44:Int×Int×Unit)=>
 LoadA w22 ⟨b3,0,none⟩ [.int .i64,.int .i64] λ(x45:Int×Int×Unit)=>
 AggEq Tryz.prog 81 #[.int .i64 x44.1,.int .i64 x44.2.1] #[.int .i64 x45.1,.int .i64 x45.2.1] λe46=>
 cond (!e46)
 (DrawV λD47=>
 (D47 (p0.add 4).block/\LoadS w22.drew (p0.add 4) .map λ(x48:Option Nat)=>
 (D47 b3/\LoadA w22.drew ⟨b3,0,none⟩ [.int .i64,.int .i64] λ(x49:Int×Int×Unit)=>
 RunU Tryz.prog (Instr.mapUpdate 183 (.map x48) (.agg #[.int .i64 x49.1,.int .i64 x49.2.1]) (.int .i64 r18.1)) w22.drew λw50=>
 KeepOn D47 w22.drew w50 /\
 DrawV λD51=>
 (D51 (p0.add 4).block/\LoadS w50.drew (p0.add 4) .map λ(x52:Option Nat)=>
 (D51 b1/\LoadA w50.drew ⟨b1,0,none⟩ [.int .i64,.int .i64] λ(x53:Int×Int×Unit)=>
 DelV Tryz.prog [183,81] [.map x52,.agg #[.int .i64 x53.1,.int .i64 x53.2.1]] w50.drew λw54=>
 KeepOn D51 w50.drew w54 /\
 K ((0:Int),()) w54)))))
 (K ((0:Int),()) w22))
 (K ((0:Int),()) w22))))))))
 (DrawV λD55=>
 (D55 (p0.add 4).block/\LoadS w6.drew.drew (p0.add 4) .map λ(x56:Option Nat)=>
 (D55 b1/\LoadA w6.drew.drew ⟨b1,0,none⟩ [.int .i64,.int .i64] λ(x57:Int×Int×Unit)=>
 RunV Tryz.prog (Instr.lookup 183 (.map x56) (.agg #[.int .i64 x57.1,.int .i64 x57.2.1]) false) w6.drew.drew [.one (.int .i64)] λ(r58:Int×Unit) w59=>
 KeepOn D55 w6.drew.drew w59 /\
 LoadA w59 p0 [.sl,.sl,.sl,.sl] λ(x60:SlV×SlV×SlV×SlV×Unit)=>
 LoopV [.one (.int .i64)] ((0:Int),()) w59 λ(z61:Int×Unit) w62 (K63:Int×Unit->World->Prop)=>
 cond (decide (z61.1<4))
 ((0<=z61.1/\z61.1<(4:Int))/\∃ y64:SlV,([.slice x60.1.a x60.1.n x60.1.c,.slice x60.2.1.a x60.2.1.n x60.2.1.c,.slice x60.2.2.1.a x60.2.2.1.n x60.2.2.1.c,.slice x60.2.2.2.1.a x60.2.2.2.1.n x60.2.2.2.1.c]:List Value)[z61.1.toNat*1]? = some (.slice y64.a y64.n y64.c) /\
 LoopV [.one (.int .i64)] ((0:Int),()) w62 λ(z65:Int×Unit) w66 (K67:Int×Unit->World->Prop)=>
 cond (decide (z65.1<((y64.n:Nat):Int)))
 ((0<=z65.1/\z65.1<((y64.n:Nat):Int))/\∃ q68:Addr,y64.a=some q68 /\
 LoadA w66 (q68.add (z65.1.toNat*15)) [.bool,.int .i64,.int .i64,.int .i64,.int .i64,.int .i64,.int .u32,.int .u64,.int .u64,.int .i64,.int .i64,.int .i64,.int .u32,.int .u64,.int .u64] λ(x69:Bool×Int×Int×Int×Int×Int×Int×Int×Int×Int×Int×Int×Int×Int×Int×Unit)=>
 NewV #[.bool false,.int .i64 0,.int .i64 0,.int .i64 0,.int .i64 0,.int .i64 0,.int .u32 0,.int .u64 0,.int .u64 0,.int .i64 0,.int .i64 0,.int .i64 0,.int .u32 0,.int .u64 0,.int .u64 0] 178 w66 λb70 w71=>
 StoreV w71 ⟨b70,0,none⟩ [.bool x69.1,.int .i64 x69.2.1,.int .i64 x69.2.2.1,.int .i64 x69.2.2.2.1,.int .i64 x69.2.2.2.2.1,.int .i64 x69.2.2.2.2.2.1,.int .u32 x69.2.2.2.2.2.2.1,.int .u64 x69.2.2.2.2.2.2.2.1,.int .u64 x69.2.2.2.2.2.2.2.2.1,.int .i64 x69.2.2.2.2.2.2.2.2.2.1,.int .i64 x69.2.2.2.2.2.2.2.2.2.2.1,.int .i64 x69.2.2.2.2.2.2.2.2.2.2.2.1,.int .u32 x69.2.2.2.2.2.2.2.2.2.2.2.2.1,.int .u64 x69.2.2.2.2.2.2.2.2.2.2.2.2.2.1,.int .u64 x69.2.2.2.2.2.2.2.2.2.2.2.2.2.2.1] λw72=>
 LoadS w72 ⟨b70,0,none⟩ .bool λ(x73:Bool)=>
 cond x73
 (LoadA w72 ⟨b70,1,none⟩ [.int .i64,.int .i64] λ(x74:Int×Int×Unit)=>
 LoadA w72 ⟨b1,0,none⟩ [.int .i64,.int .i64] λ(x75:Int×Int×Unit)=>
 AggEq Tryz.prog 81 #[.int .i64 x74.1,.int .i64 x74.2.1] #[.int .i64 x75.1,.int .i64 x75.2.1] λe76=>
 cond e76
 (DrawV λD77=>
 (D77 b3/\LoadA w72.drew ⟨b3,0,none⟩ [.int .i64,.int .i64] λ(x78:Int×Int×Unit)=>
 (D77 b5/\LoadA w72.drew ⟨b5,0,none⟩ [.int .i64,.int .i64,.int .i64,.int .u32,.int .u64,.int .u64] λ(x79:Int×Int×Int×Int×Int×Int×Unit)=>
 (0<=z65.1/\z65.1<((y64.n:Nat):Int))/\∃ q80:Addr,y64.a=some q80 /\
 StoreV w72.drew ((q80.add (z65.1.toNat*15)).add 1) [.int .i64 x78.1,.int .i64 x78.2.1] λw81=>
 KeepOn D77 w72.drew w81 /\
 (0<=z65.1/\z65.1<((y64.n:Nat):Int))/\∃ q82:Addr,y64.a=some q82 /\
 StoreV w81 (((q82.add (z65.1.toNat*15)).add 1).add 8) [.int .i64 x79.1,.int .i64 x79.2.1,.int .i64 x79.2.2.1,.int .u32 x79.2.2.2.1,.int .u64 x79.2.2.2.2.1,.int .u64 x79.2.2.2.2.2.1] λw83=>
 KeepOn D77 w72.drew w83 /\
 Rng .i64 (z65.1+1) /\
 K67 (z65.1+1,()) w83)))
 (Rng .i64 (z65.1+1) /\
 K67 (z65.1+1,()) w72))
 (Rng .i64 (z65.1+1) /\
 K67 (z65.1+1,()) w72))
 (Rng .i64 (z61.1+1) /\
 K63 (z61.1+1,()) w66))
 (cond (decide (r58.1>0))
 (LoadA w62 ⟨b1,0,none⟩ [.int .i64,.int .i64] λ(x84:Int×Int×Unit)=>
 LoadA w62 ⟨b3,0,none⟩ [.int .i64,.int .i64] λ(x85:Int×Int×Unit)=>
 AggEq Tryz.prog 81 #[.int .i64 x84.1,.int .i64 x84.2.1] #[.int .i64 x85.1,.int .i64 x85.2.1] λe86=>
 cond (!e86)
 (DrawV λD87=>
 (D87 (p0.add 4).block/\LoadS w62.drew (p0.add 4) .map λ(x88:Option Nat)=>
 (D87 b3/\LoadA w62.drew ⟨b3,0,none⟩ [.int .i64,.int .i64] λ(x89:Int×Int×Unit)=>
 RunU Tryz.prog (Instr.mapUpdate 183 (.map x88) (.agg #[.int .i64 x89.1,.int .i64 x89.2.1]) (.int .i64 r58.1)) w62.drew λw90=>
 KeepOn D87 w62.drew w90 /\
 DrawV λD91=>
 (D91 (p0.add 4).block/\LoadS w90.drew (p0.add 4) .map λ(x92:Option Nat)=>
 (D91 b1/\LoadA w90.drew ⟨b1,0,none⟩ [.int .i64,.int .i64] λ(x93:Int×Int×Unit)=>
 DelV Tryz.prog [183,81] [.map x92,.agg #[.int .i64 x93.1,.int .i64 x93.2.1]] w90.drew λw94=>
 KeepOn D91 w90.drew w94 /\
 K ((0:Int),()) w94)))))
 (K ((0:Int),()) w62))
 (K ((0:Int),()) w62)))))))
theorem pagemap_Map_Move.vc (p0:Addr) (p1_0 p1_1 p2_0 p2_1 p3_0 p3_1 p3_2 p3_3 p3_4 p3_5:Int) (w:World) (K:Int×Unit->World->Prop) (h:pagemap_Map_Move.P p0 p1_0 p1_1 p2_0 p2_1 p3_0 p3_1 p3_2 p3_3 p3_4 p3_5 w K):CallV Tryz.prog 211 #[.pointer (some p0),.agg #[.int .i64 p1_0,.int .i64 p1_1],.agg #[.int .i64 p2_0,.int .i64 p2_1],.agg #[.int .i64 p3_0,.int .i64 p3_1,.int .i64 p3_2,.int .u32 p3_3,.int .u64 p3_4,.int .u64 p3_5]] w [.one (.int .i64)] K:=by
 refine vcFun.of (A:=pagemap_Map_Move.A) (wr:=false) okf_ok follows h Tryz.func211 ?_
 kernel_rfl
def pagemap_Map_In.A:Ann:=.two .no (.two .no (.two .no (.two (.two .no (.one (.loop [5,7,9,11,12,13,14,15,16,17,18,19,20,21,22,23,24,25,26,27,28,29,30,31,32,33,34,35,36,37,38,39,40,41,42,43,44,45,46,47,48,49,50,51,52,53,54] [(5,.one .sl),(11,.one (.int .i64))] (.two .no (.two .no (.two (.one (.two .no (.two .no (.one (.loop [5,9,18,19,20,21,22,23,24,25,26,27,28,29,30,31,32,33,34,35,36,37,38,39,40,41,42,43,44,45,46,47,48,49,50,51,52,53] [(5,.one .sl),(18,.one (.int .i64))] (.two .no (.two .no (.two (.one (.two .no (.two .no (.two (.two (.draw (.take 0 (.take 1 (.take 2 (.take 3 (.both 4 (.take 5 (.eff 6 (.take 7 (.eff 8 (.done))))) 6 (.take 7 (.eff 4 (.take 5 (.eff 8 (.done))))))))))) .no) .no)))) .no)))))))) .no)))))) .no)))
def pagemap_Map_In.P (p0:Addr) (p1:Int) (w:World) (K:SlV×Unit->World->Prop):Prop:=
 NewM w λb1 w2=>
 LoopV [.one .sl,.one (.int .i64)] ((⟨none,0,0⟩:SlV),(0:Int),()) w2 λ(z3:SlV×Int×Unit) w4 (K5:SlV×Int×Unit->World->Prop)=>
 cond (decide (z3.2.1<4))
 (CallV Tryz.prog 92 #[.pointer (some p0),.int .i64 z3.2.1] w4 [.one .sl] λ(r6:SlV×Unit) w7=>
 LoopV [.one .sl,.one (.int .i64)] (z3.1,(0:Int),()) w7 λ(z8:SlV×Int×Unit) w9 (K10:SlV×Int×Unit->World->Prop)=>
 cond (decide (z8.2.1<((r6.1.n:Nat):Int)))
 ((0<=z8.2.1/\z8.2.1<((r6.1.n:Nat):Int))/\∃ q11:Addr,r6.1.a=some q11 /\
 LoadA w9 (q11.add (z8.2.1.toNat*15)) [.bool,.int .i64,.int .i64,.int .i64,.int .i64,.int .i64,.int .u32,.int .u64,.int .u64,.int .i64,.int .i64,.int .i64,.int .u32,.int .u64,.int .u64] λ(x12:Bool×Int×Int×Int×Int×Int×Int×Int×Int×Int×Int×Int×Int×Int×Int×Unit)=>
 NewV #[.bool false,.int .i64 0,.int .i64 0,.int .i64 0,.int .i64 0,.int .i64 0,.int .u32 0,.int .u64 0,.int .u64 0,.int .i64 0,.int .i64 0,.int .i64 0,.int .u32 0,.int .u64 0,.int .u64 0] 178 w9 λb13 w14=>
 StoreV w14 ⟨b13,0,none⟩ [.bool x12.1,.int .i64 x12.2.1,.int .i64 x12.2.2.1,.int .i64 x12.2.2.2.1,.int .i64 x12.2.2.2.2.1,.int .i64 x12.2.2.2.2.2.1,.int .u32 x12.2.2.2.2.2.2.1,.int .u64 x12.2.2.2.2.2.2.2.1,.int .u64 x12.2.2.2.2.2.2.2.2.1,.int .i64 x12.2.2.2.2.2.2.2.2.2.1,.int .i64 x12.2.2.2.2.2.2.2.2.2.2.1,.int .i64 x12.2.2.2.2.2.2.2.2.2.2.2.1,.int .u32 x12.2.2.2.2.2.2.2.2.2.2.2.2.1,.int .u64 x12.2.2.2.2.2.2.2.2.2.2.2.2.2.1,.int .u64 x12.2.2.2.2.2.2.2.2.2.2.2.2.2.2.1] λw15=>
 LoadS w15 ⟨b13,0,none⟩ .bool λ(x16:Bool)=>
 cond x16
 (LoadS w15 ⟨b13,1,none⟩ (.int .i64) λ(x17:Int)=>
 cond (x17 == p1)
 (LoadA w15 ⟨b13,1,none⟩ [.int .i64,.int .i64] λ(x18:Int×Int×Unit)=>
 RunV Tryz.prog (Instr.lookup 183 (.map (some b1)) (.agg #[.int .i64 x18.1,.int .i64 x18.2.1]) false) w15 [.one (.int .i64)] λ(r19:Int×Unit) w20=>
 cond (r19.1 == 0)
 (DrawV λD21=>
 (D21 b13/\LoadA w20.drew ⟨b13,1,none⟩ [.int .i64,.int .i64] λ(x22:Int×Int×Unit)=>
 ((RunV Tryz.prog (Instr.lookup 183 (.map (some b1)) (.agg #[.int .i64 x22.1,.int .i64 x22.2.1]) false) w20.drew [.one (.int .i64)] λ(r23:Int×Unit) w24=>
 KeepOn D21 w20.drew w24 /\
 Rng .i64 (r23.1+1) /\
 RunV Tryz.prog (Instr.mapEntry 183 (.map (some b1)) (.agg #[.int .i64 x22.1,.int .i64 x22.2.1])) w24 [.one (.int .i64),.one (.int .i64)] λ(r25:Int×Int×Unit) w26=>
 KeepOn D21 w20.drew w26 /\
 RunU Tryz.prog (Instr.entryStore 183 (.map (some b1)) (.int .i64 r25.2.1) (.int .i64 (r23.1+1))) w26 λw27=>
 KeepOn D21 w20.drew w27 /\
 LoadA w27 ⟨b13,1,none⟩ [.int .i64,.int .i64,.int .i64,.int .i64,.int .i64,.int .u32,.int .u64,.int .u64,.int .i64,.int .i64,.int .i64,.int .u32,.int .u64,.int .u64] λ(x28:Int×Int×Int×Int×Int×Int×Int×Int×Int×Int×Int×Int×Int×Int×Unit)=>
 NewV #[.int .i64 x28.1,.int .i64 x28.2.1,.int .i64 x28.2.2.1,.int .i64 x28.2.2.2.1,.int .i64 x28.2.2.2.2.1,.int .u32 x28.2.2.2.2.2.1,.int .u64 x28.2.2.2.2.2.2.1,.int .u64 x28.2.2.2.2.2.2.2.1,.int .i64 x28.2.2.2.2.2.2.2.2.1,.int .i64 x28.2.2.2.2.2.2.2.2.2.1,.int .i64 x28.2.2.2.2.2.2.2.2.2.2.1,.int .u32 x28.2.2.2.2.2.2.2.2.2.2.2.1,.int .u64 x28.2.2.2.2.2.2.2.2.2.2.2.2.1,.int .u64 x28.2.2.2.2.2.2.2.2.2.2.2.2.2.1] 83 w27 λb29 w30=>
 AppS w30 (some ⟨b29,0,none⟩) 1 14 λns35=>
 AppV w30 83 14 112 z8.1.a z8.1.n z8.1.c ns35 1 λa31 n32 c33 w34=>
 Rng .i64 (z8.2.1+1) /\
 K10 ((⟨a31,n32,c33⟩:SlV),z8.2.1+1,()) w34) /\
 (RunV Tryz.prog (Instr.mapEntry 183 (.map (some b1)) (.agg #[.int .i64 x22.1,.int .i64 x22.2.1])) w20.drew [.one (.int .i64),.one (.int .i64)] λ(r36:Int×Int×Unit) w37=>
 KeepOn D21 w20.drew w37 /\
 RunV Tryz.prog (Instr.lookup 183 (.map (some b1)) (.agg #[.int .i64 x22.1,.int .i64 x22.2.1]) false) w37 [.one (.int .i64)] λ(r38:Int×Unit) w39=>
 KeepOn D21 w20.drew w39 /\
 Rng .i64 (r38.1+1) /\
 RunU Tryz.prog (Instr.entryStore 183 (.map (some b1)) (.int .i64 r36.2.1) (.int .i64 (r38.1+1))) w39 λw40=>
 KeepOn D21 w20.drew w40 /\
 LoadA w40 ⟨b13,1,none⟩ [.int .i64,.int .i64,.int .i64,.int .i64,.int .i64,.int .u32,.int .u64,.int .u64,.int .i64,.int .i64,.int .i64,.int .u32,.int .u64,.int .u64] λ(x41:Int×Int×Int×Int×Int×Int×Int×Int×Int×Int×Int×Int×Int×Int×Unit)=>
 NewV #[.int .i64 x41.1,.int .i64 x41.2.1,.int .i64 x41.2.2.1,.int .i64 x41.2.2.2.1,.int .i64 x41.2.2.2.2.1,.int .u32 x41.2.2.2.2.2.1,.int .u64 x41.2.2.2.2.2.2.1,.int .u64 x41.2.2.2.2.2.2.2.1,.int .i64 x41.2.2.2.2.2.2.2.2.1,.int .i64 x41.2.2.2.2.2.2.2.2.2.1,.int .i64 x41.2.2.2.2.2.2.2.2.2.2.1,.int .u32 x41.2.2.2.2.2.2.2.2.2.2.2.1,.int .u64 x41.2.2.2.2.2.2.2.2.2.2.2.2.1,.int .u64 x41.2.2.2.2.2.2.2.2.2.2.2.2.2.1] 83 w40 λb42 w43=>
 AppS w43 (some ⟨b42,0,none⟩) 1 14 λns48=>
 AppV w43 83 14 112 z8.1.a z8.1.n z8.1.c ns48 1 λa44 n45 c46 w47=>
 Rng .i64 (z8.2.1+1) /\
 K10 ((⟨a44,n45,c46⟩:SlV),z8.2.1+1,()) w47))))
 (Rng .i64 (z8.2.1+1) /\
 K10 (z8.1,z8.2.1+1,()) w20))
 (Rng .i64 (z8.2.1+1) /\
 K10 (z8.1,z8.2.1+1,()) w15))
 (Rng .i64 (z8.2.1+1) /\
 K10 (z8.1,z8.2.1+1,()) w15))
 (Rng .i64 (z3.2.1+1) /\
 K5 (z8.1,z3.2.1+1,()) w9))
 (CallV Tryz.prog 126 #[.slice z3.1.a z3.1.n z3.1.c,.func (.func 127) #[] #[]] w4 [] λ(r49:Unit) w50=>
 K (z3.1,()) w50)
theorem pagemap_Map_In.vc (p0:Addr) (p1:Int) (w:World) (K:SlV×Unit->World->Prop) (h:pagemap_Map_In.P p0 p1 w K):CallV Tryz.prog 53 #[.pointer (some p0),.int .i64 p1] w [.one .sl] K:=by
 refine vcFun.of (A:=pagemap_Map_In.A) (wr:=false) okf_ok follows h Tryz.func53 ?_
 kernel_rfl
end Go.Proofs.YtbaojfchlhlaeaaGreat.Vc
namespace Go.Proofs.YtbaojfchlhlaeaaGreat.Vc
open Go Go.Eng Go.RowKit
structure Hh where
 k:Int
 n:Int
 c:Int
 l:Int
 e:Int
 t:Int
abbrev Hh.vs (h:Hh):List Value:=[.int .i64 h.k,.int .i64 h.n,.int .i64 h.c,.int .u32 h.l,.int .u64 h.e,.int .u64 h.t]
abbrev Hh.val (h:Hh):Value:=.agg #[.int .i64 h.k,.int .i64 h.n,.int .i64 h.c,.int .u32 h.l,.int .u64 h.e,.int .u64 h.t]
structure Sp where
 b:Int
 p:Int
 h:Hh
 o:Hh
abbrev Sp.vs (s:Sp):List Value:=[.int .i64 s.b,.int .i64 s.p,.int .i64 s.h.k,.int .i64 s.h.n,.int .i64 s.h.c,.int .u32 s.h.l,.int .u64 s.h.e,.int .u64 s.h.t,.int .i64 s.o.k,.int .i64 s.o.n,.int .i64 s.o.c,.int .u32 s.o.l,.int .u64 s.o.e,.int .u64 s.o.t]
abbrev Sp.val (s:Sp):Value:=.agg #[.int .i64 s.b,.int .i64 s.p,.int .i64 s.h.k,.int .i64 s.h.n,.int .i64 s.h.c,.int .u32 s.h.l,.int .u64 s.h.e,.int .u64 s.h.t,.int .i64 s.o.k,.int .i64 s.o.n,.int .i64 s.o.c,.int .u32 s.o.l,.int .u64 s.o.e,.int .u64 s.o.t]
abbrev Sp.tup (s:Sp):Int×Int×Int×Int×Int×Int×Int×Int×Int×Int×Int×Int×Int×Int×Unit:=(s.b,s.p,s.h.k,s.h.n,s.h.c,s.h.l,s.h.e,s.h.t,s.o.k,s.o.n,s.o.c,s.o.l,s.o.e,s.o.t,())
abbrev SH14:List SS:=[.int .i64,.int .i64,.int .i64,.int .i64,.int .i64,.int .u32,.int .u64,.int .u64,.int .i64,.int .i64,.int .i64,.int .u32,.int .u64,.int .u64]
def Hh0:Hh:=⟨0,0,0,0,0,0⟩
def Sp0:Sp:=⟨0,0,Hh0,Hh0⟩
def lesH (a b:Hh):Prop:=a.e<b.e\/a.e=b.e/\a.t<b.t
instance (a b:Hh):Decidable (lesH a b):=by unfold lesH;infer_instance
def nwrH (a b:Sp):Prop:=lesH b.h a.h\/¬ lesH a.h b.h/\lesH b.o a.o
instance (a b:Sp):Decidable (nwrH a b):=by unfold nwrH;infer_instance
section
variable {w:World}
theorem Less22_c {a b:Hh}:CallV Tryz.prog 195 #[a.val,b.val] w [.one .bool] λr w'=>r.1=decide (lesH a b)/\Ext w w':=by
 apply head_Less.vc
 unfold head_Less.P
 have S:=Sep.start NoB w
 refine S.newB λb1 _ S _ _=>?_
 refine S.newB λb3 _ S _ _=>?_
 unfold lesH
 refine S.ld1 (j:=4) rfl rfl (S.ld0 (j:=4) rfl rfl (cond_ne (λh=>?_) (λh=>?_)))
 ·refine S.ld1 (j:=4) rfl rfl (S.ld0 (j:=4) rfl rfl ⟨decide_eq_decide.2 ⟨λk=>.inl k,λk=>k.elim id λk=>absurd k.1 h⟩,S.ext⟩)
 ·refine S.ld1 (j:=5) rfl rfl (S.ld0 (j:=5) rfl rfl ⟨decide_eq_decide.2 ⟨λk=>.inr ⟨h,k⟩,λk=>k.elim (λk=>by omega) λk=>k.2⟩,S.ext⟩)
theorem Newer22_c {a b:Sp}:CallV Tryz.prog 171 #[a.val,b.val] w [.one .bool] λr w'=>r.1=decide (nwrH a b)/\Ext w w':=by
 apply pagemap_Newer.vc
 unfold pagemap_Newer.P
 have S:=Sep.start NoB w
 refine S.newB λb1 _ S _ _=>?_
 refine S.newB λb3 _ S _ _=>?_
 refine S.lb0 (o:=2) rfl (S.lb1 (o:=2) rfl ?_)
 refine (Less22_c (a:=b.h) (b:=a.h)).mono ?_
 rintro ⟨(r:Bool),⟨⟩⟩ w2 ⟨h2,x2⟩
 dsimp only at h2 ⊢
 subst h2
 have S:=S.stepE x2
 unfold nwrH
 refine cond_d (λh=>⟨(decide_eq_true (.inl h)).symm,S.ext⟩) (λh=>?_)
 refine S.lb1 (o:=2) rfl (S.lb0 (o:=2) rfl ?_)
 refine (Less22_c (a:=a.h) (b:=b.h)).mono ?_
 rintro ⟨(r:Bool),⟨⟩⟩ w3 ⟨h3,x3⟩
 dsimp only at h3 ⊢
 subst h3
 have S:=S.stepE x3
 refine cond_d (λh2=>⟨(decide_eq_false (λk=>k.elim h λk=>k.1 h2)).symm,S.ext⟩) (λh2=>?_)
 refine S.lb0 (o:=8) rfl (S.lb1 (o:=8) rfl ?_)
 refine (Less22_c (a:=b.o) (b:=a.o)).mono ?_
 rintro ⟨(r:Bool),⟨⟩⟩ w4 ⟨h4,x4⟩
 dsimp only at h4 ⊢
 subst h4
 exact ⟨decide_eq_decide.2 ⟨λk=>.inr ⟨h2,k⟩,λk=>k.elim (λk=>absurd k h) λk=>k.2⟩,(S.stepE x4).ext⟩
end
structure Ce where
 has:Bool
 s:Sp
abbrev Ce.vs (x:Ce):List Value:=.bool x.has::x.s.vs
abbrev Ce.val (x:Ce):Value:=.agg #[.bool x.has,.int .i64 x.s.b,.int .i64 x.s.p,.int .i64 x.s.h.k,.int .i64 x.s.h.n,.int .i64 x.s.h.c,.int .u32 x.s.h.l,.int .u64 x.s.h.e,.int .u64 x.s.h.t,.int .i64 x.s.o.k,.int .i64 x.s.o.n,.int .i64 x.s.o.c,.int .u32 x.s.o.l,.int .u64 x.s.o.e,.int .u64 x.s.o.t]
abbrev Ce.tup (x:Ce):Bool×Int×Int×Int×Int×Int×Int×Int×Int×Int×Int×Int×Int×Int×Int×Unit:=(x.has,x.s.b,x.s.p,x.s.h.k,x.s.h.n,x.s.h.c,x.s.h.l,x.s.h.e,x.s.h.t,x.s.o.k,x.s.o.n,x.s.o.c,x.s.o.l,x.s.o.e,x.s.o.t,())
theorem Ce_len (x:Ce):x.vs.length=15:=rfl
theorem Ce_one (x:Ce):oneAll x.vs:=λu hu=>by
 simp only [List.mem_cons,List.not_mem_nil,or_false] at hu
 rcases hu with rfl | rfl | rfl | rfl | rfl | rfl | rfl | rfl | rfl | rfl | rfl | rfl | rfl | rfl | rfl <;> rfl
def Ce0:Ce:=⟨false,Sp0⟩
abbrev slM (x:SlP Ce):Value:=.slice x.a x.n x.c
abbrev ownC (x:SlP Ce):Asr:=OwnA 178 15 x.a x.n x.c (x.l.flatMap Ce.vs)
abbrev PmQ (p r:Nat) (X:List (SlP Ce)) (m:Int×Int->Int) (Rs:List Asr):List Asr:=BoxA p 186 (X.map slM++[.map (some r)])::MapF r m::(X.map ownC++Rs)
def noC:SlP Ce:=⟨none,0,0,[]⟩
def getX (X:List (SlP Ce)) (ns:Int):SlP Ce:=if 0<=ns/\ns<4 then X.getD ns.toNat noC else noC
section
variable {E:Nat->Prop} {w0 w:World} {p r:Nat} {X:List (SlP Ce)} {m:Int×Int->Int} {Rs:List Asr}
theorem PmQ_own (hX:X.length=4) {ns:Int} (hn:0<=ns/\ns<4):(PmQ p r X m Rs)[ns.toNat+2]? = some (ownC (getX X ns)):=by
 show (X.map ownC++Rs)[ns.toNat]? = _
 have hl:ns.toNat<X.length:=by omega
 rw [List.getElem?_append_left (by rw [List.length_map];exact hl),List.getElem?_map,List.getElem?_eq_getElem hl]
 unfold getX
 rw [if_pos hn,List.getD_eq_getElem?_getD,List.getElem?_eq_getElem hl]
 rfl
theorem getX_len (hX:X.length=4) (S:Sep E w0 w (PmQ p r X m Rs)) (ns:Int):(getX X ns).l.length=(getX X ns).n/\(getX X ns).n<=(getX X ns).c:=by
 by_cases hn:0<=ns/\ns<4
 ·have ho:=S.own (ns.toNat+2) (PmQ_own hX hn)
  have hl:=ho.len
  rw [flatF_len (f:=Ce.vs) (m:=15) Ce_len] at hl
  exact ⟨Nat.eq_of_mul_eq_mul_right (by omega) hl,ho.cap⟩
 ·unfold getX;rw [if_neg hn];exact ⟨rfl,Nat.le_refl _⟩
theorem slot_c (hX:X.length=4) (S:Sep E w0 w (PmQ p r X m Rs)) {ns:Int} (hn:0<=ns/\ns<4) {K:SlV->Prop} (hk:K ⟨(getX X ns).a,(getX X ns).n,(getX X ns).c⟩):LoadS w ((⟨p,0,none⟩:Addr).add (ns.toNat*1)) .sl K:=by
 have hl:ns.toNat<X.length:=by omega
 rw [Nat.mul_one,show (⟨p,0,none⟩:Addr).add ns.toNat=⟨p,ns.toNat,none⟩ by simp [Addr.add_lit]]
 refine S.ld0 (j:=ns.toNat) (h:=.sl) (v:=slM (getX X ns)) (x:=⟨(getX X ns).a,(getX X ns).n,(getX X ns).c⟩) ?_ rfl hk
 rw [List.getElem?_append_left (by rw [List.length_map];exact hl),List.getElem?_map,List.getElem?_eq_getElem hl]
 unfold getX
 rw [if_pos hn,List.getD_eq_getElem?_getD,List.getElem?_eq_getElem hl]
 rfl
theorem refs_c (hX:X.length=4) (S:Sep E w0 w (PmQ p r X m Rs)) {K:Option Nat->Prop} (hk:K (some r)):LoadS w ((⟨p,0,none⟩:Addr).add 4) .map K:=by
 rw [show (⟨p,0,none⟩:Addr).add 4=⟨p,4,none⟩ by simp [Addr.add_lit]]
 refine S.ld0 (j:=4) (h:=.map) (v:=.map (some r)) (x:=some r) ?_ rfl hk
 rw [List.getElem?_append_right (by rw [List.length_map,hX];omega),List.length_map,hX]
 rfl
theorem own22_c {ns:Int} (hX:X.length=4) (S:Sep E w0 w (PmQ p r X m Rs)):CallV Tryz.prog 92 #[.pointer (some ⟨p,0,none⟩),.int .i64 ns] w [.one .sl] λr w'=>r.1=(⟨(getX X ns).a,(getX X ns).n,(getX X ns).c⟩:SlV)/\w'=w:=by
 apply pagemap_Map_own.vc
 unfold pagemap_Map_own.P
 have no:¬ (0<=ns/\ns<4)->(⟨none,0,0⟩:SlV)=⟨(getX X ns).a,(getX X ns).n,(getX X ns).c⟩:=λh=>by unfold getX;rw [if_neg h];rfl
 refine cond_d (λh=>⟨no (by omega),rfl⟩) λh0=>cond_d (λh=>⟨no (by omega),rfl⟩) λh4=>?_
 exact ⟨⟨by omega,by omega⟩,slot_c hX S ⟨by omega,by omega⟩ ⟨rfl,rfl⟩⟩
theorem Size22_c {ns:Int} (hX:X.length=4) (S:Sep E w0 w (PmQ p r X m Rs)):CallV Tryz.prog 25 #[.pointer (some ⟨p,0,none⟩),.int .i64 ns] w [.one (.int .i64)] λr w'=>r.1=(((getX X ns).n:Nat):Int)/\w'=w:=by
 apply pagemap_Map_Size.vc
 unfold pagemap_Map_Size.P
 refine (own22_c (ns:=ns) hX S).mono ?_
 rintro ⟨⟨a,n,c⟩,⟨⟩⟩ w1 ⟨h1,rfl⟩
 cases h1
 exact ⟨rfl,rfl⟩
theorem cell_c (hX:X.length=4) (S:Sep E w0 w (PmQ p r X m Rs)) {ns i:Int} (h0:0<=i) (h1:i<((getX X ns).n:Int)) :
  ∃ q x,(getX X ns).a=some q/\(getX X ns).l[i.toNat]? = some x/\CellsAt w (q.add (i.toNat*15)) x.vs:=by
 by_cases hn:0<=ns/\ns<4
 ·exact S.nthF (f:=Ce.vs) (m:=15) (ns.toNat+2) (PmQ_own hX hn) Ce_len (by decide) h0 h1
 ·have:(getX X ns).n=0:=by unfold getX;rw [if_neg hn];rfl
  omega
def getC (X:List (SlP Ce)) (ns i:Int):Ce:=if 0<=i/\i<((getX X ns).n:Int) then (getX X ns).l.getD i.toNat Ce0 else Ce0
theorem Get22_c {ns i:Int} (hX:X.length=4) (S:Sep E w0 w (PmQ p r X m Rs)):CallV Tryz.prog 39 #[.pointer (some ⟨p,0,none⟩),.int .i64 ns,.int .i64 i] w [.agg SH14,.one .bool] λr w'=>r.1=(if (getC X ns i).has then (getC X ns i).s else Sp0).tup/\r.2.1=(getC X ns i).has/\Ext w w':=by
 apply pagemap_Map_Get.vc
 unfold pagemap_Map_Get.P
 have T:=Sep.start NoB w
 refine T.newB λb1 w1 T f1 _=>?_
 have S:=S.stepE T.ext
 refine (own22_c (ns:=ns) hX S).mono ?_
 rintro ⟨⟨a,n,c⟩,⟨⟩⟩ w2 ⟨h2,rfl⟩
 dsimp only at h2
 have no:getC X ns i=Ce0->_:=λh=>T.st0 (by rfl) λw3 T f3=>T.la0 (l:=SH14) (x:=Sp0.tup) rfl (K:=λx6=>(x6.1,x6.2.1,x6.2.2.1,x6.2.2.2.1,x6.2.2.2.2.1,x6.2.2.2.2.2.1,x6.2.2.2.2.2.2.1,x6.2.2.2.2.2.2.2.1,x6.2.2.2.2.2.2.2.2.1,x6.2.2.2.2.2.2.2.2.2.1,x6.2.2.2.2.2.2.2.2.2.2.1,x6.2.2.2.2.2.2.2.2.2.2.2.1,x6.2.2.2.2.2.2.2.2.2.2.2.2.1,x6.2.2.2.2.2.2.2.2.2.2.2.2.2.1,())=(if (getC X ns i).has then (getC X ns i).s else Sp0).tup/\false=(getC X ns i).has/\Ext w w3) ⟨by rw [h];rfl,by rw [h];rfl,T.ext⟩
 refine cond_d (λh=>no (by unfold getC;rw [if_neg (by omega)])) λh0=>?_
 cases h2
 dsimp only
 refine cond_d (λh=>no (by unfold getC;rw [if_neg (by omega)])) λh1=>?_
 obtain ⟨q,x,hq,hx,hc⟩:=cell_c (ns:=ns) (i:=i) hX S (by omega) (by omega)
 have hg:getC X ns i=x:=by
  unfold getC
  rw [if_pos ⟨by omega,by omega⟩,List.getD_eq_getElem?_getD,hx];rfl
 refine ⟨⟨by omega,by omega⟩,q,hq,ldp0 hc (h:=.bool) (x:=x.has) rfl ?_⟩
 cases hh:x.has with
 | false=>
  refine cond_t rfl (T.st0 (by rfl) λw3 T f3=>T.la0 (l:=SH14) (x:=Sp0.tup) rfl ⟨?_,?_,T.ext⟩)
  ·rw [hg,hh];rfl
  ·rw [hg,hh]
 | true=>
  refine cond_f rfl ⟨⟨by omega,by omega⟩,q,hq,x.s.tup,hc.drop 1,T.st0 (by rfl) λw3 T f3=>T.la0 (l:=SH14) (x:=x.s.tup) rfl ⟨?_,?_,T.ext⟩⟩
  ·rw [hg,hh];rfl
  ·rw [hg,hh]
theorem Refs22_c {b q:Int} (hX:X.length=4) (S:Sep E w0 w (PmQ p r X m Rs)):CallV Tryz.prog 120 #[.pointer (some ⟨p,0,none⟩),.agg #[.int .i64 b,.int .i64 q]] w [.one (.int .i64)] λr w'=>r.1=m (b,q)/\Ext w w':=by
 apply pagemap_Map_Refs.vc
 unfold pagemap_Map_Refs.P
 have T:=Sep.start NoB w
 refine T.newB λb1 w1 T f1 _=>?_
 have S:=(S.stepE T.ext).drew
 have hp:p<w1.heap.size:=S.lt 0 rfl
 refine T.reg λD hD hkeep T U=>⟨by rw [add_block];exact hD _ hp,refs_c hX S ⟨hD _ T.bl0,T.la0 rfl ?_⟩⟩
 have h:=S.lookM (k:=(b,q)) (K:=λr6 w7=>KeepOn D w1.drew w7/\r6.1=m (b,q)/\Ext w w7) 1 rfl ⟨hkeep _ (Fr.refl _ _),rfl,T.ext⟩
 exact h
end
theorem _root_.Go.Eng.Sep.swapIn {E:Nat->Prop} {w0 w:World} {Rs:List Asr} {R R':Asr} {i:Nat} (S:Sep E w0 w (R'::Rs)) (hi:Rs[i]? = some R):Sep E w0 w (Rs.set i R'):=
 (S.perm (((perm_front hi).cons R').trans ((List.Perm.swap R R' (Rs.eraseIdx i)).trans ((perm_set hi).cons R)))).tail
abbrev plV (k:Int×Int):List Value:=[.int .i64 k.1,.int .i64 k.2]
theorem plV_len (k:Int×Int):(plV k).length=2:=rfl
theorem plV_one (k:Int×Int):oneAll (plV k):=λu hu=>by
 simp only [List.mem_cons,List.not_mem_nil,or_false] at hu
 rcases hu with rfl | rfl <;> rfl
abbrev outA (a:Option Addr) (n c:Nat) (L:List (Int×Int)):Asr:=OwnA 81 2 a n c (L.flatMap plV)
section
variable {E:Nat->Prop} {w0 w:World} {p r:Nat} {X:List (SlP Ce)} {m:Int×Int->Int} {Rs:List Asr}
theorem New22_c:CallV Tryz.prog 43 #[] w [.one .ptr] λr w'=>∃ p rr:Nat,r.1=some (⟨p,0,none⟩:Addr)/\Sep NoB w w' (PmQ p rr [noC,noC,noC,noC] (λ_=>0) []):=by
 apply pagemap_New.vc
 unfold pagemap_New.P
 have S:=Sep.start NoB w
 refine S.newM λb1 w1 S f1 _=>?_
 refine S.newB λb3 w2 S f2 _=>⟨b3,b1,rfl,?_⟩
 have S:=(((S.nilOwn 178 15).nilOwn 178 15).nilOwn 178 15).nilOwn 178 15
 exact S.sel [4,4,0,0,0,0] rfl
def addE (X:List (SlP Ce)) (ns size:Int):Int:=if ¬ (0<=ns/\ns<4) then 2 else if ¬ (1<=size/\size<=65535) then 2 else if 0<(getX X ns).n then 11 else 0
theorem Add22_c {ns size:Int} (hX:X.length=4) (S:Sep E w0 w (PmQ p r X m [])) :
  CallV Tryz.prog 81 #[.pointer (some ⟨p,0,none⟩),.int .i64 ns,.int .i64 size] w [.one (.int .i64)] λrr w'=>rr.1=addE X ns size/\(addE X ns size≠0->Sep E w0 w' (PmQ p r X m [])) /\
   (addE X ns size=0->∃ x:SlP Ce,x.l=List.replicate size.toNat Ce0/\x.n=size.toNat/\Sep E w0 w' (PmQ p r (X.set ns.toNat x) m [])):=by
 apply pagemap_Map_Add.vc
 unfold pagemap_Map_Add.P
 have no:∀ {e:Int},addE X ns size=e->e≠0->e=addE X ns size/\(addE X ns size≠0->Sep E w0 w (PmQ p r X m []))/\(addE X ns size=0->∃ x:SlP Ce,x.l=List.replicate size.toNat Ce0/\x.n=size.toNat/\Sep E w0 w (PmQ p r (X.set ns.toNat x) m [])):=λh1 h2=>⟨h1.symm,λ_=>S,λh=>absurd (h1.symm.trans h) h2⟩
 refine cond_d (λh=>no (e:=2) (by unfold addE;rw [if_pos (by omega)]) (by decide)) λh0=>cond_d (λh=>no (e:=2) (by unfold addE;rw [if_pos (by omega)]) (by decide)) λh4=>?_
 have hn:0<=ns/\ns<4:=by omega
 refine cond_d (λh=>no (e:=2) (by unfold addE;rw [if_neg (λk=>k hn),if_pos (by omega)]) (by decide)) λh1=>cond_d (λh=>no (e:=2) (by unfold addE;rw [if_neg (λk=>k hn),if_pos (by omega)]) (by decide)) λh6=>?_
 have hs:1<=size/\size<=65535:=by omega
 refine ⟨⟨hn.1,hn.2⟩,slot_c hX S hn ?_⟩
 dsimp only
 refine cond_d (λh=>no (e:=11) (by unfold addE;rw [if_neg (λk=>k hn),if_neg (λk=>k hs),if_pos (by omega)]) (by decide)) λhz=>?_
 have hE:addE X ns size=0:=by unfold addE;rw [if_neg (λk=>k hn),if_neg (λk=>k hs),if_neg (by omega)]
 refine refs_c hX S (cond_f rfl ?_)
 refine S.regX (λk=>k=p) λD hD hkeep S T=>?_
 refine ⟨⟨by omega,Int.le_refl _,by omega,by omega⟩,?_⟩
 refine S.newB λb7 w8 S f8 _=>?_
 have S:=S.asOwn (sz:=15) (n:=size.toNat) (by rw [List.length_flatten,List.map_replicate,List.sum_replicate_nat];rfl) (by omega) (λu hu=>by
  obtain ⟨l,hl,hul⟩:=List.mem_flatten.1 hu
  rw [(List.mem_replicate.1 hl).2] at hul
  exact Ce_one Ce0 u hul)
 refine ⟨hkeep _ f8.any,⟨hn.1,hn.2⟩,?_⟩
 have hl:ns.toNat<X.length:=by omega
 rw [Nat.mul_one,show (⟨p,0,none⟩:Addr).add ns.toNat=⟨p,ns.toNat,none⟩ by simp [Addr.add_lit]]
 refine S.storeR1 (i:=1) rfl (j:=ns.toNat) (by rw [List.length_append,List.length_map];omega) λw9 S f9=>⟨hkeep _ (f8.any.trans f9),hE.symm,λh=>absurd hE h,λ_=>⟨⟨some ⟨b7,0,none⟩,size.toNat,size.toNat,List.replicate size.toNat Ce0⟩,rfl,rfl,?_⟩⟩
 have e1:(X.map slM++[Value.map (some r)]).set ns.toNat (.slice (some ⟨b7,0,none⟩) size.toNat size.toNat)=(X.set ns.toNat ⟨some ⟨b7,0,none⟩,size.toNat,size.toNat,List.replicate size.toNat Ce0⟩).map slM++[.map (some r)]:=by
  rw [List.set_append_left _ _ (by rw [List.length_map];exact hl),List.map_set]
 have e2:(List.replicate size.toNat Ce0.vs).flatten=(List.replicate size.toNat Ce0).flatMap Ce.vs:=by rw [List.flatMap_def,List.map_replicate]
 have S2:Sep E w0 w9 (OwnA 178 15 (some ⟨b7,0,none⟩) size.toNat size.toNat (List.replicate size.toNat Ce0.vs).flatten::BoxA p 186 ((X.map slM++[Value.map (some r)]).set ns.toNat (.slice (some ⟨b7,0,none⟩) size.toNat size.toNat))::MapF r m::(X.map ownC++[])):=S
 rw [e1,e2] at S2
 have S3:=S2.swapIn (i:=ns.toNat+2) (R:=ownC (getX X ns)) (PmQ_own (p:=p) (r:=r) (m:=m) (Rs:=[]) hX hn)
 rw [List.set_cons_succ,List.set_cons_succ,List.set_append_left _ _ (by rw [List.length_map];exact hl)] at S3
 show Sep E w0 w9 (BoxA p _ _::MapF r m::((X.set ns.toNat _).map ownC++[]))
 rw [List.map_set (f:=ownC)]
 exact S3
def okT (X:List (SlP Ce)) (s:Sp):Prop:=(s.h.k=1\/s.h.k=2)/\1<=s.h.c/\s.h.c<=((getX X s.h.n).n:Int)/\s.h.l<=((getX X s.h.n).n:Int)-s.h.c
instance (X:List (SlP Ce)) (s:Sp):Decidable (okT X s):=by unfold okT;infer_instance
abbrev spkV (X:List (SlP Ce)) (s:Sp):SlV:=⟨(getX X s.h.n).a.map (·.add (s.h.l.toNat*15)),s.h.c.toNat,(getX X s.h.n).c-s.h.l.toNat⟩
theorem speaks22_c {s:Sp} (hl:0<=s.h.l/\s.h.l<4294967296) (hX:X.length=4) (hN:(getX X s.h.n).n<=100000) (S:Sep E w0 w (PmQ p r X m Rs)) :
  CallV Tryz.prog 170 #[.pointer (some ⟨p,0,none⟩),s.val] w [.one .sl] λr w'=>Ext w w'/\(okT X s->r.1=spkV X s)/\(¬ okT X s->r.1=(⟨none,0,0⟩:SlV)):=by
 apply pagemap_Map_speaks.vc
 unfold pagemap_Map_speaks.P
 have hcap:=(getX_len hX S s.h.n).2
 have wl:IntKind.i64.wrap s.h.l=s.h.l:=i64_wrap (by omega) (by omega)
 have T:=Sep.start NoB w
 refine T.newB λb1 w1 T f1 _=>?_
 refine T.reg λD hD hkeep T U=>⟨hD _ T.bl0,T.ld0 (j:=3) rfl rfl ⟨hD _ T.bl0,T.lb0 (o:=2) rfl ⟨?_,?_⟩⟩⟩
 ·refine (own22_c (ns:=s.h.n) hX (S.stepE T.ext)).mono ?_
  rintro ⟨⟨a,n,c⟩,⟨⟩⟩ w2 ⟨h2,rfl⟩
  cases h2
  dsimp only
  refine ⟨hkeep _ (Fr.refl _ _),U.newB λb8 w3 U f3 _=>⟨hkeep _ U.fr,U.st0 (by rfl) λw4 U f4=>⟨hkeep _ U.fr,?_⟩⟩⟩
  have no:¬ okT X s->Ext w w4/\(okT X s->(⟨none,0,0⟩:SlV)=spkV X s)/\(¬ okT X s->(⟨none,0,0⟩:SlV)=(⟨none,0,0⟩:SlV)):=λh=>⟨T.ext.trans U.ext,λk=>absurd k h,λ_=>rfl⟩
  refine U.ld0 (j:=0) rfl rfl (cond_ne (λh1=>?_) (λh1=>?_))
  ·refine U.ld0 (j:=0) rfl rfl (cond_ne (λh2=>no λk=>k.1.elim h1 h2) (λh2=>?_))
   have hk:s.h.k=1\/s.h.k=2:=.inr h2
   refine U.ld0 (j:=2) rfl rfl (cond_d (λh=>no λk=>by have:=k.2.1;omega) λh3=>?_)
   refine U.ld0 (j:=2) rfl rfl (cond_d (λh=>no λk=>by have:=k.2.2.1;omega) λh4=>?_)
   have r1:Rng .i64 (((getX X s.h.n).n:Int)-s.h.c):=Rng.i64 (by omega) (by omega)
   refine U.ld0 (j:=3) rfl rfl (U.ld0 (j:=2) rfl rfl ⟨r1,?_⟩)
   rw [wl]
   refine cond_d (λh=>no λk=>by have:=k.2.2.2;omega) λh5=>?_
   have hok:okT X s:=⟨hk,by omega,by omega,by omega⟩
   have r2:Rng .i64 (s.h.l+s.h.c):=Rng.i64 (by omega) (by omega)
   refine U.ld0 (j:=3) rfl rfl (U.ld0 (j:=3) rfl rfl (U.ld0 (j:=2) rfl rfl ?_))
   rw [wl]
   refine ⟨r2,⟨by omega,by omega,by omega⟩,?_⟩
   intro a20 ha
   rw [if_neg (by omega)] at ha
   refine ⟨T.ext.trans U.ext,λ_=>?_,λk=>absurd hok k⟩
   rw [ha,show (s.h.l+s.h.c).toNat-s.h.l.toNat=s.h.c.toNat by omega]
  ·have hk:s.h.k=1\/s.h.k=2:=.inl h1
   refine U.ld0 (j:=2) rfl rfl (cond_d (λh=>no λk=>by have:=k.2.1;omega) λh3=>?_)
   refine U.ld0 (j:=2) rfl rfl (cond_d (λh=>no λk=>by have:=k.2.2.1;omega) λh4=>?_)
   have r1:Rng .i64 (((getX X s.h.n).n:Int)-s.h.c):=Rng.i64 (by omega) (by omega)
   refine U.ld0 (j:=3) rfl rfl (U.ld0 (j:=2) rfl rfl ⟨r1,?_⟩)
   rw [wl]
   refine cond_d (λh=>no λk=>by have:=k.2.2.2;omega) λh5=>?_
   have hok:okT X s:=⟨hk,by omega,by omega,by omega⟩
   have r2:Rng .i64 (s.h.l+s.h.c):=Rng.i64 (by omega) (by omega)
   refine U.ld0 (j:=3) rfl rfl (U.ld0 (j:=3) rfl rfl (U.ld0 (j:=2) rfl rfl ?_))
   rw [wl]
   refine ⟨r2,⟨by omega,by omega,by omega⟩,?_⟩
   intro a20 ha
   rw [if_neg (by omega)] at ha
   refine ⟨T.ext.trans U.ext,λ_=>?_,λk=>absurd hok k⟩
   rw [ha,show (s.h.l+s.h.c).toNat-s.h.l.toNat=s.h.c.toNat by omega]
 ·refine U.newB λb8 w3 U f3 _=>⟨hkeep _ U.fr,?_⟩
  refine (own22_c (ns:=s.h.n) hX (S.stepE (T.ext.trans f3.ext))).mono ?_
  rintro ⟨⟨a,n,c⟩,⟨⟩⟩ w2 ⟨h2,rfl⟩
  cases h2
  dsimp only
  refine ⟨hkeep _ U.fr,U.st0 (by rfl) λw4 U f4=>⟨hkeep _ U.fr,?_⟩⟩
  have no:¬ okT X s->Ext w w4/\(okT X s->(⟨none,0,0⟩:SlV)=spkV X s)/\(¬ okT X s->(⟨none,0,0⟩:SlV)=(⟨none,0,0⟩:SlV)):=λh=>⟨T.ext.trans U.ext,λk=>absurd k h,λ_=>rfl⟩
  refine U.ld0 (j:=0) rfl rfl (cond_ne (λh1=>?_) (λh1=>?_))
  ·refine U.ld0 (j:=0) rfl rfl (cond_ne (λh2=>no λk=>k.1.elim h1 h2) (λh2=>?_))
   have hk:s.h.k=1\/s.h.k=2:=.inr h2
   refine U.ld0 (j:=2) rfl rfl (cond_d (λh=>no λk=>by have:=k.2.1;omega) λh3=>?_)
   refine U.ld0 (j:=2) rfl rfl (cond_d (λh=>no λk=>by have:=k.2.2.1;omega) λh4=>?_)
   have r1:Rng .i64 (((getX X s.h.n).n:Int)-s.h.c):=Rng.i64 (by omega) (by omega)
   refine U.ld0 (j:=3) rfl rfl (U.ld0 (j:=2) rfl rfl ⟨r1,?_⟩)
   rw [wl]
   refine cond_d (λh=>no λk=>by have:=k.2.2.2;omega) λh5=>?_
   have hok:okT X s:=⟨hk,by omega,by omega,by omega⟩
   have r2:Rng .i64 (s.h.l+s.h.c):=Rng.i64 (by omega) (by omega)
   refine U.ld0 (j:=3) rfl rfl (U.ld0 (j:=3) rfl rfl (U.ld0 (j:=2) rfl rfl ?_))
   rw [wl]
   refine ⟨r2,⟨by omega,by omega,by omega⟩,?_⟩
   intro a20 ha
   rw [if_neg (by omega)] at ha
   refine ⟨T.ext.trans U.ext,λ_=>?_,λk=>absurd hok k⟩
   rw [ha,show (s.h.l+s.h.c).toNat-s.h.l.toNat=s.h.c.toNat by omega]
  ·have hk:s.h.k=1\/s.h.k=2:=.inl h1
   refine U.ld0 (j:=2) rfl rfl (cond_d (λh=>no λk=>by have:=k.2.1;omega) λh3=>?_)
   refine U.ld0 (j:=2) rfl rfl (cond_d (λh=>no λk=>by have:=k.2.2.1;omega) λh4=>?_)
   have r1:Rng .i64 (((getX X s.h.n).n:Int)-s.h.c):=Rng.i64 (by omega) (by omega)
   refine U.ld0 (j:=3) rfl rfl (U.ld0 (j:=2) rfl rfl ⟨r1,?_⟩)
   rw [wl]
   refine cond_d (λh=>no λk=>by have:=k.2.2.2;omega) λh5=>?_
   have hok:okT X s:=⟨hk,by omega,by omega,by omega⟩
   have r2:Rng .i64 (s.h.l+s.h.c):=Rng.i64 (by omega) (by omega)
   refine U.ld0 (j:=3) rfl rfl (U.ld0 (j:=3) rfl rfl (U.ld0 (j:=2) rfl rfl ?_))
   rw [wl]
   refine ⟨r2,⟨by omega,by omega,by omega⟩,?_⟩
   intro a20 ha
   rw [if_neg (by omega)] at ha
   refine ⟨T.ext.trans U.ext,λ_=>?_,λk=>absurd hok k⟩
   rw [ha,show (s.h.l+s.h.c).toNat-s.h.l.toNat=s.h.c.toNat by omega]
def losM (m:Int×Int->Int) (c:Ce):Int×Int->Int:=if c.has then updM m (c.s.b,c.s.p) (m (c.s.b,c.s.p)-1) else m
def losL (m:Int×Int->Int) (c:Ce) (L:List (Int×Int)):List (Int×Int):=if c.has=true/\¬ 0<m (c.s.b,c.s.p)-1 then L++[(c.s.b,c.s.p)] else L
theorem lose22_c {c:Ce} {bv:List Value} {a:Option Addr} {n cp:Nat} {L:List (Int×Int)} (hbv:bv[4]? = some (.map (some r))) (hm:c.has=true->1<=m (c.s.b,c.s.p)/\m (c.s.b,c.s.p)<=1000000) (hn:n<=1000000) (S:Sep E w0 w [BoxA p 186 bv,MapF r m,outA a n cp L]) :
  CallV Tryz.prog 159 #[.pointer (some ⟨p,0,none⟩),c.val,.slice a n cp] w [.one .sl] λrr w'=>∃ (a':Option Addr) (n' c':Nat) (m':Int×Int->Int),rr.1=(⟨a',n',c'⟩:SlV)/\n'<=n+1/\(∀ k,m' k=losM m c k)/\Sep E w0 w' [BoxA p 186 bv,MapF r m',outA a' n' c' (losL m c L)]:=by
 apply pagemap_Map_lose.vc
 unfold pagemap_Map_lose.P
 refine S.newB λb1 w1 S f1 _=>?_
 refine S.ld0 (j:=0) rfl rfl (cond_of (λhh=>?_) (λhh=>?_))
 ·have hh:c.has=false:=by simpa using hh
  refine ⟨a,n,cp,m,rfl,by omega,λk=>?_,?_⟩
  ·unfold losM;rw [hh];rfl
  ·have:losL m c L=L:=by unfold losL;rw [if_neg (λk=>by rw [hh] at k;cases k.1)]
   rw [this]
   exact S.tail
 have hh:c.has=true:=by simpa using hh
 obtain ⟨m1,m2⟩:=hm hh
 refine S.lb0 (o:=1) rfl (S.newB λb5 w2 S f2 _=>S.st0 (by rfl) λw3 S f3=>?_)
 have ld4:∀ {w0 w':World} {E:Nat->Prop} {A:List Asr} (i:Nat) (S:Sep E w0 w' A) (hi:A[i]? = some (BoxA p 186 bv)) {K:Option Nat->Prop},K (some r)->LoadS w' ((⟨p,0,none⟩:Addr).add 4) .map K:=λ{w0 w' E A} i S hi {K} hk=>by
  rw [show (⟨p,0,none⟩:Addr).add 4=⟨p,4,none⟩ by simp [Addr.add_lit]]
  exact S.ld i hi (j:=4) (h:=.map) (some r) hbv hk
 have S:=S.sel [3,0,0,0,0] rfl
 refine Sep.regC [_] S λG D hG T S hDt hDo hkeep back=>?_
 have hGr:G r:=by
  obtain ⟨F,⟨h1,l,cc,h2,-⟩,h3⟩:=T.get (i:=0) rfl
  exact (h3 r h1).1.resolve_right (λh=>by have:=(Array.getElem?_eq_some_iff.1 h2).1;omega)
 have hk2:∀ w',Fr (λk=>k=r) w3.drew w'->KeepOn D w3.drew w':=λw' f=>hkeep w' (f.mono λk hk=>by subst hk;exact hGr)
 have rv:Rng .i64 (m (c.s.b,c.s.p)-1):=Rng.i64 (by omega) (by omega)
 refine ⟨by rw [add_block];exact hDt 2 _ _ _ rfl,ld4 3 S rfl ⟨hDt 0 _ _ _ rfl,S.la1 rfl ⟨?_,?_⟩⟩⟩
 ·refine T.incA (k:=(c.s.b,c.s.p)) (λx=>x-1) 0 rfl hk2 rv λw4 T f4=>?_
  have S:=back _ _ T
  dsimp only [List.set_cons_zero,List.cons_append,List.nil_append] at S
  have hu:updM m (c.s.b,c.s.p) (m (c.s.b,c.s.p)-1) (c.s.b,c.s.p)=m (c.s.b,c.s.p)-1:=if_pos rfl
  refine S.reg λD hD hkeep S T=>?_
  refine ⟨by rw [add_block];exact hD _ (S.lt 3 rfl),ld4 3 S rfl ⟨hD _ S.bl1,S.la1 rfl ?_⟩⟩
  refine S.lookM (k:=(c.s.b,c.s.p)) 0 rfl ⟨hkeep _ (Fr.refl _ _),?_⟩
  dsimp only
  rw [hu]
  refine cond_d (λhp=>?_) (λhp=>?_)
  ·refine ⟨a,n,cp,updM m (c.s.b,c.s.p) (m (c.s.b,c.s.p)-1),rfl,by omega,λk=>by unfold losM;rw [if_pos hh],?_⟩
   have:losL m c L=L:=by unfold losL;rw [if_neg (λk=>k.2 hp)]
   rw [this]
   exact S.sel [3,0,2] rfl
  ·have S:=S.sel [0,0,0,0,0] rfl
   refine Sep.regC [_] S λG D hG T S hDt hDo hkeep back=>?_
   have hGr:G r:=by
    obtain ⟨F,⟨h1,l,cc,h2,-⟩,h3⟩:=T.get (i:=0) rfl
    exact (h3 r h1).1.resolve_right (λh=>by have:=(Array.getElem?_eq_some_iff.1 h2).1;omega)
   refine ⟨by rw [add_block];exact hDt 2 _ _ _ rfl,ld4 3 S rfl ⟨hDt 0 _ _ _ rfl,S.la1 rfl ?_⟩⟩
   refine T.delM (k:=(c.s.b,c.s.p)) 0 rfl λw5 T f5=>⟨hkeep _ (f5.mono λk hk=>by subst hk;exact hGr),?_⟩
   have S:=back _ _ T
   dsimp only [List.set_cons_zero,List.cons_append,List.nil_append] at S
   refine S.la1 rfl (S.newB λb26 w6 S f6 _=>?_)
   refine AppS.of (news:=plV (c.s.b,c.s.p)) rfl (.inr ⟨_,rfl,S.cells 0 rfl⟩) ?_
   refine S.ap5 rfl (plV_one _) (by omega) (by omega) λa' c' w7 S f7=>?_
   refine ⟨a',n+1,c',updM (updM m (c.s.b,c.s.p) (m (c.s.b,c.s.p)-1)) (c.s.b,c.s.p) 0,rfl,Nat.le_refl _,λk=>?_,?_⟩
   rotate_left
   ·have e:losL m c L=L++[(c.s.b,c.s.p)]:=by unfold losL;rw [if_pos ⟨hh,hp⟩]
    rw [e]
    unfold outA
    rw [List.flatMap_append,List.flatMap_singleton]
    exact S.sel [4,1,3] rfl
   ·unfold losM updM
    rw [if_pos hh]
    by_cases hkk:k=(c.s.b,c.s.p)
    ·rw [if_pos hkk,if_pos hkk];omega
    ·rw [if_neg hkk,if_neg hkk]
 ·refine T.incB (k:=(c.s.b,c.s.p)) (λx=>x-1) 0 rfl hk2 rv λw4 T f4=>?_
  have S:=back _ _ T
  dsimp only [List.set_cons_zero,List.cons_append,List.nil_append] at S
  have hu:updM m (c.s.b,c.s.p) (m (c.s.b,c.s.p)-1) (c.s.b,c.s.p)=m (c.s.b,c.s.p)-1:=if_pos rfl
  refine S.reg λD hD hkeep S T=>?_
  refine ⟨by rw [add_block];exact hD _ (S.lt 3 rfl),ld4 3 S rfl ⟨hD _ S.bl1,S.la1 rfl ?_⟩⟩
  refine S.lookM (k:=(c.s.b,c.s.p)) 0 rfl ⟨hkeep _ (Fr.refl _ _),?_⟩
  dsimp only
  rw [hu]
  refine cond_d (λhp=>?_) (λhp=>?_)
  ·refine ⟨a,n,cp,updM m (c.s.b,c.s.p) (m (c.s.b,c.s.p)-1),rfl,by omega,λk=>by unfold losM;rw [if_pos hh],?_⟩
   have:losL m c L=L:=by unfold losL;rw [if_neg (λk=>k.2 hp)]
   rw [this]
   exact S.sel [3,0,2] rfl
  ·have S:=S.sel [0,0,0,0,0] rfl
   refine Sep.regC [_] S λG D hG T S hDt hDo hkeep back=>?_
   have hGr:G r:=by
    obtain ⟨F,⟨h1,l,cc,h2,-⟩,h3⟩:=T.get (i:=0) rfl
    exact (h3 r h1).1.resolve_right (λh=>by have:=(Array.getElem?_eq_some_iff.1 h2).1;omega)
   refine ⟨by rw [add_block];exact hDt 2 _ _ _ rfl,ld4 3 S rfl ⟨hDt 0 _ _ _ rfl,S.la1 rfl ?_⟩⟩
   refine T.delM (k:=(c.s.b,c.s.p)) 0 rfl λw5 T f5=>⟨hkeep _ (f5.mono λk hk=>by subst hk;exact hGr),?_⟩
   have S:=back _ _ T
   dsimp only [List.set_cons_zero,List.cons_append,List.nil_append] at S
   refine S.la1 rfl (S.newB λb26 w6 S f6 _=>?_)
   refine AppS.of (news:=plV (c.s.b,c.s.p)) rfl (.inr ⟨_,rfl,S.cells 0 rfl⟩) ?_
   refine S.ap5 rfl (plV_one _) (by omega) (by omega) λa' c' w7 S f7=>?_
   refine ⟨a',n+1,c',updM (updM m (c.s.b,c.s.p) (m (c.s.b,c.s.p)-1)) (c.s.b,c.s.p) 0,rfl,Nat.le_refl _,λk=>?_,?_⟩
   rotate_left
   ·have e:losL m c L=L++[(c.s.b,c.s.p)]:=by unfold losL;rw [if_pos ⟨hh,hp⟩]
    rw [e]
    unfold outA
    rw [List.flatMap_append,List.flatMap_singleton]
    exact S.sel [4,1,3] rfl
   ·unfold losM updM
    rw [if_pos hh]
    by_cases hkk:k=(c.s.b,c.s.p)
    ·rw [if_pos hkk,if_pos hkk];omega
    ·rw [if_neg hkk,if_neg hkk]
end
end Go.Proofs.YtbaojfchlhlaeaaGreat.Vc
namespace Go.Proofs.YtbaojfchlhlaeaaGreat
open Go.Shelf Go.Proofs
def Tryz.srtP_ren:Go.Shelf.Ren:=⟨λ| 6=>197 | 15=>186 | 14=>245 | 28=>232 | 29=>233 | 20=>271 | 21=>272 | 22=>273 | 23=>274 | 24=>275 | 25=>276 | 26=>277 | 27=>278 | 46=>287 | 47=>261 | 48=>262 | 49=>288 | 50=>289 | 57=>291 | n=>n,λ| 22=>187 | 24=>81 | 25=>202 | 3=>3 | 39=>247 | 0=>0 | 53=>59 | 55=>60 | 4=>4 | 46=>278 | 45=>277 | 50=>282 | 5=>5 | 9=>9 | 66=>303 | 70=>306 | 76=>316 | 77=>210 | n=>n,λ| n=>n⟩
theorem Tryz.srtP:Go.Proofs.SlLaysF0.n6 Tryz.prog Tryz.srtP_ren:={
 mixed:=by kernel_rfl,
 f6:=⟨Tryz.f197.name,by decide,Tryz.func197.trans (congrArg some (by kernel_rfl))⟩,
 f14:=⟨Tryz.f245.name,by decide,Tryz.func245.trans (congrArg some (by kernel_rfl))⟩,
 f15:=Tryz.func186.trans (congrArg some (by kernel_rfl)),
 f20:=⟨Tryz.f271.name,by decide,Tryz.func271.trans (congrArg some (by kernel_rfl))⟩,
 f21:=⟨Tryz.f272.name,by decide,Tryz.func272.trans (congrArg some (by kernel_rfl))⟩,
 f22:=⟨Tryz.f273.name,by decide,Tryz.func273.trans (congrArg some (by kernel_rfl))⟩,
 f23:=⟨Tryz.f274.name,by decide,Tryz.func274.trans (congrArg some (by kernel_rfl))⟩,
 f24:=⟨Tryz.f275.name,by decide,Tryz.func275.trans (congrArg some (by kernel_rfl))⟩,
 f25:=⟨Tryz.f276.name,by decide,Tryz.func276.trans (congrArg some (by kernel_rfl))⟩,
 f26:=⟨Tryz.f277.name,by decide,Tryz.func277.trans (congrArg some (by kernel_rfl))⟩,
 f27:=⟨Tryz.f278.name,by decide,Tryz.func278.trans (congrArg some (by kernel_rfl))⟩,
 f28:=Tryz.func232.trans (congrArg some (by kernel_rfl)),
 f29:=Tryz.func233.trans (congrArg some (by kernel_rfl)),
 f46:=⟨Tryz.f287.name,by decide,Tryz.func287.trans (congrArg some (by kernel_rfl))⟩,
 f47:=Tryz.func261.trans (congrArg some (by kernel_rfl)),
 f48:=Tryz.func262.trans (congrArg some (by kernel_rfl)),
 f49:=⟨Tryz.f288.name,by decide,Tryz.func288.trans (congrArg some (by kernel_rfl))⟩,
 f50:=⟨Tryz.f289.name,by decide,Tryz.func289.trans (congrArg some (by kernel_rfl))⟩,
 f57:=⟨Tryz.f291.name,by decide,Tryz.func291.trans (congrArg some (by kernel_rfl))⟩,
 t0:=Tryz.underlying0,
 a0:=Tryz.isAgg0,
 z0:=Tryz.sizeOf0,
 v0:=Tryz.zeroValue0,
 t3:=Tryz.underlying3,
 a3:=Tryz.isAgg3,
 z3:=Tryz.sizeOf3,
 v3:=Tryz.zeroValue3,
 t4:=Tryz.underlying4,
 a4:=Tryz.isAgg4,
 z4:=Tryz.sizeOf4,
 v4:=Tryz.zeroValue4,
 t5:=Tryz.underlying5,
 a5:=Tryz.isAgg5,
 z5:=Tryz.sizeOf5,
 v5:=Tryz.zeroValue5,
 t9:=Tryz.underlying9,
 a9:=Tryz.isAgg9,
 z9:=Tryz.sizeOf9,
 v9:=Tryz.zeroValue9,
 t22:=Tryz.underlying187,
 a22:=Tryz.isAgg187,
 z22:=Tryz.sizeOf187,
 v22:=Tryz.zeroValue187,
 t25:=Tryz.underlying202,
 a25:=Tryz.isAgg202,
 z25:=Tryz.sizeOf202,
 v25:=Tryz.zeroValue202,
 t39:=Tryz.underlying247,
 a39:=Tryz.isAgg247,
 z39:=Tryz.sizeOf247,
 v39:=Tryz.zeroValue247,
 t45:=Tryz.underlying277,
 a45:=Tryz.isAgg277,
 z45:=Tryz.sizeOf277,
 v45:=Tryz.zeroValue277,
 t46:=Tryz.underlying278,
 a46:=Tryz.isAgg278,
 z46:=Tryz.sizeOf278,
 v46:=Tryz.zeroValue278,
 t50:=Tryz.underlying282,
 a50:=Tryz.isAgg282,
 z50:=Tryz.sizeOf282,
 v50:=Tryz.zeroValue282,
 t53:=Tryz.underlying59,
 a53:=Tryz.isAgg59,
 z53:=Tryz.sizeOf59,
 v53:=Tryz.zeroValue59,
 t55:=Tryz.underlying60,
 a55:=Tryz.isAgg60,
 z55:=Tryz.sizeOf60,
 v55:=Tryz.zeroValue60,
 t66:=Tryz.underlying303,
 a66:=Tryz.isAgg303,
 z66:=Tryz.sizeOf303,
 v66:=Tryz.zeroValue303,
 t70:=Tryz.underlying306,
 a70:=Tryz.isAgg306,
 z70:=Tryz.sizeOf306,
 v70:=Tryz.zeroValue306,
 t76:=Tryz.underlying316,
 a76:=Tryz.isAgg316,
 z76:=Tryz.sizeOf316,
 v76:=Tryz.zeroValue316,
 t77:=Tryz.underlying210,
 a77:=Tryz.isAgg210,
 z77:=Tryz.sizeOf210,
 v77:=Tryz.zeroValue210}
def Tryz.srtS_ren:Go.Shelf.Ren:=⟨λ| 6=>126 | 15=>186 | 14=>185 | 28=>232 | 29=>233 | 20=>224 | 21=>225 | 22=>226 | 23=>227 | 24=>228 | 25=>229 | 26=>230 | 27=>231 | 46=>260 | 47=>261 | 48=>262 | 49=>263 | 50=>264 | 57=>285 | n=>n,λ| 22=>100 | 24=>83 | 25=>203 | 3=>3 | 39=>247 | 0=>0 | 53=>59 | 55=>60 | 4=>4 | 46=>278 | 45=>277 | 50=>282 | 5=>5 | 9=>9 | 66=>303 | 70=>306 | 76=>316 | 77=>210 | n=>n,λ| n=>n⟩
theorem Tryz.srtS:Go.Proofs.SlLaysF0.n6 Tryz.prog Tryz.srtS_ren:={
 mixed:=by kernel_rfl,
 f6:=⟨Tryz.f126.name,by decide,Tryz.func126.trans (congrArg some (by kernel_rfl))⟩,
 f14:=⟨Tryz.f185.name,by decide,Tryz.func185.trans (congrArg some (by kernel_rfl))⟩,
 f15:=Tryz.func186.trans (congrArg some (by kernel_rfl)),
 f20:=⟨Tryz.f224.name,by decide,Tryz.func224.trans (congrArg some (by kernel_rfl))⟩,
 f21:=⟨Tryz.f225.name,by decide,Tryz.func225.trans (congrArg some (by kernel_rfl))⟩,
 f22:=⟨Tryz.f226.name,by decide,Tryz.func226.trans (congrArg some (by kernel_rfl))⟩,
 f23:=⟨Tryz.f227.name,by decide,Tryz.func227.trans (congrArg some (by kernel_rfl))⟩,
 f24:=⟨Tryz.f228.name,by decide,Tryz.func228.trans (congrArg some (by kernel_rfl))⟩,
 f25:=⟨Tryz.f229.name,by decide,Tryz.func229.trans (congrArg some (by kernel_rfl))⟩,
 f26:=⟨Tryz.f230.name,by decide,Tryz.func230.trans (congrArg some (by kernel_rfl))⟩,
 f27:=⟨Tryz.f231.name,by decide,Tryz.func231.trans (congrArg some (by kernel_rfl))⟩,
 f28:=Tryz.func232.trans (congrArg some (by kernel_rfl)),
 f29:=Tryz.func233.trans (congrArg some (by kernel_rfl)),
 f46:=⟨Tryz.f260.name,by decide,Tryz.func260.trans (congrArg some (by kernel_rfl))⟩,
 f47:=Tryz.func261.trans (congrArg some (by kernel_rfl)),
 f48:=Tryz.func262.trans (congrArg some (by kernel_rfl)),
 f49:=⟨Tryz.f263.name,by decide,Tryz.func263.trans (congrArg some (by kernel_rfl))⟩,
 f50:=⟨Tryz.f264.name,by decide,Tryz.func264.trans (congrArg some (by kernel_rfl))⟩,
 f57:=⟨Tryz.f285.name,by decide,Tryz.func285.trans (congrArg some (by kernel_rfl))⟩,
 t0:=Tryz.underlying0,
 a0:=Tryz.isAgg0,
 z0:=Tryz.sizeOf0,
 v0:=Tryz.zeroValue0,
 t3:=Tryz.underlying3,
 a3:=Tryz.isAgg3,
 z3:=Tryz.sizeOf3,
 v3:=Tryz.zeroValue3,
 t4:=Tryz.underlying4,
 a4:=Tryz.isAgg4,
 z4:=Tryz.sizeOf4,
 v4:=Tryz.zeroValue4,
 t5:=Tryz.underlying5,
 a5:=Tryz.isAgg5,
 z5:=Tryz.sizeOf5,
 v5:=Tryz.zeroValue5,
 t9:=Tryz.underlying9,
 a9:=Tryz.isAgg9,
 z9:=Tryz.sizeOf9,
 v9:=Tryz.zeroValue9,
 t22:=Tryz.underlying100,
 a22:=Tryz.isAgg100,
 z22:=Tryz.sizeOf100,
 v22:=Tryz.zeroValue100,
 t25:=Tryz.underlying203,
 a25:=Tryz.isAgg203,
 z25:=Tryz.sizeOf203,
 v25:=Tryz.zeroValue203,
 t39:=Tryz.underlying247,
 a39:=Tryz.isAgg247,
 z39:=Tryz.sizeOf247,
 v39:=Tryz.zeroValue247,
 t45:=Tryz.underlying277,
 a45:=Tryz.isAgg277,
 z45:=Tryz.sizeOf277,
 v45:=Tryz.zeroValue277,
 t46:=Tryz.underlying278,
 a46:=Tryz.isAgg278,
 z46:=Tryz.sizeOf278,
 v46:=Tryz.zeroValue278,
 t50:=Tryz.underlying282,
 a50:=Tryz.isAgg282,
 z50:=Tryz.sizeOf282,
 v50:=Tryz.zeroValue282,
 t53:=Tryz.underlying59,
 a53:=Tryz.isAgg59,
 z53:=Tryz.sizeOf59,
 v53:=Tryz.zeroValue59,
 t55:=Tryz.underlying60,
 a55:=Tryz.isAgg60,
 z55:=Tryz.sizeOf60,
 v55:=Tryz.zeroValue60,
 t66:=Tryz.underlying303,
 a66:=Tryz.isAgg303,
 z66:=Tryz.sizeOf303,
 v66:=Tryz.zeroValue303,
 t70:=Tryz.underlying306,
 a70:=Tryz.isAgg306,
 z70:=Tryz.sizeOf306,
 v70:=Tryz.zeroValue306,
 t76:=Tryz.underlying316,
 a76:=Tryz.isAgg316,
 z76:=Tryz.sizeOf316,
 v76:=Tryz.zeroValue316,
 t77:=Tryz.underlying210,
 a77:=Tryz.isAgg210,
 z77:=Tryz.sizeOf210,
 v77:=Tryz.zeroValue210}
end Go.Proofs.YtbaojfchlhlaeaaGreat
namespace Go.Proofs.YtbaojfchlhlaeaaGreat.Vc
open Go Go.Eng Go.RowKit
theorem sort0_c {w:World} {a:Option Addr} {c:Nat} {fv:Value}:CallV Tryz.prog 197 #[.slice a 0 c,fv] w [] λ_ w'=>w'=w:=
 Calls.mono (Go.Proofs.AnyF.slices_SortFunc_none Tryz.srtP a c fv w) λe w' ⟨h1,h2⟩=>⟨(),h1,h2⟩
theorem told0_c {w:World} {a:Option Addr} {c:Nat}:CallV Tryz.prog 160 #[.slice a 0 c] w [.one .sl] λr w'=>r.1=(⟨a,0,c⟩:SlV)/\w'=w:=by
 apply pagemap_told.vc
 unfold pagemap_told.P
 refine sort0_c.mono ?_
 rintro ⟨⟩ w1 rfl
 exact ⟨rfl,rfl⟩
abbrev Ce.pl (c:Ce):Int×Int:=(c.s.b,c.s.p)
def isP (k:Int×Int) (c:Ce):Bool:=c.has && decide (c.pl=k)
def cntC (l:List Ce) (k:Int×Int):Nat:=l.countP (isP k)
def flatX (X:List (SlP Ce)):List Ce:=X.flatMap (·.l)
def cntX (X:List (SlP Ce)):Int×Int->Int:=λk=>(cntC (flatX X) k:Int)
def setX (X:List (SlP Ce)) (ns:Int) (j:Nat) (c:Ce):List (SlP Ce):=X.set ns.toNat ⟨(getX X ns).a,(getX X ns).n,(getX X ns).c,(getX X ns).l.set j c⟩
structure XOk (X:List (SlP Ce)):Prop where
 four:X.length=4
 len:∀ x∈X,x.l.length=x.n/\x.n<=65535
theorem getX_at {X:List (SlP Ce)} (hX:X.length=4) {ns:Int} (hn:0<=ns/\ns<4):X[ns.toNat]? = some (getX X ns):=by
 have hl:ns.toNat<X.length:=by omega
 unfold getX
 rw [if_pos hn,List.getD_eq_getElem?_getD,List.getElem?_eq_getElem hl]
 rfl
theorem XOk.get {X:List (SlP Ce)} (h:XOk X) (ns:Int):(getX X ns).l.length=(getX X ns).n/\(getX X ns).n<=65535:=by
 by_cases hn:0<=ns/\ns<4
 ·exact h.len _ (List.mem_of_getElem? (getX_at h.four hn))
 ·unfold getX;rw [if_neg hn];exact ⟨rfl,Nat.zero_le _⟩
theorem setX_get {X:List (SlP Ce)} (hX:X.length=4) {ns:Int} (hn:0<=ns/\ns<4) {j:Nat} {c:Ce} (ns':Int):getX (setX X ns j c) ns'=if ns'=ns then ⟨(getX X ns).a,(getX X ns).n,(getX X ns).c,(getX X ns).l.set j c⟩ else getX X ns':=by
 by_cases hn':0<=ns'/\ns'<4
 ·have h1:=getX_at (X:=setX X ns j c) (by unfold setX;rw [List.length_set];exact hX) hn'
  unfold setX at h1
  rw [List.getElem?_set] at h1
  by_cases h:ns'=ns
  ·subst h
   rw [if_pos rfl,if_pos (by omega)] at h1
   rw [if_pos rfl]
   exact (Option.some.inj h1).symm
  ·rw [if_neg (by omega),getX_at hX hn'] at h1
   rw [if_neg h]
   exact (Option.some.inj h1).symm
 ·have h:ns'≠ns:=λe=>hn' (e ▸ hn)
  rw [if_neg h]
  unfold getX
  rw [if_neg hn',if_neg hn']
theorem XOk.set {X:List (SlP Ce)} (h:XOk X) {ns:Int} {j:Nat} {c:Ce}:XOk (setX X ns j c):=by
 refine ⟨by unfold setX;rw [List.length_set];exact h.four,λx hx=>?_⟩
 unfold setX at hx
 rcases List.mem_or_eq_of_mem_set hx with hx | hx
 ·exact h.len x hx
 ·rw [hx]
  have:=h.get ns
  exact ⟨by show ((getX X ns).l.set j c).length=_;rw [List.length_set];exact this.1,this.2⟩
theorem setX_sl {X:List (SlP Ce)} (hX:X.length=4) {ns:Int} (hn:0<=ns/\ns<4) {j:Nat} {c:Ce}:(setX X ns j c).map slM=X.map slM:=by
 unfold setX
 rw [List.map_set]
 exact List.set_getElem?_self' (by rw [List.getElem?_map,getX_at hX hn];rfl)
theorem cntC_set {l:List Ce} {j:Nat} {c d:Ce} (hj:l[j]? = some c) (k:Int×Int):(cntC (l.set j d) k:Int)=cntC l k-(if isP k c=true then 1 else 0)+(if isP k d=true then 1 else 0):=by
 have hl:j<l.length:=(List.getElem?_eq_some_iff.1 hj).1
 unfold cntC
 have h1:l=l.take j++c::l.drop (j+1):=by
  conv=>lhs;rw [<-List.take_append_drop j l,List.drop_eq_getElem_cons hl,(List.getElem?_eq_some_iff.1 hj).2]
 have h2:l.set j d=l.take j++d::l.drop (j+1):=by rw [List.set_eq_take_append_cons_drop,if_pos hl]
 rw [h2]
 conv=>rhs;rw [h1]
 rw [List.countP_append,List.countP_append,List.countP_cons,List.countP_cons]
 have e:List.take j (l.take j++c::l.drop (j+1))=l.take j:=by rw [<-h1]
 have e':List.drop (j+1) (l.take j++c::l.drop (j+1))=l.drop (j+1):=by rw [<-h1]
 split <;> split <;> omega
theorem cntX_set {X:List (SlP Ce)} (hX:X.length=4) {ns:Int} (hn:0<=ns/\ns<4) {j:Nat} {c d:Ce} (hj:(getX X ns).l[j]? = some c) (k:Int×Int):cntX (setX X ns j d) k=cntX X k-(if isP k c=true then 1 else 0)+(if isP k d=true then 1 else 0):=by
 unfold cntX
 obtain ⟨m1,m2⟩:=flat_mid (f:=λx:SlP Ce=>x.l) (z:=(⟨(getX X ns).a,(getX X ns).n,(getX X ns).c,(getX X ns).l.set j d⟩:SlP Ce)) (getX_at hX hn)
 have h1:flatX X=_:=m1
 have h2:flatX (setX X ns j d)=_:=m2
 rw [h1,h2]
 have:=cntC_set (d:=d) hj k
 unfold cntC at this ⊢
 simp only [List.countP_append] at this ⊢
 push_cast
 omega
theorem cntX_pos {X:List (SlP Ce)} (hX:X.length=4) {ns:Int} (hn:0<=ns/\ns<4) {j:Nat} {c:Ce} (hj:(getX X ns).l[j]? = some c) (hh:c.has=true):1<=cntX X c.pl:=by
 unfold cntX cntC
 have:0<(flatX X).countP (isP c.pl):=by
  rw [List.countP_pos_iff]
  refine ⟨c,?_,by unfold isP;rw [hh];simp⟩
  unfold flatX
  exact List.mem_flatMap.2 ⟨_,List.mem_of_getElem? (getX_at hX hn),List.mem_of_getElem? hj⟩
 omega
theorem cntX_le {X:List (SlP Ce)} (h:XOk X) (k:Int×Int):0<=cntX X k/\cntX X k<=262140:=by
 unfold cntX cntC
 refine ⟨Int.natCast_nonneg _,?_⟩
 have h1:=List.countP_le_length (p:=isP k) (l:=flatX X)
 have h2:(flatX X).length<=X.length*65535:=by
  unfold flatX
  have:∀ (Y:List (SlP Ce)),(∀ x∈Y,x.l.length<=65535)->(Y.flatMap (·.l)).length<=Y.length*65535:=by
   intro Y
   induction Y with
   | nil=>intro _;simp
   | cons x Y ih=>
    intro hY
    rw [List.flatMap_cons,List.length_append,List.length_cons]
    have:=ih λy hy=>hY y (List.mem_cons_of_mem _ hy)
    have:=hY x List.mem_cons_self
    omega
  exact this X λx hx=>by have:=h.len x hx;omega
 rw [h.four] at h2
 omega
theorem put_m {Y:List (SlP Ce)} (hY:XOk Y) {ns:Int} (hns:0<=ns/\ns<4) {j:Nat} {x:Ce} (hx:(getX Y ns).l[j]? = some x) (s:Sp) (L:List (Int×Int)) :
  (x.has=true->1<=updM (cntX Y) (s.b,s.p) (cntX Y (s.b,s.p)+1) (x.s.b,x.s.p)/\updM (cntX Y) (s.b,s.p) (cntX Y (s.b,s.p)+1) (x.s.b,x.s.p)<=1000000) /\
  (∀ k,losM (updM (cntX Y) (s.b,s.p) (cntX Y (s.b,s.p)+1)) x k=cntX (setX Y ns j ⟨true,s⟩) k) /\
  losL (updM (cntX Y) (s.b,s.p) (cntX Y (s.b,s.p)+1)) x L=if x.has=true/\cntX (setX Y ns j ⟨true,s⟩) x.pl=0 then L++[x.pl] else L:=by
 have hm:∀ k,updM (cntX Y) (s.b,s.p) (cntX Y (s.b,s.p)+1) k=cntX Y k+(if isP k ⟨true,s⟩=true then 1 else 0):=λk=>by
  unfold updM
  by_cases h:k=(s.b,s.p)
  ·rw [if_pos h,h,if_pos (by simp [isP])]
  ·rw [if_neg h,if_neg (by simpa [isP] using λe=>h e.symm)];omega
 generalize updM (cntX Y) (s.b,s.p) (cntX Y (s.b,s.p)+1)=m1 at hm
 have hl:∀ k,losM m1 x k=m1 k-(if isP k x=true then 1 else 0):=λk=>by
  unfold losM
  by_cases hh:x.has=true
  ·rw [if_pos hh]
   unfold updM
   by_cases h:k=x.pl
   ·rw [if_pos h,h,if_pos (by simp [isP,hh])]
   ·rw [if_neg h,if_neg (by simpa [isP,hh] using λe=>h e.symm)];omega
  ·rw [if_neg hh,if_neg (by simp [isP,hh])];omega
 have hc:=cntX_set (d:=⟨true,s⟩) hY.four hns hx
 have hmm:∀ k,losM m1 x k=cntX (setX Y ns j ⟨true,s⟩) k:=λk=>by rw [hl,hm,hc];omega
 have h1:x.has=true->1<=m1 x.pl/\m1 x.pl<=1000000:=λh=>by
  have h1:=cntX_pos hY.four hns hx h
  have h2:=(cntX_le hY x.pl).2
  rw [hm]
  split <;> omega
 refine ⟨h1,hmm,?_⟩
 unfold losL
 by_cases hh:x.has=true
 ·have h2:=hmm x.pl
  rw [hl,if_pos (by simp [isP,hh])] at h2
  have h3:=(h1 hh).1
  by_cases h4:0<m1 x.pl-1
  ·rw [if_neg (λk=>k.2 h4),if_neg (λk=>by omega)]
  ·rw [if_pos ⟨hh,h4⟩,if_pos ⟨hh,by omega⟩]
 ·rw [if_neg (λk=>hh k.1),if_neg (λk=>hh k.1)]
def stepP (s:Sp) (j:Nat) (st:List (SlP Ce)×List (Int×Int)):List (SlP Ce)×List (Int×Int):=
 let c:=(getX st.1 s.h.n).l.getD j Ce0
 if c.has=true/\¬ nwrH s c.s then st else (setX st.1 s.h.n j ⟨true,s⟩,if c.has=true/\cntX (setX st.1 s.h.n j ⟨true,s⟩) c.pl=0 then st.2++[c.pl] else st.2)
def putP (s:Sp) (X:List (SlP Ce)):Nat->List (SlP Ce)×List (Int×Int)
 | 0=>(X,[])
 | i+1=>stepP s (s.h.l.toNat+i) (putP s X i)
theorem stepP_ok {s:Sp} {j:Nat} {st:List (SlP Ce)×List (Int×Int)} (h:XOk st.1):XOk (stepP s j st).1:=by
 unfold stepP
 dsimp only
 split
 ·exact h
 ·exact h.set
theorem stepP_sl {s:Sp} {j:Nat} {st:List (SlP Ce)×List (Int×Int)} (h:XOk st.1) (hn:0<=s.h.n/\s.h.n<4):(stepP s j st).1.map slM=st.1.map slM:=by
 unfold stepP
 dsimp only
 split
 ·rfl
 ·exact setX_sl h.four hn
theorem nodup_sub {α:Type} [DecidableEq α]:∀ (L M:List α),L.Nodup->(∀ k∈L,k∈M)->L.length<=M.length
 | [],M,_,_=>Nat.zero_le _
 | k::L,M,hn,hs=>by
  rw [List.nodup_cons] at hn
  have h1:k∈M:=hs k List.mem_cons_self
  have h2:=nodup_sub L (M.erase k) hn.2 λx hx=>by
   have:x≠k:=λe=>hn.1 (e ▸ hx)
   exact (List.mem_erase_of_ne this).2 (hs x (List.mem_cons_of_mem _ hx))
  rw [List.length_erase_of_mem h1] at h2
  have:=List.length_pos_of_mem h1
  rw [List.length_cons]
  omega
theorem mem_flatX {X:List (SlP Ce)} (hX:X.length=4) {c:Ce} (h:c∈flatX X):∃ (ns:Int) (j:Nat),(0<=ns/\ns<4)/\(getX X ns).l[j]? = some c:=by
 obtain ⟨x,hx,hc⟩:=List.mem_flatMap.1 h
 obtain ⟨i,hi,rfl⟩:=List.getElem_of_mem hx
 obtain ⟨j,hj⟩:=List.getElem?_of_mem hc
 refine ⟨(i:Int),j,by omega,?_⟩
 have:=getX_at hX (ns:=(i:Int)) (by omega)
 rw [Int.toNat_natCast,List.getElem?_eq_getElem hi] at this
 rw [<-Option.some.inj this]
 exact hj
theorem cntX_ex {X:List (SlP Ce)} (hX:X.length=4) {k:Int×Int} (h:1<=cntX X k):∃ (ns:Int) (j:Nat) (c:Ce),(0<=ns/\ns<4)/\(getX X ns).l[j]? = some c/\c.has=true/\c.pl=k:=by
 unfold cntX cntC at h
 have h:0<(flatX X).countP (isP k):=by omega
 obtain ⟨c,hc,hp⟩:=List.countP_pos_iff.1 h
 obtain ⟨ns,j,hn,hj⟩:=mem_flatX hX hc
 unfold isP at hp
 rw [Bool.and_eq_true,decide_eq_true_iff] at hp
 exact ⟨ns,j,c,hn,hj,hp.1,hp.2⟩
abbrev Sp.pl (s:Sp):Int×Int:=(s.b,s.p)
def putC (s:Sp) (c:Ce):Ce:=if c.has=true/\¬ nwrH s c.s then c else ⟨true,s⟩
theorem getX_l_set {X:List (SlP Ce)} (hX:X.length=4) {ns:Int} (hn:0<=ns/\ns<4) {j:Nat} {c:Ce} (ns':Int):(getX (setX X ns j c) ns').l=if ns'=ns then (getX X ns).l.set j c else (getX X ns').l:=by
 rw [setX_get hX hn];split <;> rfl
structure PutI (s:Sp) (X:List (SlP Ce)) (i:Nat) (Y:List (SlP Ce)) (L:List (Int×Int)):Prop where
 ok:XOk Y
 nd:L.Nodup
 mem:∀ k,k∈L↔1<=cntX X k/\cntX Y k=0
 up:cntX X s.pl<=cntX Y s.pl
 cell:∀ (ns:Int) (j:Nat),(getX Y ns).l[j]? = if ns=s.h.n/\s.h.l.toNat<=j/\j<s.h.l.toNat+i then ((getX X ns).l[j]?).map (putC s) else (getX X ns).l[j]?
 sl:Y.map slM=X.map slM
theorem putP_inv {s:Sp} {X:List (SlP Ce)} (hX:XOk X) (hn:0<=s.h.n/\s.h.n<4):∀ (i:Nat),s.h.l.toNat+i<=(getX X s.h.n).n->PutI s X i (putP s X i).1 (putP s X i).2
 | 0,_=>⟨hX,.nil,λk=>⟨λh=>(List.not_mem_nil h).elim,λh=>by have h1:=h.1;have h2:cntX X k=0:=h.2;omega⟩,Int.le_refl _,λns j=>by rw [if_neg (by omega)];rfl,rfl⟩
 | i+1,hi=>by
  have ih:=putP_inv hX hn i (by omega)
  show PutI s X (i+1) (stepP s (s.h.l.toNat+i) (putP s X i)).1 (stepP s (s.h.l.toNat+i) (putP s X i)).2
  generalize putP s X i=st at ih ⊢
  obtain ⟨Y,L⟩:=st
  dsimp only at ih
  obtain ⟨c,hc⟩:∃ c,(getX X s.h.n).l[s.h.l.toNat+i]? = some c:=⟨_,List.getElem?_eq_getElem (by rw [(hX.get _).1];omega)⟩
  have hy:(getX Y s.h.n).l[s.h.l.toNat+i]? = some c:=by rw [ih.cell,if_neg (by omega),hc]
  have hd:(getX Y s.h.n).l.getD (s.h.l.toNat+i) Ce0=c:=by rw [List.getD_eq_getElem?_getD,hy];rfl
  unfold stepP
  dsimp only
  rw [hd]
  by_cases h:c.has=true/\¬ nwrH s c.s
  ·rw [if_pos h]
   refine ⟨ih.ok,ih.nd,ih.mem,ih.up,λns j=>?_,ih.sl⟩
   rw [ih.cell]
   by_cases h1:ns=s.h.n/\j=s.h.l.toNat+i
   ·rw [if_neg (by omega),if_pos (by omega),h1.1,h1.2,hc]
    show some c=some (putC s c)
    unfold putC;rw [if_pos h]
   ·by_cases h2:ns=s.h.n/\s.h.l.toNat<=j/\j<s.h.l.toNat+i
    ·rw [if_pos h2,if_pos (by omega)]
    ·rw [if_neg h2,if_neg (by omega)]
  ·rw [if_neg h]
   dsimp only
   have hcnt:=cntX_set (d:=⟨true,s⟩) ih.ok.four hn hy
   have hpos:=λhh=>cntX_pos ih.ok.four hn hy hh
   have hle:=cntX_le ih.ok
   have isC:∀ k,isP k c=true↔c.has=true/\c.pl=k:=λk=>by unfold isP;simp
   have isS:∀ k,isP k ⟨true,s⟩=true↔s.pl=k:=λk=>by unfold isP;simp [Sp.pl]
   have hup:cntX X s.pl<=cntX (setX Y s.h.n (s.h.l.toNat+i) ⟨true,s⟩) s.pl:=by
    have:=ih.up
    rw [hcnt,if_pos ((isS _).2 rfl)]
    split <;> omega
   refine ⟨ih.ok.set,?_,λk=>?_,hup,λns j=>?_,(setX_sl ih.ok.four hn).trans ih.sl⟩
   ·split
    ·rename_i h1
     rw [List.nodup_append]
     refine ⟨ih.nd,by simp,λa ha b hb e=>?_⟩
     have hb:=List.mem_singleton.1 hb
     have:=((ih.mem a).1 ha).2
     have:=hpos h1.1
     rw [e,hb] at *
     omega
    ·exact ih.nd
   ·have hck:=hcnt k
    have hk0:=(hle k).1
    have hup2:=ih.up
    by_cases hs:s.pl=k
    ·subst hs
     have hcs:=hcnt s.pl
     rw [if_pos ((isS _).2 rfl)] at hcs
     have hpl:cntX (setX Y s.h.n (s.h.l.toNat+i) ⟨true,s⟩) s.pl≥1:=by
      by_cases hh:isP s.pl c=true
      ·have:=hpos ((isC _).1 hh).1
       rw [((isC _).1 hh).2] at this
       rw [if_pos hh] at hcs
       omega
      ·rw [if_neg hh] at hcs;omega
     refine ⟨λhm=>?_,λhm=>by omega⟩
     exfalso
     split at hm
     ·rename_i h1
      rw [List.mem_append] at hm
      rcases hm with hm | hm
      ·have:=(ih.mem _).1 hm;omega
      ·have hm:=List.mem_singleton.1 hm
       rw [<-hm] at h1
       omega
     ·have:=(ih.mem _).1 hm;omega
    ·rw [if_neg (λe=>hs ((isS _).1 e)),Int.add_zero] at hck
     by_cases hh:isP k c=true
     ·rw [if_pos hh] at hck
      obtain ⟨h1,h2⟩:=(isC _).1 hh
      have hp:=hpos h1
      rw [h2] at hp ⊢
      have hX1:1<=cntX X k:=by
       rw [<-h2];exact cntX_pos hX.four hn hc h1
      by_cases h0:cntX (setX Y s.h.n (s.h.l.toNat+i) ⟨true,s⟩) k=0
      ·rw [if_pos ⟨h1,h0⟩]
       exact ⟨λ_=>⟨hX1,h0⟩,λ_=>by simp⟩
      ·rw [if_neg (λe=>h0 e.2)]
       exact ⟨λhm=>by have:=(ih.mem _).1 hm;omega,λhm=>absurd hm.2 h0⟩
     ·rw [if_neg hh,Int.sub_zero] at hck
      rw [hck]
      split
      ·rename_i h1
       rw [List.mem_append]
       refine ⟨λhm=>hm.elim (λx=>(ih.mem k).1 x) λx=>?_,λhm=>.inl ((ih.mem k).2 hm)⟩
       exact absurd ((isC k).2 ⟨h1.1,(List.mem_singleton.1 x).symm⟩) hh
      ·exact ih.mem k
   ·rw [getX_l_set ih.ok.four hn]
    by_cases h1:ns=s.h.n
    ·rw [if_pos h1,List.getElem?_set,<- h1,ih.cell,h1]
     by_cases h2:s.h.l.toNat+i=j
     ·rw [if_pos h2,if_pos (List.getElem?_eq_some_iff.1 hy).1,if_pos (by omega),<- h2,hc]
      show some _=some (putC s c)
      unfold putC;rw [if_neg h]
     ·rw [if_neg h2]
      by_cases h3:s.h.l.toNat<=j/\j<s.h.l.toNat+i
      ·rw [if_pos ⟨rfl,h3⟩,if_pos (by omega)]
      ·rw [if_neg (λe=>h3 e.2),if_neg (by omega)]
    ·rw [if_neg h1,ih.cell,if_neg (λe=>h1 e.1),if_neg (λe=>h1 e.1)]
end Go.Proofs.YtbaojfchlhlaeaaGreat.Vc
namespace Go.Eng
open Go Go.RowKit
theorem Own.lenF {w:World} {B m:Nat} {e:TypeId} {α:Type} {f:α->List Value} {a:Option Addr} {n c:Nat} {L:List α} (h:Own w B e m a n c (L.flatMap f)) (hm:∀ x,(f x).length=m) (hp:0<m):L.length=n:=by
 have:=h.len
 rw [flatF_len hm] at this
 exact Nat.eq_of_mul_eq_mul_right hp this
end Go.Eng
namespace Go.Proofs.YtbaojfchlhlaeaaGreat.Vc
open Go Go.Eng Go.RowKit
structure Rc where
 ns:Int
 lba:Int
 s:Sp
abbrev Rc.vs (c:Rc):List Value:=[.int .i64 c.ns,.int .i64 c.lba,.int .i64 c.s.b,.int .i64 c.s.p,.int .i64 c.s.h.k,.int .i64 c.s.h.n,.int .i64 c.s.h.c,.int .u32 c.s.h.l,.int .u64 c.s.h.e,.int .u64 c.s.h.t,.int .i64 c.s.o.k,.int .i64 c.s.o.n,.int .i64 c.s.o.c,.int .u32 c.s.o.l,.int .u64 c.s.o.e,.int .u64 c.s.o.t]
abbrev Rc.pl (c:Rc):Int×Int:=(c.s.b,c.s.p)
structure Sz where
 a:Int
 b:Int
 c:Int
 d:Int
def cntR (L:List Rc) (k:Int×Int):Nat:=L.countP λc=>decide (c.pl=k)
def Sz.get (z:Sz) (n:Int):Int:=if n=0 then z.a else if n=1 then z.b else if n=2 then z.c else if n=3 then z.d else 0
def Rc.key (c:Rc):Int×Int:=(c.ns,c.lba)
structure RelX (X:List (SlP Ce)) (z:Sz) (L:List Rc):Prop where
 ok:XOk X
 sz:∀ ns,z.get ns=((getX X ns).n:Int)
 nd:(L.map Rc.key).Nodup
 mem:∀ c:Rc,c∈L↔(0<=c.ns/\c.ns<4)/\0<=c.lba/\(getX X c.ns).l[c.lba.toNat]? = some ⟨true,c.s⟩
def canL (ns:Int):Nat->List Ce->List Rc
 | _,[]=>[]
 | j,c::l=>if c.has=true then ⟨ns,j,c.s⟩::canL ns (j+1) l else canL ns (j+1) l
theorem canL_cnt (ns:Int) (p:Sp->Bool):∀ (l:List Ce) (j:Nat),(canL ns j l).countP (λc=>p c.s)=l.countP λc=>c.has && p c.s
 | [],j=>rfl
 | c::l,j=>by
  unfold canL
  have ih:=canL_cnt ns p l (j+1)
  by_cases h:c.has=true
  ·rw [if_pos h,List.countP_cons,List.countP_cons,ih,h]
   rfl
  ·rw [if_neg h,ih,List.countP_cons]
   have:c.has=false:=by simpa using h
   rw [this]
   rfl
theorem canL_mem (ns:Int) (c:Rc):∀ (l:List Ce) (j:Nat),c∈canL ns j l↔c.ns=ns/\∃ i:Nat,c.lba=(j:Int)+i/\l[i]? = some ⟨true,c.s⟩
 | [],j=>⟨λh=>(List.not_mem_nil h).elim,λ⟨_,i,_,h⟩=>by simp at h⟩
 | d::l,j=>by
  have ih:=canL_mem ns c l (j+1)
  unfold canL
  have tl:(∃ i:Nat,c.lba=((j+1:Nat):Int)+i/\l[i]? = some ⟨true,c.s⟩)->∃ i:Nat,c.lba=(j:Int)+i/\(d::l)[i]? = some ⟨true,c.s⟩:=λ⟨i,h1,h2⟩=>⟨i+1,by push_cast at h1⊢;omega,by rw [List.getElem?_cons_succ];exact h2⟩
  have back:∀ i:Nat,c.lba=(j:Int)+i->(d::l)[i]? = some ⟨true,c.s⟩->(i=0/\d=⟨true,c.s⟩)\/∃ i:Nat,c.lba=((j+1:Nat):Int)+i/\l[i]? = some ⟨true,c.s⟩:=λi h1 h2=>by
   cases i with
   | zero=>exact .inl ⟨rfl,by simpa using h2⟩
   | succ i=>exact .inr ⟨i,by push_cast at h1⊢;omega,by rw [List.getElem?_cons_succ] at h2;exact h2⟩
  by_cases h:d.has=true
  ·rw [if_pos h,List.mem_cons,ih]
   constructor
   ·rintro (e | ⟨e,h2⟩)
    ·subst e
     exact ⟨rfl,0,by simp,by obtain ⟨a,b⟩:=d;cases h;rfl⟩
    ·exact ⟨e,tl h2⟩
   ·rintro ⟨e,i,h1,h2⟩
    rcases back i h1 h2 with ⟨h3,h4⟩ | h3
    ·subst h3
     refine .inl ?_
     obtain ⟨a,b,s⟩:=c
     rw [h4]
     simp at h1 e ⊢
     exact ⟨e,h1⟩
    ·exact .inr ⟨e,h3⟩
  ·rw [if_neg h,ih]
   refine and_congr_right λe=>⟨tl,λ⟨i,h1,h2⟩=>?_⟩
   rcases back i h1 h2 with ⟨h3,h4⟩ | h3
   ·rw [h4] at h;exact absurd rfl h
   ·exact h3
theorem canL_ge (ns:Int):∀ (l:List Ce) (j:Nat),∀ c∈canL ns j l,c.ns=ns/\(j:Int)<=c.lba:=λl j c hc=>by
 obtain ⟨h1,i,h2,-⟩:=(canL_mem ns c l j).1 hc
 exact ⟨h1,by omega⟩
theorem canL_nd (ns:Int):∀ (l:List Ce) (j:Nat),(canL ns j l).Pairwise λa b=>a≠b
 | [],j=>.nil
 | c::l,j=>by
  have ih:=canL_nd ns l (j+1)
  unfold canL
  split
  ·refine List.pairwise_cons.2 ⟨λd hd e=>?_,ih⟩
   have:=(canL_ge ns l (j+1) d hd).2
   rw [<-e] at this
   push_cast at this
   have:((j:Int)+1)<=(j:Int):=this
   omega
  ·exact ih
def canX (X:List (SlP Ce)):List Rc:=canL 0 0 (getX X 0).l++(canL 1 0 (getX X 1).l++(canL 2 0 (getX X 2).l++canL 3 0 (getX X 3).l))
theorem flatX_four {X:List (SlP Ce)} (hX:X.length=4):flatX X=(getX X 0).l++((getX X 1).l++((getX X 2).l++(getX X 3).l)):=by
 match X,hX with
 | [a,b,c,d],_=>simp [flatX,getX]
theorem canX_cnt {X:List (SlP Ce)} (hX:X.length=4) (p:Sp->Bool):(canX X).countP (λc=>p c.s)=(flatX X).countP λc=>c.has && p c.s:=by
 rw [flatX_four hX]
 unfold canX
 simp only [List.countP_append,canL_cnt]
theorem canX_mem {X:List (SlP Ce)} (c:Rc):c∈canX X↔(0<=c.ns/\c.ns<4)/\0<=c.lba/\(getX X c.ns).l[c.lba.toNat]? = some ⟨true,c.s⟩:=by
 unfold canX
 simp only [List.mem_append,canL_mem]
 constructor
 ·rintro (⟨e,i,h1,h2⟩ | ⟨e,i,h1,h2⟩ | ⟨e,i,h1,h2⟩ | ⟨e,i,h1,h2⟩) <;>
  ·rw [e]
   refine ⟨by omega,by omega,?_⟩
   rw [show c.lba.toNat=i by omega]
   exact h2
 ·rintro ⟨h1,h2,h3⟩
  have hl:c.lba=((0:Nat):Int)+(c.lba.toNat:Nat):=by omega
  have:c.ns=0\/c.ns=1\/c.ns=2\/c.ns=3:=by omega
  rcases this with e | e | e | e <;> rw [e] at h3
  ·exact .inl ⟨e,_,hl,h3⟩
  ·exact .inr (.inl ⟨e,_,hl,h3⟩)
  ·exact .inr (.inr (.inl ⟨e,_,hl,h3⟩))
  ·exact .inr (.inr (.inr ⟨e,_,hl,h3⟩))
theorem canX_nd (X:List (SlP Ce)):(canX X).Nodup:=by
 unfold canX
 have dis:∀ {a b:Int} {l m:List Ce},a≠b->∀ x∈canL a 0 l,∀ y∈canL b 0 m,x≠y:=λh x hx y hy e=>by
  have h1:=(canL_ge _ _ _ x hx).1
  have h2:=(canL_ge _ _ _ y hy).1
  rw [e] at h1
  exact h (h1.symm.trans h2)
 have d2:∀ {a b c:Int} {l m n:List Ce},a≠b->a≠c->∀ x∈canL a 0 l,∀ y∈canL b 0 m++canL c 0 n,x≠y:=λh1 h2 x hx y hy=>(List.mem_append.1 hy).elim (dis h1 x hx y) (dis h2 x hx y)
 refine List.nodup_append.2 ⟨canL_nd _ _ _,List.nodup_append.2 ⟨canL_nd _ _ _,List.nodup_append.2 ⟨canL_nd _ _ _,canL_nd _ _ _,dis (by decide)⟩,d2 (by decide) (by decide)⟩,λx hx y hy=>(List.mem_append.1 hy).elim (dis (by decide) x hx y) (d2 (by decide) (by decide) x hx y)⟩
section
variable {X:List (SlP Ce)} {z:Sz} {L:List Rc}
theorem RelX.perm (h:RelX X z L):L.Perm (canX X):=by
 have hn:L.Nodup:=(List.pairwise_map.1 h.nd).imp λ{a b} h e=>h (by rw [e])
 exact (List.perm_ext_iff_of_nodup hn (canX_nd X)).2 λc=>(h.mem c).trans (canX_mem c).symm
theorem RelX.cnt (h:RelX X z L) (k:Int×Int):(cntR L k:Int)=cntX X k:=by
 unfold cntR cntX cntC
 rw [h.perm.countP_eq,canX_cnt h.ok.four (λs=>decide ((s.b,s.p)=k))]
 rfl
theorem getX_put {X:List (SlP Ce)} (hX:X.length=4) {ns:Int} (hn:0<=ns/\ns<4) {x:SlP Ce} (ns':Int):getX (X.set ns.toNat x) ns'=if ns'=ns then x else getX X ns':=by
 by_cases hn':0<=ns'/\ns'<4
 ·have h1:=getX_at (X:=X.set ns.toNat x) (by rw [List.length_set];exact hX) hn'
  rw [List.getElem?_set] at h1
  by_cases h:ns'=ns
  ·subst h
   rw [if_pos rfl,if_pos (by omega)] at h1
   rw [if_pos rfl]
   exact (Option.some.inj h1).symm
  ·rw [if_neg (by omega),getX_at hX hn'] at h1
   rw [if_neg h]
   exact (Option.some.inj h1).symm
 ·have h:ns'≠ns:=λe=>hn' (e ▸ hn)
  rw [if_neg h]
  unfold getX
  rw [if_neg hn',if_neg hn']
theorem cntX_drop {n:Int} (hX:X.length=4) (hn:0<=n/\n<4) (k:Int×Int):cntX (X.set n.toNat noC) k=cntX X k-cntC (getX X n).l k:=by
 unfold cntX
 obtain ⟨m1,m2⟩:=flat_mid (f:=λx:SlP Ce=>x.l) (z:=noC) (getX_at hX hn)
 have h1:flatX X=_:=m1
 have h2:flatX (X.set n.toNat noC)=_:=m2
 rw [h1,h2]
 unfold cntC
 simp only [List.countP_append]
 have:(noC:SlP Ce).l=[]:=rfl
 rw [this]
 push_cast
 simp
 omega
def movC (f t:Int×Int) (o:Hh) (c:Ce):Ce:=if c.has=true/\c.pl=f then ⟨true,⟨t.1,t.2,c.s.h,o⟩⟩ else c
def movX (f t:Int×Int) (o:Hh) (X:List (SlP Ce)):List (SlP Ce):=X.map λx=>⟨x.a,x.n,x.c,x.l.map (movC f t o)⟩
theorem getX_mov (f t:Int×Int) (o:Hh) (ns:Int) (hX:X.length=4):getX (movX f t o X) ns=⟨(getX X ns).a,(getX X ns).n,(getX X ns).c,(getX X ns).l.map (movC f t o)⟩:=by
 by_cases hn:0<=ns/\ns<4
 ·have h1:=getX_at (X:=movX f t o X) (by unfold movX;rw [List.length_map];exact hX) hn
  unfold movX at h1
  rw [List.getElem?_map,getX_at hX hn] at h1
  exact (Option.some.inj h1).symm
 ·unfold getX
  rw [if_neg hn,if_neg hn]
  rfl
theorem movX_ok {f t:Int×Int} {o:Hh} (h:XOk X):XOk (movX f t o X):=⟨by unfold movX;rw [List.length_map];exact h.four,λx hx=>by
 obtain ⟨y,hy,rfl⟩:=List.mem_map.1 hx
 have:=h.len y hy
 exact ⟨by show (y.l.map _).length=_;rw [List.length_map];exact this.1,this.2⟩⟩
theorem cntC_mov (f t:Int×Int) (o:Hh) (k:Int×Int):∀ l:List Ce,(cntC (l.map (movC f t o)) k:Int)=cntC l k-(if k=f then (cntC l f:Int) else 0)+(if k=t then (cntC l f:Int) else 0)
 | []=>by simp [cntC]
 | c::l=>by
  have ih:=cntC_mov f t o k l
  unfold cntC at ih ⊢
  rw [List.map_cons,List.countP_cons,List.countP_cons,List.countP_cons]
  have h1:isP k (movC f t o c)=if isP f c=true then decide (t=k) else isP k c:=by
   unfold movC isP
   by_cases hh:c.has=true
   ·by_cases hp:c.pl=f
    ·rw [if_pos ⟨hh,hp⟩,if_pos (by simp [hh,hp])];rfl
    ·rw [if_neg (λe=>hp e.2),if_neg (by simp [hp])]
   ·rw [if_neg (λe=>hh e.1),if_neg (by simp [hh])]
  have h2:isP f c=true->(isP k c=true↔k=f):=λh=>by
   unfold isP at h ⊢
   rw [Bool.and_eq_true,decide_eq_true_iff] at h
   rw [h.1,h.2]
   simp
   exact eq_comm
  rw [h1]
  by_cases hf:isP f c=true
  ·rw [if_pos hf,if_pos hf]
   by_cases hk:k=f
   ·rw [if_pos ((h2 hf).2 hk)]
    rw [if_pos hk] at ih ⊢
    by_cases ht:k=t
    ·rw [if_pos ht] at ih ⊢
     rw [if_pos (by simpa using ht.symm)]
     push_cast
     omega
    ·rw [if_neg ht] at ih ⊢
     rw [if_neg (by simpa using λe=>ht e.symm)]
     push_cast
     omega
   ·rw [if_neg (λe=>hk ((h2 hf).1 e))]
    rw [if_neg hk] at ih ⊢
    by_cases ht:k=t
    ·rw [if_pos ht] at ih ⊢
     rw [if_pos (by simpa using ht.symm)]
     push_cast
     omega
    ·rw [if_neg ht] at ih ⊢
     rw [if_neg (by simpa using λe=>ht e.symm)]
     push_cast
     omega
  ·rw [if_neg hf,if_neg hf]
   by_cases hk:k=f
   ·rw [if_pos hk] at ih ⊢
    by_cases ht:k=t
    ·rw [if_pos ht] at ih ⊢
     push_cast
     omega
    ·rw [if_neg ht] at ih ⊢
     push_cast
     omega
   ·rw [if_neg hk] at ih ⊢
    by_cases ht:k=t
    ·rw [if_pos ht] at ih ⊢
     push_cast
     omega
    ·rw [if_neg ht] at ih ⊢
     push_cast
     omega
theorem cntX_mov (f t:Int×Int) (o:Hh) (k:Int×Int):cntX (movX f t o X) k=cntX X k-(if k=f then cntX X f else 0)+(if k=t then cntX X f else 0):=by
 unfold cntX
 have:flatX (movX f t o X)=(flatX X).map (movC f t o):=by
  unfold flatX movX
  rw [List.flatMap_map,List.map_flatMap]
 rw [this]
 exact cntC_mov f t o k _
end
structure SD where
 C:CD
 L:List Blk
 O:List Hd
 X:List (SlP Ce)
 fr:List Int
 ep:Int
 op:Int
 ct:Int
 ro:Bool
def Hd.hh (h:Hd):Hh:=⟨h.k,h.n,h.c,h.l,h.e,h.t⟩
abbrev u64w (z:Int):Int:=IntKind.u64.wrap z
def inP (X:List (SlP Ce)) (bl:Int):List (Int×Int):=((List.range 32).map λi:Nat=>(bl,(i:Int))).filter λk=>decide (1<=cntX X k)
def gonP (X Y:List (SlP Ce)):List (Int×Int):=((List.range 64).flatMap λb:Nat=>(List.range 32).map λi:Nat=>((b:Int),(i:Int))).filter λk=>decide (1<=cntX X k/\cntX Y k=0)
def bads (L:List Blk):Int:=manyT L (λx=>x.ba) L.length
def overP (s:SD):SD×Int:=
 if s.C.g.sp<bads s.L then ({s with ro:=true},15) else (s,if s.ro=true then 15 else 0)
def chS (s:SD) (b:Int) (φ:Blk->Blk):SD:={s with L:=chL b s.L.length φ s.L}
def frG (s:SD) (ns:Int):Int:=s.fr.getD ns.toNat 0
def frS (s:SD) (ns v:Int):SD:={s with fr:=s.fr.set ns.toNat v}
def roS (s:SD) (e:Int):SD:=if e=19 then {s with ro:=true} else s
def leftP (s:SD) (e:Int):SD×Int:=
 if e=4 then (s,4) else if (overP (roS s e)).2≠0 then overP (roS s e) else ((overP (roS s e)).1,e)
def closP (s:SD) (ns:Int):SD:=if 0<=frG s ns/\(gx s.L (frG s ns).toNat).li=0 then chS (frS s ns (-1)) (frG s ns) rB else frS s ns (-1)
def opnS (ns:Int) (sl:Bool) (s:SD):SD×Int×Int:=
 let r:=opC ns ⟨0,0,0,0,s.ep,u64w (s.op+1)⟩ sl s.C s.L s.O
 ({s with op:=u64w (s.op+1),C:=r.1.1,L:=r.1.2.1,O:=r.1.2.2},r.2.1,r.2.2)
def dstS (s:SD) (b:Int):SD×Int:=
 if 0<=b/\b<(s.L.length:Int) then ((overP {s with C:=(dstP s.C s.L b).1,L:=(dstP s.C s.L b).2.1}).1,(dstP s.C s.L b).2.2) else (s,2)
def cpyS (s:SD) (to pa:Int) (k:Int×Int):SD×Int:=
 let r:=cpyC s.L.length s.C to pa k.1 k.2
 ({s with L:=chL to s.L.length uB s.L,C:=r.1},r.2)
def copP (to:Int):List (Int×Int)->Int->SD->SD×Int
 | [],_,s=>({s with C:=(slC s.L.length s.C to).1},(slC s.L.length s.C to).2)
 | k::l,i,s=>if (cpyS s to i k).2≠0 then cpyS s to i k else copP to l (i+1) (cpyS s to i k).1
def mov1 (f t:Int×Int) (o:Hh) (X:List (SlP Ce)):List (SlP Ce):=if f≠t/\0<cntX X t then X else movX f t o X
def movL (to:Int) (o:Hh):List (Int×Int)->Int->List (SlP Ce)->List (SlP Ce)
 | [],_,X=>X
 | k::l,i,X=>movL to o l (i+1) (mov1 k (4+to,i) o X)
def ordO (O:List Hd) (b:Int):Hd:=if 0<=b/\b<(O.length:Int) then O.getD b.toNat zHd else zHd
def movP (s:SD) (b to ns:Int) (l:List (Int×Int)):SD:=
 let s3:=chS (chS {s with X:=movL to (ordO s.O to).hh l 1 s.X} to (cB (l.length:Int))) b rB
 if frG s3 ns<0 then frS s3 ns to else s3
def spoP (s:SD) (b:Int):SD×Int:=
 if (dstS (chS (chS s b fB) b rB) b).2=4 then ((dstS (chS (chS s b fB) b rB) b).1,4) else overP (dstS (chS (chS s b fB) b rB) b).1
def empL (b ns:Int) (l:List (Int×Int)):Nat->SD->SD×Int
 | 0,s=>(s,19)
 | k+1,s=>
  let r:=opnS ns false s
  let f:=leftP r.1 r.2.2
  if f.2≠0 then (if r.2.2=0 then chS f.1 r.2.1 rB else f.1,f.2) else
  let c:=copP r.2.1 l 1 f.1
  if c.2=0 then (movP c.1 b r.2.1 ns l,0) else
  if c.2=5 then (if (spoP c.1 r.2.1).2≠0 then spoP c.1 r.2.1 else empL b ns l k (spoP c.1 r.2.1).1) else c
def empP (s:SD) (b ns:Int):SD×Int:=
 let s0:=if frG s ns=b then frS s ns (-1) else s
 if inP s.X (4+b)=[] then (chS s0 b rB,0) else empL b ns (inP s.X (4+b)) 256 s0
def quoS (s:SD) (ns:Int):Int:=quo s.C.g ((getX s.X ns).n:Int)
def heldS (s:SD) (ns:Int):Int:=manyT s.L (ownB ns) s.L.length
def roomP (s:SD) (ns:Int):SD×Int:=
 if quoS s ns-1<=heldS (closP s ns) ns then empP (closP s ns) (victT (closP s ns).L ns (-1) s.L.length) ns else
 let r:=opnS ns true (closP s ns)
 leftP (if r.2.2=0 then frS r.1 ns r.2.1 else r.1) r.2.2
def fulP (s:SD) (ns:Int):Prop:=frG s ns<0\/s.C.g.p-1<=(gx s.L (frG s ns).toNat).us
instance (s:SD) (ns:Int):Decidable (fulP s ns):=by unfold fulP;infer_instance
def faiP (s:SD) (ns:Int):SD×Int:=
 let b:=frG s ns
 let o:=overP (chS (frS s ns (-1)) b fB)
 if o.2≠0 then o else
 let e:=empP o.1 b ns
 if e.2≠0 then e else
 let d:=dstS e.1 b
 if d.2=4 then (d.1,4) else overP d.1
def wrtT (n:Nat) (C:CD) (b pa:Int) (h:Hd) (xs tg:List Int):CD×Int:=if 0<=b/\b<(n:Int) then (if HRight h then prgP C (4+b) pa (mkL C.g h xs tg) else (C,2)) else (C,2)
def wr1 (s:SD) (ns:Int) (h:Hd) (xs tg:List Int):SD×Int:=
 let b:=frG s ns
 let s1:=chS s b uB
 let r:=wrtT s.L.length s1.C b (gx s1.L b.toNat).us h xs tg
 ({s1 with C:=r.1},r.2)
def plc (s:SD) (ns:Int):Int×Int:=(4+frG s ns,(gx s.L (frG s ns).toNat).us+1)
def wrP (ns:Int) (h:Hd) (xs tg:List Int):Nat->SD->SD×(Int×Int)×Int
 | 0,s=>(s,(0,0),19)
 | k+1,s=>
  if fulP s ns then (if (roomP s ns).2≠0 then ((roomP s ns).1,(0,0),(roomP s ns).2) else wrP ns h xs tg k (roomP s ns).1) else
  let r:=wr1 s ns h xs tg
  if r.2=0 then (r.1,plc s ns,0) else
  if r.2=5 then (if (faiP r.1 ns).2≠0 then ((faiP r.1 ns).1,(0,0),(faiP r.1 ns).2) else wrP ns h xs tg k (faiP r.1 ns).1) else (r.1,(0,0),r.2)
def ded1 (s:SD) (k:Int×Int):SD:=
 let b:=k.1-4
 let s1:=chS s b (cB (-1))
 let x:=gx s1.L b.toNat
 if x.li=0/\x.he=true/\b∉s.fr then chS s1 b rB else s1
def dedP (l:List (Int×Int)) (s:SD):SD:=l.foldl ded1 s
def mayP (s:SD) (h:Hd):Prop:=(h.k=1\/h.k=2)/\1<=h.c/\h.c<=((getX s.X h.n).n:Int)/\h.l<=((getX s.X h.n).n:Int)-h.c
instance (s:SD) (h:Hd):Decidable (mayP s h):=by unfold mayP;infer_instance
def sptS (s:SD) (h:Hd) (at_:Int×Int):Sp:=⟨at_.1,at_.2,h.hh,(ordO s.O (at_.1-4)).hh⟩
def lndX (s:SD) (h:Hd) (at_:Int×Int):List (SlP Ce):=(putP (sptS s h at_) s.X h.c.toNat).1
def lnd1 (s:SD) (h:Hd) (at_:Int×Int):SD:=if 0<cntX (lndX s h at_) at_ then chS {s with X:=lndX s h at_} (at_.1-4) (cB 1) else {s with X:=lndX s h at_}
def lndP (s:SD) (h:Hd) (at_:Int×Int):SD:=dedP (gonP s.X (lndX s h at_)) (lnd1 s h at_)
def putS (s:SD) (h:Hd) (xs tg:List Int):SD×Int:=
 if ¬ mayP s h then (s,2) else if s.ro=true then (s,15) else
 let r:=wrP h.n h xs tg 256 s
 if r.2.2≠0 then (r.1,r.2.2) else (lndP r.1 h r.2.1,0)
def nxtS (s:SD) (h:Hd):SD×Hd:=({s with ct:=u64w (s.ct+1)},⟨h.k,h.n,h.c,h.l,s.ep,u64w (s.ct+1)⟩)
def emtS (s:SD) (b:Int):SD×Int:=
 if ¬ (0<=b/\b<(s.L.length:Int)) then (s,2) else
 let x:=gx s.L b.toNat
 if x.he=false\/x.ow<0\/4<=x.ow then (s,0) else
 if 0<x.li/\s.ro=true then (s,15) else empP s b x.ow
def relO (ns:Int) (x:Blk):Blk:=if x.he=true/\x.ow=ns then rB x else x
def fgtS (s:SD) (ns:Int):SD:=
 if ¬ (0<=ns/\ns<4) then s else
 {frS s ns (-1) with X:=if (getX s.X ns).n=0 then s.X else s.X.set ns.toNat noC,L:=s.L.map (relO ns)}
abbrev ownsA (X:List (SlP Ce)):Asr:=StarA (X.map ownC)
abbrev boxP (p r:Nat) (X:List (SlP Ce)):Asr:=BoxA p 186 (X.map slM++[.map (some r)])
section
variable {E:Nat->Prop} {w0 w:World} {p r:Nat} {X:List (SlP Ce)} {m:Int×Int->Int} {Rs:List Asr}
theorem toQ (S:Sep E w0 w [boxP p r X,MapF r m,ownsA X]):Sep E w0 w (PmQ p r X m []):=by
 have h:=(((S.sel [2,0,0] rfl).unfold (Rs:=X.map ownC) (Ts:=[boxP p r X,MapF r m])).perm List.perm_append_comm)
 show Sep E w0 w (_::_::(X.map ownC++[]))
 rw [List.append_nil]
 exact h
theorem fromQ (S:Sep E w0 w (PmQ p r X m [])):Sep E w0 w [boxP p r X,MapF r m,ownsA X]:=by
 have S:Sep E w0 w ([boxP p r X,MapF r m]++X.map ownC):=by
  have S:Sep E w0 w (_::_::(X.map ownC++[])):=S
  rw [List.append_nil] at S
  exact S
 exact ((S.perm List.perm_append_comm).fold (Rs:=X.map ownC)).sel [1,1,0] rfl
theorem owns_nth (hX:X.length=4) {ns:Int} (hn:0<=ns/\ns<4):(X.map ownC)[ns.toNat]? = some (ownC (getX X ns)):=by
 rw [List.getElem?_map,getX_at hX hn];rfl
theorem cellR (hX:X.length=4) {ns:Int} (hn:0<=ns/\ns<4) (i:Nat) (S:Sep E w0 w Rs) (hi:Rs[i]? = some (ownsA X)) {j:Int} (h0:0<=j) (h1:j<((getX X ns).n:Int)) :
  ∃ q x,(getX X ns).a=some q/\(getX X ns).l[j.toNat]? = some x/\CellsAt w (q.add (j.toNat*15)) x.vs/\q.block<w.heap.size:=by
 have S:=(S.perm (perm_front hi)).unfold (Rs:=X.map ownC)
 have hi2:(X.map ownC++Rs.eraseIdx i)[ns.toNat]? = some (ownC (getX X ns)):=by
  have:=owns_nth hX hn
  rw [List.getElem?_append_left (List.getElem?_eq_some_iff.1 this).1,this]
 obtain ⟨q,x,hq,hx,hc⟩:=S.nthF (f:=Ce.vs) (m:=15) ns.toNat hi2 Ce_len (by decide) h0 h1
 exact ⟨q,x,hq,hx,hc,(S.own ns.toNat hi2).lt q hq⟩
theorem cellW (hX:X.length=4) {ns:Int} (hn:0<=ns/\ns<4) (i:Nat) (S:Sep E w0 w Rs) (hi:Rs[i]? = some (ownsA X)) {q:Addr} (hq:(getX X ns).a=some q) {j:Nat} (hj:j<(getX X ns).n) (c:Ce) {K:World->Prop}
  (hk:∀ w',Sep E w0 w' (Rs.set i (ownsA (setX X ns j c)))->Fr (λk=>k=q.block) w w'->K w'):StoreV w (q.add (j*15)) c.vs K:=by
 have S1:=(S.perm (perm_front hi)).unfold (Rs:=X.map ownC)
 have h4:=owns_nth hX hn
 have S2:Sep E w0 w (ownC (getX X ns)::((X.map ownC).eraseIdx ns.toNat++Rs.eraseIdx i)):=S1.perm ((perm_front h4).append_right (Rs.eraseIdx i))
 obtain ⟨q2,hq2,h⟩:=S2.putF (f:=Ce.vs) (m:=15) Ce_len Ce_one (by decide) (j:=(j:Int)) ⟨by omega,by omega⟩ c (K:=K) λw' S3 f3=>hk w' (by
  rw [Int.toNat_natCast] at S3
  have S4:Sep E w0 w' ((X.map ownC).set ns.toNat (ownC ⟨(getX X ns).a,(getX X ns).n,(getX X ns).c,(getX X ns).l.set j c⟩)++Rs.eraseIdx i):=S3.perm (((perm_set h4).append_right (Rs.eraseIdx i)))
  rw [<-List.map_set (f:=ownC)] at S4
  exact (S4.fold (Rs:=(setX X ns j c).map ownC)).perm (perm_set hi)) (f3.mono λk ⟨q3,hq3,hk⟩=>by rw [hq] at hq3;cases hq3;exact hk)
 rw [hq] at hq2
 cases hq2
 rw [Int.toNat_natCast] at h
 exact h
theorem ld4P (hX:X.length=4) (i:Nat) (S:Sep E w0 w Rs) (hi:Rs[i]? = some (boxP p r X)) {K:Option Nat->Prop} (hk:K (some r)):LoadS w ((⟨p,0,none⟩:Addr).add 4) .map K:=by
 rw [show (⟨p,0,none⟩:Addr).add 4=⟨p,4,none⟩ by simp [Addr.add_lit]]
 refine S.ld i hi (j:=4) (h:=.map) (some r) ?_ hk
 rw [List.getElem?_append_right (by rw [List.length_map,hX];omega),List.length_map,hX]
 rfl
theorem bv4 (hX:X.length=4):(X.map slM++[Value.map (some r)])[4]? = some (.map (some r)):=by
 rw [List.getElem?_append_right (by rw [List.length_map,hX];omega),List.length_map,hX]
 rfl
def Told (T:List (Int×Int)->List (Int×Int)->Prop) (L:List (Int×Int)):Prop:=∀ {E:Nat->Prop} {w0 w:World} {Rs:List Asr} {a:Option Addr} {n c:Nat},Sep E w0 w (outA a n c L::Rs) ->
 CallV Tryz.prog 160 #[.slice a n c] w [.one .sl] λrr w'=>∃ L',T L L'/\rr.1=(⟨a,n,c⟩:SlV)/\Sep E w0 w' (outA a n c L'::Rs)
theorem Told.nil {T:List (Int×Int)->List (Int×Int)->Prop} (hT:T [] []):Told T []:=λ{E w0 w Rs a n c} S=>by
 have hl:=(S.own 0 rfl).len
 have hn:n=0:=by simp at hl;omega
 subst hn
 refine told0_c.mono ?_
 rintro ⟨_,⟨⟩⟩ w1 ⟨h1,rfl⟩
 exact ⟨[],hT,h1,S⟩
theorem Put22_c {s:Sp} {T:List (Int×Int)->List (Int×Int)->Prop} (hl:0<=s.h.l/\s.h.l<4294967296) (hX:XOk X) (hT:okT X s->Told T (putP s X s.h.c.toNat).2) (S:Sep E w0 w [boxP p r X,MapF r (cntX X),ownsA X]) :
  CallV Tryz.prog 118 #[.pointer (some ⟨p,0,none⟩),s.val] w [.one .sl,.one (.int .i64)] λrr w'=>(¬ okT X s->rr.1=(⟨none,0,0⟩:SlV)/\rr.2.1=(2:Int)/\Sep E w0 w' [boxP p r X,MapF r (cntX X),ownsA X]) /\
   (okT X s->rr.2.1=(0:Int)/\∃ (L':List (Int×Int)),T (putP s X s.h.c.toNat).2 L'/\Sep E w0 w' [outA rr.1.a rr.1.n rr.1.c L',boxP p r (putP s X s.h.c.toNat).1,MapF r (cntX (putP s X s.h.c.toNat).1),ownsA (putP s X s.h.c.toNat).1]):=by
 apply pagemap_Map_Put.vc
 unfold pagemap_Map_Put.P
 refine S.newB λb1 w1 S f1 _=>?_
 refine S.la0 rfl ?_
 refine (speaks22_c (s:=s) hl hX.four (by have:=(hX.get s.h.n).2;omega) (toQ (S.sel [1,1,1] rfl))).mono ?_
 rintro ⟨⟨ra,rn,rc⟩,⟨⟩⟩ w2 ⟨x2,h2,h2'⟩
 dsimp only at h2 h2' ⊢
 have S:=S.stepE x2
 by_cases hok:okT X s
 case neg=>
  have h:=h2' hok
  cases h
  exact cond_t rfl ⟨λ_=>⟨rfl,rfl,S.tail⟩,λh=>absurd h hok⟩
 have h:=h2 hok
 cases h
 clear h2 h2'
 obtain ⟨hkd,hc1,hc2,hc3⟩:=hok
 have hns:0<=s.h.n/\s.h.n<4:=by
  refine Classical.byContradiction λh=>?_
  have:(getX X s.h.n).n=0:=by unfold getX;rw [if_neg h];rfl
  omega
 have hgn:=(hX.get s.h.n).2
 refine cond_eq (λh=>?_) (λ_=>?_)
 ·exfalso
  have h:((s.h.c.toNat:Nat):Int)=0:=h
  omega
 have S:=S.nilOwn 81 2
 obtain ⟨q0,hq0⟩:∃ q0,(getX X s.h.n).a=some q0:=by
  obtain ⟨q,_,hq,_⟩:=cellR hX.four hns 4 S rfl (j:=0) (by omega) (by omega)
  exact ⟨q,hq⟩
 have hput:∀ i:Nat,XOk (putP s X i).1/\(putP s X i).1.map slM=X.map slM:=by
  intro i
  induction i with
  | zero=>exact ⟨hX,rfl⟩
  | succ i ih=>exact ⟨stepP_ok ih.1,(stepP_sl ih.1 hns).trans ih.2⟩
 have hsl:∀ i:Nat,(getX (putP s X i).1 s.h.n).a=(getX X s.h.n).a/\(getX (putP s X i).1 s.h.n).n=(getX X s.h.n).n/\(getX (putP s X i).1 s.h.n).c=(getX X s.h.n).c:=by
  intro i
  have h1:((putP s X i).1.map slM)[s.h.n.toNat]? = (X.map slM)[s.h.n.toNat]?:=by rw [(hput i).2]
  rw [List.getElem?_map,List.getElem?_map,getX_at (hput i).1.four hns,getX_at hX.four hns] at h1
  have h2:=Option.some.inj h1
  unfold slM at h2
  injection h2 with e1 e2 e3
  exact ⟨e1,e2,e3⟩
 refine Loop1 (λ(v:SlV×Int×Unit) w'=>∃ i:Nat,v.2.1=(i:Int)/\(i:Int)<=s.h.c/\v.1.n<=i/\Sep E w0 w' [outA v.1.a v.1.n v.1.c (putP s X i).2,BoxA b1 83 s.vs,boxP p r (putP s X i).1,MapF r (cntX (putP s X i).1),ownsA (putP s X i).1])
  (λ(v:SlV×Int×Unit) _=>(s.h.c-v.2.1).toNat) ⟨0,rfl,by omega,Nat.le_refl _,S⟩ ?_
 clear S
 rintro ⟨⟨oa,on,oc⟩,(v:Int),⟨⟩⟩ w3 ⟨i,hv,hi,hon,S⟩
 dsimp only at hv hon S ⊢
 subst hv
 have hcn:((s.h.c.toNat:Nat):Int)=s.h.c:=by omega
 refine cond_d (λhlt=>?_) (λhge=>?_)
 case refine_2=>
  have hie:i=s.h.c.toNat:=by omega
  subst hie
  refine (hT ⟨hkd,hc1,hc2,hc3⟩ S).mono ?_
  rintro ⟨_,⟨⟩⟩ w4 ⟨L',hL',hr,S⟩
  dsimp only at hr
  subst hr
  exact ⟨λh=>absurd ⟨hkd,hc1,hc2,hc3⟩ h,λ_=>⟨rfl,L',hL',S.sel [0,1,1,1] rfl⟩⟩
 obtain ⟨hXi,hbx⟩:=hput i
 obtain ⟨g1,g2,g3⟩:=hsl i
 generalize hXX:(putP s X i).1=Y at S hXi hbx g1 g2 g3
 generalize hLL:(putP s X i).2=L at S
 have hst:putP s X (i+1)=stepP s (s.h.l.toNat+i) (Y,L):=by
  show stepP _ _ (putP s X i)=_
  rw [<-hXX,<- hLL]
 have hj:0<=s.h.l+(i:Int)/\s.h.l+(i:Int)<((getX Y s.h.n).n:Int):=by omega
 have hjn:(s.h.l+(i:Int)).toNat=s.h.l.toNat+i:=by omega
 obtain ⟨q,x,hq,hx,hcx,hqb⟩:=cellR hXi.four hns 4 S rfl hj.1 hj.2
 rw [g1,hq0] at hq
 cases hq
 rw [hjn] at hx hcx
 have hadd:(q0.add (s.h.l.toNat*15)).add (((i:Int)).toNat*15)=q0.add ((s.h.l.toNat+i)*15):=by rw [add_add,Int.toNat_natCast,Nat.add_mul]
 have bnd:0<=(i:Int)/\(i:Int)<((s.h.c.toNat:Nat):Int):=by omega
 refine ⟨bnd,q0.add (s.h.l.toNat*15),by rw [hq0];rfl,x.tup,by rw [hadd];exact hcx,?_⟩
 refine S.newB λb11 w4 S f4 _=>?_
 refine S.st0 (by rfl) λw5 S f5=>?_
 have hgx:(getX Y s.h.n).l.getD (s.h.l.toNat+i) Ce0=x:=by rw [List.getD_eq_getElem?_getD,hx];rfl
 have r1:Rng .i64 ((i:Int)+1):=Rng.i64 (by omega) (by omega)
 have Q:∀ {w':World} {v:SlV×Int×Unit},v.2.1=(i:Int)+1->v.1.n<=i+1->Sep E w0 w' [outA v.1.a v.1.n v.1.c (stepP s (s.h.l.toNat+i) (Y,L)).2,BoxA b1 83 s.vs,boxP p r (stepP s (s.h.l.toNat+i) (Y,L)).1,MapF r (cntX (stepP s (s.h.l.toNat+i) (Y,L)).1),ownsA (stepP s (s.h.l.toNat+i) (Y,L)).1] ->
   (∃ j:Nat,v.2.1=(j:Int)/\(j:Int)<=s.h.c/\v.1.n<=j/\Sep E w0 w' [outA v.1.a v.1.n v.1.c (putP s X j).2,BoxA b1 83 s.vs,boxP p r (putP s X j).1,MapF r (cntX (putP s X j).1),ownsA (putP s X j).1])/\(s.h.c-v.2.1).toNat<(s.h.c-(i:Int)).toNat:=λ{w' v} h1 h2 h3=>
  ⟨⟨i+1,by rw [h1];push_cast;rfl,by push_cast;omega,h2,by rw [hst];exact h3⟩,by rw [h1];omega⟩
 /- what is done where the spot is put -/
 have hbd:∀ k,0<=cntX Y k/\cntX Y k<=262140:=cntX_le hXi
 refine S.ld0 (j:=0) rfl rfl (cond_of (λhh=>?_) (λhh=>?_))
 ·have hh:x.has=true:=hh
  refine S.la2 rfl (S.lb0 (o:=1) rfl ?_)
  refine (Newer22_c (a:=s) (b:=x.s)).mono ?_
  rintro ⟨(rn2:Bool),⟨⟩⟩ w6 ⟨h6,x6⟩
  dsimp only at h6 ⊢
  subst h6
  have S:=S.stepE x6
  by_cases hnw:nwrH s x.s
  case neg=>
   refine cond_t (by rw [decide_eq_false hnw];rfl) ⟨r1,Q (v:=(⟨oa,on,oc⟩,(i:Int)+1,())) rfl (Nat.le_succ_of_le hon) ?_⟩
   have e:stepP s (s.h.l.toNat+i) (Y,L)=(Y,L):=by unfold stepP;dsimp only;rw [hgx,if_pos ⟨hh,hnw⟩]
   rw [e]
   exact S.sel [1,1,1,1,1] rfl
  refine cond_f (by rw [decide_eq_true hnw];rfl) ?_
  have e:stepP s (s.h.l.toNat+i) (Y,L)=(setX Y s.h.n (s.h.l.toNat+i) ⟨true,s⟩,if x.has=true/\cntX (setX Y s.h.n (s.h.l.toNat+i) ⟨true,s⟩) x.pl=0 then L++[x.pl] else L):=by unfold stepP;dsimp only;rw [hgx,if_neg (λk=>k.2 hnw)]
  have S:=S.sel [4,0,0,0,0,0] rfl
  refine Sep.regC [_] S λG D hG T S hDt hDo hkeep back=>?_
  have hGr:G r:=by
   obtain ⟨F,⟨h1,l,cc,h2,-⟩,h3⟩:=T.get (i:=0) rfl
   exact (h3 r h1).1.resolve_right (λh=>by have:=(Array.getElem?_eq_some_iff.1 h2).1;omega)
  have hk2:=λw' (f:Fr (λk=>k=r) _ w')=>hkeep w' (f.mono λk hk=>by subst hk;exact hGr)
  have rv:Rng .i64 (cntX Y (s.b,s.p)+1):=Rng.i64 (by have:=hbd (s.b,s.p);omega) (by have:=hbd (s.b,s.p);omega)
  refine ⟨by rw [add_block];exact hDt 3 _ _ _ rfl,ld4P hXi.four 4 S rfl ⟨hDt 2 _ _ _ rfl,S.lb3 (o:=0) rfl ⟨?_,?_⟩⟩⟩
  ·refine T.incA (k:=(s.b,s.p)) (λx=>x+1) 0 rfl hk2 rv λw7 T f7=>?_
   have S:=back _ _ T
   dsimp only [List.set_cons_zero,List.cons_append,List.nil_append] at S
   refine S.la3 rfl ⟨bnd,q0.add (s.h.l.toNat*15),by rw [hq0];rfl,?_⟩
   rw [hadd]
   refine cellW hXi.four hns 5 S rfl (by rw [g1,hq0]) (j:=s.h.l.toNat+i) (by omega) ⟨true,s⟩ λw8 S f8=>?_
   dsimp only [List.set_cons_succ,List.set_cons_zero] at S
   have S:=S.sel [4,0,1,0,0,0] rfl
   refine S.la3 rfl ?_
   obtain ⟨hm1,hmm,hL⟩:=put_m hXi hns hx s L
   have hbY:Y.map slM=(setX Y s.h.n (s.h.l.toNat+i) ⟨true,s⟩).map slM:=(setX_sl hXi.four hns).symm
   refine Sep.call [_,_,_] (Ts:=[_,_,_]) S (λG SG=>lose22_c (c:=x) (bv4 hXi.four) hm1 (by omega) SG) λG fr rr w9 hr=>?_
   obtain ⟨a9,n9,c9,m9,hr1,hn9,hm9,S9⟩:=hr
   have hm9:m9=cntX (setX Y s.h.n (s.h.l.toNat+i) ⟨true,s⟩):=funext λk=>(hm9 k).trans (hmm k)
   subst hm9
   have S:=fr _ _ S9
   rw [hL] at S
   obtain ⟨rr1,⟨⟩⟩:=rr
   dsimp only at hr1
   subst hr1
   refine ⟨r1,Q (v:=(⟨a9,n9,c9⟩,(i:Int)+1,())) rfl (by dsimp only;omega) ?_⟩
   rw [e]
   show Sep E w0 w9 [_,_,BoxA p _ ((setX Y s.h.n (s.h.l.toNat+i) ⟨true,s⟩).map slM++_),_,_]
   rw [<-hbY]
   exact S.sel [2,3,0,0,1] rfl
  ·refine T.incB (k:=(s.b,s.p)) (λx=>x+1) 0 rfl hk2 rv λw7 T f7=>?_
   have S:=back _ _ T
   dsimp only [List.set_cons_zero,List.cons_append,List.nil_append] at S
   refine S.la3 rfl ⟨bnd,q0.add (s.h.l.toNat*15),by rw [hq0];rfl,?_⟩
   rw [hadd]
   refine cellW hXi.four hns 5 S rfl (by rw [g1,hq0]) (j:=s.h.l.toNat+i) (by omega) ⟨true,s⟩ λw8 S f8=>?_
   dsimp only [List.set_cons_succ,List.set_cons_zero] at S
   have S:=S.sel [4,0,1,0,0,0] rfl
   refine S.la3 rfl ?_
   obtain ⟨hm1,hmm,hL⟩:=put_m hXi hns hx s L
   have hbY:Y.map slM=(setX Y s.h.n (s.h.l.toNat+i) ⟨true,s⟩).map slM:=(setX_sl hXi.four hns).symm
   refine Sep.call [_,_,_] (Ts:=[_,_,_]) S (λG SG=>lose22_c (c:=x) (bv4 hXi.four) hm1 (by omega) SG) λG fr rr w9 hr=>?_
   obtain ⟨a9,n9,c9,m9,hr1,hn9,hm9,S9⟩:=hr
   have hm9:m9=cntX (setX Y s.h.n (s.h.l.toNat+i) ⟨true,s⟩):=funext λk=>(hm9 k).trans (hmm k)
   subst hm9
   have S:=fr _ _ S9
   rw [hL] at S
   obtain ⟨rr1,⟨⟩⟩:=rr
   dsimp only at hr1
   subst hr1
   refine ⟨r1,Q (v:=(⟨a9,n9,c9⟩,(i:Int)+1,())) rfl (by dsimp only;omega) ?_⟩
   rw [e]
   show Sep E w0 w9 [_,_,BoxA p _ ((setX Y s.h.n (s.h.l.toNat+i) ⟨true,s⟩).map slM++_),_,_]
   rw [<-hbY]
   exact S.sel [2,3,0,0,1] rfl
 ·have hh:x.has=false:=hh
  have e:stepP s (s.h.l.toNat+i) (Y,L)=(setX Y s.h.n (s.h.l.toNat+i) ⟨true,s⟩,if x.has=true/\cntX (setX Y s.h.n (s.h.l.toNat+i) ⟨true,s⟩) x.pl=0 then L++[x.pl] else L):=by unfold stepP;dsimp only;rw [hgx,if_neg (λk=>by rw [hh] at k;cases k.1)]
  have S:=S.sel [4,0,0,0,0,0] rfl
  refine Sep.regC [_] S λG D hG T S hDt hDo hkeep back=>?_
  have hGr:G r:=by
   obtain ⟨F,⟨h1,l,cc,h2,-⟩,h3⟩:=T.get (i:=0) rfl
   exact (h3 r h1).1.resolve_right (λh=>by have:=(Array.getElem?_eq_some_iff.1 h2).1;omega)
  have hk2:=λw' (f:Fr (λk=>k=r) _ w')=>hkeep w' (f.mono λk hk=>by subst hk;exact hGr)
  have rv:Rng .i64 (cntX Y (s.b,s.p)+1):=Rng.i64 (by have:=hbd (s.b,s.p);omega) (by have:=hbd (s.b,s.p);omega)
  refine ⟨by rw [add_block];exact hDt 3 _ _ _ rfl,ld4P hXi.four 4 S rfl ⟨hDt 2 _ _ _ rfl,S.lb3 (o:=0) rfl ⟨?_,?_⟩⟩⟩
  ·refine T.incA (k:=(s.b,s.p)) (λx=>x+1) 0 rfl hk2 rv λw7 T f7=>?_
   have S:=back _ _ T
   dsimp only [List.set_cons_zero,List.cons_append,List.nil_append] at S
   refine S.la3 rfl ⟨bnd,q0.add (s.h.l.toNat*15),by rw [hq0];rfl,?_⟩
   rw [hadd]
   refine cellW hXi.four hns 5 S rfl (by rw [g1,hq0]) (j:=s.h.l.toNat+i) (by omega) ⟨true,s⟩ λw8 S f8=>?_
   dsimp only [List.set_cons_succ,List.set_cons_zero] at S
   have S:=S.sel [4,0,1,0,0,0] rfl
   refine S.la3 rfl ?_
   obtain ⟨hm1,hmm,hL⟩:=put_m hXi hns hx s L
   have hbY:Y.map slM=(setX Y s.h.n (s.h.l.toNat+i) ⟨true,s⟩).map slM:=(setX_sl hXi.four hns).symm
   refine Sep.call [_,_,_] (Ts:=[_,_,_]) S (λG SG=>lose22_c (c:=x) (bv4 hXi.four) hm1 (by omega) SG) λG fr rr w9 hr=>?_
   obtain ⟨a9,n9,c9,m9,hr1,hn9,hm9,S9⟩:=hr
   have hm9:m9=cntX (setX Y s.h.n (s.h.l.toNat+i) ⟨true,s⟩):=funext λk=>(hm9 k).trans (hmm k)
   subst hm9
   have S:=fr _ _ S9
   rw [hL] at S
   obtain ⟨rr1,⟨⟩⟩:=rr
   dsimp only at hr1
   subst hr1
   refine ⟨r1,Q (v:=(⟨a9,n9,c9⟩,(i:Int)+1,())) rfl (by dsimp only;omega) ?_⟩
   rw [e]
   show Sep E w0 w9 [_,_,BoxA p _ ((setX Y s.h.n (s.h.l.toNat+i) ⟨true,s⟩).map slM++_),_,_]
   rw [<-hbY]
   exact S.sel [2,3,0,0,1] rfl
  ·refine T.incB (k:=(s.b,s.p)) (λx=>x+1) 0 rfl hk2 rv λw7 T f7=>?_
   have S:=back _ _ T
   dsimp only [List.set_cons_zero,List.cons_append,List.nil_append] at S
   refine S.la3 rfl ⟨bnd,q0.add (s.h.l.toNat*15),by rw [hq0];rfl,?_⟩
   rw [hadd]
   refine cellW hXi.four hns 5 S rfl (by rw [g1,hq0]) (j:=s.h.l.toNat+i) (by omega) ⟨true,s⟩ λw8 S f8=>?_
   dsimp only [List.set_cons_succ,List.set_cons_zero] at S
   have S:=S.sel [4,0,1,0,0,0] rfl
   refine S.la3 rfl ?_
   obtain ⟨hm1,hmm,hL⟩:=put_m hXi hns hx s L
   have hbY:Y.map slM=(setX Y s.h.n (s.h.l.toNat+i) ⟨true,s⟩).map slM:=(setX_sl hXi.four hns).symm
   refine Sep.call [_,_,_] (Ts:=[_,_,_]) S (λG SG=>lose22_c (c:=x) (bv4 hXi.four) hm1 (by omega) SG) λG fr rr w9 hr=>?_
   obtain ⟨a9,n9,c9,m9,hr1,hn9,hm9,S9⟩:=hr
   have hm9:m9=cntX (setX Y s.h.n (s.h.l.toNat+i) ⟨true,s⟩):=funext λk=>(hm9 k).trans (hmm k)
   subst hm9
   have S:=fr _ _ S9
   rw [hL] at S
   obtain ⟨rr1,⟨⟩⟩:=rr
   dsimp only at hr1
   subst hr1
   refine ⟨r1,Q (v:=(⟨a9,n9,c9⟩,(i:Int)+1,())) rfl (by dsimp only;omega) ?_⟩
   rw [e]
   show Sep E w0 w9 [_,_,BoxA p _ ((setX Y s.h.n (s.h.l.toNat+i) ⟨true,s⟩).map slM++_),_,_]
   rw [<-hbY]
   exact S.sel [2,3,0,0,1] rfl
end
end Go.Proofs.YtbaojfchlhlaeaaGreat.Vc
namespace Go.Eng
open Go Go.RowKit
theorem flat_get {α:Type} {enc:α->List Value} {k:Nat} (hk:∀ x,(enc x).length=k):∀ (l:List α) (i j:Nat),j<k->(l.flatMap enc)[i*k+j]? = (l[i]?).bind λx=>(enc x)[j]?
 | [],i,j,h=>by simp
 | x::l,0,j,h=>by
  simp only [List.flatMap_cons,Nat.zero_mul,Nat.zero_add,List.getElem?_cons_zero,Option.bind_some]
  exact List.getElem?_append_left (by rw [hk];exact h)
 | x::l,i+1,j,h=>by
  simp only [List.flatMap_cons,List.getElem?_cons_succ]
  rw [List.getElem?_append_right (by rw [hk,Nat.succ_mul];omega),hk,show (i+1)*k+j-k=i*k+j by rw [Nat.succ_mul];omega]
  exact flat_get hk l i j h
theorem flat_len {α:Type} {enc:α->List Value} {k:Nat} (hk:∀ x,(enc x).length=k) (l:List α):(l.flatMap enc).length=l.length*k:=by
 induction l with
 | nil=>simp
 | cons x l ih=>simp only [List.flatMap_cons,List.length_append,hk,ih,List.length_cons,Nat.succ_mul];omega
theorem flatK_list {α:Type} [Inhabited α] {enc:α->List Value} {k:Nat} (hk:∀ x,(enc x).length=k) (d:Array α):(Go.Sort.flatK enc k d).toList=d.toList.flatMap enc:=by
 have hl:(Go.Sort.flatK enc k d).toList.length=(d.toList.flatMap enc).length:=by simp [flat_len hk]
 refine List.ext_getElem? λt=>?_
 by_cases h:t<d.size*k
 ·have k0:0<k:=by exact Nat.pos_of_ne_zero λe=>by subst e;simp at h
  have h1:t / k<d.size:=(Nat.div_lt_iff_lt_mul k0).2 h
  have h2:t % k<k:=Nat.mod_lt _ k0
  have e:=Go.Sort.get_flatK enc k d t h
  have e1:=flat_get hk d.toList (t / k) (t % k) h2
  rw [show t / k*k+t % k=t by rw [Nat.mul_comm];exact Nat.div_add_mod t k] at e1
  rw [e1]
  have e2:d.toList[t / k]? = some d[t / k]!:=by simp [h1]
  rw [e2,Option.bind_some]
  have e3:t % k<(enc d[t / k]!).length:=by rw [hk];exact h2
  rw [List.getElem?_eq_getElem e3]
  have h3:t<(Go.Sort.flatK enc k d).size:=by simpa using h
  rw [Array.getElem?_toList,Array.getElem?_eq_getElem h3]
  rw [getElem!_pos _ t h3,getElem!_pos _ (t % k) e3] at e
  rw [e]
 ·rw [List.getElem?_eq_none (by rw [hl,flat_len hk];simpa using h),List.getElem?_eq_none (by rw [flat_len hk];simpa using h)]
theorem sortedIn_pw {α:Type} [Inhabited α] {lt:α->α->Bool} {d:Array α} (h:Go.Sort.SortedIn lt 0 d.size d):d.toList.Pairwise λx y=>lt y x=false:=by
 rw [List.pairwise_iff_getElem]
 intro i j hi hj hij
 have hj':j<d.size:=by simpa using hj
 have hi':i<d.size:=by omega
 have:=h i j (Nat.zero_le _) hij hj'
 rw [getElem!_pos d i hi',getElem!_pos d j hj'] at this
 simpa using this
section
variable {α:Type} [Inhabited α] {enc:α->List Value} {k:Nat} {w:World} {b:Nat} {e:TypeId} {n c:Nat}
theorem Own.holdsK (hk:∀ x,(enc x).length=k) {d:Array α} (h:Own w 0 e k (some ⟨b,0,none⟩) n c (d.toList.flatMap enc)):Go.Sort.HoldsK enc k w b 0 d:=by
 intro j hj
 rcases h.at_ with ⟨h1,_,_⟩ | ⟨b',cs,h1,_,h2,h3,h4⟩
 ·cases h1
 cases h1
 rw [Go.Sort.size_flatK] at hj
 have hl:j<(d.toList.flatMap enc).length:=by rw [flat_len hk];simpa using hj
 have e1:cs.toList[j]? = (Go.Sort.flatK enc k d).toList[j]?:=by
  rw [flatK_list hk,<- h4,List.getElem?_take,if_pos (by rw [flat_len hk] at hl⊢;exact hl)]
 have hj':j<(Go.Sort.flatK enc k d).size:=by simpa using hj
 rw [Array.getElem?_toList,Array.getElem?_toList,Array.getElem?_eq_getElem hj'] at e1
 refine ⟨?_,?_⟩
 ·simp only [World.cell?,h2,Nat.zero_add,id]
  rw [getElem!_pos _ j hj']
  simpa using e1
 ·simp [World.frozen?,h2]
theorem sortWorldK_own (hk:∀ x,(enc x).length=k) (h1:∀ x,∀ v∈enc x,v.oneCell'=true) {L:List α} (h:Own w 0 e k (some ⟨b,0,none⟩) n c (L.flatMap enc)) {d:Array α} (hd:d.size=L.length) (m:Nat) (os:Array Obj) :
  Own (Go.Proofs.sortWorldK enc k w b 0 m d os) 0 e k (some ⟨b,0,none⟩) n c (d.toList.flatMap enc)/\Fr (λx=>x=b) w (Go.Proofs.sortWorldK enc k w b 0 m d os):=by
 have hlen:(d.toList.flatMap enc).length=(L.flatMap enc).length:=by rw [flat_len hk,flat_len hk];simp [hd]
 rcases h.at_ with ⟨e1,_,_⟩ | ⟨b',cs,e1,e0,e2,e3,e4⟩
 ·cases e1
 cases e1
 have hb:b<w.heap.size:=(Array.getElem?_eq_some_iff.1 e2).1
 have hh:∀ x,x<w.heap.size->(Go.Proofs.sortWorldK enc k w b 0 m d os).heap[x]? = if x=b then some (Obj.cells (Go.Sort.putCells id 0 (Go.Sort.flatK enc k d) cs) e (0,0)) else w.heap[x]?:=by
  intro x hx
  unfold Go.Proofs.sortWorldK
  rw [Go.Sort.heap_grow_old _ _ (by unfold Go.Sort.putRowK;rw [Go.Sort.size_putRow];exact hx)]
  show (w.heap.modify b _)[x]? = _
  rw [Array.getElem?_modify]
  by_cases hx':x=b
  ·subst hx';simp [e2,Go.Sort.onCells]
  ·rw [if_neg hx',if_neg (λh=>hx' h.symm)]
 refine ⟨⟨hlen.trans h.len,h.cap,h.lim,?_,.inr ⟨b,_,rfl,e0,by rw [hh b hb,if_pos rfl],by simp [Go.Sort.putCells,e3],?_⟩⟩,⟨rfl,rfl,rfl,?_,λx hx hn=>?_⟩⟩
 ·intro v hv
  obtain ⟨x,_,hx⟩:=List.mem_flatMap.1 hv
  exact h1 x v hx
 ·refine List.ext_getElem? λt=>?_
  rw [List.getElem?_take]
  by_cases ht:t<(d.toList.flatMap enc).length
  ·rw [if_pos ht,<- flatK_list hk]
   have ht':t<(Go.Sort.flatK enc k d).size:=by rw [flat_len hk] at ht;simpa using ht
   have htc:t<cs.size:=by
    have:=congrArg List.length e4
    rw [List.length_take,<- hlen] at this
    exact Nat.lt_of_lt_of_le ht (by have h5:=Nat.min_le_right (d.toList.flatMap enc).length cs.toList.length;have h6:cs.toList.length=cs.size:=rfl;rw [this] at h5;exact h5)
   simp only [Go.Sort.putCells,Array.getElem?_toList,Array.getElem?_mapIdx,Array.getElem?_eq_getElem htc,Option.map_some]
   rw [if_pos ⟨Nat.zero_le _,by omega⟩,Array.getElem?_eq_getElem ht']
   simp only [Nat.sub_zero,id]
   rw [getElem!_pos _ t ht']
  ·rw [if_neg ht,List.getElem?_eq_none (Nat.le_of_not_lt ht)]
 ·unfold Go.Proofs.sortWorldK Go.Sort.putRowK
  rw [Go.Sort.size_grow,Go.Sort.size_putRow]
  exact Nat.le_add_right _ _
 ·rw [hh x hx,if_neg hn]
theorem Sep.sorted {E:Nat->Prop} {w0:World} {Rs:List Asr} (hk:∀ x,(enc x).length=k) (h1:∀ x,∀ v∈enc x,v.oneCell'=true) {L:List α} (S:Sep E w0 w (OwnA e k (some ⟨b,0,none⟩) n c (L.flatMap enc)::Rs)) {d:Array α} (hd:d.size=L.length) (m:Nat) (os:Array Obj) :
  Sep E w0 (Go.Proofs.sortWorldK enc k w b 0 m d os) (OwnA e k (some ⟨b,0,none⟩) n c (d.toList.flatMap enc)::Rs):=by
 obtain ⟨F,⟨ho,hF⟩,h3,h4⟩:=S.step (i:=0) rfl
 obtain ⟨o',fr⟩:=sortWorldK_own hk h1 ho hd m os
 exact h4 _ F (OwnA e k (some ⟨b,0,none⟩) n c (d.toList.flatMap enc)) ⟨o',hF⟩ (fr.mono λx hx=>by subst hx;exact hF ⟨x,0,none⟩ rfl) λx hx=>⟨.inl hx,Nat.lt_of_lt_of_le (h3 x hx) fr.size⟩
end
end Go.Eng
namespace Go.Proofs
open Go.Shelf Go.RowKit Go.Lib Go.Sort
def Tryz.plC (x y:Int×Int):Int:=if (x.1 != y.1)=true then wrap64 (x.1-y.1) else wrap64 (x.2-y.2)
set_option maxHeartbeats 1000000 in
theorem Tryz.less_walk (x y:Int×Int) (W:World):Calls Tryz.prog 128 #[.agg #[.int .i64 x.1,.int .i64 x.2],.agg #[.int .i64 y.1,.int .i64 y.2]] W λe w'=>e=.returned (.int .i64 (Tryz.plC x y))/\∃ q os',w'=grow (W.drewN q) os':=by
 go_enter Tryz.func128,Tryz.ntmps128
 go_wp2
 all_goals rename_i h
 all_goals go_ret
 all_goals exact ⟨by unfold Tryz.plC;rw [h];rfl,0,_,by rw [alloc_eq_grow,alloc_eq_grow,grow_grow];rfl⟩
end Go.Proofs
namespace Go.Proofs.YtbaojfchlhlaeaaGreat.Vc
open Go Go.Eng Go.RowKit Go.Shelf Go.Proofs
theorem plV_one1 (x:Int×Int):∀ v∈plV x,v.oneCell'=true:=λv hv=>by simp at hv;rcases hv with rfl | rfl <;> rfl
theorem less_enters:∀ args w,(callFunc 128 args).run Tryz.prog w=.ok (.enter 128 args) w:=enters_of Tryz.func128 (by kernel_rfl) rfl
def Bd (k:Int×Int):Prop:=-1000<k.1/\k.1<1000/\-1000<k.2/\k.2<1000
def plL (x y:Int×Int):Prop:=x.1<y.1\/x.1=y.1/\x.2<y.2
abbrev BdT:={k:Int×Int // Bd k}
instance:Inhabited BdT:=⟨⟨(0,0),by unfold Bd;decide⟩⟩
theorem wrap64_in {z:Int} (h:-10000<z/\z<10000):wrap64 z=z:=by
 unfold wrap64;omega
theorem plC_lt0 (x y:Int×Int) (hx:Bd x) (hy:Bd y):Tryz.plC x y<0↔plL x y:=by
 unfold Bd at hx hy
 unfold Tryz.plC plL
 rw [wrap64_in (by omega),wrap64_in (by omega)]
 by_cases h:x.1=y.1
 ·rw [if_neg (by simp [h])];omega
 ·rw [if_pos (by simpa using h)];omega
def cfB (x y:BdT):Int:=Tryz.plC x.1 y.1
def encB (x:BdT):List Value:=plV x.1
theorem encB_len (x:BdT):(encB x).length=2:=rfl
theorem encB_one (x:BdT):∀ v∈encB x,v.oneCell'=true:=λv hv=>plV_one1 x.1 v hv
theorem plC_lt (x y:BdT):ltOf cfB x y=true↔plL x.1 y.1:=by
 unfold ltOf
 rw [decide_eq_true_iff]
 exact plC_lt0 x.1 y.1 x.2 y.2
theorem plC_swo:Go.Sort.SWO (ltOf cfB) where
 irrefl x:=Bool.eq_false_iff.2 λh=>by have:=(plC_lt x x).1 h;unfold plL at this;omega
 trans x y z h1 h2:=by rw [plC_lt] at *;unfold plL at *;omega
 ntrans x y z h1 h2:=by
  rw [Bool.eq_false_iff,Ne,plC_lt] at *;unfold plL at *;omega
theorem sortAll_c {E:Nat->Prop} {w0 w:World} {Rs:List Asr} {b n c:Nat} {L:List (Int×Int)} (hB:∀ k∈L,Bd k) (hn:n<=1000000) (S:Sep E w0 w (outA (some ⟨b,0,none⟩) n c L::Rs)) :
  CallV Tryz.prog 197 #[.slice (some ⟨b,0,none⟩) n c,.func (.func 128) #[] #[]] w [] λ_ w'=>∃ L',(L'.Perm L/\L'.Pairwise λx y=>¬ plL y x)/\Sep E w0 w' (outA (some ⟨b,0,none⟩) n c L'::Rs):=by
 obtain ⟨M,rfl⟩:∃ M:List BdT,L=M.map (·.1):=⟨L.pmap Subtype.mk hB,by rw [List.map_pmap];simp⟩
 have e:∀ M:List BdT,(M.map (·.1)).flatMap plV=M.flatMap encB:=λM=>by rw [List.flatMap_map];rfl
 have o:=S.own 0 rfl
 have hL:M.length=n:=by have:=o.len;rw [flat_len plV_len] at this;simp at this;omega
 unfold outA at S
 rw [e] at S o
 have h:=AnyQ.slices_SortFunc Tryz.srtP 2 Tryz.isAgg81 Tryz.sizeOf81 encB encB_len encB_one cfB plC_swo 128 #[] b 0 c M.toArray w less_enters (λ_ _ _ _ x y=>Tryz.less_walk x.1 y.1 _) (Own.holdsK encB_len (d:=M.toArray) o) (o.lt _ rfl) (by simp [hL];omega)
 rw [show M.toArray.size=n by simpa using hL] at h
 refine h.mono λe' w' ⟨he,d',m,os,hp,hs,hw⟩=>⟨(),he,?_⟩
 subst hw
 have hsz:d'.size=M.length:=by simpa using hp.1
 refine ⟨d'.toList.map (·.1),⟨?_,?_⟩,?_⟩
 ·have:=hp.2.2
  rw [show n=d'.size by omega,Array.extract_size,show d'.size=M.toArray.size by simpa using hsz,Array.extract_size] at this
  exact this.map _
 ·rw [List.pairwise_map]
  have:=sortedIn_pw (d:=d') (by rw [hsz,hL];exact hs)
  exact this.imp λ{x y} h=>λk=>by rw [(plC_lt y x).2 k] at h;cases h
 ·unfold outA
  rw [e]
  exact S.sorted encB_len encB_one hsz m os
section
variable {T:List (Int×Int)->List (Int×Int)->Prop} {L:List (Int×Int)}
theorem Told.all (hB:∀ k∈L,Bd k) (hl:L.length<=1000000):Told (λL L'=>L'.Perm L/\L'.Pairwise λx y=>¬ plL y x) L:=λ{E w0 w Rs a n c} S=>by
 have o:=S.own 0 rfl
 have hn:L.length=n:=by have:=o.len;rw [flat_len plV_len] at this;omega
 rcases o.at_ with ⟨h1,h2,h3⟩ | ⟨b,cs,h1,-⟩
 ·have h0:L=[]:=by cases L with | nil=>rfl | cons x l=>cases h3
  subst h0
  exact (Told.nil (T:=λL L'=>L'.Perm L/\L'.Pairwise λx y=>¬ plL y x) ⟨.refl _,.nil⟩) S
 ·subst h1
  apply pagemap_told.vc
  unfold pagemap_told.P
  refine (sortAll_c hB (by omega) S).mono ?_
  rintro ⟨⟩ w1 ⟨L',h,S⟩
  exact ⟨L',h,rfl,S⟩
end
end Go.Proofs.YtbaojfchlhlaeaaGreat.Vc
