/- Texts in one: The contracts of layer 21 (ledger): the blocks' changes. The contracts of layer 21 (ledger): its changes. The contracts of layer 21 (ledger): a step, and new ones. Plain laws of layer 21 (ledger): the least one, found upwards and downwards. The contracts of layer 21 (ledger): new ones, and what a ledger tells. An array, and a ledger, as parts of which only the data is told. Plain data of layer 24 (pool): what each of its operations makes. The order of the parts. The contracts of pool (layer 24): destroy, program, seal, begin. Plain data of layer 25 (stream): what each of its operations makes of an array, a ledger, orders, and a map. Plain laws of layer 25 (stream): what is kept of the ledger and the map, whatever fails. Plain laws of layer 25 (stream): what is kept by each operation, whatever fails. The contracts of layer 25 (stream): its parts, and what does little. The contracts of layer 25 (stream): moved, spoilt, emptied, room made, a front that failed. Plain laws of layer 25 (stream): a new stream; a namespace forgotten: what is kept. The contracts of layer 22 (pagemap): does the program answer. The contracts of layer 25 (stream): a new stream, a namespace more, a namespace forgotten. The contracts of layer 23 (scan): slots, a block's pages, what is known of a block, spots that are put. The contracts of layer 23 (scan): spots that are put, maps of slots, the greatest erase count. The contracts of layer 23 (scan): maps of slots. The contracts of layer 23 (scan): what an array tells. The contracts of layer 13: one step, done by both: the walk. The contracts of layer 13: does the program answer; the trace. What any parameter of a law is known to be, with the sizes of what it holds: structs, arrays and slices of whole numbers, texts, and of each other. The contracts of the laws of layer 25: payloads, a new stream on an array, a step put. The plans of functions as plain statements, printed by wip/tools/vcgen.py; the kernel holds each to the code. The contracts of layer 23: does the program answer at all? The contracts of the laws of layer 23: payloads, and may a case be played? The contracts of the laws of layer 23: a page, programmed on both arrays. The contracts of the laws of layer 23: an array of pages, both. The plans of functions as plain statements, printed by wip/tools/vcgen.py; the kernel holds each to the code. The contracts of the document's layer 23 (scan): slots, a block's pages. The plans of functions as plain statements, printed by wip/tools/vcgen.py; the kernel holds each to the code. Spots are the same where all that they tell is. -/
import Derived.Test.YtcekmdehjnlkpaaGreatZScanBlockse
set_option linter.unusedVariables false
set_option linter.unusedSimpArgs false
namespace Go.Proofs.YtcekmdehjnlkpaaGreat.Vc
open Go Go.Eng Go.RowKit
structure Blk where
 ow:Int
 us:Int
 li:Int
 er:Int
 he:Bool
 cl:Bool
 ba:Bool
 go:Bool
 le:Bool
def Blk.z:Blk:=⟨0,0,0,0,false,false,false,false,false⟩
def Blk.new:Blk:=⟨-1,0,0,0,false,false,false,false,false⟩
instance:Inhabited Blk:=⟨.z⟩
abbrev Blk.vs (x:Blk):List Value:=[.int .i64 x.ow,.int .i64 x.us,.int .i64 x.li,.int .i64 x.er,.bool x.he,.bool x.cl,.bool x.ba,.bool x.go,.bool x.le]
abbrev Blk.tup (x:Blk):Int×Int×Int×Int×Bool×Bool×Bool×Bool×Bool×Unit:=(x.ow,x.us,x.li,x.er,x.he,x.cl,x.ba,x.go,x.le,())
abbrev Blk.val (x:Blk):Value:=.agg #[.int .i64 x.ow,.int .i64 x.us,.int .i64 x.li,.int .i64 x.er,.bool x.he,.bool x.cl,.bool x.ba,.bool x.go,.bool x.le]
abbrev bvs (L:List Blk):List Value:=L.flatMap Blk.vs
theorem bvs_len (L:List Blk):(bvs L).length=L.length*9:=flat_len (f:=Blk.vs) (m:=9) (λ_=>rfl) L
theorem bvs_one (L:List Blk):oneAll (bvs L):=by
 intro u hu
 obtain ⟨x,-,hx⟩:=List.mem_flatMap.1 hu
 simp only [List.mem_cons,List.not_mem_nil,or_false] at hx
 rcases hx with rfl | rfl | rfl | rfl | rfl | rfl | rfl | rfl | rfl <;> rfl
def hB (n:Int) (x:Blk):Blk:=⟨n,0,0,x.er,true,false,x.ba,x.go,x.le⟩
def rB (x:Blk):Blk:=⟨x.ow,x.us,0,x.er,false,x.cl,x.ba,x.go,x.le⟩
def eB (x:Blk):Blk:=⟨-2,0,0,x.er+1,false,true,x.ba,false,false⟩
def fB (x:Blk):Blk:=⟨x.ow,x.us,x.li,x.er,x.he,x.cl,true,x.go,x.le⟩
def sB (n:Bool) (x:Blk):Blk:=⟨x.ow,x.us,x.li,x.er,false,false,true,n,!n⟩
abbrev LedP (p:Nat) (a:Option Addr) (n c:Nat) (L:List Blk):List Asr:=[BoxA p 144 [.slice a n c],OwnA 98 9 a n c (bvs L)]
theorem Len_c {E:Nat->Prop} {w0 w:World} {Rs:List Asr} {p:Nat} {e:TypeId} {a:Option Addr} {n c:Nat} (S:Sep E w0 w (BoxA p e [.slice a n c]::Rs)) :
  CallV Tryz.prog 22 #[.pointer (some ⟨p,0,none⟩)] w [.one (.int .i64)] λr w'=>r.1=(n:Int)/\w'=w:=by
 apply ledger_Ledger_Len.vc
 unfold ledger_Ledger_Len.P
 exact S.ld0 rfl rfl ⟨rfl,rfl⟩
theorem has_c {E:Nat->Prop} {w0 w:World} {Rs:List Asr} {p:Nat} {e:TypeId} {a:Option Addr} {n c:Nat} {b:Int} (S:Sep E w0 w (BoxA p e [.slice a n c]::Rs)) :
  CallV Tryz.prog 56 #[.pointer (some ⟨p,0,none⟩),.int .i64 b] w [.one .bool] λr w'=>r.1=decide (0<=b/\b<(n:Int))/\w'=w:=by
 apply ledger_Ledger_has.vc
 unfold ledger_Ledger_has.P
 refine cond_d (λh=>?_) (λh=>⟨(decide_eq_false (by omega)).symm,rfl⟩)
 refine (Len_c S).mono ?_
 rintro ⟨(r:Int),⟨⟩⟩ w1 ⟨h1,rfl⟩
 dsimp only at h1 ⊢
 subst h1
 exact ⟨decide_eq_decide.2 (by omega),rfl⟩
theorem change_c {F:Nat->Prop} {w:World} {p:Nat} {a:Option Addr} {n c:Nat} {L:List Blk} {b:Int} {f:FuncId} {cap:Array Value} {C:Asr} {C':Asr} {φ:Blk->Blk} (hf:okf f=true)
  (h:∀ (F:Nat->Prop) (w1:World) (blk o:Nat) (e:TypeId) (pre post:List Value) (x:Blk),x∈L->o=pre.length->Sep F w1 w1 [BoxA blk e (pre++(x.vs++post)),C] ->
   CallV Tryz.prog f ([]++((([.pointer (some ⟨blk,o,none⟩)]:List Value))++cap.toList)).toArray w1 [] λ_ w2=>Sep F w1 w2 [BoxA blk e (pre++((φ x).vs++post)),C'])
  (S:Sep F w w (LedP p a n c L++[C])) :
  CallV Tryz.prog 77 #[.pointer (some ⟨p,0,none⟩),.int .i64 b,.func (.func f) #[] cap] w [.one (.int .i64)] λr w'=>
   (¬ (0<=b/\b<(n:Int))->r.1=(2:Int)/\w'=w)/\(0<=b/\b<(n:Int)->r.1=(0:Int)/\Sep F w w' (LedP p a n c (L.set b.toNat (φ (L.getD b.toNat default)))++[C'])):=by
 apply ledger_Ledger_change.vc
 unfold ledger_Ledger_change.P
 refine (has_c (b:=b) S).mono ?_
 rintro ⟨(r:Bool),⟨⟩⟩ w1 ⟨h1,rfl⟩
 dsimp only at h1 ⊢
 subst h1
 refine cond_of (λhh=>?_) (λhh=>?_)
 ·have hh:¬ (0<=b/\b<(n:Int)):=λk=>by rw [decide_eq_true k] at hh;cases hh
  exact ⟨λ_=>⟨rfl,rfl⟩,λk=>absurd k hh⟩
 have hh:0<=b/\b<(n:Int):=by
  by_cases k:0<=b/\b<(n:Int)
  ·exact k
  ·rw [decide_eq_false k] at hh;cases hh
 refine S.ld0 rfl rfl ⟨hh,?_⟩
 have lL:L.length=n:=by have:=(S.own 1 rfl).len;rw [bvs_len] at this;omega
 have hi:b.toNat<L.length:=by omega
 have hy:L[b.toNat]? = some (L.getD b.toNat default):=by rw [List.getD_eq_getElem?_getD,List.getElem?_eq_getElem hi];rfl
 generalize L.getD b.toNat default=x at hy ⊢
 obtain ⟨(m1:bvs L=_),(m2:bvs (L.set b.toNat (φ x))=_)⟩:=flat_mid (f:=Blk.vs) (z:=φ x) hy
 have S1:=S.sel [1,0,0] rfl
 obtain ⟨blk,tl,ha,q1,q2,q3,q4,q5,S1⟩:=S1.focus (by intro e;have:=bvs_len L;rw [e] at this;simp at this;omega)
 subst ha
 refine ⟨_,rfl,cond_t hf ?_⟩
 have hadd:(⟨blk,0,none⟩:Addr).add (b.toNat*9)=⟨blk,b.toNat*9,none⟩:=by simp [Addr.add_lit]
 rw [hadd]
 rw [m1,List.append_assoc,List.append_assoc] at S1
 have hpre:b.toNat*9=((L.take b.toNat).flatMap Blk.vs).length:=by rw [flat_len (f:=Blk.vs) (m:=9) (λ_=>rfl),List.length_take,Nat.min_eq_left (by omega)]
 dsimp only at S1
 have S2:=S1.sel [0,1,0] rfl
 refine Sep.call [BoxA blk 98 _,C] S2 (λF S=>h F _ blk _ _ _ _ x (List.mem_of_getElem? hy) hpre S) ?_
 intro F2 back r w2 S3
 refine ⟨λk=>absurd hh k,λ_=>⟨rfl,?_⟩⟩
 have S4:=back _ _ S3
 rw [<-List.append_assoc,<- List.append_assoc,List.append_assoc (List.flatMap _ _),<- m2] at S4
 have hl2:(bvs (L.set b.toNat (φ x))).length=n*9:=by rw [bvs_len,List.length_set,lL]
 have S5:=Sep.unfocus (n:=n) (c:=c) (sz:=9) S4 hl2 (by rw [List.length_append,hl2,<- q2,List.length_append,q1]) q3 q4 (bvs_one _)
 exact S5.sel [2,0,0] rfl
def inB (b:Int) (n:Nat):Prop:=0<=b/\b<(n:Int)
instance (b:Int) (n:Nat):Decidable (inB b n):=by unfold inB;infer_instance
def chL (b:Int) (n:Nat) (φ:Blk->Blk) (L:List Blk):List Blk:=if inB b n then L.set b.toNat (φ (L.getD b.toNat default)) else L
def chE (b:Int) (n:Nat):Int:=if inB b n then 0 else 2
theorem change_d {F:Nat->Prop} {w:World} {p:Nat} {a:Option Addr} {n c:Nat} {L:List Blk} {b:Int} {f:FuncId} {cap:Array Value} {C:Asr} {C':Asr} {φ:Blk->Blk} (hf:okf f=true)
  (h:∀ (F:Nat->Prop) (w1:World) (blk o:Nat) (e:TypeId) (pre post:List Value) (x:Blk),x∈L->o=pre.length->Sep F w1 w1 [BoxA blk e (pre++(x.vs++post)),C] ->
   CallV Tryz.prog f ([]++((([.pointer (some ⟨blk,o,none⟩)]:List Value))++cap.toList)).toArray w1 [] λ_ w2=>Sep F w1 w2 [BoxA blk e (pre++((φ x).vs++post)),C'])
  (S:Sep F w w (LedP p a n c L++[C])) :
  CallV Tryz.prog 77 #[.pointer (some ⟨p,0,none⟩),.int .i64 b,.func (.func f) #[] cap] w [.one (.int .i64)] λr w'=>
   r.1=chE b n/\Sep F w w' (LedP p a n c (chL b n φ L)):=by
 refine (change_c (b:=b) hf h S).mono ?_
 rintro ⟨(r:Int),⟨⟩⟩ w1 ⟨h1,h2⟩
 dsimp only at h1 h2 ⊢
 unfold chE chL
 by_cases hb:inB b n
 ·rw [if_pos hb,if_pos hb]
  exact ⟨(h2 hb).1,(h2 hb).2.sel [0,0] rfl⟩
 ·rw [if_neg hb,if_neg hb]
  obtain ⟨k1,rfl⟩:=h1 hb
  exact ⟨k1,S.sel [0,0] rfl⟩
theorem vs_one:∀ x:Blk,oneAll x.vs:=λx u hu=>by
 simp only [List.mem_cons,List.not_mem_nil,or_false] at hu
 rcases hu with rfl | rfl | rfl | rfl | rfl | rfl | rfl | rfl | rfl <;> rfl
theorem getD_of {L:List Blk} {i:Nat} {x:Blk} (h:L[i]? = some x):L.getD i default=x:=by rw [List.getD_eq_getElem?_getD,h];rfl
abbrev gx (L:List Blk) (i:Nat):Blk:=L.getD i default
theorem bvs_rep (i:Nat):bvs (List.replicate (i+1) Blk.new)=bvs (List.replicate i Blk.new)++Blk.new.vs:=by
 rw [List.replicate_succ',bvs,List.flatMap_append]
 simp
theorem New21_c {w:World} {n:Int} (h:0<=n/\n<=64):CallV Tryz.prog 34 #[.int .i64 n] w [.one .ptr,.one (.int .i64)] λr w'=>
  r.2.1=(0:Int)/\∃ p a c,r.1=some (⟨p,0,none⟩:Addr)/\Sep NoB w w' (LedP p a n.toNat c (List.replicate n.toNat Blk.new)):=by
 apply ledger_New.vc
 unfold ledger_New.P
 refine cond_d (λk=>absurd k (by omega)) λ_=>cond_d (λk=>absurd k (by omega)) λ_=>?_
 have S:=Sep.start NoB w
 refine S.newB λb1 w1 S f1 _=>?_
 have S:=(S.nilOwn 98 9).sel [1,0] rfl
 refine Loop1 (λ(v:Int×Unit) w'=>∃ (i:Nat) (a:Option Addr) (c:Nat),v.1=(i:Int)/\(i:Int)<=n/\Sep NoB w w' (LedP b1 a i c (List.replicate i Blk.new))) (λ(v:Int×Unit) _=>(n-v.1).toNat) ⟨0,none,0,rfl,by omega,S⟩ ?_
 rintro ⟨(z:Int),⟨⟩⟩ w4 ⟨i,a,c,hz,hi,S⟩
 dsimp only at hz ⊢
 subst hz
 refine cond_d (λhlt=>?_) (λhge=>?_)
 ·refine S.ld0 rfl rfl ?_
  refine S.newB λb7 w8 S f8 _=>?_
  dsimp only
  refine AppS.of (news:=Blk.new.vs) rfl (.inr ⟨_,rfl,S.cells 0 rfl⟩) ?_
  refine S.ap2 (by rfl) (vs_one _) (by omega) (by omega) λa9 c11 w12 S f12=>?_
  refine S.st1 (by rfl) λw14 S f14=>?_
  refine ⟨Rng.i64 (by omega) (by omega),⟨i+1,a9,c11,by push_cast;rfl,by omega,?_⟩,by omega⟩
  show Sep NoB w w14 [_,OwnA _ 9 a9 (i+1) c11 (bvs (List.replicate (i+1) Blk.new))]
  rw [bvs_rep]
  exact S.tail
 ·have:n.toNat=i:=by omega
  rw [this]
  exact ⟨rfl,b1,a,c,rfl,S⟩
section
variable {E:Nat->Prop} {w0 w:World} {Rs:List Asr} {p:Nat} {e e2:TypeId} {a:Option Addr} {n c:Nat} {L:List Blk}
theorem nthB {i:Int} (k:Nat) (S:Sep E w0 w Rs) (hk:Rs[k]? = some (OwnA e2 9 a n c (bvs L))) (h0:0<=i) (h1:i<(n:Int)) :
  ∃ q,a=some q/\CellsAt w (q.add (i.toNat*9)) (gx L i.toNat).vs/\q.block<w.heap.size:=by
 obtain ⟨q,x,hq,hx,hc⟩:=S.nthF (f:=Blk.vs) (m:=9) k hk (λ_=>rfl) (by decide) h0 h1
 refine ⟨q,hq,?_,?_⟩
 ·rw [show gx L i.toNat=x from getD_of hx];exact hc
 ·have:=cells_lt hc;rwa [add_block] at this
end
section
variable {E:Nat->Prop} {w0 w:World} {Rs:List Asr} {p:Nat} {e e2:TypeId} {a:Option Addr} {n c:Nat} {L:List Blk}
theorem At21_c {b:Int} (S:Sep E w0 w (BoxA p e [.slice a n c]::OwnA e2 9 a n c (bvs L)::Rs)) (hb:0<=b/\b<(n:Int)) :
  CallV Tryz.prog 23 #[.pointer (some ⟨p,0,none⟩),.int .i64 b] w [.agg [.int .i64,.int .i64,.int .i64,.int .i64,.bool,.bool,.bool,.bool,.bool]] λr w'=>r.1=(gx L b.toNat).tup/\Ext w w':=by
 apply ledger_Ledger_At.vc
 unfold ledger_Ledger_At.P
 have T:=Sep.start NoB w
 refine T.newB λb1 w1 T f1 _=>?_
 have S:=S.stepE T.ext
 refine (has_c (b:=b) S).mono ?_
 rintro ⟨(r:Bool),⟨⟩⟩ w2 ⟨h2,rfl⟩
 dsimp only at h2 ⊢
 subst h2
 refine cond_f (by rw [decide_eq_true hb];rfl) ?_
 obtain ⟨q,hq,hc,-⟩:=nthB (i:=b) 1 S rfl hb.1 hb.2
 refine S.ld0 rfl rfl ⟨hb,q,hq,(gx L b.toNat).tup,hc,?_⟩
 refine T.st0 (by rfl) λw3 T f3=>T.la0 rfl ⟨rfl,T.ext⟩
end
abbrev TDat:Type:=Int×Int×Int×List Int×Int
def lenD (l:List TDat):Prop:=∀ o∈l,o.2.2.2.1.length<=100000
def trD (l:List TDat):List (Int×Int):=l.map λo=>(o.1,o.2.2.2.2)
theorem lenD.app {l t:List TDat} (h:lenD l) (k:lenD t):lenD (l++t):=λo ho=>(List.mem_append.1 ho).elim (h o) (k o)
theorem lenD.if1 {c:Prop} [Decidable c] {x:TDat} (h:x.2.2.2.1.length<=100000):lenD (if c then [x] else []):=λo ho=>by
 split at ho
 ·rw [List.mem_singleton.1 ho];exact h
 ·exact (List.not_mem_nil ho).elim
theorem trD.if1 {c:Prop} [Decidable c] (l:List TDat) (x:TDat):trD (l++if c then [x] else [])=if c then trD l++[(x.1,x.2.2.2.2)] else trD l:=by
 split
 ·unfold trD;rw [List.map_append];rfl
 ·rw [List.append_nil]
structure ChT (y:Lay) (L:List TOp) (C:CD):Prop where
 pl:fds y.F=C.pl
 tr:trD (L.map TOp.dat)=C.tr
 le:lenD (L.map TOp.dat)
def chipE (p:Nat) (C:CD):Asr:=⟨λw F=>∃ (y:Lay) (L:List TOp),ChT y L C/\StarP w (ChipP p y C L) F,λh k=>by obtain ⟨y,L,h1,h2⟩:=h;exact ⟨y,L,h1,h2.st k⟩⟩
def ledE (q:Nat) (L:List Blk):Asr:=⟨λw F=>∃ (a:Option Addr) (c:Nat),StarP w (LedP q a L.length c L) F,λh k=>by obtain ⟨a,c,h1⟩:=h;exact ⟨a,c,h1.st k⟩⟩
theorem progC_k (C:CD) (bl pa:Int) (b:List Int):(progC C bl pa b).1.g=C.g/\(progC C bl pa b).1.pl=C.pl:=by unfold progC progX;split <;> exact ⟨rfl,rfl⟩
theorem progC_tr (C:CD) (bl pa:Int) (b:List Int):(progC C bl pa b).1.tr=if refC C bl pa b.length=0 then C.tr++[(1,(codeC C).1)] else C.tr:=by unfold progC progX;split <;> rfl
theorem progC_ok {C:CD} (hC:COk C) (bl pa:Int) {b:List Int} (bb:Byt b) (ho:C.ops<1000000000000):COk (progC C bl pa b).1/\(progC C bl pa b).1.ops<=C.ops+1/\C.ops<=(progC C bl pa b).1.ops:=by
 unfold progC
 split
 ·rename_i h;exact ⟨progX_ok hC h bb ho,Nat.le_refl _,Nat.le_succ _⟩
 ·exact ⟨hC,Nat.le_succ _,Nat.le_refl _⟩
section
variable {E:Nat->Prop} {w0 w:World} {Rs:List Asr} {p q:Nat} {C:CD} {L:List Blk}
theorem chipE_in {y:Lay} {T:List TOp} (hF:ChT y T C) (S:Sep E w0 w (ChipP p y C T++Rs)):Sep E w0 w (chipE p C::Rs):=
 (S.fold (Rs:=ChipP p y C T)).conv λF h _=>⟨y,T,hF,h⟩
theorem chipE_out (S:Sep E w0 w (chipE p C::Rs)):∃ (y:Lay) (T:List TOp),ChT y T C/\Sep E w0 w (ChipP p y C T++Rs):=by
 obtain ⟨F,⟨F1,F2,⟨y,T,h1,h2⟩,h3⟩,hb⟩:=S.ex
 have S2:Sep E w0 w (StarA (ChipP p y C T)::Rs):=⟨S.fr,F,⟨F1,F2,h2,h3⟩,hb⟩
 exact ⟨y,T,h1,S2.unfold (Rs:=ChipP p y C T)⟩
theorem ledE_in {a:Option Addr} {n c:Nat} (S:Sep E w0 w (LedP q a n c L++Rs)):Sep E w0 w (ledE q L::Rs):=by
 have hl:(bvs L).length=n*9:=(S.own 1 rfl).len
 have hn:n=L.length:=by rw [bvs_len] at hl;omega
 subst hn
 exact (S.fold (Rs:=LedP q a L.length c L)).conv λF h _=>⟨a,c,h⟩
theorem ledE_out (S:Sep E w0 w (ledE q L::Rs)):∃ (a:Option Addr) (c:Nat),Sep E w0 w (LedP q a L.length c L++Rs):=by
 obtain ⟨F,⟨F1,F2,⟨a,c,h2⟩,h3⟩,hb⟩:=S.ex
 have S2:Sep E w0 w (StarA (LedP q a L.length c L)::Rs):=⟨S.fr,F,⟨F1,F2,h2,h3⟩,hb⟩
 exact ⟨a,c,S2.unfold (Rs:=LedP q a L.length c L)⟩
theorem Program_eL {bl pa:Int} {dd:SlP Int} {D:List (SlP Int)} (hC:COk C) (hdn:dd.n<=100000) (hD:dd∈D) (S:Sep E w0 w (chipE p C::RdL D::Rs)):CallV Tryz.prog 61 #[.pointer (some ⟨p,0,none⟩),.agg #[.int .i64 bl,.int .i64 pa],.slice dd.a dd.n dd.c] w [.one (.int .i64)] λr w'=>
  r.1=(progC C bl pa dd.l).2/\Sep E w0 w' (chipE p (progC C bl pa dd.l).1::RdL D::Rs):=by
 have hdl:dd.l.length=dd.n:=by
  obtain ⟨F1,h,_⟩:=S.get (i:=1) rfl
  exact (Ty.ints (h dd hD)).len
 obtain ⟨y,T,hF,S⟩:=chipE_out S
 refine Sep.call (ChipQ p y C T [RdL D]) S (λG SG=>Program13_c (bl:=bl) (pa:=pa) hC hF.pl hdn SG hD) λG fr r w' hr=>?_
 obtain ⟨h1,ta,tc,L',hL,S'⟩:=hr
 exact ⟨h1,chipE_in (y:=upT y ta tc) (T:=L') (Rs:=RdL D::Rs) ⟨by show fds y.F=_;rw [hF.pl,(progC_k C bl pa dd.l).2],by rw [hL,trD.if1,hF.tr,progC_tr],by rw [hL];exact hF.le.app (lenD.if1 (by show dd.l.length<=100000;omega))⟩ (fr _ _ S')⟩
theorem Program_e {bl pa:Int} {dd:SlP Int} (hC:COk C) (hdn:dd.n<=100000) (S:Sep E w0 w (chipE p C::RdL [dd]::Rs)):CallV Tryz.prog 61 #[.pointer (some ⟨p,0,none⟩),.agg #[.int .i64 bl,.int .i64 pa],.slice dd.a dd.n dd.c] w [.one (.int .i64)] λr w'=>
  r.1=(progC C bl pa dd.l).2/\Sep E w0 w' (chipE p (progC C bl pa dd.l).1::RdL [dd]::Rs):=Program_eL hC hdn (List.mem_singleton.2 rfl) S
theorem res_rdL {w1:World} {s:SlV} {xs:List Int} (S:Sep E w0 w Rs) (h:Res w w1 s xs) (bx:Byt xs):Sep E w0 w1 (RdL [⟨s.a,s.n,s.c,xs⟩]::Rs):=
 (S.pushO h.ext h.own).conv λF hF _ x hx=>by
  rw [List.mem_singleton.1 hx]
  exact own_rdB hF (λk hk=>hk) bx
theorem On_e (hC:COk C) (S:Sep E w0 w (chipE p C::Rs)):CallV Tryz.prog 28 #[.pointer (some ⟨p,0,none⟩)] w [.one .bool] λr w'=>r.1=(!C.off)/\w'=w:=by
 obtain ⟨y,T,hF,S⟩:=chipE_out S
 exact On_c hC S
theorem Geometry_e (S:Sep E w0 w (chipE p C::Rs)):CallV Tryz.prog 29 #[.pointer (some ⟨p,0,none⟩)] w [.agg [.int .i64,.int .i64,.int .i64,.int .i64,.int .i64,.int .i64]] λr w'=>r.1=C.g.tup/\Ext w w':=by
 obtain ⟨y,T,hF,S⟩:=chipE_out S
 exact Geometry_c S
theorem Read_e {bl pa:Int} (hC:COk C) (S:Sep E w0 w (chipE p C::Rs)):CallV Tryz.prog 70 #[.pointer (some ⟨p,0,none⟩),.agg #[.int .i64 bl,.int .i64 pa]] w [.one .sl,.one (.int .i64)] λr w'=>
  r.2.1=readC C bl pa/\(readC C bl pa≠0->r.1=(⟨none,0,0⟩:SlV)/\Ext w w')/\(readC C bl pa=0->Res w w' r.1 (pgC13 C bl pa)):=by
 obtain ⟨y,T,hF,S⟩:=chipE_out S
 exact Read13_c hC S
theorem led_call {fn:FuncId} {args:Array Value} {L':List Blk} {v:Int} (S:Sep E w0 w (ledE q L::Rs)) (h:∀ (G:Nat->Prop) (a:Option Addr) (c:Nat),Sep G w w (LedP q a L.length c L)->CallV Tryz.prog fn args w [.one (.int .i64)] λr w'=>r.1=v/\Sep G w w' (LedP q a L.length c L')) :
  CallV Tryz.prog fn args w [.one (.int .i64)] λr w'=>r.1=v/\Sep E w0 w' (ledE q L'::Rs):=by
 obtain ⟨a,c,S⟩:=ledE_out S
 refine Sep.call (LedP q a L.length c L) S (λG SG=>h G a c SG) λG fr r w' hr=>?_
 exact ⟨hr.1,ledE_in (fr _ _ hr.2)⟩
theorem At_e {b:Int} (S:Sep E w0 w (ledE q L::Rs)) (hb:0<=b/\b<(L.length:Int)):CallV Tryz.prog 23 #[.pointer (some ⟨q,0,none⟩),.int .i64 b] w [.agg [.int .i64,.int .i64,.int .i64,.int .i64,.bool,.bool,.bool,.bool,.bool]] λr w'=>r.1=(gx L b.toNat).tup/\Ext w w':=by
 obtain ⟨a,c,S⟩:=ledE_out S
 exact At21_c S hb
theorem Len_e (S:Sep E w0 w (ledE q L::Rs)):CallV Tryz.prog 22 #[.pointer (some ⟨q,0,none⟩)] w [.one (.int .i64)] λr w'=>r.1=(L.length:Int)/\w'=w:=by
 obtain ⟨a,c,S⟩:=ledE_out S
 exact Len_c S
end
theorem comL_byt (g:Geo):Byt (comL g):=by
 unfold comL
 intro x hx
 rcases List.mem_append.1 hx with h | h
 ·rw [(List.mem_replicate.1 h).2];decide
 ·rw [(List.mem_replicate.1 h).2];decide
theorem comL_len (g:Geo):(comL g).length=(g.s+80).toNat+8:=by unfold comL;rw [List.length_append,List.length_replicate,List.length_replicate]
theorem chL_len (b:Int) (n:Nat) (φ:Blk->Blk) (L:List Blk):(chL b n φ L).length=L.length:=by unfold chL;split <;> simp
def dstP (C:CD) (L:List Blk) (b:Int):CD×List Blk×Int:=
 if (eraC C (4+b)).2=5 then
  (if (scrC (eraC C (4+b)).1 (4+b)).2=4 then ((scrC (eraC C (4+b)).1 (4+b)).1,chL b L.length fB L,4)
   else ((scrC (eraC C (4+b)).1 (4+b)).1,chL b L.length (sB ((scrC (eraC C (4+b)).1 (4+b)).2 == 0)) (chL b L.length fB L),if (scrC (eraC C (4+b)).1 (4+b)).2=0 then 5 else 17))
 else ((eraC C (4+b)).1,if (eraC C (4+b)).2=0 then chL b L.length eB L else L,(eraC C (4+b)).2)
structure PI (g:Geo) (n:Nat) (C:CD) (L:List Blk) (O:List Hd):Prop where
 ok:COk C
 gg:C.g=g
 nn:(n:Int)=g.b-4
 ll:L.length=n
 ol:O.length=n
 er:∀ x∈L,0<=x.er/\x.er<=(C.ops:Int)
section
variable {g:Geo} {n:Nat} {C:CD} {L:List Blk} {O:List Hd}
theorem chL_er {b m:Int} {N:Nat} {φ:Blk->Blk} {L:List Blk} (hφ:∀ x,(φ x).er=x.er) (hL:∀ x∈L,0<=x.er/\x.er<=m) (hm:0<=m):∀ x∈chL b N φ L,0<=x.er/\x.er<=m:=by
 intro x hx
 unfold chL at hx
 split at hx
 ·rcases List.mem_or_eq_of_mem_set hx with k | k
  ·exact hL x k
  ·rw [k,hφ,List.getD_eq_getElem?_getD]
   cases he:L[b.toNat]? with
   | none=>exact ⟨Int.le_refl _,hm⟩
   | some y=>exact hL y (List.mem_of_getElem? he)
 ·exact hL x hx
theorem PI.chL (h:PI g n C L O) (b:Int) {φ:Blk->Blk} (hφ:∀ x,(φ x).er=x.er):PI g n C (chL b L.length φ L) O:=
 ⟨h.ok,h.gg,h.nn,(chL_len ..).trans h.ll,h.ol,chL_er hφ h.er (Int.natCast_nonneg _)⟩
end
end Go.Proofs.YtcekmdehjnlkpaaGreat.Vc
namespace Go.Eng
open Go
def frontL:List Asr->List Nat->Option (List Asr)
 | Rs,[]=>some Rs
 | Rs,i::is=>match Rs[i]? with | none=>none | some R=>(frontL (Rs.eraseIdx i) is).map (R::·)
theorem frontL_perm:∀ {is:List Nat} {Rs Ts:List Asr},frontL Rs is=some Ts->Rs.Perm Ts
 | [],Rs,Ts,h=>by simp [frontL] at h;subst h;exact List.Perm.refl _
 | i::is,Rs,Ts,h=>by
  simp only [frontL] at h
  split at h
  ·cases h
  ·rename_i R hR
   obtain ⟨Vs,hV,rfl⟩:=Option.map_eq_some_iff.1 h
   exact (perm_front hR).trans ((frontL_perm hV).cons R)
section
variable {E:Nat->Prop} {w0 w:World} {A B C D F:Asr} {Rs Ts:List Asr}
theorem Sep.fro (S:Sep E w0 w Rs) (is:List Nat) (h:frontL Rs is=some Ts):Sep E w0 w Ts:=S.perm (frontL_perm h)
end
end Go.Eng
namespace Go.Proofs.YtcekmdehjnlkpaaGreat.Vc
open Go Go.Eng Go.RowKit
section
variable {E:Nat->Prop} {w0 w:World} {pp p q n:Nat} {g:Geo} {s:SlV} {O:List Hd} {C:CD} {L:List Blk} {Rs:List Asr}
theorem PI.erL (h:PI g n C L O):∀ x∈L,0<=x.er/\x.er<=2000000000000:=λx hx=>by
 have:=h.er x hx
 have:=h.ok.ops
 omega
end
structure SD where
 C:CD
 L:List Blk
 O:List Hd
 X:List (SlP Ce)
 fr:List Int
 ep:Int
 op:Int
 ct:Int
 ro:Bool
def Hd.hh (h:Hd):Hh:=⟨h.k,h.n,h.c,h.l,h.e,h.t⟩
def inP (X:List (SlP Ce)) (bl:Int):List (Int×Int):=((List.range 32).map λi:Nat=>(bl,(i:Int))).filter λk=>decide (1<=cntX X k)
def chS (s:SD) (b:Int) (φ:Blk->Blk):SD:={s with L:=chL b s.L.length φ s.L}
theorem gx_ch {b:Int} {n:Nat} {φ:Blk->Blk} {L:List Blk} (hl:L.length=n) (i:Nat):gx (chL b n φ L) i=if (0<=b/\b<(n:Int))/\i=b.toNat then φ (gx L i) else gx L i:=by
 unfold chL
 by_cases hb:0<=b/\b<(n:Int)
 ·rw [if_pos (show inB b n from hb)]
  by_cases hi:i=b.toNat
  ·subst hi
   rw [if_pos ⟨hb,rfl⟩]
   show (L.set b.toNat _).getD b.toNat default=_
   rw [List.getD_eq_getElem?_getD,List.getElem?_set_self (by omega)]
   rfl
  ·rw [if_neg (λh=>hi h.2)]
   show (L.set b.toNat _).getD i default=L.getD i default
   rw [List.getD_eq_getElem?_getD,List.getElem?_set_ne (λe=>hi e.symm),<- List.getD_eq_getElem?_getD]
 ·rw [if_neg (show ¬ inB b n from hb),if_neg (λh=>hb h.1)]
theorem inP_mem {X:List (SlP Ce)} {bl:Int} {k:Int×Int}:k∈inP X bl↔k.1=bl/\(0<=k.2/\k.2<32)/\1<=cntX X k:=by
 unfold inP
 rw [List.mem_filter,List.mem_map,decide_eq_true_iff]
 constructor
 ·rintro ⟨⟨i,hi,rfl⟩,h2⟩
  have:=List.mem_range.1 hi
  exact ⟨rfl,⟨by dsimp only;omega,by dsimp only;omega⟩,h2⟩
 ·rintro ⟨h1,h2,h3⟩
  refine ⟨⟨k.2.toNat,List.mem_range.2 (by omega),Prod.ext h1.symm (by dsimp only;omega)⟩,h3⟩
theorem inP_so (X:List (SlP Ce)) (bl:Int):(inP X bl).Pairwise plL:=by
 unfold inP
 refine List.Pairwise.filter _ (List.pairwise_map.2 (List.pairwise_lt_range.imp λ{a b} h=>?_))
 exact .inr ⟨rfl,by dsimp only;omega⟩
theorem so_nd {l:List (Int×Int)} (h:l.Pairwise plL):l.Nodup:=h.imp λ{a b} h e=>by subst e;unfold plL at h;omega
structure LI (X:List (SlP Ce)) (p:Int) (n:Nat) (L:List Blk):Prop where
 pp:4<=p/\p<=32
 four:X.length=4
 ll:L.length=n
 xb:∀ k,1<=cntX X k->(4<=k.1/\k.1<4+(n:Int))/\(1<=k.2/\k.2<p)
 us:∀ i,i<n->0<=(gx L i).us/\(gx L i).us<=p-1
 li:∀ i,i<n->(gx L i).li=((inP X (4+(i:Int))).length:Int)
 he:∀ i,i<n->(gx L i).li≠0->(gx L i).he=true
 ho:∀ i,i<n->(gx L i).he=true->0<=(gx L i).ow/\(gx L i).ow<4
 pu:∀ k,1<=cntX X k->k.2<=(gx L (k.1-4).toNat).us
 ow:∀ (ns:Int) (j:Nat) (c:Ce),(0<=ns/\ns<4)->(getX X ns).l[j]? = some c->c.has=true->(gx L (c.s.b-4).toNat).ow=ns
section
variable {X:List (SlP Ce)} {p:Int} {n:Nat} {L:List Blk}
theorem LI.none (h:LI X p n L) {b:Int} (hb:0<=b/\b<(n:Int)) (h0:(gx L b.toNat).li=0) {k:Int×Int} (hk:k.1=4+b):¬ 1<=cntX X k:=λh1=>by
 have e:=h.li b.toNat (by omega)
 rw [h0,show 4+((b.toNat:Nat):Int)=4+b by omega] at e
 have e2:inP X (4+b)=[]:=List.length_eq_zero_iff.1 (by omega)
 have:=(inP_mem (X:=X) (bl:=4+b) (k:=k)).2 ⟨hk,⟨by have:=(h.xb k h1).2;omega,by have:=(h.xb k h1).2;have:=h.pp;omega⟩,h1⟩
 rw [e2] at this
 cases this
theorem LI.ch1 (h:LI X p n L) (b:Int) {φ:Blk->Blk} (h1:∀ x,(φ x).ow=x.ow) (h2:∀ x,(φ x).li=x.li) (h3:∀ x,(φ x).he=x.he) (h4:0<=b/\b<(n:Int)->(gx L b.toNat).us<=(φ (gx L b.toNat)).us/\(φ (gx L b.toNat)).us<=p-1):LI X p n (chL b n φ L):=by
 have g:=gx_ch (b:=b) (φ:=φ) h.ll
 have go:∀ i,(gx (chL b n φ L) i).ow=(gx L i).ow:=λi=>by rw [g];split;exact h1 _;rfl
 have gl:∀ i,(gx (chL b n φ L) i).li=(gx L i).li:=λi=>by rw [g];split;exact h2 _;rfl
 have gh:∀ i,(gx (chL b n φ L) i).he=(gx L i).he:=λi=>by rw [g];split;exact h3 _;rfl
 have gu:∀ i,(gx L i).us<=(gx (chL b n φ L) i).us:=λi=>by
  rw [g];split
  ·rename_i e;rw [e.2];exact (h4 e.1).1
  ·exact Int.le_refl _
 refine ⟨h.pp,h.four,by rw [chL_len];exact h.ll,h.xb,λi hi=>⟨Int.le_trans (h.us i hi).1 (gu i),?_⟩,λi hi=>by rw [gl];exact h.li i hi,λi hi e=>by rw [gh];exact h.he i hi (by rw [<-gl];exact e),λi hi e=>by rw [go];exact h.ho i hi (by rw [<-gh];exact e),λk hk=>Int.le_trans (h.pu k hk) (gu _),λns j c hn hj hc=>by rw [go];exact h.ow ns j c hn hj hc⟩
 rw [g];split
 ·rename_i e;rw [e.2];exact (h4 e.1).2
 ·exact (h.us i hi).2
theorem LI.ch0 (h:LI X p n L) (b:Int) {φ:Blk->Blk} (h0:0<=b/\b<(n:Int)->(gx L b.toNat).li=0/\(φ (gx L b.toNat)).li=0/\(0<=(φ (gx L b.toNat)).us/\(φ (gx L b.toNat)).us<=p-1)/\((φ (gx L b.toNat)).he=true->0<=(φ (gx L b.toNat)).ow/\(φ (gx L b.toNat)).ow<4)):LI X p n (chL b n φ L):=by
 have g:=gx_ch (b:=b) (φ:=φ) h.ll
 refine ⟨h.pp,h.four,by rw [chL_len];exact h.ll,h.xb,λi hi=>?_,λi hi=>?_,λi hi e=>?_,λi hi e=>?_,λk hk=>?_,λns j c hn hj hc=>?_⟩
 ·rw [g];split
  ·rename_i e;rw [e.2];exact (h0 e.1).2.2.1
  ·exact h.us i hi
 ·rw [g];split
  ·rename_i e;have:=h.li i hi;rw [e.2] at this⊢;rw [(h0 e.1).2.1,<- this];exact (h0 e.1).1.symm
  ·exact h.li i hi
 ·rw [g] at e⊢;split
  ·rename_i e1;rw [if_pos e1,e1.2] at e;exact absurd (h0 e1.1).2.1 e
  ·rename_i e1;rw [if_neg e1] at e;exact h.he i hi e
 ·rw [g] at e⊢;split
  ·rename_i e1;rw [if_pos e1,e1.2] at e;rw [e1.2];exact (h0 e1.1).2.2.2 e
  ·rename_i e1;rw [if_neg e1] at e;exact h.ho i hi e
 ·rw [g,if_neg]
  ·exact h.pu k hk
  ·rintro ⟨e1,e2⟩
   exact h.none e1 (h0 e1).1 (k:=k) (by have:=(h.xb k hk).1;omega) hk
 ·rw [g,if_neg]
  ·exact h.ow ns j c hn hj hc
  ·rintro ⟨e1,e2⟩
   have hk:=cntX_pos h.four hn hj hc
   exact h.none e1 (h0 e1).1 (k:=c.pl) (by have:=(h.xb _ hk).1;show c.s.b=4+b;change 4<=c.s.b/\_ at this;omega) hk
theorem LI.f (h:LI X p n L) (b:Int):LI X p n (chL b n fB L):=h.ch1 b (λ_=>rfl) (λ_=>rfl) (λ_=>rfl) λhb=>⟨Int.le_refl _,(h.us _ (by omega)).2⟩
theorem LI.r (h:LI X p n L) (b:Int) (h0:0<=b/\b<(n:Int)->(gx L b.toNat).li=0):LI X p n (chL b n rB L):=h.ch0 b λhb=>⟨h0 hb,rfl,h.us _ (by omega),λe=>by cases e⟩
theorem LI.e (h:LI X p n L) (b:Int) (h0:0<=b/\b<(n:Int)->(gx L b.toNat).li=0):LI X p n (chL b n eB L):=h.ch0 b λhb=>⟨h0 hb,rfl,⟨Int.le_refl _,by have:=h.pp;show (0:Int)<=p-1;omega⟩,λe=>by cases e⟩
theorem LI.s (h:LI X p n L) (b:Int) {m:Bool} (h0:0<=b/\b<(n:Int)->(gx L b.toNat).li=0):LI X p n (chL b n (sB m) L):=h.ch0 b λhb=>⟨h0 hb,h0 hb,h.us _ (by omega),λe=>by cases e⟩
theorem LI.h (h:LI X p n L) (b:Int) {ns:Int} (hn:0<=ns/\ns<4) (h0:0<=b/\b<(n:Int)->(gx L b.toNat).li=0):LI X p n (chL b n (hB ns) L):=h.ch0 b λhb=>⟨h0 hb,rfl,⟨Int.le_refl _,by have:=h.pp;show (0:Int)<=p-1;omega⟩,λ_=>hn⟩
theorem gx_ch_li {b:Int} {φ:Blk->Blk} (hl:L.length=n) (hφ:∀ x,(φ x).li=x.li) (i:Nat):(gx (chL b n φ L) i).li=(gx L i).li:=by
 rw [gx_ch hl];split
 ·exact hφ _
 ·rfl
theorem dst_L (C:CD) (hl:L.length=n) (b:Int):(dstP C L b).2.1=L\/(dstP C L b).2.1=chL b n eB L\/(dstP C L b).2.1=chL b n fB L\/∃ m,(dstP C L b).2.1=chL b n (sB m) (chL b n fB L):=by
 subst hl
 unfold dstP
 split
 ·split
  ·exact .inr (.inr (.inl rfl))
  ·exact .inr (.inr (.inr ⟨_,rfl⟩))
 ·dsimp only
  split
  ·exact .inr (.inl rfl)
  ·exact .inl rfl
theorem LI.d (h:LI X p n L) (C:CD) (b:Int) (h0:0<=b/\b<(n:Int)->(gx L b.toNat).li=0):LI X p n (dstP C L b).2.1:=by
 rcases dst_L C h.ll b with e | e | e | ⟨m,e⟩ <;> rw [e]
 ·exact h
 ·exact h.e b h0
 ·exact h.f b
 ·exact (h.f b).s b λhb=>by rw [gx_ch_li (φ:=fB) h.ll (λ_=>rfl)];exact h0 hb
end
abbrev fat (s:SD) (i:Nat):Int:=s.fr.getD i 0
def frOk (n:Nat) (L:List Blk) (i:Nat) (b:Int):Prop:=b=-1\/((0<=b/\b<(n:Int))/\(gx L b.toNat).he=true/\(gx L b.toNat).ow=(i:Int))
def u64R (z:Int):Prop:=0<=z/\z<18446744073709551616
structure SI (g:Geo) (n:Nat) (s:SD):Prop where
 pi:PI g n s.C s.L s.O
 xo:XOk s.X
 l:LI s.X g.p n s.L
 fl:s.fr.length=4
 fo:∀ i,i<4->frOk n s.L i (fat s i)
 ep:u64R s.ep
 op:u64R s.op
 ct:u64R s.ct
structure St (g:Geo) (n K:Nat) (s s':SD):Prop where
 i:SI g n s'
 o1:s.C.ops<=s'.C.ops
 o2:s'.C.ops<=s.C.ops+K
 sz:∀ ns,(getX s'.X ns).n=(getX s.X ns).n
 ep:s'.ep=s.ep
 ct:s'.ct=s.ct
section
variable {g:Geo} {n K J:Nat} {s s' t:SD}
theorem SI.ln (h:SI g n s):s.L.length=n:=h.pi.ll
theorem frOk.ch1 {L:List Blk} {b:Int} {φ:Blk->Blk} (hl:L.length=n) (h1:∀ x,(φ x).ow=x.ow) (h3:∀ x,(φ x).he=x.he) {i:Nat} {f:Int} (h:frOk n L i f):frOk n (chL b n φ L) i f:=by
 rcases h with h | ⟨h,h2,h4⟩
 ·exact .inl h
 ·refine .inr ⟨h,?_,?_⟩ <;> rw [gx_ch hl] <;> split
  ·rw [h3];exact h2
  ·exact h2
  ·rw [h1];exact h4
  ·exact h4
theorem frOk.oth {L L':List Blk} {i:Nat} {f:Int} (h:frOk n L i f) (ho:0<=f/\f<(n:Int)->gx L' f.toNat=gx L f.toNat):frOk n L' i f:=by
 rcases h with h | ⟨h,h2,h4⟩
 ·exact .inl h
 ·exact .inr ⟨h,by rw [ho h];exact h2,by rw [ho h];exact h4⟩
def nfr (s:SD) (b:Int):Prop:=∀ i,i<4->0<=fat s i->fat s i≠b
theorem SI.ch (h:SI g n s) (b:Int) {φ:Blk->Blk} (he:∀ x,(φ x).er=x.er) (hl:LI s.X g.p n (chL b n φ s.L)) (hf:∀ i,i<4->frOk n (chL b n φ s.L) i (fat s i)):St g n 0 s (chS s b φ):=by
 have hp:=h.pi.chL b he
 rw [h.ln] at hp
 refine ⟨⟨?_,h.xo,?_,h.fl,?_,h.ep,h.op,h.ct⟩,Nat.le_refl _,Nat.le_refl _,λ_=>rfl,rfl,rfl⟩
 ·show PI g n s.C (chL b s.L.length φ s.L) s.O;rw [h.ln];exact hp
 ·show LI s.X g.p n (chL b s.L.length φ s.L);rw [h.ln];exact hl
 ·show ∀ i,i<4->frOk n (chL b s.L.length φ s.L) i (fat s i);rw [h.ln];exact hf
theorem SI.ch1 (h:SI g n s) (b:Int) {φ:Blk->Blk} (he:∀ x,(φ x).er=x.er) (h1:∀ x,(φ x).ow=x.ow) (h3:∀ x,(φ x).he=x.he) (hl:LI s.X g.p n (chL b n φ s.L)):St g n 0 s (chS s b φ):=
 h.ch b he hl λi hi=>(h.fo i hi).ch1 h.ln h1 h3
theorem SI.f (h:SI g n s) (b:Int):St g n 0 s (chS s b fB):=h.ch1 b (λ_=>rfl) (λ_=>rfl) (λ_=>rfl) (h.l.f b)
theorem SI.r (h:SI g n s) (b:Int) (h0:0<=b/\b<(n:Int)->(gx s.L b.toNat).li=0) (hf:nfr s b):St g n 0 s (chS s b rB):=
 h.ch b (λ_=>rfl) (h.l.r b h0) λi hi=>(h.fo i hi).oth λe=>by
  rw [gx_ch h.ln,if_neg]
  rintro ⟨e1,e2⟩
  exact hf i hi e.1 (by omega)
end
def mapE (pm:Nat) (X:List (SlP Ce)):Asr:=⟨λw F=>∃ r:Nat,StarP w [boxP pm r X,MapF r (cntX X),ownsA X] F,λh k=>by obtain ⟨r,h1⟩:=h;exact ⟨r,h1.st k⟩⟩
section
variable {E:Nat->Prop} {w0 w:World} {Rs:List Asr} {sp pp pm p q n:Nat} {g:Geo} {s:SD} {X:List (SlP Ce)} {O:List Hd} {L:List Blk} {C:CD}
theorem mapE_in {r:Nat} (S:Sep E w0 w (boxP pm r X::MapF r (cntX X)::ownsA X::Rs)):Sep E w0 w (mapE pm X::Rs):=
 (Sep.fold (Rs:=[boxP pm r X,MapF r (cntX X),ownsA X]) S).conv λF h _=>⟨r,h⟩
theorem mapE_out (S:Sep E w0 w (mapE pm X::Rs)):∃ r:Nat,Sep E w0 w (boxP pm r X::MapF r (cntX X)::ownsA X::Rs):=by
 obtain ⟨F,⟨F1,F2,⟨r,h2⟩,h3⟩,hb⟩:=S.ex
 have S2:Sep E w0 w (StarA [boxP pm r X,MapF r (cntX X),ownsA X]::Rs):=⟨S.fr,F,⟨F1,F2,h2,h3⟩,hb⟩
 exact ⟨r,S2.unfold⟩
theorem Size_m {ns:Int} (hX:X.length=4) (S:Sep E w0 w (mapE pm X::Rs)):CallV Tryz.prog 45 #[.pointer (some ⟨pm,0,none⟩),.int .i64 ns] w [.one (.int .i64)] λr w'=>r.1=(((getX X ns).n:Nat):Int)/\w'=w:=by
 obtain ⟨r,S⟩:=mapE_out S.take1
 exact Size22_c hX (toQ S)
end
theorem so_eq {L M:List (Int×Int)} (h1:L.Pairwise plL) (h2:M.Pairwise plL) (h:∀ k,k∈L↔k∈M):L=M:=by
 have hp:L.Perm M:=(List.perm_ext_iff_of_nodup (so_nd h1) (so_nd h2)).2 h
 refine List.Perm.eq_of_pairwise (le:=plL) (λa b _ _ h1 h2=>?_) h1 h2 hp
 unfold plL at h1 h2
 omega
abbrev nG (g:Geo):Nat:=(g.b-4).toNat
structure New0 (X:List (SlP Ce)) (z0 z1:Nat):Prop where
 ok:XOk X
 l:∀ ns,(getX X ns).l=List.replicate (if ns=0 then z0 else if ns=1 then z1 else 0) Ce0
 n:∀ ns,(getX X ns).n=if ns=0 then z0 else if ns=1 then z1 else 0
abbrev X0:List (SlP Ce):=[noC,noC,noC,noC]
theorem X0_ok:XOk X0:=⟨rfl,λx hx=>by simp at hx;rw [hx];exact ⟨rfl,Nat.zero_le _⟩⟩
theorem cnt_new {X:List (SlP Ce)} (hX:X.length=4) {ns:Int} (hn:0<=ns/\ns<4) {x:SlP Ce} {n:Nat} (hx:x.l=List.replicate n Ce0) (h0:(getX X ns).l=[]):cntX (X.set ns.toNat x)=cntX X:=by
 funext k
 unfold cntX
 obtain ⟨m1,m2⟩:=flat_mid (f:=λx:SlP Ce=>x.l) (z:=x) (getX_at hX hn)
 have h1:flatX X=_:=m1
 have h2:flatX (X.set ns.toNat x)=_:=m2
 rw [h1,h2,hx,h0]
 unfold cntC
 simp only [List.countP_append,List.countP_replicate]
 have:isP k Ce0=false:=rfl
 rw [this]
 simp
theorem ok_new {X:List (SlP Ce)} (h:XOk X) {i:Nat} {x:SlP Ce} (hx:x.l.length=x.n/\x.n<=65535):XOk (X.set i x):=
 ⟨by rw [List.length_set];exact h.four,λy hy=>(List.mem_or_eq_of_mem_set hy).elim (h.len y) λe=>by rw [e];exact hx⟩
theorem getX_set {X:List (SlP Ce)} (hX:X.length=4) {ns:Int} (hn:0<=ns/\ns<4) {x:SlP Ce} (ns':Int):getX (X.set ns.toNat x) ns'=if ns'=ns then x else getX X ns':=by
 by_cases hn':0<=ns'/\ns'<4
 ·have h1:=getX_at (X:=X.set ns.toNat x) (by rw [List.length_set];exact hX) hn'
  rw [List.getElem?_set] at h1
  by_cases h:ns'=ns
  ·subst h
   rw [if_pos rfl,if_pos (by omega)] at h1
   rw [if_pos rfl]
   exact (Option.some.inj h1).symm
  ·rw [if_neg (by omega),getX_at hX hn'] at h1
   rw [if_neg h]
   exact (Option.some.inj h1).symm
 ·have h:ns'≠ns:=λe=>hn' (e ▸ hn)
  rw [if_neg h]
  unfold getX
  rw [if_neg hn',if_neg hn']
section
variable {E:Nat->Prop} {w0 w:World} {Rs:List Asr} {sp pp pm p q n:Nat} {g:Geo} {s:SD} {X:List (SlP Ce)}
theorem New_m (S:Sep E w0 w Rs):CallV Tryz.prog 65 #[] w [.one .ptr] λr w'=>∃ pm:Nat,r.1=some (⟨pm,0,none⟩:Addr)/\Sep E w0 w' (mapE pm X0::Rs):=by
 refine New22_c.mono ?_
 rintro ⟨r,⟨⟩⟩ w1 ⟨pm,rr,h1,S1⟩
 refine ⟨pm,h1,?_⟩
 have S2:=S.frame0 (fromQ (X:=X0) S1)
 exact mapE_in (r:=rr) (X:=X0) S2
theorem Add_m {ns size:Int} (hX:XOk X) (hn:0<=ns/\ns<4) (h0:(getX X ns).n=0) (hz:1<=size/\size<=65535) (S:Sep E w0 w (mapE pm X::Rs)) :
  CallV Tryz.prog 67 #[.pointer (some ⟨pm,0,none⟩),.int .i64 ns,.int .i64 size] w [.one (.int .i64)] λ(rr:Int×Unit) w'=>rr.1=0/\∃ x:SlP Ce,x.l=List.replicate size.toNat Ce0/\x.n=size.toNat/\Sep E w0 w' (mapE pm (X.set ns.toNat x)::Rs):=by
 obtain ⟨r,S⟩:=mapE_out S
 have hl:(getX X ns).l=[]:=List.length_eq_zero_iff.1 (by rw [(hX.get ns).1];exact h0)
 have ha:addE X ns size=0:=by
  unfold addE
  rw [if_neg (λk=>k hn),if_neg (λk=>k hz),if_neg (by omega)]
 refine Sep.call [boxP pm r X,MapF r (cntX X),ownsA X] S (λG SG=>Add22_c (ns:=ns) (size:=size) hX.four (toQ SG)) λG fr rr w' hr=>?_
 obtain ⟨h1,-,h2⟩:=hr
 obtain ⟨x,hx1,hx2,S'⟩:=h2 ha
 refine ⟨h1.trans ha,x,hx1,hx2,?_⟩
 have S3:=fr _ _ (fromQ (X:=X.set ns.toNat x) S')
 rw [<-cnt_new hX.four hn hx1 hl] at S3
 exact mapE_in (r:=r) S3
theorem New0.zero:New0 X0 0 0:=⟨X0_ok,λns=>by
 have:getX X0 ns=noC:=by
  unfold getX
  split
  ·rename_i h
   obtain ⟨h1,h2⟩:=h
   have:ns.toNat<4:=by omega
   show X0.getD ns.toNat noC=noC
   match ns.toNat,this with
   | 0,_=>rfl
   | 1,_=>rfl
   | 2,_=>rfl
   | 3,_=>rfl
  ·rfl
 rw [this]
 split
 ·rfl
 ·split <;> rfl,λns=>by
 have:getX X0 ns=noC:=by
  unfold getX
  split
  ·rename_i h
   obtain ⟨h1,h2⟩:=h
   have:ns.toNat<4:=by omega
   show X0.getD ns.toNat noC=noC
   match ns.toNat,this with
   | 0,_=>rfl
   | 1,_=>rfl
   | 2,_=>rfl
   | 3,_=>rfl
  ·rfl
 rw [this]
 split
 ·rfl
 ·split <;> rfl⟩
end
section
variable {E:Nat->Prop} {w0 w:World} {Rs:List Asr} {t:Slt} {h:Hh} {pm p:Nat} {X:List (SlP Ce)} {C:CD} {g:Geo}
theorem SRight_c:CallV Tryz.prog 66 #[t.val] w [.one .bool] λr w'=>r.1=decide (okSl t)/\Ext w w':=by
 apply slot_Right.vc
 unfold slot_Right.P
 have S:=Sep.start NoB w
 refine S.newB (vs:=t.vs) λb1 w1 S f1 _=>?_
 refine S.ld0 (j:=0) rfl rfl (cond_of (λ(hu:(!t.us)=true)=>?_) (λ(hu:(!t.us)=false)=>?_))
 ·have hu:¬ t.us=true:=by simpa using hu
  have hO:okSl t↔(t.sz=0/\t.ep=0/\t.ct=0/\(t.y.n:Int)=0):=by unfold okSl;rw [if_neg hu]
  have no:(¬ (t.sz=0/\t.ep=0/\t.ct=0/\(t.y.n:Int)=0))->false=decide (okSl t)/\Ext w w1:=λk=>⟨(decide_eq_false λe=>k (hO.1 e)).symm,S.ext⟩
  refine S.ld0 (j:=1) rfl rfl (cond_eq (λ(h1:t.sz=0)=>?_) (λ(h1:¬ t.sz=0)=>no λk=>h1 k.1))
  refine S.ld0 (j:=2) rfl rfl (cond_eq (λ(h2:t.ep=0)=>?_) (λ(h2:¬ t.ep=0)=>no λk=>h2 k.2.1))
  refine S.ld0 (j:=3) rfl rfl (cond_eq (λ(h3:t.ct=0)=>?_) (λ(h3:¬ t.ct=0)=>no λk=>h3 k.2.2.1))
  exact S.ld0 (j:=4) rfl rfl ⟨decide_eq_decide.2 ⟨λh4=>hO.2 ⟨h1,h2,h3,h4⟩,λk=>(hO.1 k).2.2.2⟩,S.ext⟩
 ·have hu:t.us=true:=by simpa using hu
  have hO:okSl t↔((1<=t.sz/\t.sz<=65535)/\(t.y.n:Int)=104):=by unfold okSl;rw [if_pos hu]
  have no:(¬ ((1<=t.sz/\t.sz<=65535)/\(t.y.n:Int)=104))->false=decide (okSl t)/\Ext w w1:=λk=>⟨(decide_eq_false λe=>k (hO.1 e)).symm,S.ext⟩
  refine S.ld0 (j:=1) rfl rfl (cond_d (λ(h1:t.sz≥1)=>?_) (λ(h1:¬ t.sz≥1)=>no λk=>h1 k.1.1))
  refine S.ld0 (j:=1) rfl rfl (cond_d (λ(h2:t.sz<=65535)=>?_) (λ(h2:¬ t.sz<=65535)=>no λk=>h2 k.1.2))
  exact S.ld0 (j:=4) rfl rfl ⟨decide_eq_decide.2 ⟨λh4=>hO.2 ⟨⟨h1,h2⟩,h4⟩,λk=>(hO.1 k).2⟩,S.ext⟩
theorem SDead_c:CallV Tryz.prog 71 #[t.val,h.val] w [.one .bool] λr w'=>r.1=decide (ddS t h)/\Ext w w':=by
 apply slot_Dead.vc
 unfold slot_Dead.P
 have S:=Sep.start NoB w
 refine S.newB (vs:=t.vs) λb1 w1 S f1 _=>?_
 refine S.newB λb3 w3 S f3 _=>?_
 refine S.ld1 (j:=0) rfl rfl (cond_of (λ(hu:(!t.us)=true)=>⟨(decide_eq_true (.inl (by simpa using hu))).symm,S.ext⟩) (λ(hu:(!t.us)=false)=>?_))
 have hu:t.us=true:=by simpa using hu
 refine S.ld1 (j:=2) rfl rfl (S.ld1 (j:=3) rfl rfl (S.la0 rfl ?_))
 refine (Less22_c (a:=⟨0,0,0,0,t.ep,t.ct⟩) (b:=h)).mono ?_
 rintro ⟨(r:Bool),⟨⟩⟩ w4 ⟨h4,x4⟩
 dsimp only at h4 ⊢
 refine ⟨?_,S.ext.trans x4⟩
 have hd:ddS t h↔¬ lesH ⟨0,0,0,0,t.ep,t.ct⟩ h:=⟨λk=>k.resolve_left λe=>absurd (hu.symm.trans e) (by decide),λk=>.inr k⟩
 rw [h4]
 by_cases hl:lesH ⟨0,0,0,0,t.ep,t.ct⟩ h
 ·rw [decide_eq_true hl,decide_eq_false (λe=>hd.1 e hl)];rfl
 ·rw [decide_eq_false hl,decide_eq_true (hd.2 hl)];rfl
theorem pages23_c {bl:Int} (hC:COk C) (hb:0<=bl/\bl<C.g.b) (S0:Sep E w0 w (chipE p C::Rs)):CallV Tryz.prog 32 #[.pointer (some ⟨p,0,none⟩),C.g.val,.int .i64 bl] w [.one .sl,.one (.int .i64)] λr w'=>
  (C.off=true->r.2.1=(4:Int)/\Ext w w')/\(C.off=false->r.2.1=(0:Int)/\∃ y:SlP (SlP Int),r.1=(⟨y.a,y.n,y.c⟩:SlV)/\y.l.map (·.l)=(blkC C bl).pg/\(y.n:Int)=C.g.p/\LstS w w' y):=by
 apply scan_pages.vc
 unfold scan_pages.P
 obtain ⟨n3,n4⟩:4<=C.g.p/\C.g.p<=20:=by have h1:=hC.g.1.2.1;have h2:=hC.lg.2.1;omega
 have hbk:BOk C.g C.ops (blkC C bl):=hC.bo _ (List.mem_of_getElem? (some_getD (by rw [hC.bl];omega)))
 have S:=Sep.start NoB w
 refine S.newB λb1 w1 S f1 _=>?_
 refine S.ld0 (j:=1) rfl rfl ?_
 have S:=(S.nilL).nilOwn 26 1
 refine Loop1 (λ(v:SlV×Int×Unit) w'=>∃ (i:Nat) (L:List (SlP Int)),v.2.1=(i:Int)/\(i:Int)<=C.g.p/\v.1.n=i/\L.map (·.l)=(blkC C bl).pg.take i/\(C.off=true->i=0)/\Sep NoB w w' [OwnA 26 1 v.1.a v.1.n v.1.c (L.map slV),RdL L,BoxA b1 23 C.g.vs])
  (λ(v:SlV×Int×Unit) _=>(C.g.p-v.2.1).toNat) ⟨0,[],rfl,by omega,rfl,rfl,λ_=>rfl,S⟩ ?_
 clear S
 rintro ⟨⟨va,vn,vc⟩,(v:Int),⟨⟩⟩ w2 ⟨i,L,hv,hi,hvn,hL,ho,S⟩
 dsimp only at hv hvn S ⊢
 subst hv
 subst hvn
 refine cond_d (λhlt=>?_) (λhge=>?_)
 case refine_2=>
  have hie:vn=C.g.p.toNat:=by omega
  refine ⟨λh=>by have:=ho h;omega,λh=>⟨rfl,⟨va,vn,vc,L⟩,rfl,?_,by show (vn:Int)=_;omega,S.sel [0,0] rfl⟩⟩
  rw [hL,List.take_of_length_le (by rw [hbk.pl];omega)]
 refine (Read_e (bl:=bl) (pa:=(vn:Int)) hC (S0.stepE S.ext)).mono ?_
 rintro ⟨⟨ra,rn,rc⟩,(r:Int),⟨⟩⟩ w3 ⟨h3,h4,h5⟩
 dsimp only at h3 h4 h5 ⊢
 by_cases hoff:C.off=true
 ·have hr:readC C bl (vn:Int)=4:=by unfold readC;rw [if_pos hoff]
  rw [hr] at h3 h4
  refine cond_t (by rw [h3];rfl) ⟨λ_=>⟨h3,S.ext.trans (h4 (by decide)).2⟩,λh=>by rw [hoff] at h;cases h⟩
 ·have hin:inC C bl (vn:Int):=⟨hb,by omega,hlt⟩
  have hr:readC C bl (vn:Int)=0:=by unfold readC;rw [if_neg hoff,if_pos hin]
  rw [hr] at h3
  refine cond_f (by rw [h3];rfl) ?_
  have hres:=h5 hr
  have hpg:(blkC C bl).pg[vn]? = some (pgC13 C bl (vn:Int)):=by
   unfold pgC13
   rw [Int.toNat_natCast]
   exact some_getD (by rw [hbk.pl];omega)
  have hby:=(hbk.pb _ (List.mem_of_getElem? hpg)).2
  have S:=S.res hres
  refine S.newB λb9 w4 S f4 _=>?_
  refine AppS.of (news:=[slV ⟨ra,rn,rc,pgC13 C bl (vn:Int)⟩]) rfl (.inr ⟨_,rfl,S.cells 0 rfl⟩) ?_
  refine S.ap2 (by rfl) (λu hu=>by rw [List.mem_singleton.1 hu];rfl) (by omega) (by omega) λa9 c11 w6 S f6=>?_
  refine ⟨Rng.i64 (by omega) (by omega),⟨vn+1,L++[⟨ra,rn,rc,pgC13 C bl (vn:Int)⟩],by push_cast;rfl,by push_cast;omega,rfl,?_,λh=>absurd h hoff,?_⟩,by omega⟩
  ·rw [List.map_append,hL,List.take_add_one,hpg]
   rfl
  ·have S:=S.sel [1,2,1,1] rfl
   have S:=S.addL hby
   rw [List.map_append]
   exact S.sel [1,0,0] rfl
abbrev Tb.val (T:Tb) (y:SlV):Value:=.agg #[.bool T.kn,.int .i64 T.ns,.int .i64 T.er,.int .i64 T.od.k,.int .i64 T.od.n,.int .i64 T.od.c,.int .u32 T.od.l,.int .u64 T.od.e,.int .u64 T.od.t,.slice y.a y.n y.c]
def knK (g:Geo) (T:Tb) (li mo:Int):Blk:=⟨if T.kn=true then T.ns else -1,if 0<li then g.p-1 else 0,if 0<li then li else 0,if T.kn=true then T.er else mo,decide (0<li),false,false,false,false⟩
theorem known23_c {T:Tb} {y:SlV} {li mo:Int} (hp:0<=g.p/\g.p<=100000):CallV Tryz.prog 35 #[g.val,T.val y,.int .i64 li,.int .i64 mo] w [.agg [.int .i64,.int .i64,.int .i64,.int .i64,.bool,.bool,.bool,.bool,.bool]] λr w'=>r.1=(knK g T li mo).tup/\Ext w w':=by
 apply scan_known.vc
 unfold scan_known.P
 have S:=Sep.start NoB w
 refine S.newB λb1 w1 S f1 _=>?_
 refine S.newB (vs:=tbL T.kn T.ns T.er T.od y) λb3 w3 S f3 _=>?_
 refine S.newB λb5 w5 S f5 _=>?_
 refine S.newB λb7 w7 S f7 _=>?_
 refine S.st0 (by rfl) λw8 S f8=>?_
 have n1:=S.ne 0 3 (by omega) rfl rfl
 have n3:=S.ne 0 2 (by omega) rfl rfl
 have fin:∀ {w':World} {v:Blk} {v5:List Value} {Rs:List Asr},v=knK g T li mo->v5.length=9->Sep NoB w w' (BoxA b7 98 v.vs::BoxA b5 98 v5::Rs)->LoadA w' ⟨b7,0,none⟩ [.int .i64,.int .i64,.int .i64,.int .i64,.bool,.bool,.bool,.bool,.bool] λ(x:Int×Int×Int×Int×Bool×Bool×Bool×Bool×Bool×Unit)=>
   StoreV w' ⟨b5,0,none⟩ [.int .i64 x.1,.int .i64 x.2.1,.int .i64 x.2.2.1,.int .i64 x.2.2.2.1,.bool x.2.2.2.2.1,.bool x.2.2.2.2.2.1,.bool x.2.2.2.2.2.2.1,.bool x.2.2.2.2.2.2.2.1,.bool x.2.2.2.2.2.2.2.2.1] λw22=>
   LoadA w22 ⟨b5,0,none⟩ [.int .i64,.int .i64,.int .i64,.int .i64,.bool,.bool,.bool,.bool,.bool] λ(x:Int×Int×Int×Int×Bool×Bool×Bool×Bool×Bool×Unit)=>
   (x.1,x.2.1,x.2.2.1,x.2.2.2.1,x.2.2.2.2.1,x.2.2.2.2.2.1,x.2.2.2.2.2.2.1,x.2.2.2.2.2.2.2.1,x.2.2.2.2.2.2.2.2.1,())=(knK g T li mo).tup/\Ext w w22:=λ{w' v v5 Rs} e h5 S=>by
  refine S.la0 rfl (S.st1 (by rw [h5];rfl) λw9 S f9=>S.la1 rfl ⟨?_,S.ext⟩)
  rw [<-e]
 have two:∀ {w':World} {o e:Int} {v5:List Value} {v3:List Value},o=(if T.kn=true then T.ns else -1)->e=(if T.kn=true then T.er else mo)->v5.length=9 ->
   Sep NoB w w' [BoxA b7 98 (⟨o,0,0,e,false,false,false,false,false⟩:Blk).vs,BoxA b5 98 v5,BoxA b3 38 v3,BoxA b1 23 g.vs] ->
   ((0<li)->DrawV λD16=>(D16 b1/\LoadS w'.drew ⟨b1,1,none⟩ (.int .i64) λ(x17:Int)=>Rng .i64 (x17-1) /\
    StoreV w'.drew ⟨b7,4,none⟩ [.bool true] λw18=>KeepOn D16 w'.drew w18/\StoreV w18 ⟨b7,1,none⟩ [.int .i64 (x17-1)] λw19=>KeepOn D16 w'.drew w19/\StoreV w19 ⟨b7,2,none⟩ [.int .i64 li] λw20=>KeepOn D16 w'.drew w20 /\
    LoadA w20 ⟨b7,0,none⟩ [.int .i64,.int .i64,.int .i64,.int .i64,.bool,.bool,.bool,.bool,.bool] λ(x:Int×Int×Int×Int×Bool×Bool×Bool×Bool×Bool×Unit)=>
   StoreV w20 ⟨b5,0,none⟩ [.int .i64 x.1,.int .i64 x.2.1,.int .i64 x.2.2.1,.int .i64 x.2.2.2.1,.bool x.2.2.2.2.1,.bool x.2.2.2.2.2.1,.bool x.2.2.2.2.2.2.1,.bool x.2.2.2.2.2.2.2.1,.bool x.2.2.2.2.2.2.2.2.1] λw22=>
   LoadA w22 ⟨b5,0,none⟩ [.int .i64,.int .i64,.int .i64,.int .i64,.bool,.bool,.bool,.bool,.bool] λ(x:Int×Int×Int×Int×Bool×Bool×Bool×Bool×Bool×Unit)=>
   (x.1,x.2.1,x.2.2.1,x.2.2.2.1,x.2.2.2.2.1,x.2.2.2.2.2.1,x.2.2.2.2.2.2.1,x.2.2.2.2.2.2.2.1,x.2.2.2.2.2.2.2.2.1,())=(knK g T li mo).tup/\Ext w w22))/\(¬ 0<li->(⟨o,0,0,e,false,false,false,false,false⟩:Blk)=knK g T li mo):=λ{w' o e v5 v3} ho he h5 S=>by
  refine ⟨λhl=>?_,λhl=>?_⟩
  ·refine S.regX (λk=>k=b7) λD hD hkeep S _=>?_
   refine ⟨hD b1 S.bl3 (λe=>n1 e.symm),S.ld3 (j:=1) rfl rfl ⟨Rng.i64 (by omega) (by omega),S.su0 (by rfl) λw9 S f9=>⟨hkeep _ f9,S.su0 (by rfl) λw10 S f10=>⟨hkeep _ (f9.trans f10),S.su0 (by rfl) λw11 S f11=>⟨hkeep _ ((f9.trans f10).trans f11),?_⟩⟩⟩⟩⟩
   refine fin (v:=⟨o,g.p-1,li,e,true,false,false,false,false⟩) ?_ h5 S
   unfold knK
   rw [if_pos hl,if_pos hl,decide_eq_true hl,ho,he]
  ·unfold knK
   rw [if_neg hl,if_neg hl,decide_eq_false hl,ho,he]
 refine S.ld2 (j:=0) rfl rfl (cond_of (λ(hk:T.kn=true)=>?_) (λ(hk:T.kn=false)=>?_))
 ·refine S.regX (λk=>k=b7) λD hD hkeep S _=>?_
  have D3:=hD b3 S.bl2 (λe=>n3 e.symm)
  refine ⟨D3,S.ld2 (j:=1) rfl rfl ⟨D3,S.ld2 (j:=2) rfl rfl (S.su0 (by rfl) λw9 S f9=>⟨hkeep _ f9,S.su0 (by rfl) λw10 S f10=>⟨hkeep _ (f9.trans f10),?_⟩⟩)⟩⟩
  obtain ⟨h1,h2⟩:=two (o:=T.ns) (e:=T.er) (by rw [if_pos hk]) (by rw [if_pos hk]) rfl S
  exact cond_d h1 λhl=>fin (h2 hl) rfl S
 ·have hk:¬ T.kn=true:=by rw [hk];decide
  obtain ⟨h1,h2⟩:=two (o:=-1) (e:=mo) (by rw [if_neg hk]) (by rw [if_neg hk]) rfl S
  exact cond_d h1 λhl=>fin (h2 hl) rfl S
end
abbrev tbE (x:Tb×SlV):List Value:=tbL x.1.kn x.1.ns x.1.er x.1.od x.2
theorem tbE_len (x:Tb×SlV):(tbE x).length=10:=rfl
theorem tbE_one (x:Tb×SlV):oneAll (tbE x):=λu hu=>by
 simp only [List.mem_cons,List.not_mem_nil,or_false] at hu
 rcases hu with rfl | rfl | rfl | rfl | rfl | rfl | rfl | rfl | rfl | rfl <;> rfl
abbrev outT (a:Option Addr) (n c:Nat) (A:List (Tb×SlV)):Asr:=OwnA 38 10 a n c (A.flatMap tbE)
def mosT (A:List (Tb×SlV)):Nat->Int
 | 0=>0
 | i+1=>max (mosT A i) ((A.map (·.1)).getD i Tb0).er
section
variable {E:Nat->Prop} {w0 w:World} {Rs:List Asr} {t:Slt} {h:Hh} {pm p:Nat} {X:List (SlP Ce)} {C:CD} {g:Geo}
theorem most23_c {a:Option Addr} {n c:Nat} {A:List (Tb×SlV)} (h:Own w 0 38 10 a n c (A.flatMap tbE)):CallV Tryz.prog 37 #[.slice a n c] w [.one (.int .i64)] λr w'=>r.1=mosT A A.length/\Ext w w':=by
 apply scan_most.vc
 unfold scan_most.P
 have hl:=h.lenF tbE_len (by decide)
 have hlim:=h.lim
 refine Loop1 (λ(v:Int×Int×Unit) w'=>∃ i:Nat,v.2.1=(i:Int)/\i<=n/\v.1=mosT A i/\Ext w w') (λ(v:Int×Int×Unit) _=>((n:Int)-v.2.1).toNat) ⟨0,rfl,by omega,rfl,Ext.refl w⟩ ?_
 rintro ⟨(m:Int),(v:Int),⟨⟩⟩ w2 ⟨i,hv,hi,hm,x2⟩
 dsimp only at hv hm ⊢
 subst hv
 subst hm
 refine cond_d (λhlt=>?_) (λhge=>⟨by rw [hl];congr 1;omega,x2⟩)
 obtain ⟨q,k,hq,hk,hc,-⟩:=(h.ext x2).nthF tbE_len (by decide) (j:=(i:Int)) (by omega) hlt
 rw [Int.toNat_natCast] at hk
 refine ⟨⟨by omega,hlt⟩,q,hq,(tbT k.1 k.2),hc,?_⟩
 have S:=Sep.start NoB w2
 refine S.newB λb6 w6 S f6 _=>?_
 refine S.st0 (by rfl) λw7 S f7=>S.ld0 (j:=2) rfl rfl ?_
 intro z hz
 refine ⟨Rng.i64 (by omega) (by omega),⟨i+1,by push_cast;rfl,by omega,?_,x2.trans S.ext⟩,by omega⟩
 show z=max (mosT A i) _
 rw [hz,List.getD_eq_getElem?_getD,List.getElem?_map,hk]
 rfl
theorem Put_x {s:Sp} (h:BX X) (hl:0<=s.h.l/\s.h.l<4294967296) (S:Sep E w0 w (mapE pm X::Rs)) :
  CallV Tryz.prog 72 #[.pointer (some ⟨pm,0,none⟩),s.val] w [.one .sl,.one (.int .i64)] λr w'=>Sep E w0 w' (mapE pm (pt1 X s)::Rs):=by
 have hT:okT X s->Told (λ_ _=>True) (putP s X s.h.c.toNat).2:=λhk=>by
  have I:=putP_inv (s:=s) h.ok (okT_ns hk) s.h.c.toNat (by have:=hk.2;omega)
  have hb:∀ k∈(putP s X s.h.c.toNat).2,Bd k:=λk hk=>by
   have:=h.bd k ((I.mem k).1 hk).1
   unfold Bd
   omega
  have hn:(putP s X s.h.c.toNat).2.length<=1000000:=by
   have h1:=nodup_sub (putP s X s.h.c.toNat).2 ((List.range 64).flatMap λb:Nat=>(List.range 32).map λi:Nat=>((b:Int),(i:Int))) I.nd λk hk=>by
    have:=h.bd k ((I.mem k).1 hk).1
    refine List.mem_flatMap.2 ⟨k.1.toNat,List.mem_range.2 (by omega),List.mem_map.2 ⟨k.2.toNat,List.mem_range.2 (by omega),?_⟩⟩
    exact Prod.ext (by show ((k.1.toNat:Nat):Int)=_;omega) (by show ((k.2.toNat:Nat):Int)=_;omega)
   refine Nat.le_trans h1 ?_
   rw [List.length_flatMap]
   simp only [List.length_map,List.length_range]
   decide
  exact λ{E w0 w Rs a n c} S=>((Told.all hb hn) S).mono λrr w' ⟨L',_,h1,h2⟩=>⟨L',trivial,h1,h2⟩
 obtain ⟨r,S⟩:=mapE_out S
 refine Sep.call [boxP pm r X,MapF r (cntX X),ownsA X] S (λG SG=>Put22_c (s:=s) (T:=λ_ _=>True) hl h.ok hT SG) λG fr rr w' hr=>?_
 unfold pt1
 by_cases hk:okT X s
 ·obtain ⟨-,L',-,S'⟩:=hr.2 hk
  rw [if_pos hk]
  exact ((mapE_in ((fr _ _ S').fro [1,1,1] rfl)).fro [1] rfl).tail
 ·obtain ⟨-,-,S'⟩:=hr.1 hk
  rw [if_neg hk]
  exact mapE_in (fr _ _ S')
theorem In_x {bl:Int} (h:BX X) (S:Sep E w0 w (mapE pm X::Rs)):CallV Tryz.prog 36 #[.pointer (some ⟨pm,0,none⟩),.int .i64 bl] w [.one .sl] λr w'=>∃ O:List Sp,InF X bl O/\O.length<=262140/\Sep E w0 w' (outS r.1.a r.1.n r.1.c O::mapE pm X::Rs):=by
 obtain ⟨r,S⟩:=mapE_out S
 refine Sep.call [boxP pm r X,MapF r (cntX X),ownsA X] S (λG SG=>In22_c (blk:=bl) h.ok (λns j c hn hj hc=>by
  have:=h.bd c.pl (cntX_pos h.ok.four hn hj hc)
  unfold Bd
  show -1000<c.s.b/\c.s.b<1000/\-1000<c.s.p/\c.s.p<1000
  have h1:c.pl.1=c.s.b:=rfl
  have h2:c.pl.2=c.s.p:=rfl
  omega) SG) λG fr rr w' hr=>?_
 obtain ⟨Os,hI,hl,S'⟩:=hr
 exact ⟨Os,hI,hl,((mapE_in (((fr _ _ S').fro [1,1,1] rfl))).fro [1] rfl)⟩
theorem sl4_ld {z:Sl4} {ns:Int} {R0 R1:Asr} {b1:Nat} {e:TypeId} {K:Bool×Int×Int×Int×SlV×Unit->Prop} (hn:0<=ns/\ns<4) (S:Sep E w0 w (R0::R1::BoxA b1 e z.vs::Rs)) (hk:K (z.get ns).tup) :
  LoadA w ((⟨b1,0,none⟩:Addr).add (ns.toNat*5)) [.bool,.int .i64,.int .u64,.int .u64,.sl] K:=by
 have:ns=0\/ns=1\/ns=2\/ns=3:=by omega
 rcases this with e | e | e | e <;> subst e
 ·exact S.lb2 (o:=0) rfl hk
 ·exact S.lb2 (o:=5) rfl hk
 ·exact S.lb2 (o:=10) rfl hk
 ·exact S.lb2 (o:=15) rfl hk
theorem put23_c {T:Tb} {y:SlV} {z:Sl4} (h:BX X) (hn:0<=T.ns/\T.ns<4) (hs:SpO T.sp) (S:Sep E w0 w (mapE pm X::outS y.a y.n y.c T.sp::Rs)):CallV Tryz.prog 33 #[.pointer (some ⟨pm,0,none⟩),z.val,T.val y] w [] λr w'=>
  Sep E w0 w' (mapE pm (ptN (z.get T.ns) T.ns T.sp X T.sp.length)::outS y.a y.n y.c T.sp::Rs):=by
 apply scan_put.vc
 unfold scan_put.P
 refine S.newB (vs:=z.vs) λb1 w1 S f1 _=>?_
 refine S.newB (vs:=tbL T.kn T.ns T.er T.od y) λb3 w3 S f3 _=>?_
 refine S.ld0 (j:=9) rfl rfl ?_
 have hlen:T.sp.length=y.n:=(S.own 3 rfl).lenF Spv_len (by decide)
 have hlim:=(S.own 3 rfl).lim
 refine Loop1 (λ(v:Int×Unit) w'=>∃ i:Nat,v.1=(i:Int)/\i<=y.n/\Sep E w0 w' (BoxA b3 38 (tbL T.kn T.ns T.er T.od y)::BoxA b1 29 z.vs::mapE pm (ptN (z.get T.ns) T.ns T.sp X i)::outS y.a y.n y.c T.sp::Rs))
  (λ(v:Int×Unit) _=>((y.n:Int)-v.1).toNat) ⟨0,rfl,by omega,S⟩ ?_
 clear S
 rintro ⟨(v:Int),⟨⟩⟩ w4 ⟨i,hv,hi,S⟩
 dsimp only at hv ⊢
 subst hv
 refine cond_d (λhlt=>?_) (λhge=>?_)
 case refine_2=>
  have hie:i=T.sp.length:=by omega
  subst hie
  exact S.tail.tail
 have hil:i<T.sp.length:=by omega
 obtain ⟨q,s,hq,hk,hc⟩:=S.nthF 3 rfl Spv_len (by decide) (j:=(i:Int)) (by omega) hlt
 rw [Int.toNat_natCast] at hk
 have hB:BX (ptN (z.get T.ns) T.ns T.sp X i):=h.ptN hs i (by omega)
 have hsp:=hs s (List.mem_of_getElem? hk)
 have hst:ptN (z.get T.ns) T.ns T.sp X (i+1)=pt2 (z.get T.ns) T.ns (ptN (z.get T.ns) T.ns T.sp X i) s:=by
  show pt2 _ _ _ _=_
  rw [List.getD_eq_getElem?_getD,hk];rfl
 have rg:Rng .i64 ((i:Int)+1):=Rng.i64 (by omega) (by omega)
 have nxt:∀ {w':World} {Y:List (SlP Ce)},Y=pt2 (z.get T.ns) T.ns (ptN (z.get T.ns) T.ns T.sp X i) s->Sep E w0 w' (BoxA b3 38 (tbL T.kn T.ns T.er T.od y)::BoxA b1 29 z.vs::mapE pm Y::outS y.a y.n y.c T.sp::Rs) ->
   (∃ i':Nat,(i:Int)+1=(i':Int)/\i'<=y.n/\Sep E w0 w' (BoxA b3 38 (tbL T.kn T.ns T.er T.od y)::BoxA b1 29 z.vs::mapE pm (ptN (z.get T.ns) T.ns T.sp X i')::outS y.a y.n y.c T.sp::Rs))/\((y.n:Int)-((i:Int)+1)).toNat<((y.n:Int)-(i:Int)).toNat:=λe S=>by
  refine ⟨⟨i+1,by push_cast;rfl,by omega,?_⟩,by omega⟩
  rw [hst,<- e]
  exact S
 generalize hY:ptN (z.get T.ns) T.ns T.sp X i=Y at S hB nxt
 refine ⟨⟨by omega,hlt⟩,q,hq,s.tup,hc,?_⟩
 refine S.newB λb11 w5 S f5 _=>S.st0 (by rfl) λw6 S f6=>?_
 refine S.reg λD hD hkeep Sd U=>?_
 refine ⟨hD _ S.bl1,Sd.ld1 (j:=1) rfl rfl ?_⟩
 refine (Size_m (ns:=T.ns) hB.ok.four (Sd.fro [3] rfl)).mono ?_
 rintro ⟨(r:Int),⟨⟩⟩ w7 ⟨h7,rfl⟩
 dsimp only at h7 ⊢
 subst h7
 refine ⟨hkeep _ U.fr,cond_d (λhz=>?_) (λhz=>⟨rg,nxt (by unfold pt2;rw [if_neg λk=>hz (by have:=k.1;omega)]) Sd.tail⟩)⟩
 refine ⟨hD _ S.bl1,Sd.ld1 (j:=1) rfl rfl ⟨hn,by rw [add_block];exact hD _ S.bl2,sl4_ld hn Sd ?_⟩⟩
 refine ⟨hD _ S.bl0,Sd.lb0 (o:=2) rfl ?_⟩
 refine (SDead_c (t:=z.get T.ns) (h:=s.h)).mono ?_
 rintro ⟨(r:Bool),⟨⟩⟩ w8 ⟨h8,x8⟩
 dsimp only at h8 ⊢
 have U:=U.stepE x8
 have S:=Sd.stepE x8
 refine ⟨hkeep _ U.fr,?_⟩
 by_cases hd:ddS (z.get T.ns) s.h
 ·exact cond_f (by rw [h8,decide_eq_true hd];rfl) ⟨rg,nxt (by unfold pt2;rw [if_neg λk=>k.2 hd]) S.tail⟩
 ·refine cond_t (by rw [h8,decide_eq_false hd];rfl) (S.la0 rfl ?_)
  refine (Put_x (s:=s) hB hsp.1 (S.fro [3] rfl)).mono ?_
  rintro ⟨⟨_,_,_⟩,(e:Int),⟨⟩⟩ w9 S
  exact ⟨rg,nxt (by unfold pt2;rw [if_pos ⟨by omega,hd⟩]) ((S.fro [1] rfl).tail.fro [1,1] rfl)⟩
end
structure NewF (X:List (SlP Ce)) (f:Int->Nat):Prop where
 ok:XOk X
 l:∀ ns,(getX X ns).l=List.replicate (f ns) Ce0
 n:∀ ns,(getX X ns).n=f ns
theorem NewF.zero:NewF X0 λ_=>0:=
 have e:∀ ns:Int,(if ns=0 then 0 else if ns=1 then 0 else 0)=0:=λns=>by
  by_cases h:ns=0
  ·rw [if_pos h]
  ·rw [if_neg h,ite_self]
 ⟨X0_ok,λns=>by rw [New0.zero.l,e],λns=>by rw [New0.zero.n,e]⟩
theorem NewF.add {X:List (SlP Ce)} {f f':Int->Nat} {ns:Int} {v:Nat} {x:SlP Ce} (h:NewF X f) (hn:0<=ns/\ns<4) (hx1:x.l=List.replicate v Ce0) (hx2:x.n=v) (hv:v<=65535) (hf:∀ m,f' m=if m=ns then v else f m):NewF (X.set ns.toNat x) f':=
 ⟨ok_new h.ok ⟨by rw [hx1,List.length_replicate,hx2],by omega⟩,λm=>by
  rw [getX_set h.ok.four hn,hf]
  by_cases e:m=ns
  ·rw [if_pos e,if_pos e];exact hx1
  ·rw [if_neg e,if_neg e];exact h.l m,λm=>by
  rw [getX_set h.ok.four hn,hf]
  by_cases e:m=ns
  ·rw [if_pos e,if_pos e];exact hx2
  ·rw [if_neg e,if_neg e];exact h.n m⟩
theorem NewF.cnt {X:List (SlP Ce)} {f:Int->Nat} (h:NewF X f) (k:Int×Int):¬ 1<=cntX X k:=λh1=>by
 obtain ⟨m,j,c,hm,hj,hc,-⟩:=cell_ex h.ok.four h1
 rw [h.l] at hj
 have:=List.eq_of_mem_replicate (List.mem_of_getElem? hj)
 rw [this] at hc
 cases hc
theorem NewF.bx {X:List (SlP Ce)} {f:Int->Nat} (h:NewF X f):BX X:=⟨h.ok,λk hk=>absurd hk (h.cnt k)⟩
def szS (t:Slt):Nat:=if okSl t/\t.us=true then t.sz.toNat else 0
def szF (z:Sl4) (i:Int) (ns:Int):Nat:=if 0<=ns/\ns<i then szS (z.get ns) else 0
section
variable {E:Nat->Prop} {w0 w:World} {Rs:List Asr} {z:Sl4} {pm p:Nat} {X:List (SlP Ce)} {C:CD} {g:Geo}
theorem mapped23_c (S:Sep E w0 w Rs):CallV Tryz.prog 30 #[z.val] w [.one .ptr] λr w'=>∃ (pm:Nat) (X:List (SlP Ce)),r.1=some (⟨pm,0,none⟩:Addr)/\NewF X (szF z 4)/\Sep E w0 w' (mapE pm X::Rs):=by
 apply scan_mapped.vc
 unfold scan_mapped.P
 refine S.newB (vs:=z.vs) λb1 w1 S f1 _=>?_
 refine (New_m S).mono ?_
 rintro ⟨r,⟨⟩⟩ w2 ⟨pm,hr,S⟩
 dsimp only at hr
 subst hr
 refine S.la1 rfl ?_
 dsimp only
 refine Loop1 (λ(v:Int×Unit) w'=>(0<=v.1/\v.1<=4)/\∃ X:List (SlP Ce),NewF X (szF z v.1)/\Sep E w0 w' (mapE pm X::BoxA b1 29 z.vs::Rs)) (λ(v:Int×Unit) _=>(4-v.1).toNat) ⟨⟨by decide,by decide⟩,X0,?_,S⟩ ?_
 ·have e:szF z 0=λ_=>0:=funext λns=>by unfold szF;rw [if_neg (by omega)]
  show NewF X0 (szF z 0)
  rw [e]
  exact NewF.zero
 clear S
 rintro ⟨(v:Int),⟨⟩⟩ w3 ⟨hv,X,hX,S⟩
 dsimp only at hv hX ⊢
 refine cond_d (λhlt=>?_) (λhge=>?_)
 case refine_2=>
  have:v=4:=by omega
  subst this
  exact ⟨pm,X,rfl,hX,(S.fro [1] rfl).tail⟩
 refine ⟨⟨hv.1,hlt⟩,(z.get v).tup,?_,?_⟩
 ·have:v=0\/v=1\/v=2\/v=3:=by omega
  rcases this with e | e | e | e <;> subst e <;> rfl
 have hn:0<=v/\v<4:=⟨hv.1,hlt⟩
 have hne:∀ m:Int,m≠v->szF z (v+1) m=szF z v m:=λm hm=>by
  unfold szF
  by_cases e:0<=m/\m<v
  ·rw [if_pos e,if_pos (by omega)]
  ·rw [if_neg e,if_neg (by omega)]
 have heq:szF z (v+1) v=szS (z.get v):=by unfold szF;rw [if_pos (by omega)]
 have h0:szF z v v=0:=by unfold szF;rw [if_neg (by omega)]
 have rg:Rng .i64 (v+1):=Rng.i64 (by omega) (by omega)
 have no:¬ (okSl (z.get v)/\(z.get v).us=true)->∀ {w':World},Sep E w0 w' (mapE pm X::BoxA b1 29 z.vs::Rs)->((0<=v+1/\v+1<=4)/\∃ X:List (SlP Ce),NewF X (szF z (v+1))/\Sep E w0 w' (mapE pm X::BoxA b1 29 z.vs::Rs))/\(4-(v+1)).toNat<(4-v).toNat:=λh w' S=>by
  have e:szF z (v+1)=szF z v:=funext λm=>by
   by_cases e:m=v
   ·subst e
    rw [heq,h0]
    unfold szS
    rw [if_neg h]
   ·exact hne m e
  refine ⟨⟨by omega,X,?_,S⟩,by omega⟩
  rw [e]
  exact hX
 refine S.newB λb10 w4 S f4 _=>S.st0 (by rfl) λw5 S f5=>S.la0 rfl ?_
 refine (SRight_c (t:=z.get v)).mono ?_
 rintro ⟨(r:Bool),⟨⟩⟩ w6 ⟨h6,x6⟩
 dsimp only at h6 ⊢
 have S:=S.stepE x6
 by_cases hk:okSl (z.get v)
 case neg=>exact cond_f (by rw [h6,decide_eq_false hk]) ⟨rg,no (λk=>hk k.1) S.tail⟩
 refine cond_t (by rw [h6,decide_eq_true hk]) (S.ld0 (j:=0) rfl rfl (cond_of (λ(hu:(z.get v).us=true)=>?_) (λ(hu:(z.get v).us=false)=>⟨rg,no (λk=>by rw [hu] at k;exact absurd k.2 (by decide)) S.tail⟩)))
 refine S.ld0 (j:=1) rfl rfl ?_
 have hz:1<=(z.get v).sz/\(z.get v).sz<=65535:=by
  have:=hk
  unfold okSl at this
  rw [if_pos hu] at this
  exact this.1
 refine (Add_m (ns:=v) (size:=(z.get v).sz) hX.ok hn (by rw [hX.n,h0]) hz (S.fro [1] rfl)).mono ?_
 rintro ⟨(r2:Int),⟨⟩⟩ w7 ⟨-,x,hx1,hx2,S⟩
 refine ⟨rg,⟨by show 0<=v+1/\v+1<=4;omega,_,hX.add hn hx1 hx2 (by omega) λm=>?_,(S.fro [1] rfl).tail⟩,by show (4-(v+1)).toNat<(4-v).toNat;omega⟩
 by_cases e:m=v
 ·rw [if_pos e,e,heq]
  unfold szS
  rw [if_pos ⟨hk,hu⟩]
 ·rw [if_neg e];exact hne m e
end
section
variable {F:Nat->Prop} {w:World} {p:Nat} {a:Option Addr} {n c:Nat} {L:List Blk} {b:Int} {blk o qb:Nat} {e eq:TypeId} {pre post:List Value} {x y:Blk}
theorem Set1_21 (ho:o=pre.length) (S:Sep F w w [BoxA blk e (pre++(x.vs++post)),BoxA qb eq y.vs]) :
  CallV Tryz.prog 78 #[.pointer (some ⟨blk,o,none⟩),.pointer (some ⟨qb,0,none⟩)] w [] λ_ w'=>Sep F w w' [BoxA blk e (pre++(y.vs++post)),BoxA qb eq y.vs]:=by
 apply ledger_Ledger_Set_1.vc
 unfold ledger_Ledger_Set_1.P
 refine S.la1 rfl ?_
 refine S.stM0 0 rfl ho (by simp) λw1 S f=>?_
 exact S
theorem Set21_c (S:Sep F w w (LedP p a n c L)):CallV Tryz.prog 38 #[.pointer (some ⟨p,0,none⟩),.int .i64 b,y.val] w [.one (.int .i64)] λr w'=>
  r.1=chE b n/\Sep F w w' (LedP p a n c (chL b n (λ_=>y) L)):=by
 apply ledger_Ledger_Set.vc
 unfold ledger_Ledger_Set.P
 refine S.newB λqb w1 S1 f1 _=>?_
 refine Sep.call (LedP p a n c L++[BoxA qb _ y.vs]) (Ts:=[]) (S1.sel [1,1,0] rfl) (λF S=>change_d (b:=b) (φ:=λ_=>y) (C':=BoxA qb _ y.vs) (by kernel_rfl) (λF w1 blk o e pre post x _ ho S=>Set1_21 ho S) S) ?_
 rintro F2 back ⟨(r:Int),⟨⟩⟩ w2 ⟨h,S3⟩
 exact ⟨h,(back _ _ S3).sel [0,0] rfl⟩
end
section
variable {E:Nat->Prop} {w0 w:World} {Rs:List Asr} {z:Sl4} {pm p q:Nat} {X:List (SlP Ce)} {C:CD} {g:Geo} {L:List Blk}
theorem Set_e {b:Int} {y:Blk} (S:Sep E w0 w (ledE q L::Rs)):CallV Tryz.prog 38 #[.pointer (some ⟨q,0,none⟩),.int .i64 b,y.val] w [.one (.int .i64)] λr w'=>
  r.1=chE b L.length/\Sep E w0 w' (ledE q (chL b L.length (λ_=>y) L)::Rs):=led_call S λG a c SG=>Set21_c SG
theorem New_e {n:Int} (h:0<=n/\n<=64) (S:Sep E w0 w Rs):CallV Tryz.prog 34 #[.int .i64 n] w [.one .ptr,.one (.int .i64)] λr w'=>
  r.2.1=(0:Int)/\∃ q:Nat,r.1=some (⟨q,0,none⟩:Addr)/\Sep E w0 w' (ledE q (List.replicate n.toNat Blk.new)::Rs):=by
 refine (New21_c h).mono ?_
 rintro ⟨r,(e:Int),⟨⟩⟩ w1 ⟨h1,p,a,c,h2,S1⟩
 refine ⟨h1,p,h2,ledE_in (a:=a) (c:=c) (n:=n.toNat) ?_⟩
 exact S.frame0 S1
def TbC (C:CD) (i:Nat):Tb:=tdB C.g (4+(i:Int)) (blkC C (4+(i:Int))).pg
def arX (C:CD) (z:Sl4) (X:List (SlP Ce)):Nat->List (SlP Ce)
 | 0=>X
 | i+1=>ptN (z.get (TbC C i).ns) (TbC C i).ns (TbC C i).sp (arX C z X i) (TbC C i).sp.length
def mosC (C:CD):Nat->Int
 | 0=>0
 | i+1=>max (mosC C i) (TbC C i).er
def bit23 (bad j:Int):Bool:=(Go.bits .and .u64 (Int.fdiv bad (2 ^ (Nat.min j.toNat 64))) 1) == 1
def blk23 (C:CD) (bad:Int) (X:List (SlP Ce)) (n i:Nat):Blk:={knK C.g (TbC C i) ((inP X (4+(i:Int))).length:Int) (mosC C n) with ba:=bit23 bad (4+(i:Int))}
theorem td_ns {g:Geo} {bl:Int} {L:List (List Int)} (hL:∀ q∈L,Byt q):0<=(tdB g bl L).ns/\(tdB g bl L).ns<4:=by
 unfold tdB
 split
 ·rename_i h
  refine ⟨?_,h.2⟩
  show 0<=(endP g (L.getD 0 [])).getD 1 0
  rw [List.getD_eq_getElem?_getD]
  cases hx:(endP g (L.getD 0 []))[1]? with
  | none=>show (0:Int)<=0;omega
  | some v=>
   have hm:v∈L.getD 0 []:=List.mem_of_mem_drop (List.mem_of_getElem? hx)
   have hq:L.getD 0 []∈L:=by
    rw [List.getD_eq_getElem?_getD] at hm ⊢
    cases hy:L[0]? with
    | none=>rw [hy] at hm;cases hm
    | some q=>exact List.mem_of_getElem? hy
   exact (hL _ hq v hm).1
 ·exact ⟨by decide,by decide⟩
theorem Hh_one (h:Hh):oneAll h.vs:=λu hu=>by
 simp only [List.mem_cons,List.not_mem_nil,or_false] at hu
 rcases hu with rfl | rfl | rfl | rfl | rfl | rfl <;> rfl
theorem spB_tel {g:Geo} {bl ns:Int} {od:Hh} {L:List (List Int)}:∀ {n:Nat} {s:Sp},s∈spB g bl ns od L n->∃ i:Nat,tel g ns L i/\s.h=hh23 (hd23 g L i)
 | 0,s,h=>(List.not_mem_nil h).elim
 | n+1,s,h=>by
  unfold spB at h
  rcases List.mem_append.1 h with h | h
  ·exact spB_tel h
  ·split at h
   ·rename_i ht
    have h:=List.mem_singleton.1 h
    subst h
    exact ⟨n+1,ht,rfl⟩
   ·cases h
theorem td_sp {g:Geo} {bl:Int} {L:List (List Int)} (hL:∀ q∈L,Byt q) (hb:0<=bl/\bl<64) (hp:g.p<=32):SpO (tdB g bl L).sp:=by
 unfold tdB
 split
 ·intro s hs
  obtain ⟨h1,h2,h3,h4,i,h5,h6,h7,h8⟩:=spB_mem hs
  refine ⟨?_,by omega,by omega⟩
  obtain ⟨i,ht,h9⟩:=spB_tel hs
  rw [h9]
  have hl:lenP g (L.getD i []):=ht.1.elim (λk=>k.1) (λk=>k.1)
  have hq:Byt (L.getD i []):=by
   rw [List.getD_eq_getElem?_getD]
   cases hy:L[i]? with
   | none=>intro y hy;exact (List.not_mem_nil hy).elim
   | some q=>exact hL _ (List.mem_of_getElem? hy)
  have hs0:0<=g.s:=by have:=hl.1;unfold Right Kept at this;omega
  refine (hdOf_rng (λy hy=>hq y (List.mem_of_mem_drop hy)) ?_).1
  show 24<=(List.drop _ _).length
  rw [List.length_drop]
  have:=hl.2
  omega
 ·intro s hs;exact (List.not_mem_nil hs).elim
theorem inF_inP {X:List (SlP Ce)} {bl:Int} {O:List Sp} (h:BX X) (hI:InF X bl O):O.map Sp.pk=inP X bl:=by
 refine so_eq (List.pairwise_map.2 hI.so) (inP_so _ _) λk=>?_
 rw [inP_mem]
 constructor
 ·intro hk
  obtain ⟨x,hx,rfl⟩:=List.mem_map.1 hk
  have h1:=hI.ok x hx
  exact ⟨h1.1,(h.bd _ h1.2).2,h1.2⟩
 ·rintro ⟨h1,-,h2⟩
  obtain ⟨ns,j,c,hn,hj,hc,rfl⟩:=cell_ex h.ok.four h2
  exact hI.all c (List.mem_flatMap.2 ⟨_,List.mem_of_getElem? (getX_at h.ok.four hn),List.mem_of_getElem? hj⟩) hc h1
def mk23 (C:CD) (bad:Int) (X:List (SlP Ce)) (n i:Nat):List Blk:=(List.range i).map (blk23 C bad X n)++List.replicate (n-i) Blk.new
theorem mk23_len {C:CD} {bad:Int} {X:List (SlP Ce)} {n i:Nat} (h:i<=n):(mk23 C bad X n i).length=n:=by
 unfold mk23
 rw [List.length_append,List.length_map,List.length_range,List.length_replicate]
 omega
theorem mk23_set {C:CD} {bad:Int} {X:List (SlP Ce)} {n i:Nat} (h:i<n):chL (i:Int) n (λ_=>blk23 C bad X n i) (mk23 C bad X n i)=mk23 C bad X n (i+1):=by
 unfold chL
 rw [if_pos (show inB (i:Int) n by unfold inB;omega),Int.toNat_natCast]
 unfold mk23
 rw [List.set_append_right _ _ (by rw [List.length_map,List.length_range];exact Nat.le_refl _),List.length_map,List.length_range,Nat.sub_self,List.range_succ,List.map_append,List.append_assoc]
 obtain ⟨m,hm⟩:∃ m,n-i=m+1:=⟨n-i-1,by omega⟩
 rw [hm,show n-(i+1)=m by omega,List.replicate_succ]
 rfl
theorem mosT_eq {C:CD} {A:List (Tb×SlV)} {n:Nat} (hA:A.map (·.1)=(List.range n).map (TbC C)):∀ i:Nat,i<=n->mosT A i=mosC C i
 | 0,_=>rfl
 | i+1,h=>by
  unfold mosT mosC
  rw [mosT_eq hA i (by omega),hA,List.getD_eq_getElem?_getD,List.getElem?_map,List.getElem?_range (by omega)]
  rfl
abbrev ordH (o:SlV) (L:List Hh):Asr:=OwnA 35 6 o.a o.n o.c (L.flatMap Hh.vs)
abbrev odC (C:CD) (i:Nat):List Hh:=(List.range i).map λj=>(TbC C j).od
def ArR (E:Nat->Prop) (w0:World) (Rs:List Asr) (p:Nat) (C:CD) (z:Sl4) (bad:Int) (r:(Option Addr×Option Addr×SlV×Unit)×Int×Unit) (w':World):Prop:=
 (C.off=true->r.2.1=(4:Int)/\Sep E w0 w' (chipE p C::Rs)) /\
 (C.off=false->r.2.1=(0:Int)/\∃ (pm q:Nat) (o:SlV) (X:List (SlP Ce)),NewF X (szF z 4)/\r.1=(some (⟨pm,0,none⟩:Addr),some (⟨q,0,none⟩:Addr),o,()) /\
  Sep E w0 w' (mapE pm (arX C z X (nG C.g))::ledE q ((List.range (nG C.g)).map (blk23 C bad (arX C z X (nG C.g)) (nG C.g)))::ordH o (odC C (nG C.g))::chipE p C::Rs))
abbrev foL (a b:Option Addr) (o:SlV):List Value:=[.pointer a,.pointer b,.slice o.a o.n o.c]
theorem Array23_c {bad:Int} (hC:COk C) (S:Sep E w0 w (chipE p C::Rs)):CallV Tryz.prog 12 #[.pointer (some ⟨p,0,none⟩),z.val,.int .u64 bad] w [.agg [.ptr,.ptr,.sl],.one (.int .i64)] (ArR E w0 Rs p C z bad):=by
 apply scan_Array.vc
 unfold scan_Array.P
 obtain ⟨⟨n1,n2⟩,n3,n4⟩:(7<=C.g.b/\C.g.b<=16)/\4<=C.g.p/\C.g.p<=20:=by have h0:=hC.g;unfold Right Kept at h0;have h2:=hC.lg.2.1;have h3:=hC.lg.1;omega
 refine S.newB (vs:=z.vs) λb1 w1 S f1 _=>?_
 refine S.newB λb3 w3 S f3 _=>?_
 refine (On_e hC (S.fro [2] rfl)).mono ?_
 rintro ⟨(r:Bool),⟨⟩⟩ w4 ⟨h4,e4⟩
 subst e4
 dsimp only at h4 ⊢
 subst h4
 by_cases hoff:C.off=true
 ·refine cond_t (by rw [hoff];rfl) (S.st0 (by rfl) λw5 S f5=>S.la0 rfl ⟨λ_=>⟨rfl,S.tail.tail⟩,λh=>by rw [hoff] at h;cases h⟩)
 have hof:C.off=false:=by simpa using hoff
 refine cond_f (by rw [hof];rfl) ?_
 refine (Geometry_e (S.fro [2] rfl)).mono ?_
 rintro ⟨_,⟨⟩⟩ w5 ⟨h5,x5⟩
 dsimp only at h5
 subst h5
 have S:=S.stepE x5
 refine S.newB λb11 w6 S f6 _=>S.st0 (by rfl) λw7 S f7=>?_
 refine S.la2 rfl ?_
 refine (mapped23_c (z:=z) S).mono ?_
 rintro ⟨_,⟨⟩⟩ w8 ⟨pm,X,h8,hX,S⟩
 dsimp only at h8
 subst h8
 refine S.newB λb17 w9 S f9 _=>S.st0 (by rfl) λw10 S f10=>?_
 refine S.la2 rfl ?_
 refine (Data_c (g:=C.g)).mono ?_
 rintro ⟨(nn:Int),⟨⟩⟩ w11 ⟨h11,x11⟩
 dsimp only at h11 ⊢
 rw [if_pos hC.g] at h11
 have S:=S.stepE x11
 have hN:nn=((nG C.g:Nat):Int):=by rw [h11];unfold nG;omega
 subst hN
 clear h11
 have hN12:nG C.g<=12/\((nG C.g:Nat):Int)=C.g.b-4:=by unfold nG;omega
 have S:=(S.nilOwn 38 10).nilOwn 35 6
 have hpg:∀ i:Nat,i<nG C.g->BOk C.g C.ops (blkC C (4+(i:Int))):=λi hi=>hC.bo _ (List.mem_of_getElem? (some_getD (by rw [hC.bl];omega)))
 have hbyt:∀ i:Nat,i<nG C.g->∀ q∈(blkC C (4+(i:Int))).pg,Byt q:=λi hi q hq=>((hpg i hi).pb q hq).2
 have hBX:∀ i:Nat,i<=nG C.g->BX (arX C z X i):=λi=>by
  induction i with
  | zero=>intro _;exact hX.bx
  | succ i ih=>intro hi;exact (ih (by omega)).ptN (td_sp (hbyt i (by omega)) (by omega) (by omega)) _ (Nat.le_refl _)
 refine Loop1 (λ(v:SlV×Int×Unit) w'=>∃ (i:Nat) (A:List (Tb×SlV)) (o:SlV),v.2.1=(i:Int)/\i<=nG C.g/\A.map (·.1)=(List.range i).map (TbC C)/\o.n=i/\v.1.n=i /\
   Sep E w0 w' (BoxA b17 69 (foL (some ⟨pm,0,none⟩) none o)::ordH o (odC C i)::outT v.1.a v.1.n v.1.c A::mapE pm (arX C z X i)::BoxA b11 23 C.g.vs::BoxA b3 69 (foL none none ⟨none,0,0⟩)::BoxA b1 29 z.vs::chipE p C::Rs))
  (λ(v:SlV×Int×Unit) _=>((nG C.g:Int)-v.2.1).toNat) ⟨0,[],⟨none,0,0⟩,rfl,by omega,rfl,rfl,rfl,S.fro [2,0,0] rfl⟩ ?_
 clear S
 rintro ⟨⟨va,vn,vc⟩,(v:Int),⟨⟩⟩ w12 ⟨i,A,o,hv,hi,hA,hon,hvn,S⟩
 dsimp only at hv hvn S ⊢
 subst hv
 have hAl:A.length=i:=by have:=congrArg List.length hA;simpa using this
 refine cond_d (λhlt=>?_) (λhge=>?_)
 ·refine S.la4 rfl ⟨Rng.i64 (by omega) (by omega),?_⟩
  refine (pages23_c (bl:=4+(i:Int)) hC (by omega) (S.fro [7] rfl)).mono ?_
  rintro ⟨_,(r:Int),⟨⟩⟩ w13 ⟨-,h13⟩
  obtain ⟨hr,y,hy,hyl,hyn,hLs⟩:=h13 hof
  dsimp only at hr hy
  subst hr
  subst hy
  have S:=S.stepE hLs.ext
  have hrd:TBB.rd w13 All y:=lst_rd hLs
  refine cond_f rfl (S.la4 rfl ⟨Rng.i64 (by omega) (by omega),?_⟩)
  refine (Block23_c (g:=C.g) (bl:=4+(i:Int)) hrd (Rng.i64 (by omega) (by omega))).mono ?_
  have hyl:pg23 y=(blkC C (4+(i:Int))).pg:=hyl
  have hT:tdA C.g (4+(i:Int)) (pg23 y) y.n=TbC C i:=by unfold tdA TbC;rw [if_pos ⟨hC.g,by omega⟩,hyl]
  rw [hT]
  rintro ⟨_,⟨⟩⟩ w14 ⟨y2,h14,S2⟩
  dsimp only at h14
  subst h14
  have S:=S.frame0 S2
  refine S.newB λb34 w15 S f15 _=>S.st0 (by rfl) λw16 S f16=>?_
  refine S.ld2 (j:=0) rfl rfl (S.la8 rfl (S.la0 rfl ?_))
  refine (put23_c (T:=TbC C i) (y:=y2) (z:=z) (hBX i hi) (td_ns (hbyt i (by omega))) (td_sp (hbyt i (by omega)) (by omega) (by omega)) (S.fro [5,1] rfl)).mono ?_
  rintro ⟨⟩ w17 S
  subst hvn
  generalize hTT:TbC C vn=T at S
  have S:=S.fro [3,3,3] rfl
  have rg:Rng .i64 ((vn:Int)+1):=Rng.i64 (by omega) (by omega)
  refine Sep.regC [_,_,_] S λG D hG U S hDt hDo hkeep back=>?_
  refine ⟨hDt 2 _ _ _ rfl,S.la5 rfl ⟨hDt 2 _ _ _ rfl,S.lb5 (o:=3) rfl ?_⟩⟩
  have nxt:∀ {w':World} {a1 a2:Option Addr} {c1 c2:Nat} {P Q:Asr},Sep G w17.drew w' [BoxA b17 69 (foL (some ⟨pm,0,none⟩) none ⟨a1,o.n+1,c1⟩),OwnA 35 6 a1 (o.n+1) c1 ((odC C vn).flatMap Hh.vs++T.od.vs),OwnA 38 10 a2 (vn+1) c2 (A.flatMap tbE++tbE (T,y2)),P,Q] ->
    (∃ (i:Nat) (A:List (Tb×SlV)) (o:SlV),(vn:Int)+1=(i:Int)/\i<=nG C.g/\A.map (·.1)=(List.range i).map (TbC C)/\o.n=i/\vn+1=i /\
     Sep E w0 w' (BoxA b17 69 (foL (some ⟨pm,0,none⟩) none o)::ordH o (odC C i)::outT a2 (vn+1) c2 A::mapE pm (arX C z X i)::BoxA b11 23 C.g.vs::BoxA b3 69 (foL none none ⟨none,0,0⟩)::BoxA b1 29 z.vs::chipE p C::Rs)) /\
    ((nG C.g:Int)-((vn:Int)+1)).toNat<((nG C.g:Int)-(vn:Int)).toNat:=λ{w' a1 a2 c1 c2 P Q} U=>by
   refine ⟨⟨vn+1,A++[(T,y2)],⟨a1,o.n+1,c1⟩,by push_cast;rfl,by omega,?_,by show o.n+1=vn+1;omega,rfl,?_⟩,by omega⟩
   ·rw [List.map_append,hA,List.range_succ,List.map_append,<- hTT];rfl
   ·have S:=back _ _ U
    have e1:(odC C (vn+1)).flatMap Hh.vs=(odC C vn).flatMap Hh.vs++T.od.vs:=by
     unfold odC
     rw [List.range_succ,List.map_append,List.flatMap_append,<- hTT]
     simp
    have e2:(A++[(T,y2)]).flatMap tbE=A.flatMap tbE++tbE (T,y2):=by rw [List.flatMap_append];simp
    have e3:arX C z X (vn+1)=ptN (z.get T.ns) T.ns T.sp (arX C z X vn) T.sp.length:=by rw [<-hTT];rfl
    show Sep E w0 w' (_::OwnA _ _ _ _ _ ((odC C (vn+1)).flatMap Hh.vs)::OwnA _ _ _ _ _ ((A++[(T,y2)]).flatMap tbE)::mapE pm (arX C z X (vn+1))::_)
    rw [e1,e2,e3]
    have S:=(S.fro [3] rfl).tail
    have S:=(S.fro [3] rfl).tail
    have S:=(S.fro [4] rfl).tail
    have S:=(S.fro [4] rfl).tail
    exact S
  repeat' first
   | refine ⟨hkeep _ U.fr,?_⟩
   | exact ⟨rg,nxt U⟩
   | (refine U.ld0 (j:=2) rfl rfl ?_;dsimp only)
   | (refine U.newB (vs:=tbE (T,y2)) λb w' U f _=>?_;have U:=U.fro [1,1,1] rfl)
   | (refine U.newB (vs:=T.od.vs) λb w' U f _=>?_;have U:=U.fro [1,1,1] rfl)
   | (refine AppS.of (news:=tbE (T,y2)) rfl (.inr ⟨_,rfl,U.cells 3 rfl⟩) ?_;refine U.ap2 rfl (tbE_one _) (by omega) (by omega) λa' c' w' U f=>?_)
   | (refine AppS.of (news:=tbE (T,y2)) rfl (.inr ⟨_,rfl,U.cells 4 rfl⟩) ?_;refine U.ap2 rfl (tbE_one _) (by omega) (by omega) λa' c' w' U f=>?_)
   | (refine AppS.of (news:=T.od.vs) rfl (.inr ⟨_,rfl,U.cells 3 rfl⟩) ?_;refine U.ap1 rfl (Hh_one _) (by omega) (by omega) λa' c' w' U f=>?_)
   | (refine AppS.of (news:=T.od.vs) rfl (.inr ⟨_,rfl,U.cells 4 rfl⟩) ?_;refine U.ap1 rfl (Hh_one _) (by omega) (by omega) λa' c' w' U f=>?_)
   | refine U.su0 (by rfl) λw' U f=>?_
   | refine ⟨?_,?_⟩
 ·have hie:i=nG C.g:=by omega
  subst hie
  have hXB:=hBX _ (Nat.le_refl _)
  have hmo:mosT A A.length=mosC C (nG C.g):=by rw [hAl];exact mosT_eq hA _ (Nat.le_refl _)
  have hX0:=hX
  clear hBX hbyt
  generalize hX':arX C z X (nG C.g)=X' at S hXB
  refine (New_e (n:=((vn:Nat):Int)) (by omega) S).mono ?_
  rintro ⟨_,(e:Int),⟨⟩⟩ w13 ⟨-,q,h13,S⟩
  dsimp only at h13
  subst h13
  refine S.su1 (j:=1) (by rfl) λw14 S f14=>?_
  have hvN:((vn:Nat):Int).toNat=nG C.g:=by omega
  rw [hvN] at S
  refine Loop1 (λ(v:Int×Unit) w'=>∃ i:Nat,v.1=(i:Int)/\i<=nG C.g/\Sep E w0 w' (ledE q (mk23 C bad X' (nG C.g) i)::BoxA b17 69 (foL (some ⟨pm,0,none⟩) (some ⟨q,0,none⟩) o)::ordH o (odC C (nG C.g))::outT va vn vc A::mapE pm X'::BoxA b11 23 C.g.vs::BoxA b3 69 (foL none none ⟨none,0,0⟩)::BoxA b1 29 z.vs::chipE p C::Rs))
   (λ(v:Int×Unit) _=>((vn:Int)-v.1).toNat) ⟨0,rfl,by omega,S⟩ ?_
  clear S
  rintro ⟨(v:Int),⟨⟩⟩ w15 ⟨i,hv,hi2,S⟩
  dsimp only at hv ⊢
  subst hv
  refine cond_d (λhlt=>?_) (λhge=>?_)
  case refine_2=>
   have hie:i=nG C.g:=by omega
   subst hie
   refine S.la1 rfl (S.st6 (by rfl) λw16 S f16=>S.la6 rfl ⟨λh=>absurd h hoff,λ_=>⟨rfl,pm,q,o,X,hX0,rfl,?_⟩⟩)
   rw [hX']
   have S:=(S.fro [1] rfl).tail
   have S:=(S.fro [2] rfl).tail
   have S:=(S.fro [3] rfl).tail
   have S:=(S.fro [3] rfl).tail
   have S:=(S.fro [3] rfl).tail
   unfold mk23 at S
   rw [Nat.sub_self,List.replicate_zero,List.append_nil] at S
   exact S.fro [2] rfl
  obtain ⟨q1,⟨kT,ky⟩,hq,hk,hc⟩:=S.nthF 3 rfl tbE_len (by decide) (j:=(i:Int)) (by omega) hlt
  rw [Int.toNat_natCast] at hk
  have hkT:kT=TbC C i:=by
   have h1:=congrArg (λl=>l[i]?) hA
   simp only [List.getElem?_map,hk,List.getElem?_range (show i<nG C.g by omega)] at h1
   exact Option.some.inj h1
  subst hkT
  refine ⟨⟨by omega,hlt⟩,q1,hq,tbT (TbC C i) ky,hc,?_⟩
  refine S.newB λb97 w16 S f16 _=>S.st0 (by rfl) λw17 S f17=>?_
  refine ⟨λv w'=>∃ (b:Nat) (P:Asr),v.1=some (⟨b,0,none⟩:Addr)/\Sep E w0 w' (BoxA b 98 (knK C.g (TbC C i) ((inP X' (4+(i:Int))).length:Int) (mosC C (nG C.g))).vs::P::mapE pm X'::BoxA b97 38 (tbE (TbC C i,ky))::ledE q (mk23 C bad X' (nG C.g) i)::BoxA b17 69 (foL (some ⟨pm,0,none⟩) (some ⟨q,0,none⟩) o)::ordH o (odC C (nG C.g))::outT va vn vc A::BoxA b11 23 C.g.vs::BoxA b3 69 (foL none none ⟨none,0,0⟩)::BoxA b1 29 z.vs::chipE p C::Rs),?_,?_⟩
  ·rintro ⟨va2,⟨⟩⟩ w18 ⟨b,P,h1,S⟩
   dsimp only at h1
   subst h1
   refine ⟨Rng.i64 (by omega) (by omega),by omega,PtrK.of rfl ?_⟩
   simp only [Addr.add_lit,Nat.zero_add]
   refine S.su0 (by rfl) λw19 S f19=>S.ld5 (j:=1) rfl rfl (PtrK.of rfl (S.la0 rfl ?_))
   refine (Set_e (b:=(i:Int)) (y:=blk23 C bad X' (nG C.g) i) (S.fro [4] rfl)).mono ?_
   rintro ⟨_,⟨⟩⟩ w20 ⟨-,S⟩
   rw [mk23_len (by omega),mk23_set (by omega)] at S
   refine ⟨Rng.i64 (by omega) (by omega),⟨i+1,by push_cast;rfl,by omega,?_⟩,by omega⟩
   have S:=(S.fro [1] rfl).tail
   have S:=(S.fro [1] rfl).tail
   have S:=(S.fro [2] rfl).tail
   exact S.fro [0,1,1,1,0] rfl
  ·have S:=S.fro [5] rfl
   refine Sep.regC [_] S λG D hG U S hDt hDo hkeep back=>?_
   refine ⟨hDt 5 _ _ _ rfl,S.la6 rfl ⟨hDt 0 _ _ _ rfl,S.la1 rfl ⟨hDt 2 _ _ _ rfl,S.ld3 (j:=0) rfl rfl ⟨Rng.i64 (by omega) (by omega),?_⟩⟩⟩⟩
   have cnt:∀ {O:List Sp} {rn:Nat},InF X' (4+(i:Int)) O->O.length=rn->((rn:Nat):Int)=((inP X' (4+(i:Int))).length:Int):=λhI hO=>by rw [<-inF_inP hXB hI,List.length_map,hO]
   repeat' first
    | refine ⟨hkeep _ U.fr,?_⟩
    | (refine (In_x hXB U).mono ?_;rintro ⟨⟨ra,rn,rc⟩,⟨⟩⟩ w' ⟨O,hI,-,U⟩;have hrn:=cnt hI ((U.own 0 rfl).lenF Spv_len (by decide));dsimp only at hrn⊢;rw [hrn];have U:=U.fro [1] rfl)
    | (refine (most23_c ((back _ _ U).own 6 rfl)).mono ?_;rintro ⟨r,⟨⟩⟩ w' ⟨h,x⟩;dsimp only at h⊢;subst h;rw [hmo];have U:=U.stepE x)
    | (refine (most23_c ((back _ _ U).own 7 rfl)).mono ?_;rintro ⟨r,⟨⟩⟩ w' ⟨h,x⟩;dsimp only at h⊢;subst h;rw [hmo];have U:=U.stepE x)
    | (refine (known23_c (T:=TbC C i) (y:=ky) (by omega)).mono ?_;rintro ⟨_,⟨⟩⟩ w' ⟨h,x⟩;dsimp only at h;subst h;have U:=U.stepE x)
    | (refine U.newB λb w' U f _=>?_;have U:=U.fro [1] rfl)
    | refine U.st1 (by rfl) λw' U f=>?_
    | refine U.st2 (by rfl) λw' U f=>?_
    | exact ⟨_,_,rfl,(back _ _ U).fro [1,1] rfl⟩
    | exact ⟨_,_,rfl,(back _ _ U).fro [2,1] rfl⟩
    | refine ⟨?_,?_⟩
end
section
variable {E:Nat->Prop} {w0 w:World} {B:SlP TBd.T} {f:SlP TF.T} {C:CD} {Ts:List Asr}
theorem refCall {fn:FuncId} {args:Array Value} {l:List Sh} {get:RT l->Int×Int×Int×Int×Int×Int×SlV×SlV×Bool×Int×Unit} {C':CD} {Q:RT l->Prop} (S:Sep E w0 w (RdT (Ty.sl TBd) B::Ts)) (hdb:B.l.map bdOf=C.bs) (hf:LF.rd w All f) (hdf:fds f=C.pl)
  (hc:∀ H:Nat->Prop,(∀ k,w.heap.size<=k->H k)->RefR H w B f C->CallV Tryz.prog fn args w l λr w'=>∃ B':SlP TBd.T,get r=chT B' f C'/\Q r/\RefR H w' B' f C'/\Ext w w') {K:RT l->World->Prop}
  (hk:∀ r w' (B':SlP TBd.T),get r=chT B' f C'->Q r->B'.l.map bdOf=C'.bs->Ext w w'->Sep E w0 w' (RdT (Ty.sl TBd) B'::Ts)->K r w'):CallV Tryz.prog fn args w l K:=by
 obtain ⟨F,h1,h2,h3⟩:=Sep.frame1 S
 refine (hc (λk=>F k\/w.heap.size<=k) (λk hk=>.inr hk) ⟨(Ty.sl TBd).rd_mono (λk hk _=>.inl hk) h1,hdb,hf,hdf⟩).mono ?_
 rintro r w' ⟨B',g1,g2,g3,g4⟩
 refine hk r w' B' g1 g2 g3.db g4 (h3 w' [_] ⟨(Fr.of g4).any,λk=>(F k\/w.heap.size<=k)/\k<w'.heap.size,⟨λk=>(F k\/w.heap.size<=k)/\k<w'.heap.size,NoB,(Ty.sl TBd).rd_mono (λk hk hl=>⟨hk,hl⟩) g3.rb,trivial,λ_ _ x=>x,λ_ x=>x,λ_ x=>x.elim⟩,λk hk=>hk⟩)
end
abbrev gAw:Geo:=⟨7,10,64,0,1,1⟩
end Go.Proofs.YtcekmdehjnlkpaaGreat.Vc
namespace Go.Proofs.YtcekmdehjnlkpaaGreat.Vc
open Go Go.Eng Go.RowKit Go.ChangeShapes
def Ty.big:(t:Ty)->t.T->Prop
 | .int _,_=>True
 | .bool,_=>True
 | .str,(x:ByteArray)=>x.size<=140737488351232
 | .sl e,(x:SlP e.T)=>x.n<=140737488351232/\∀ y∈x.l,e.big y
 | .nil,_=>True
 | .cons a r,(x:a.T×r.T)=>a.big x.1/\r.big x.2
end Go.Proofs.YtcekmdehjnlkpaaGreat.Vc
namespace Go.Proofs.YtcekmdehjnlkpaaGreat.Vc
open Go Go.Eng Go.RowKit
theorem chip_new {w w':World} {p:Nat} {y:Lay} {g:Geo} {pl:List FD} {Rs:List Asr} {w0:World} {E:Nat->Prop} (hF:fds y.F=pl) (S:Sep E w0 w' (ChipP p y (newC g pl) []++Rs)):Sep E w0 w' (chipE p (newC g pl)::Rs):=
 chipE_in (C:=newC g pl) ⟨hF,rfl,λo ho=>(List.not_mem_nil ho).elim⟩ S
section
variable {E:Nat->Prop} {w0 w:World} {Rs:List Asr} {sp pp pm p q n:Nat} {g:Geo} {s:SD}
end
end Go.Proofs.YtcekmdehjnlkpaaGreat.Vc
namespace Go.Proofs.YtcekmdehjnlkpaaGreat.Vc
open Go Go.Eng
def law23_light.A:Ann:=.two .no (.two .no (.two (.two .no (.one (.loop [2,3,32,33,34,35,36,37,38,39,40,41,42,43,44,45,46,47,48,49,50] [(3,.one (.int .i64))] .no))) .no))
def law23_light.P (p0_0 p0_1 p0_2 p0_3 p0_4 p0_5:Int) (a0_6:Option Addr) (n0_6 c0_6:Nat) (p0_7:Bool) (p0_8 p0_9 p0_10:Int) (a0_11:Option Addr) (n0_11 c0_11:Nat) (p0_12:Bool) (p0_13 p0_14 p0_15:Int) (a0_16:Option Addr) (n0_16 c0_16:Nat) (p0_17:Bool) (p0_18 p0_19 p0_20:Int) (a0_21:Option Addr) (n0_21 c0_21:Nat) (p0_22:Bool) (p0_23 p0_24 p0_25:Int) (a0_26:Option Addr) (n0_26 c0_26:Nat) (p0_27:Int) (w:World) (K:Bool×Unit->World->Prop):Prop:=
 NewV #[.int .i64 p0_0,.int .i64 p0_1,.int .i64 p0_2,.int .i64 p0_3,.int .i64 p0_4,.int .i64 p0_5,.slice a0_6 n0_6 c0_6,.bool p0_7,.int .i64 p0_8,.int .u64 p0_9,.int .u64 p0_10,.slice a0_11 n0_11 c0_11,.bool p0_12,.int .i64 p0_13,.int .u64 p0_14,.int .u64 p0_15,.slice a0_16 n0_16 c0_16,.bool p0_17,.int .i64 p0_18,.int .u64 p0_19,.int .u64 p0_20,.slice a0_21 n0_21 c0_21,.bool p0_22,.int .i64 p0_23,.int .u64 p0_24,.int .u64 p0_25,.slice a0_26 n0_26 c0_26,.int .u64 p0_27] 31 w λb1 w2=>
 LoadA w2 ⟨b1,0,none⟩ [.int .i64,.int .i64,.int .i64,.int .i64,.int .i64,.int .i64] λ(x3:Int×Int×Int×Int×Int×Int×Unit)=>
 CallV Tryz.prog 17 #[.agg #[.int .i64 x3.1,.int .i64 x3.2.1,.int .i64 x3.2.2.1,.int .i64 x3.2.2.2.1,.int .i64 x3.2.2.2.2.1,.int .i64 x3.2.2.2.2.2.1]] w2 [.one .bool] λ(r4:Bool×Unit) w5=>
 cond (!r4.1)
 (K (false,()) w5)
 (LoadS w5 ⟨b1,0,none⟩ (.int .i64) λ(x6:Int)=>
 cond (decide (x6>12))
 (K (false,()) w5)
 (LoadS w5 ⟨b1,1,none⟩ (.int .i64) λ(x7:Int)=>
 cond (decide (x7>20))
 (K (false,()) w5)
 (LoadS w5 ⟨b1,2,none⟩ (.int .i64) λ(x8:Int)=>
 cond (decide (x8>128))
 (K (false,()) w5)
 (LoadS w5 ⟨b1,6,none⟩ .sl λ(x9:SlV)=>
 cond (decide (((x9.n:Nat):Int)>40))
 (K (false,()) w5)
 (LoopV [.one (.int .i64)] ((0:Int),()) w5 λ(z10:Int×Unit) w11 (K12:Int×Unit->World->Prop)=>
 cond (decide (z10.1<4))
 ((0<=z10.1/\z10.1<(4:Int)) /\
 LoadS w11 (((⟨b1,7,none⟩:Addr).add (z10.1.toNat*5)).add 1) (.int .i64) λ(x13:Int)=>
 cond (decide (x13>60))
 (K (false,()) w11)
 ((0<=z10.1/\z10.1<(4:Int)) /\
 LoadS w11 (((⟨b1,7,none⟩:Addr).add (z10.1.toNat*5)).add 4) .sl λ(x14:SlV)=>
 cond (decide (((x14.n:Nat):Int)>200))
 (K (false,()) w11)
 (Rng .i64 (z10.1+1) /\
 K12 (z10.1+1,()) w11)))
 (K (true,()) w11))))))
theorem law23_light.vc (p0_0 p0_1 p0_2 p0_3 p0_4 p0_5:Int) (a0_6:Option Addr) (n0_6 c0_6:Nat) (p0_7:Bool) (p0_8 p0_9 p0_10:Int) (a0_11:Option Addr) (n0_11 c0_11:Nat) (p0_12:Bool) (p0_13 p0_14 p0_15:Int) (a0_16:Option Addr) (n0_16 c0_16:Nat) (p0_17:Bool) (p0_18 p0_19 p0_20:Int) (a0_21:Option Addr) (n0_21 c0_21:Nat) (p0_22:Bool) (p0_23 p0_24 p0_25:Int) (a0_26:Option Addr) (n0_26 c0_26:Nat) (p0_27:Int) (w:World) (K:Bool×Unit->World->Prop) (h:law23_light.P p0_0 p0_1 p0_2 p0_3 p0_4 p0_5 a0_6 n0_6 c0_6 p0_7 p0_8 p0_9 p0_10 a0_11 n0_11 c0_11 p0_12 p0_13 p0_14 p0_15 a0_16 n0_16 c0_16 p0_17 p0_18 p0_19 p0_20 a0_21 n0_21 c0_21 p0_22 p0_23 p0_24 p0_25 a0_26 n0_26 c0_26 p0_27 w K):CallV Tryz.prog 6 #[.agg #[.int .i64 p0_0,.int .i64 p0_1,.int .i64 p0_2,.int .i64 p0_3,.int .i64 p0_4,.int .i64 p0_5,.slice a0_6 n0_6 c0_6,.bool p0_7,.int .i64 p0_8,.int .u64 p0_9,.int .u64 p0_10,.slice a0_11 n0_11 c0_11,.bool p0_12,.int .i64 p0_13,.int .u64 p0_14,.int .u64 p0_15,.slice a0_16 n0_16 c0_16,.bool p0_17,.int .i64 p0_18,.int .u64 p0_19,.int .u64 p0_20,.slice a0_21 n0_21 c0_21,.bool p0_22,.int .i64 p0_23,.int .u64 p0_24,.int .u64 p0_25,.slice a0_26 n0_26 c0_26,.int .u64 p0_27]] w [.one .bool] K:=by
 refine vcFun.of (A:=law23_light.A) (wr:=false) okf_ok follows h Tryz.func6 ?_
 kernel_rfl
def law23_payload.A:Ann:=.two .no (.two .no (.two (.two .no (.one (.loop [5,6,8,9,10,11,12,13,14,15,16,17,18,19] [(5,.one .sl),(6,.one (.int .i64))] .no))) .no))
def law23_payload.P (p0 p1:Int) (w:World) (K:SlV×Unit->World->Prop):Prop:=
 NewV #[] 5 w λb1 w2=>
 LoopV [.one .sl,.one (.int .i64)] ((⟨(some ⟨b1,0,none⟩),0,0⟩:SlV),(0:Int),()) w2 λ(z3:SlV×Int×Unit) w4 (K5:SlV×Int×Unit->World->Prop)=>
 cond (decide (z3.2.1<p0))
 (NewV #[.int .u8 (IntKind.u8.wrap ((IntKind.u8.wrap z3.2.1)*p1))] 5 w4 λb6 w7=>
 AppS w7 (some ⟨b6,0,none⟩) 1 1 λns12=>
 AppV w7 5 1 1 z3.1.a z3.1.n z3.1.c ns12 1 λa8 n9 c10 w11=>
 Rng .i64 (z3.2.1+1) /\
 K5 ((⟨a8,n9,c10⟩:SlV),z3.2.1+1,()) w11)
 (K (z3.1,()) w4)
theorem law23_payload.vc (p0 p1:Int) (w:World) (K:SlV×Unit->World->Prop) (h:law23_payload.P p0 p1 w K):CallV Tryz.prog 59 #[.int .i64 p0,.int .u8 p1] w [.one .sl] K:=by
 refine vcFun.of (A:=law23_payload.A) (wr:=false) okf_ok follows h Tryz.func59 ?_
 kernel_rfl
def law23_program.A:Ann:=.two .no (.two .no (.two (.draw (.take 0 (.take 1 (.take 2 (.take 3 (.take 4 (.take 5 (.take 6 (.take 7 (.take 8 (.take 9 (.take 10 (.eff 11 (.eff 12 (.take 13 (.done)))))))))))))))) (.two .no (.two .no (.two (.two .no (.two (.join [43,44,45,46,47,48,49,50,51,52] [] (.draw (.take 1 (.take 2 (.take 3 (.both 0 (.eff 4 (.eff 5 (.eff 6 (.take 7 (.take 8 (.take 9 (.eff 10 (.done)))))))) 4 (.both 0 (.eff 5 (.eff 6 (.take 7 (.take 8 (.take 9 (.eff 10 (.done))))))) 5 (.eff 0 (.eff 6 (.take 7 (.take 8 (.take 9 (.eff 10 (.done))))))))))))) (.draw (.take 0 (.take 1 (.take 2 (.take 3 (.take 4 (.eff 5 (.eff 6 (.done)))))))))) .no)) .no)))))
def law23_program.P (p0:Addr) (p1_0 p1_1 p1_2 p1_3 p1_4 p1_5:Int) (a1_6:Option Addr) (n1_6 c1_6:Nat) (a1_7:Option Addr) (n1_7 c1_7:Nat) (p1_8:Bool) (p1_9 p2_0 p2_1 p2_2 p2_3 p2_4 p2_5 p2_6 p2_7 p2_8:Int) (p2_9:Bool) (p3:Int) (w:World) (K:(Int×Int×Int×Int×Int×Int×SlV×SlV×Bool×Int×Unit)×Unit->World->Prop):Prop:=
 NewV #[.int .i64 p1_0,.int .i64 p1_1,.int .i64 p1_2,.int .i64 p1_3,.int .i64 p1_4,.int .i64 p1_5,.slice a1_6 n1_6 c1_6,.slice a1_7 n1_7 c1_7,.bool p1_8,.int .i64 p1_9] 45 w λb1 w2=>
 NewV #[.int .i64 p2_0,.int .i64 p2_1,.int .i64 p2_2,.int .i64 p2_3,.int .i64 p2_4,.int .u32 p2_5,.int .u64 p2_6,.int .u64 p2_7,.int .u8 p2_8,.bool p2_9] 63 w2 λb3 w4=>
 NewV #[.int .i64 0,.int .i64 0,.int .i64 0,.int .i64 0,.int .i64 0,.int .i64 0,.slice none 0 0,.slice none 0 0,.bool false,.int .i64 0] 45 w4 λb5 w6=>
 LoadA w6 ⟨b3,2,none⟩ [.int .i64,.int .i64,.int .i64,.int .u32,.int .u64,.int .u64] λ(x7:Int×Int×Int×Int×Int×Int×Unit)=>
 CallV Tryz.prog 11 #[.agg #[.int .i64 x7.1,.int .i64 x7.2.1,.int .i64 x7.2.2.1,.int .u32 x7.2.2.2.1,.int .u64 x7.2.2.2.2.1,.int .u64 x7.2.2.2.2.2.1]] w6 [.one .bool] λ(r8:Bool×Unit) w9=>
 cond (!r8.1)
 (LoadA w9 ⟨b1,0,none⟩ [.int .i64,.int .i64,.int .i64,.int .i64,.int .i64,.int .i64,.sl,.sl,.bool,.int .i64] λ(x10:Int×Int×Int×Int×Int×Int×SlV×SlV×Bool×Int×Unit)=>
 StoreV w9 ⟨b5,0,none⟩ [.int .i64 x10.1,.int .i64 x10.2.1,.int .i64 x10.2.2.1,.int .i64 x10.2.2.2.1,.int .i64 x10.2.2.2.2.1,.int .i64 x10.2.2.2.2.2.1,.slice x10.2.2.2.2.2.2.1.a x10.2.2.2.2.2.2.1.n x10.2.2.2.2.2.2.1.c,.slice x10.2.2.2.2.2.2.2.1.a x10.2.2.2.2.2.2.2.1.n x10.2.2.2.2.2.2.2.1.c,.bool x10.2.2.2.2.2.2.2.2.1,.int .i64 x10.2.2.2.2.2.2.2.2.2.1] λw11=>
 LoadA w11 ⟨b5,0,none⟩ [.int .i64,.int .i64,.int .i64,.int .i64,.int .i64,.int .i64,.sl,.sl,.bool,.int .i64] λ(x12:Int×Int×Int×Int×Int×Int×SlV×SlV×Bool×Int×Unit)=>
 K ((x12.1,x12.2.1,x12.2.2.1,x12.2.2.2.1,x12.2.2.2.2.1,x12.2.2.2.2.2.1,x12.2.2.2.2.2.2.1,x12.2.2.2.2.2.2.2.1,x12.2.2.2.2.2.2.2.2.1,x12.2.2.2.2.2.2.2.2.2.1,()),()) w11)
 (DrawV λD13=>
 (D13 b1/\LoadA w9.drew ⟨b1,0,none⟩ [.int .i64,.int .i64,.int .i64,.int .i64,.int .i64,.int .i64] λ(x14:Int×Int×Int×Int×Int×Int×Unit)=>
 (D13 b3/\LoadA w9.drew ⟨b3,2,none⟩ [.int .i64,.int .i64,.int .i64,.int .u32,.int .u64,.int .u64] λ(x15:Int×Int×Int×Int×Int×Int×Unit)=>
 (D13 b1/\LoadS w9.drew ⟨b1,2,none⟩ (.int .i64) λ(x16:Int)=>
 (D13 b3/\LoadS w9.drew ⟨b3,8,none⟩ (.int .u8) λ(x17:Int)=>
 CallV Tryz.prog 59 #[.int .i64 x16,.int .u8 (IntKind.u8.wrap (x17+p3))] w9.drew [.one .sl] λ(r18:SlV×Unit) w19=>
 KeepOn D13 w9.drew w19 /\
 CallV Tryz.prog 58 #[.agg #[.int .i64 x14.1,.int .i64 x14.2.1,.int .i64 x14.2.2.1,.int .i64 x14.2.2.2.1,.int .i64 x14.2.2.2.2.1,.int .i64 x14.2.2.2.2.2.1],.agg #[.int .i64 x15.1,.int .i64 x15.2.1,.int .i64 x15.2.2.1,.int .u32 x15.2.2.2.1,.int .u64 x15.2.2.2.2.1,.int .u64 x15.2.2.2.2.2.1],.slice r18.1.a r18.1.n r18.1.c,.slice none 0 0] w19 [.one .sl] λ(r20:SlV×Unit) w21=>
 KeepOn D13 w9.drew w21 /\
 LoadA w21 ⟨b1,0,none⟩ [.int .i64,.int .i64,.int .i64,.int .i64,.int .i64,.int .i64,.sl,.sl,.bool,.int .i64] λ(x22:Int×Int×Int×Int×Int×Int×SlV×SlV×Bool×Int×Unit)=>
 LoadA w21 ⟨b3,0,none⟩ [.int .i64,.int .i64] λ(x23:Int×Int×Unit)=>
 CallV Tryz.prog 60 #[.agg #[.int .i64 x22.1,.int .i64 x22.2.1,.int .i64 x22.2.2.1,.int .i64 x22.2.2.2.1,.int .i64 x22.2.2.2.2.1,.int .i64 x22.2.2.2.2.2.1,.slice x22.2.2.2.2.2.2.1.a x22.2.2.2.2.2.2.1.n x22.2.2.2.2.2.2.1.c,.slice x22.2.2.2.2.2.2.2.1.a x22.2.2.2.2.2.2.2.1.n x22.2.2.2.2.2.2.2.1.c,.bool x22.2.2.2.2.2.2.2.2.1,.int .i64 x22.2.2.2.2.2.2.2.2.2.1],.agg #[.int .i64 x23.1,.int .i64 x23.2.1],.slice r20.1.a r20.1.n r20.1.c] w21 [.agg [.int .i64,.int .i64,.int .i64,.int .i64,.int .i64,.int .i64,.sl,.sl,.bool,.int .i64],.one (.int .i64)] λ(r24:(Int×Int×Int×Int×Int×Int×SlV×SlV×Bool×Int×Unit)×Int×Unit) w25=>
 StoreV w25 ⟨b1,0,none⟩ [.int .i64 r24.1.1,.int .i64 r24.1.2.1,.int .i64 r24.1.2.2.1,.int .i64 r24.1.2.2.2.1,.int .i64 r24.1.2.2.2.2.1,.int .i64 r24.1.2.2.2.2.2.1,.slice r24.1.2.2.2.2.2.2.1.a r24.1.2.2.2.2.2.2.1.n r24.1.2.2.2.2.2.2.1.c,.slice r24.1.2.2.2.2.2.2.2.1.a r24.1.2.2.2.2.2.2.2.1.n r24.1.2.2.2.2.2.2.2.1.c,.bool r24.1.2.2.2.2.2.2.2.2.1,.int .i64 r24.1.2.2.2.2.2.2.2.2.2.1] λw26=>
 LoadA w26 ⟨b3,0,none⟩ [.int .i64,.int .i64] λ(x27:Int×Int×Unit)=>
 CallV Tryz.prog 61 #[.pointer (some p0),.agg #[.int .i64 x27.1,.int .i64 x27.2.1],.slice r20.1.a r20.1.n r20.1.c] w26 [.one (.int .i64)] λ(r28:Int×Unit) w29=>
 LoadS w29 ⟨b3,9,none⟩ .bool λ(x30:Bool)=>
 cond x30
 (JoinV [] (λ(v32:Unit) w33=>
 DrawV λD34=>
 (D34 b3/\LoadA w33.drew ⟨b3,0,none⟩ [.int .i64,.int .i64] λ(x35:Int×Int×Unit)=>
 (D34 b1/\LoadA w33.drew ⟨b1,0,none⟩ [.int .i64,.int .i64,.int .i64,.int .i64,.int .i64,.int .i64] λ(x36:Int×Int×Int×Int×Int×Int×Unit)=>
 CallV Tryz.prog 62 #[.agg #[.int .i64 x36.1,.int .i64 x36.2.1,.int .i64 x36.2.2.1,.int .i64 x36.2.2.2.1,.int .i64 x36.2.2.2.2.1,.int .i64 x36.2.2.2.2.2.1]] w33.drew [.one .sl] λ(r37:SlV×Unit) w38=>
 KeepOn D34 w33.drew w38 /\
 CallV Tryz.prog 61 #[.pointer (some p0),.agg #[.int .i64 x35.1,.int .i64 x35.2.1],.slice r37.1.a r37.1.n r37.1.c] w38 [.one (.int .i64)] λ(r39:Int×Unit) w40=>
 KeepOn D34 w33.drew w40 /\
 LoadA w40 ⟨b1,0,none⟩ [.int .i64,.int .i64,.int .i64,.int .i64,.int .i64,.int .i64,.sl,.sl,.bool,.int .i64] λ(x41:Int×Int×Int×Int×Int×Int×SlV×SlV×Bool×Int×Unit)=>
 StoreV w40 ⟨b5,0,none⟩ [.int .i64 x41.1,.int .i64 x41.2.1,.int .i64 x41.2.2.1,.int .i64 x41.2.2.2.1,.int .i64 x41.2.2.2.2.1,.int .i64 x41.2.2.2.2.2.1,.slice x41.2.2.2.2.2.2.1.a x41.2.2.2.2.2.2.1.n x41.2.2.2.2.2.2.1.c,.slice x41.2.2.2.2.2.2.2.1.a x41.2.2.2.2.2.2.2.1.n x41.2.2.2.2.2.2.2.1.c,.bool x41.2.2.2.2.2.2.2.2.1,.int .i64 x41.2.2.2.2.2.2.2.2.2.1] λw42=>
 LoadA w42 ⟨b5,0,none⟩ [.int .i64,.int .i64,.int .i64,.int .i64,.int .i64,.int .i64,.sl,.sl,.bool,.int .i64] λ(x43:Int×Int×Int×Int×Int×Int×SlV×SlV×Bool×Int×Unit)=>
 K ((x43.1,x43.2.1,x43.2.2.1,x43.2.2.2.1,x43.2.2.2.2.1,x43.2.2.2.2.2.1,x43.2.2.2.2.2.2.1,x43.2.2.2.2.2.2.2.1,x43.2.2.2.2.2.2.2.2.1,x43.2.2.2.2.2.2.2.2.2.1,()),()) w42))) λ(J31:Unit->World->Prop)=>
 DrawV λD44=>
 (D44 b3/\LoadA w29.drew ⟨b3,0,none⟩ [.int .i64,.int .i64] λ(x45:Int×Int×Unit)=>
 ((LoadA w29.drew ⟨b1,0,none⟩ [.int .i64,.int .i64,.int .i64,.int .i64,.int .i64,.int .i64,.sl,.sl,.bool,.int .i64] λ(x46:Int×Int×Int×Int×Int×Int×SlV×SlV×Bool×Int×Unit)=>
 KeepOn D44 w29.drew w29.drew /\
 LoadA w29.drew ⟨b1,0,none⟩ [.int .i64,.int .i64,.int .i64,.int .i64,.int .i64,.int .i64] λ(x47:Int×Int×Int×Int×Int×Int×Unit)=>
 KeepOn D44 w29.drew w29.drew /\
 CallV Tryz.prog 62 #[.agg #[.int .i64 x47.1,.int .i64 x47.2.1,.int .i64 x47.2.2.1,.int .i64 x47.2.2.2.1,.int .i64 x47.2.2.2.2.1,.int .i64 x47.2.2.2.2.2.1]] w29.drew [.one .sl] λ(r48:SlV×Unit) w49=>
 KeepOn D44 w29.drew w49 /\
 CallV Tryz.prog 60 #[.agg #[.int .i64 x46.1,.int .i64 x46.2.1,.int .i64 x46.2.2.1,.int .i64 x46.2.2.2.1,.int .i64 x46.2.2.2.2.1,.int .i64 x46.2.2.2.2.2.1,.slice x46.2.2.2.2.2.2.1.a x46.2.2.2.2.2.2.1.n x46.2.2.2.2.2.2.1.c,.slice x46.2.2.2.2.2.2.2.1.a x46.2.2.2.2.2.2.2.1.n x46.2.2.2.2.2.2.2.1.c,.bool x46.2.2.2.2.2.2.2.2.1,.int .i64 x46.2.2.2.2.2.2.2.2.2.1],.agg #[.int .i64 x45.1,.int .i64 x45.2.1],.slice r48.1.a r48.1.n r48.1.c] w49 [.agg [.int .i64,.int .i64,.int .i64,.int .i64,.int .i64,.int .i64,.sl,.sl,.bool,.int .i64],.one (.int .i64)] λ(r50:(Int×Int×Int×Int×Int×Int×SlV×SlV×Bool×Int×Unit)×Int×Unit) w51=>
 KeepOn D44 w29.drew w51 /\
 StoreV w51 ⟨b1,0,none⟩ [.int .i64 r50.1.1,.int .i64 r50.1.2.1,.int .i64 r50.1.2.2.1,.int .i64 r50.1.2.2.2.1,.int .i64 r50.1.2.2.2.2.1,.int .i64 r50.1.2.2.2.2.2.1,.slice r50.1.2.2.2.2.2.2.1.a r50.1.2.2.2.2.2.2.1.n r50.1.2.2.2.2.2.2.1.c,.slice r50.1.2.2.2.2.2.2.2.1.a r50.1.2.2.2.2.2.2.2.1.n r50.1.2.2.2.2.2.2.2.1.c,.bool r50.1.2.2.2.2.2.2.2.2.1,.int .i64 r50.1.2.2.2.2.2.2.2.2.2.1] λw52=>
 KeepOn D44 w29.drew w52 /\
 J31 (()) w52) /\
 (LoadA w29.drew ⟨b1,0,none⟩ [.int .i64,.int .i64,.int .i64,.int .i64,.int .i64,.int .i64] λ(x53:Int×Int×Int×Int×Int×Int×Unit)=>
 KeepOn D44 w29.drew w29.drew /\
 ((LoadA w29.drew ⟨b1,0,none⟩ [.int .i64,.int .i64,.int .i64,.int .i64,.int .i64,.int .i64,.sl,.sl,.bool,.int .i64] λ(x54:Int×Int×Int×Int×Int×Int×SlV×SlV×Bool×Int×Unit)=>
 KeepOn D44 w29.drew w29.drew /\
 CallV Tryz.prog 62 #[.agg #[.int .i64 x53.1,.int .i64 x53.2.1,.int .i64 x53.2.2.1,.int .i64 x53.2.2.2.1,.int .i64 x53.2.2.2.2.1,.int .i64 x53.2.2.2.2.2.1]] w29.drew [.one .sl] λ(r55:SlV×Unit) w56=>
 KeepOn D44 w29.drew w56 /\
 CallV Tryz.prog 60 #[.agg #[.int .i64 x54.1,.int .i64 x54.2.1,.int .i64 x54.2.2.1,.int .i64 x54.2.2.2.1,.int .i64 x54.2.2.2.2.1,.int .i64 x54.2.2.2.2.2.1,.slice x54.2.2.2.2.2.2.1.a x54.2.2.2.2.2.2.1.n x54.2.2.2.2.2.2.1.c,.slice x54.2.2.2.2.2.2.2.1.a x54.2.2.2.2.2.2.2.1.n x54.2.2.2.2.2.2.2.1.c,.bool x54.2.2.2.2.2.2.2.2.1,.int .i64 x54.2.2.2.2.2.2.2.2.2.1],.agg #[.int .i64 x45.1,.int .i64 x45.2.1],.slice r55.1.a r55.1.n r55.1.c] w56 [.agg [.int .i64,.int .i64,.int .i64,.int .i64,.int .i64,.int .i64,.sl,.sl,.bool,.int .i64],.one (.int .i64)] λ(r57:(Int×Int×Int×Int×Int×Int×SlV×SlV×Bool×Int×Unit)×Int×Unit) w58=>
 KeepOn D44 w29.drew w58 /\
 StoreV w58 ⟨b1,0,none⟩ [.int .i64 r57.1.1,.int .i64 r57.1.2.1,.int .i64 r57.1.2.2.1,.int .i64 r57.1.2.2.2.1,.int .i64 r57.1.2.2.2.2.1,.int .i64 r57.1.2.2.2.2.2.1,.slice r57.1.2.2.2.2.2.2.1.a r57.1.2.2.2.2.2.2.1.n r57.1.2.2.2.2.2.2.1.c,.slice r57.1.2.2.2.2.2.2.2.1.a r57.1.2.2.2.2.2.2.2.1.n r57.1.2.2.2.2.2.2.2.1.c,.bool r57.1.2.2.2.2.2.2.2.2.1,.int .i64 r57.1.2.2.2.2.2.2.2.2.2.1] λw59=>
 KeepOn D44 w29.drew w59 /\
 J31 (()) w59) /\
 (CallV Tryz.prog 62 #[.agg #[.int .i64 x53.1,.int .i64 x53.2.1,.int .i64 x53.2.2.1,.int .i64 x53.2.2.2.1,.int .i64 x53.2.2.2.2.1,.int .i64 x53.2.2.2.2.2.1]] w29.drew [.one .sl] λ(r60:SlV×Unit) w61=>
 KeepOn D44 w29.drew w61 /\
 LoadA w61 ⟨b1,0,none⟩ [.int .i64,.int .i64,.int .i64,.int .i64,.int .i64,.int .i64,.sl,.sl,.bool,.int .i64] λ(x62:Int×Int×Int×Int×Int×Int×SlV×SlV×Bool×Int×Unit)=>
 KeepOn D44 w29.drew w61 /\
 CallV Tryz.prog 60 #[.agg #[.int .i64 x62.1,.int .i64 x62.2.1,.int .i64 x62.2.2.1,.int .i64 x62.2.2.2.1,.int .i64 x62.2.2.2.2.1,.int .i64 x62.2.2.2.2.2.1,.slice x62.2.2.2.2.2.2.1.a x62.2.2.2.2.2.2.1.n x62.2.2.2.2.2.2.1.c,.slice x62.2.2.2.2.2.2.2.1.a x62.2.2.2.2.2.2.2.1.n x62.2.2.2.2.2.2.2.1.c,.bool x62.2.2.2.2.2.2.2.2.1,.int .i64 x62.2.2.2.2.2.2.2.2.2.1],.agg #[.int .i64 x45.1,.int .i64 x45.2.1],.slice r60.1.a r60.1.n r60.1.c] w61 [.agg [.int .i64,.int .i64,.int .i64,.int .i64,.int .i64,.int .i64,.sl,.sl,.bool,.int .i64],.one (.int .i64)] λ(r63:(Int×Int×Int×Int×Int×Int×SlV×SlV×Bool×Int×Unit)×Int×Unit) w64=>
 KeepOn D44 w29.drew w64 /\
 StoreV w64 ⟨b1,0,none⟩ [.int .i64 r63.1.1,.int .i64 r63.1.2.1,.int .i64 r63.1.2.2.1,.int .i64 r63.1.2.2.2.1,.int .i64 r63.1.2.2.2.2.1,.int .i64 r63.1.2.2.2.2.2.1,.slice r63.1.2.2.2.2.2.2.1.a r63.1.2.2.2.2.2.2.1.n r63.1.2.2.2.2.2.2.1.c,.slice r63.1.2.2.2.2.2.2.2.1.a r63.1.2.2.2.2.2.2.2.1.n r63.1.2.2.2.2.2.2.2.1.c,.bool r63.1.2.2.2.2.2.2.2.2.1,.int .i64 r63.1.2.2.2.2.2.2.2.2.2.1] λw65=>
 KeepOn D44 w29.drew w65 /\
 J31 (()) w65))))))
 (LoadA w29 ⟨b1,0,none⟩ [.int .i64,.int .i64,.int .i64,.int .i64,.int .i64,.int .i64,.sl,.sl,.bool,.int .i64] λ(x66:Int×Int×Int×Int×Int×Int×SlV×SlV×Bool×Int×Unit)=>
 StoreV w29 ⟨b5,0,none⟩ [.int .i64 x66.1,.int .i64 x66.2.1,.int .i64 x66.2.2.1,.int .i64 x66.2.2.2.1,.int .i64 x66.2.2.2.2.1,.int .i64 x66.2.2.2.2.2.1,.slice x66.2.2.2.2.2.2.1.a x66.2.2.2.2.2.2.1.n x66.2.2.2.2.2.2.1.c,.slice x66.2.2.2.2.2.2.2.1.a x66.2.2.2.2.2.2.2.1.n x66.2.2.2.2.2.2.2.1.c,.bool x66.2.2.2.2.2.2.2.2.1,.int .i64 x66.2.2.2.2.2.2.2.2.2.1] λw67=>
 LoadA w67 ⟨b5,0,none⟩ [.int .i64,.int .i64,.int .i64,.int .i64,.int .i64,.int .i64,.sl,.sl,.bool,.int .i64] λ(x68:Int×Int×Int×Int×Int×Int×SlV×SlV×Bool×Int×Unit)=>
 K ((x68.1,x68.2.1,x68.2.2.1,x68.2.2.2.1,x68.2.2.2.2.1,x68.2.2.2.2.2.1,x68.2.2.2.2.2.2.1,x68.2.2.2.2.2.2.2.1,x68.2.2.2.2.2.2.2.2.1,x68.2.2.2.2.2.2.2.2.2.1,()),()) w67))))))
theorem law23_program.vc (p0:Addr) (p1_0 p1_1 p1_2 p1_3 p1_4 p1_5:Int) (a1_6:Option Addr) (n1_6 c1_6:Nat) (a1_7:Option Addr) (n1_7 c1_7:Nat) (p1_8:Bool) (p1_9 p2_0 p2_1 p2_2 p2_3 p2_4 p2_5 p2_6 p2_7 p2_8:Int) (p2_9:Bool) (p3:Int) (w:World) (K:(Int×Int×Int×Int×Int×Int×SlV×SlV×Bool×Int×Unit)×Unit->World->Prop) (h:law23_program.P p0 p1_0 p1_1 p1_2 p1_3 p1_4 p1_5 a1_6 n1_6 c1_6 a1_7 n1_7 c1_7 p1_8 p1_9 p2_0 p2_1 p2_2 p2_3 p2_4 p2_5 p2_6 p2_7 p2_8 p2_9 p3 w K):CallV Tryz.prog 25 #[.pointer (some p0),.agg #[.int .i64 p1_0,.int .i64 p1_1,.int .i64 p1_2,.int .i64 p1_3,.int .i64 p1_4,.int .i64 p1_5,.slice a1_6 n1_6 c1_6,.slice a1_7 n1_7 c1_7,.bool p1_8,.int .i64 p1_9],.agg #[.int .i64 p2_0,.int .i64 p2_1,.int .i64 p2_2,.int .i64 p2_3,.int .i64 p2_4,.int .u32 p2_5,.int .u64 p2_6,.int .u64 p2_7,.int .u8 p2_8,.bool p2_9],.int .u8 p3] w [.agg [.int .i64,.int .i64,.int .i64,.int .i64,.int .i64,.int .i64,.sl,.sl,.bool,.int .i64]] K:=by
 refine vcFun.of (A:=law23_program.A) (wr:=false) okf_ok follows h Tryz.func25 ?_
 kernel_rfl
def law23_array.A:Ann:=.two .no (.two .no (.two .no (.two (.two .no (.one (.loop [9,19,20,21,22,23,24,25,26,27,28,29,30,31,32,33,34] [(9,.one (.int .i64))] (.two .no (.two (.one (.draw (.take 0 (.take 2 (.take 3 (.take 4 (.take 5 (.take 6 (.take 7 (.eff 1 (.eff 8 (.eff 9 (.done))))))))))))) .no))))) (.two (.draw (.take 0 (.take 1 (.take 2 (.eff 3 (.done)))))) .no))))
def law23_array.P (p0_0 p0_1 p0_2 p0_3 p0_4 p0_5:Int) (a0_6:Option Addr) (n0_6 c0_6:Nat) (p0_7:Bool) (p0_8 p0_9 p0_10:Int) (a0_11:Option Addr) (n0_11 c0_11:Nat) (p0_12:Bool) (p0_13 p0_14 p0_15:Int) (a0_16:Option Addr) (n0_16 c0_16:Nat) (p0_17:Bool) (p0_18 p0_19 p0_20:Int) (a0_21:Option Addr) (n0_21 c0_21:Nat) (p0_22:Bool) (p0_23 p0_24 p0_25:Int) (a0_26:Option Addr) (n0_26 c0_26:Nat) (p0_27 p1:Int) (w:World) (K:(Option Addr)×(Int×Int×Int×Int×Int×Int×SlV×SlV×Bool×Int×Unit)×Unit->World->Prop):Prop:=
 NewV #[.int .i64 p0_0,.int .i64 p0_1,.int .i64 p0_2,.int .i64 p0_3,.int .i64 p0_4,.int .i64 p0_5,.slice a0_6 n0_6 c0_6,.bool p0_7,.int .i64 p0_8,.int .u64 p0_9,.int .u64 p0_10,.slice a0_11 n0_11 c0_11,.bool p0_12,.int .i64 p0_13,.int .u64 p0_14,.int .u64 p0_15,.slice a0_16 n0_16 c0_16,.bool p0_17,.int .i64 p0_18,.int .u64 p0_19,.int .u64 p0_20,.slice a0_21 n0_21 c0_21,.bool p0_22,.int .i64 p0_23,.int .u64 p0_24,.int .u64 p0_25,.slice a0_26 n0_26 c0_26,.int .u64 p0_27] 31 w λb1 w2=>
 NewV #[.int .i64 0,.int .i64 0,.int .i64 0,.int .i64 0,.int .i64 0,.int .i64 0,.slice none 0 0,.slice none 0 0,.bool false,.int .i64 0] 45 w2 λb3 w4=>
 LoadA w4 ⟨b1,0,none⟩ [.int .i64,.int .i64,.int .i64,.int .i64,.int .i64,.int .i64] λ(x5:Int×Int×Int×Int×Int×Int×Unit)=>
 CallV Tryz.prog 21 #[.agg #[.int .i64 x5.1,.int .i64 x5.2.1,.int .i64 x5.2.2.1,.int .i64 x5.2.2.2.1,.int .i64 x5.2.2.2.2.1,.int .i64 x5.2.2.2.2.2.1],.slice none 0 0] w4 [.one .ptr,.one (.int .i64)] λ(r6:(Option Addr)×Int×Unit) w7=>
 LoadA w7 ⟨b1,0,none⟩ [.int .i64,.int .i64,.int .i64,.int .i64,.int .i64,.int .i64] λ(x8:Int×Int×Int×Int×Int×Int×Unit)=>
 CallV Tryz.prog 24 #[.agg #[.int .i64 x8.1,.int .i64 x8.2.1,.int .i64 x8.2.2.1,.int .i64 x8.2.2.2.1,.int .i64 x8.2.2.2.2.1,.int .i64 x8.2.2.2.2.2.1],.slice none 0 0] w7 [.agg [.int .i64,.int .i64,.int .i64,.int .i64,.int .i64,.int .i64,.sl,.sl,.bool,.int .i64]] λ(r9:(Int×Int×Int×Int×Int×Int×SlV×SlV×Bool×Int×Unit)×Unit) w10=>
 NewV #[.int .i64 0,.int .i64 0,.int .i64 0,.int .i64 0,.int .i64 0,.int .i64 0,.slice none 0 0,.slice none 0 0,.bool false,.int .i64 0] 45 w10 λb11 w12=>
 StoreV w12 ⟨b11,0,none⟩ [.int .i64 r9.1.1,.int .i64 r9.1.2.1,.int .i64 r9.1.2.2.1,.int .i64 r9.1.2.2.2.1,.int .i64 r9.1.2.2.2.2.1,.int .i64 r9.1.2.2.2.2.2.1,.slice r9.1.2.2.2.2.2.2.1.a r9.1.2.2.2.2.2.2.1.n r9.1.2.2.2.2.2.2.1.c,.slice r9.1.2.2.2.2.2.2.2.1.a r9.1.2.2.2.2.2.2.2.1.n r9.1.2.2.2.2.2.2.2.1.c,.bool r9.1.2.2.2.2.2.2.2.2.1,.int .i64 r9.1.2.2.2.2.2.2.2.2.2.1] λw13=>
 LoopV [.one (.int .i64)] ((0:Int),()) w13 λ(z14:Int×Unit) w15 (K16:Int×Unit->World->Prop)=>
 LoadS w15 ⟨b1,6,none⟩ .sl λ(x17:SlV)=>
 cond (decide (z14.1<((x17.n:Nat):Int)))
 (DrawV λD18=>
 (D18 b1/\LoadS w15.drew ⟨b1,6,none⟩ .sl λ(x19:SlV)=>
 (0<=z14.1/\z14.1<((x19.n:Nat):Int))/\∃ q20:Addr,x19.a=some q20 /\
 (D18 (q20.add (z14.1.toNat*10)).block/\LoadA w15.drew (q20.add (z14.1.toNat*10)) [.int .i64,.int .i64,.int .i64,.int .i64,.int .i64,.int .u32,.int .u64,.int .u64,.int .u8,.bool] λ(x21:Int×Int×Int×Int×Int×Int×Int×Int×Int×Bool×Unit)=>
 LoadA w15.drew ⟨b11,0,none⟩ [.int .i64,.int .i64,.int .i64,.int .i64,.int .i64,.int .i64,.sl,.sl,.bool,.int .i64] λ(x22:Int×Int×Int×Int×Int×Int×SlV×SlV×Bool×Int×Unit)=>
 KeepOn D18 w15.drew w15.drew /\
 CallV Tryz.prog 25 #[.pointer r6.1,.agg #[.int .i64 x22.1,.int .i64 x22.2.1,.int .i64 x22.2.2.1,.int .i64 x22.2.2.2.1,.int .i64 x22.2.2.2.2.1,.int .i64 x22.2.2.2.2.2.1,.slice x22.2.2.2.2.2.2.1.a x22.2.2.2.2.2.2.1.n x22.2.2.2.2.2.2.1.c,.slice x22.2.2.2.2.2.2.2.1.a x22.2.2.2.2.2.2.2.1.n x22.2.2.2.2.2.2.2.1.c,.bool x22.2.2.2.2.2.2.2.2.1,.int .i64 x22.2.2.2.2.2.2.2.2.2.1],.agg #[.int .i64 x21.1,.int .i64 x21.2.1,.int .i64 x21.2.2.1,.int .i64 x21.2.2.2.1,.int .i64 x21.2.2.2.2.1,.int .u32 x21.2.2.2.2.2.1,.int .u64 x21.2.2.2.2.2.2.1,.int .u64 x21.2.2.2.2.2.2.2.1,.int .u8 x21.2.2.2.2.2.2.2.2.1,.bool x21.2.2.2.2.2.2.2.2.2.1],.int .u8 p1] w15.drew [.agg [.int .i64,.int .i64,.int .i64,.int .i64,.int .i64,.int .i64,.sl,.sl,.bool,.int .i64]] λ(r23:(Int×Int×Int×Int×Int×Int×SlV×SlV×Bool×Int×Unit)×Unit) w24=>
 KeepOn D18 w15.drew w24 /\
 StoreV w24 ⟨b11,0,none⟩ [.int .i64 r23.1.1,.int .i64 r23.1.2.1,.int .i64 r23.1.2.2.1,.int .i64 r23.1.2.2.2.1,.int .i64 r23.1.2.2.2.2.1,.int .i64 r23.1.2.2.2.2.2.1,.slice r23.1.2.2.2.2.2.2.1.a r23.1.2.2.2.2.2.2.1.n r23.1.2.2.2.2.2.2.1.c,.slice r23.1.2.2.2.2.2.2.2.1.a r23.1.2.2.2.2.2.2.2.1.n r23.1.2.2.2.2.2.2.2.1.c,.bool r23.1.2.2.2.2.2.2.2.2.1,.int .i64 r23.1.2.2.2.2.2.2.2.2.2.1] λw25=>
 KeepOn D18 w15.drew w25 /\
 Rng .i64 (z14.1+1) /\
 K16 (z14.1+1,()) w25)))
 (DrawV λD26=>
 (D26 b11/\LoadA w15.drew ⟨b11,0,none⟩ [.int .i64,.int .i64,.int .i64,.int .i64,.int .i64,.int .i64,.sl,.sl,.bool,.int .i64] λ(x27:Int×Int×Int×Int×Int×Int×SlV×SlV×Bool×Int×Unit)=>
 StoreV w15.drew ⟨b3,0,none⟩ [.int .i64 x27.1,.int .i64 x27.2.1,.int .i64 x27.2.2.1,.int .i64 x27.2.2.2.1,.int .i64 x27.2.2.2.2.1,.int .i64 x27.2.2.2.2.2.1,.slice x27.2.2.2.2.2.2.1.a x27.2.2.2.2.2.2.1.n x27.2.2.2.2.2.2.1.c,.slice x27.2.2.2.2.2.2.2.1.a x27.2.2.2.2.2.2.2.1.n x27.2.2.2.2.2.2.2.1.c,.bool x27.2.2.2.2.2.2.2.2.1,.int .i64 x27.2.2.2.2.2.2.2.2.2.1] λw28=>
 KeepOn D26 w15.drew w28 /\
 LoadA w28 ⟨b3,0,none⟩ [.int .i64,.int .i64,.int .i64,.int .i64,.int .i64,.int .i64,.sl,.sl,.bool,.int .i64] λ(x29:Int×Int×Int×Int×Int×Int×SlV×SlV×Bool×Int×Unit)=>
 K (r6.1,(x29.1,x29.2.1,x29.2.2.1,x29.2.2.2.1,x29.2.2.2.2.1,x29.2.2.2.2.2.1,x29.2.2.2.2.2.2.1,x29.2.2.2.2.2.2.2.1,x29.2.2.2.2.2.2.2.2.1,x29.2.2.2.2.2.2.2.2.2.1,()),()) w28))
theorem law23_array.vc (p0_0 p0_1 p0_2 p0_3 p0_4 p0_5:Int) (a0_6:Option Addr) (n0_6 c0_6:Nat) (p0_7:Bool) (p0_8 p0_9 p0_10:Int) (a0_11:Option Addr) (n0_11 c0_11:Nat) (p0_12:Bool) (p0_13 p0_14 p0_15:Int) (a0_16:Option Addr) (n0_16 c0_16:Nat) (p0_17:Bool) (p0_18 p0_19 p0_20:Int) (a0_21:Option Addr) (n0_21 c0_21:Nat) (p0_22:Bool) (p0_23 p0_24 p0_25:Int) (a0_26:Option Addr) (n0_26 c0_26:Nat) (p0_27 p1:Int) (w:World) (K:(Option Addr)×(Int×Int×Int×Int×Int×Int×SlV×SlV×Bool×Int×Unit)×Unit->World->Prop) (h:law23_array.P p0_0 p0_1 p0_2 p0_3 p0_4 p0_5 a0_6 n0_6 c0_6 p0_7 p0_8 p0_9 p0_10 a0_11 n0_11 c0_11 p0_12 p0_13 p0_14 p0_15 a0_16 n0_16 c0_16 p0_17 p0_18 p0_19 p0_20 a0_21 n0_21 c0_21 p0_22 p0_23 p0_24 p0_25 a0_26 n0_26 c0_26 p0_27 p1 w K):CallV Tryz.prog 9 #[.agg #[.int .i64 p0_0,.int .i64 p0_1,.int .i64 p0_2,.int .i64 p0_3,.int .i64 p0_4,.int .i64 p0_5,.slice a0_6 n0_6 c0_6,.bool p0_7,.int .i64 p0_8,.int .u64 p0_9,.int .u64 p0_10,.slice a0_11 n0_11 c0_11,.bool p0_12,.int .i64 p0_13,.int .u64 p0_14,.int .u64 p0_15,.slice a0_16 n0_16 c0_16,.bool p0_17,.int .i64 p0_18,.int .u64 p0_19,.int .u64 p0_20,.slice a0_21 n0_21 c0_21,.bool p0_22,.int .i64 p0_23,.int .u64 p0_24,.int .u64 p0_25,.slice a0_26 n0_26 c0_26,.int .u64 p0_27],.int .u8 p1] w [.one .ptr,.agg [.int .i64,.int .i64,.int .i64,.int .i64,.int .i64,.int .i64,.sl,.sl,.bool,.int .i64]] K:=by
 refine vcFun.of (A:=law23_array.A) (wr:=false) okf_ok follows h Tryz.func9 ?_
 kernel_rfl
def law23_awake.A:Ann:=.no
def law23_awake.P  (w:World) (K:Bool×Unit->World->Prop):Prop:=
 NewV #[.int .i64 0,.int .i64 0,.int .i64 0,.int .i64 0,.int .i64 0,.int .i64 0] 23 w λb1 w2=>
 StoreV w2 ⟨b1,0,none⟩ [.int .i64 7,.int .i64 10,.int .i64 64,.int .i64 0,.int .i64 1,.int .i64 1] λw3=>
 LoadA w3 ⟨b1,0,none⟩ [.int .i64,.int .i64,.int .i64,.int .i64,.int .i64,.int .i64] λ(x4:Int×Int×Int×Int×Int×Int×Unit)=>
 CallV Tryz.prog 21 #[.agg #[.int .i64 x4.1,.int .i64 x4.2.1,.int .i64 x4.2.2.1,.int .i64 x4.2.2.2.1,.int .i64 x4.2.2.2.2.1,.int .i64 x4.2.2.2.2.2.1],.slice none 0 0] w3 [.one .ptr,.one (.int .i64)] λ(r5:(Option Addr)×Int×Unit) w6=>
 CallV Tryz.prog 12 #[.pointer r5.1,.agg #[.bool false,.int .i64 0,.int .u64 0,.int .u64 0,.slice none 0 0,.bool false,.int .i64 0,.int .u64 0,.int .u64 0,.slice none 0 0,.bool false,.int .i64 0,.int .u64 0,.int .u64 0,.slice none 0 0,.bool false,.int .i64 0,.int .u64 0,.int .u64 0,.slice none 0 0],.int .u64 0] w6 [.agg [.ptr,.ptr,.sl],.one (.int .i64)] λ(r7:((Option Addr)×(Option Addr)×SlV×Unit)×Int×Unit) w8=>
 NewV #[.pointer none,.pointer none,.slice none 0 0] 69 w8 λb9 w10=>
 StoreV w10 ⟨b9,0,none⟩ [.pointer r7.1.1,.pointer r7.1.2.1,.slice r7.1.2.2.1.a r7.1.2.2.1.n r7.1.2.2.1.c] λw11=>
 cond (r7.2.1 == 0)
 (LoadS w11 ⟨b9,1,none⟩ .ptr λ(x12:Option Addr)=>
 CallV Tryz.prog 22 #[.pointer x12] w11 [.one (.int .i64)] λ(r13:Int×Unit) w14=>
 cond (r13.1 == 3)
 (LoadS w14 ⟨b9,2,none⟩ .sl λ(x15:SlV)=>
 cond (((x15.n:Nat):Int) == 3)
 (LoadS w14 ⟨b9,1,none⟩ .ptr λ(x16:Option Addr)=>
 CallV Tryz.prog 23 #[.pointer x16,.int .i64 0] w14 [.agg [.int .i64,.int .i64,.int .i64,.int .i64,.bool,.bool,.bool,.bool,.bool]] λ(r17:(Int×Int×Int×Int×Bool×Bool×Bool×Bool×Bool×Unit)×Unit) w18=>
 K ((r17.1.1 == (-1)),()) w18)
 (K (false,()) w14))
 (K (false,()) w14))
 (K (false,()) w11)
theorem law23_awake.vc  (w:World) (K:Bool×Unit->World->Prop) (h:law23_awake.P  w K):CallV Tryz.prog 8 #[] w [.one .bool] K:=by
 refine vcFun.of (A:=law23_awake.A) (wr:=false) okf_ok follows h Tryz.func8 ?_
 kernel_rfl
end Go.Proofs.YtcekmdehjnlkpaaGreat.Vc
namespace Go.Proofs.YtcekmdehjnlkpaaGreat.Vc
open Go Go.Eng Go.RowKit
theorem new_tb {g:Geo} {pl:List FD} {i:Nat} (hR:Right g) (hi:4+(i:Int)<g.b):TbC (newC g pl) i=Tb0:=by
 unfold TbC tdB
 rw [if_neg]
 rintro ⟨⟨-,h,-⟩,-⟩
 have hb:blkC (newC g pl) (4+(i:Int))=blankB g:=getD_some (by
  show (List.replicate g.b.toNat (blankB g))[(4+(i:Int)).toNat]? = _
  rw [List.getElem?_replicate,if_pos (by omega)])
 have hp:4<=g.p/\0<=g.s:=by have h0:=hR;unfold Right Kept at h0;omega
 rw [hb] at h
 have h0:(blankB g).pg.getD 0 []=List.replicate (szP g) 255:=getD_some (by
  show (List.replicate g.p.toNat (List.replicate (szP g) (255:Int)))[0]? = _
  rw [List.getElem?_replicate,if_pos (by omega)])
 rw [h0] at h
 have he:endP (newC g pl).g (List.replicate (szP g) (255:Int))=List.replicate 88 255:=by
  show List.drop g.s.toNat _=_
  rw [List.drop_replicate]
  congr 1
  unfold szP
  omega
 rw [he] at h
 exact absurd h.1.2 (by decide)
def zSlt:Slt:=⟨false,0,0,0,⟨none,0,0⟩⟩
theorem awake23_c {w:World}:CallV Tryz.prog 8 #[] w [.one .bool] λr w'=>r.1=true/\Ext w w':=by
 apply law23_awake.vc
 unfold law23_awake.P
 have S:=Sep.start NoB w
 have hR:Right gAw:=by decide
 have hg:LG gAw:=by decide
 have hC:COk (newC gAw []):=newC_ok hR hg λf hf=>(List.not_mem_nil hf).elim
 refine S.newB λb1 w1 S f1 _=>S.st0 (by rfl) λw2 S f2=>S.la0 rfl ?_
 refine (New13_c (g:=gAw) (x:=⟨none,0,0,[]⟩) (G:=All) ⟨rfl,Nat.le_refl _,Nat.zero_le _,.inl ⟨rfl,rfl⟩,λy hy=>(List.not_mem_nil hy).elim⟩ (λf hf=>(List.not_mem_nil hf).elim)).mono ?_
 rintro ⟨pv,(e:Int),⟨⟩⟩ w3 ⟨x3,-,hgood⟩
 obtain ⟨-,p,y,hp,hyF,S2⟩:=hgood ⟨hR,by decide⟩
 dsimp only at hp
 subst hp
 have S:=chip_new (w:=w) hyF (S.frame0 S2)
 refine (Array23_c (z:=⟨zSlt,zSlt,zSlt,zSlt⟩) (bad:=0) hC S).mono ?_
 rintro ⟨⟨a1,a2,o,⟨⟩⟩,(e2:Int),⟨⟩⟩ w4 ⟨-,h⟩
 obtain ⟨h1,pm,q,o',X,hX,h2,S⟩:=h rfl
 have hN3:nG (newC gAw []).g=3:=rfl
 rw [hN3] at S
 dsimp only at h1 h2
 subst h1
 obtain ⟨rfl,rfl,rfl⟩:a1=_/\a2=_/\o=_:=by injection h2 with e1 e;injection e with e2 e;injection e with e3 e;exact ⟨e1,e2,e3⟩
 refine S.newB λb9 w5 S f5 _=>S.st0 (by rfl) λw6 S f6=>cond_t rfl (S.ld0 (j:=1) rfl rfl ?_)
 refine (Len_e (S.fro [2] rfl)).mono ?_
 rintro ⟨(n:Int),⟨⟩⟩ w7 ⟨h7,rfl⟩
 dsimp only at h7 ⊢
 subst h7
 have hl3:((List.range 3).map (blk23 (newC gAw []) 0 (arX (newC gAw []) ⟨zSlt,zSlt,zSlt,zSlt⟩ X 3) 3)).length=3:=by rw [List.length_map,List.length_range]
 refine cond_t (by rw [hl3];rfl) (S.ld0 (j:=2) rfl rfl ?_)
 have ho:o.n=3:=by
  have:=(S.own 3 rfl).lenF (f:=Hh.vs) (λ_=>rfl) (by decide)
  rw [<-this];unfold odC;rw [List.length_map,List.length_range]
 refine cond_t (by show (((o.n:Nat):Int) == 3)=true;rw [ho];rfl) (S.ld0 (j:=1) rfl rfl ?_)
 refine (At_e (b:=0) (S.fro [2] rfl) (by rw [hl3];decide)).mono ?_
 rintro ⟨⟨(v:Int),v2⟩,⟨⟩⟩ w8 ⟨h8,x8⟩
 dsimp only at h8
 have hv:=congrArg Prod.fst h8
 dsimp only at hv
 refine ⟨?_,S.ext.trans x8⟩
 have ow:∀ {C:CD} {X:List (SlP Ce)} {n i:Nat},TbC C i=Tb0->(blk23 C 0 X n i).ow=-1:=λh=>by
  unfold blk23 knK
  rw [h]
  rfl
 have key:∀ {C:CD} {X:List (SlP Ce)} {n:Nat},TbC C 0=Tb0->0<n->(gx ((List.range n).map (blk23 C 0 X n)) (0:Int).toNat).ow=-1:=λ{C X n} h hn=>by
  have:((List.range n).map (blk23 C 0 X n))[0]? = some (blk23 C 0 X n 0):=by rw [List.getElem?_map,List.getElem?_range hn];rfl
  have e:gx ((List.range n).map (blk23 C 0 X n)) (0:Int).toNat=blk23 C 0 X n 0:=getD_some this
  rw [e]
  exact ow h
 have hk:=key (X:=arX (newC gAw []) ⟨zSlt,zSlt,zSlt,zSlt⟩ X 3) (n:=3) (new_tb (g:=gAw) (pl:=[]) (i:=0) hR (by decide)) (by decide)
 have hv1:v=-1:=hv.trans hk
 show (v == (-1:Int))=true
 rw [hv1]
 rfl
def pay23 (n:Nat) (sd:Int):List Int:=(List.range n).map λi:Nat=>IntKind.u8.wrap (IntKind.u8.wrap (i:Int)*sd)
theorem pay23_byt (n:Nat) (sd:Int):Byt (pay23 n sd):=λy hy=>by
 obtain ⟨i,-,rfl⟩:=List.mem_map.1 hy
 rw [u8_wrap]
 omega
theorem pay23_len (n:Nat) (sd:Int):(pay23 n sd).length=n:=by unfold pay23;rw [List.length_map,List.length_range]
abbrev csL (g:Geo) (P:SlV) (z:Sl4) (bad:Int):List Value:=[.int .i64 g.b,.int .i64 g.p,.int .i64 g.s,.int .i64 g.sp,.int .i64 g.wr,.int .i64 g.ro,.slice P.a P.n P.c,
 .bool z.a.us,.int .i64 z.a.sz,.int .u64 z.a.ep,.int .u64 z.a.ct,.slice z.a.y.a z.a.y.n z.a.y.c,.bool z.b.us,.int .i64 z.b.sz,.int .u64 z.b.ep,.int .u64 z.b.ct,.slice z.b.y.a z.b.y.n z.b.y.c,
 .bool z.c.us,.int .i64 z.c.sz,.int .u64 z.c.ep,.int .u64 z.c.ct,.slice z.c.y.a z.c.y.n z.c.y.c,.bool z.d.us,.int .i64 z.d.sz,.int .u64 z.d.ep,.int .u64 z.d.ct,.slice z.d.y.a z.d.y.n z.d.y.c,.int .u64 bad]
def slL (t:Slt):Prop:=t.sz<=60/\t.y.n<=200
instance (t:Slt):Decidable (slL t):=by unfold slL;infer_instance
def lg23 (g:Geo) (n:Nat) (z:Sl4):Prop:=(Right g/\g.b<=12/\g.p<=20/\g.s<=128/\n<=40)/\slL z.a/\slL z.b/\slL z.c/\slL z.d
instance (g:Geo) (n:Nat) (z:Sl4):Decidable (lg23 g n z):=by unfold lg23;infer_instance
section
variable {w:World} {g:Geo} {P:SlV} {z:Sl4} {bad:Int}
theorem payload23_c {n sd:Int} (hn:0<=n/\n<=1000):CallV Tryz.prog 59 #[.int .i64 n,.int .u8 sd] w [.one .sl] λr w'=>Res w w' r.1 (pay23 n.toNat sd):=by
 apply law23_payload.vc
 unfold law23_payload.P
 have S:=Sep.start NoB w
 refine S.newB λb1 w1 S f1 _=>?_
 have S:=S.asOwn (sz:=1) (n:=0) rfl (by omega) oneAll.nil
 refine Loop1 (λ(v:SlV×Int×Unit) w'=>∃ i:Nat,v.2.1=(i:Int)/\(i:Int)<=n/\v.1.n=i/\Sep NoB w w' [OwnA 5 1 v.1.a v.1.n v.1.c ((pay23 i sd).map (Value.int .u8))]) (λ(v:SlV×Int×Unit) _=>(n-v.2.1).toNat) ⟨0,rfl,by omega,rfl,S⟩ ?_
 rintro ⟨⟨a,m,c⟩,(v:Int),⟨⟩⟩ w4 ⟨i,hv,hi,hm,S⟩
 dsimp only at hv hm S ⊢
 subst hv
 subst hm
 refine cond_d (λhlt=>?_) (λhge=>?_)
 ·refine S.newB λb6 w5 S f5 _=>?_
  refine AppS.of (news:=[.int .u8 (IntKind.u8.wrap (IntKind.u8.wrap (m:Int)*sd))]) rfl (.inr ⟨_,rfl,S.cells 0 rfl⟩) ?_
  refine S.ap1 rfl (λu hu=>by rw [List.mem_singleton.1 hu];rfl) (by omega) (by omega) λa' c' w6 S f6=>⟨Rng.i64 (by omega) (by omega),⟨m+1,by push_cast;rfl,by omega,rfl,?_⟩,by omega⟩
  have e:(pay23 (m+1) sd).map (Value.int .u8)=(pay23 m sd).map (Value.int .u8)++[.int .u8 (IntKind.u8.wrap (IntKind.u8.wrap (m:Int)*sd))]:=by
   unfold pay23
   rw [List.range_succ,List.map_append,List.map_append]
   rfl
  rw [e]
  exact S.sel [1] rfl
 ·have:n.toNat=m:=by omega
  rw [this]
  exact S.out
theorem light23_c:CallV Tryz.prog 6 #[.agg (csL g P z bad).toArray] w [.one .bool] λr w'=>r.1=decide (lg23 g P.n z)/\Ext w w':=by
 apply law23_light.vc
 unfold law23_light.P
 have S:=Sep.start NoB w
 refine S.newB (vs:=csL g P z bad) λb1 w1 S f1 _=>?_
 refine S.lb0 (o:=0) rfl ?_
 refine (Right_c (g:=g)).mono ?_
 rintro ⟨(r:Bool),⟨⟩⟩ w2 ⟨h2,x2⟩
 dsimp only at h2 ⊢
 have S:=S.stepE x2
 have no:∀ {w':World},¬ lg23 g P.n z->Ext w w'->false=decide (lg23 g P.n z)/\Ext w w':=λh e=>⟨(decide_eq_false h).symm,e⟩
 by_cases hR:Right g
 case neg=>exact cond_t (by rw [h2,decide_eq_false hR];rfl) (no (λk=>hR k.1.1) S.ext)
 refine cond_f (by rw [h2,decide_eq_true hR];rfl) ?_
 refine S.ld0 (j:=0) rfl rfl (cond_d (λ(h:g.b>12)=>no (λk=>by have:=k.1.2.1;omega) S.ext) (λ(k1:¬ g.b>12)=>?_))
 refine S.ld0 (j:=1) rfl rfl (cond_d (λ(h:g.p>20)=>no (λk=>by have:=k.1.2.2.1;omega) S.ext) (λ(k2:¬ g.p>20)=>?_))
 refine S.ld0 (j:=2) rfl rfl (cond_d (λ(h:g.s>128)=>no (λk=>by have:=k.1.2.2.2.1;omega) S.ext) (λ(k3:¬ g.s>128)=>?_))
 refine S.ld0 (j:=6) rfl rfl (cond_d (λ(h:(P.n:Int)>40)=>no (λk=>by have:=k.1.2.2.2.2;omega) S.ext) (λ(k4:¬ (P.n:Int)>40)=>?_))
 refine Loop1 (λ(v:Int×Unit) w'=>(0<=v.1/\v.1<=4)/\(0<v.1->slL z.a)/\(1<v.1->slL z.b)/\(2<v.1->slL z.c)/\(3<v.1->slL z.d)/\Sep NoB w w' [BoxA b1 31 (csL g P z bad)]) (λ(v:Int×Unit) _=>(4-v.1).toNat) ⟨⟨by decide,by decide⟩,λh=>absurd h (by decide),λh=>absurd h (by decide),λh=>absurd h (by decide),λh=>absurd h (by decide),S⟩ ?_
 clear S
 rintro ⟨(v:Int),⟨⟩⟩ w3 ⟨hv,ha,hb,hc,hd,S⟩
 dsimp only at hv ha hb hc hd ⊢
 refine cond_d (λhlt=>?_) (λhge=>⟨(decide_eq_true ⟨⟨hR,by omega,by omega,by omega,by omega⟩,ha (by omega),hb (by omega),hc (by omega),hd (by omega)⟩).symm,S.ext⟩)
 simp only [Addr.add_lit,Nat.zero_add]
 have:v=0\/v=1\/v=2\/v=3:=by omega
 rcases this with e | e | e | e <;> subst e
 ·refine ⟨⟨by decide,by decide⟩,S.ld0 (j:=8) rfl rfl (cond_d (λ(h:z.a.sz>60)=>no (λk=>by have:=k.2.1.1;omega) S.ext) (λ(q1:¬ z.a.sz>60)=>⟨⟨by decide,by decide⟩,S.ld0 (j:=11) rfl rfl (cond_d (λ(h:(z.a.y.n:Int)>200)=>no (λk=>by have:=k.2.1.2;omega) S.ext) (λ(q2:¬ (z.a.y.n:Int)>200)=>?_))⟩))⟩
  exact ⟨Rng.i64 (by decide) (by decide),⟨⟨by decide,by decide⟩,λ_=>⟨by omega,by omega⟩,λh=>absurd h (by decide),λh=>absurd h (by decide),λh=>absurd h (by decide),S⟩,by decide⟩
 ·refine ⟨⟨by decide,by decide⟩,S.ld0 (j:=13) rfl rfl (cond_d (λ(h:z.b.sz>60)=>no (λk=>by have:=k.2.2.1.1;omega) S.ext) (λ(q1:¬ z.b.sz>60)=>⟨⟨by decide,by decide⟩,S.ld0 (j:=16) rfl rfl (cond_d (λ(h:(z.b.y.n:Int)>200)=>no (λk=>by have:=k.2.2.1.2;omega) S.ext) (λ(q2:¬ (z.b.y.n:Int)>200)=>?_))⟩))⟩
  exact ⟨Rng.i64 (by decide) (by decide),⟨⟨by decide,by decide⟩,λ_=>ha (by decide),λ_=>⟨by omega,by omega⟩,λh=>absurd h (by decide),λh=>absurd h (by decide),S⟩,by decide⟩
 ·refine ⟨⟨by decide,by decide⟩,S.ld0 (j:=18) rfl rfl (cond_d (λ(h:z.c.sz>60)=>no (λk=>by have:=k.2.2.2.1.1;omega) S.ext) (λ(q1:¬ z.c.sz>60)=>⟨⟨by decide,by decide⟩,S.ld0 (j:=21) rfl rfl (cond_d (λ(h:(z.c.y.n:Int)>200)=>no (λk=>by have:=k.2.2.2.1.2;omega) S.ext) (λ(q2:¬ (z.c.y.n:Int)>200)=>?_))⟩))⟩
  exact ⟨Rng.i64 (by decide) (by decide),⟨⟨by decide,by decide⟩,λ_=>ha (by decide),λ_=>hb (by decide),λ_=>⟨by omega,by omega⟩,λh=>absurd h (by decide),S⟩,by decide⟩
 ·refine ⟨⟨by decide,by decide⟩,S.ld0 (j:=23) rfl rfl (cond_d (λ(h:z.d.sz>60)=>no (λk=>by have:=k.2.2.2.2.1;omega) S.ext) (λ(q1:¬ z.d.sz>60)=>⟨⟨by decide,by decide⟩,S.ld0 (j:=26) rfl rfl (cond_d (λ(h:(z.d.y.n:Int)>200)=>no (λk=>by have:=k.2.2.2.2.2;omega) S.ext) (λ(q2:¬ (z.d.y.n:Int)>200)=>?_))⟩))⟩
  exact ⟨Rng.i64 (by decide) (by decide),⟨⟨by decide,by decide⟩,λ_=>ha (by decide),λ_=>hb (by decide),λ_=>hc (by decide),λ_=>⟨by omega,by omega⟩,S⟩,by decide⟩
end
structure Pg23 where
 b:Int
 p:Int
 h:Hd
 sd:Int
 dn:Bool
abbrev Pg23.vs (x:Pg23):List Value:=[.int .i64 x.b,.int .i64 x.p,.int .i64 x.h.k,.int .i64 x.h.n,.int .i64 x.h.c,.int .u32 x.h.l,.int .u64 x.h.e,.int .u64 x.h.t,.int .u8 x.sd,.bool x.dn]
abbrev Pg23.val (x:Pg23):Value:=.agg #[.int .i64 x.b,.int .i64 x.p,.int .i64 x.h.k,.int .i64 x.h.n,.int .i64 x.h.c,.int .u32 x.h.l,.int .u64 x.h.e,.int .u64 x.h.t,.int .u8 x.sd,.bool x.dn]
def pgB (C:CD) (x:Pg23) (o:Int):List Int:=mkL C.g x.h (pay23 C.g.s.toNat (IntKind.u8.wrap (x.sd+o))) []
def prg23 (C:CD) (x:Pg23) (o:Int):CD:=
 if HRight x.h then (if x.dn=true then (progC (progC C x.b x.p (pgB C x o)).1 x.b x.p (comL C.g)).1 else (progC C x.b x.p (pgB C x o)).1) else C
abbrev nilF:SlP TF.T:=⟨none,0,0,[]⟩
section
variable {E:Nat->Prop} {w0 w:World} {Rs:List Asr} {p:Nat} {C:CD} {B:SlP TBd.T} {x:Pg23} {o:Int}
theorem program23_c (hC:COk C) (ho:C.ops+2<=1000000000000) (hpl:C.pl=[]) (hdb:B.l.map bdOf=C.bs) (hr:x.h.rng) (S:Sep E w0 w (RdT (Ty.sl TBd) B::chipE p C::Rs)) :
  CallV Tryz.prog 25 #[.pointer (some ⟨p,0,none⟩),chVal B nilF C,x.val,.int .u8 o] w [.agg SH10] λr w'=>
   ∃ B':SlP TBd.T,r.1=chT B' nilF (prg23 C x o)/\B'.l.map bdOf=(prg23 C x o).bs/\Sep E w0 w' (RdT (Ty.sl TBd) B'::chipE p (prg23 C x o)::Rs):=by
 apply law23_program.vc
 unfold law23_program.P
 obtain ⟨⟨n1,n2⟩,⟨n3,n4⟩,⟨n5,n6⟩,n7,n8⟩:=hC.num
 refine S.newB (vs:=chV B nilF C) λb1 w1 S f1 _=>?_
 refine S.newB (vs:=x.vs) λb3 w3 S f3 _=>?_
 refine S.newB (vs:=zCH) λb5 w5 S f5 _=>?_
 refine S.lb1 (o:=2) rfl ?_
 refine (HRight_c (h:=x.h)).mono ?_
 rintro ⟨(r:Bool),⟨⟩⟩ w6 ⟨h6,x6⟩
 dsimp only at h6 ⊢
 have S:=S.stepE x6
 by_cases hH:HRight x.h
 case neg=>
  refine cond_t (by rw [h6,decide_eq_false hH];rfl) (S.la2 rfl (S.st0 (by rfl) λw7 S f7=>S.la0 rfl ⟨B,?_,?_,?_⟩))
  ·unfold prg23;rw [if_neg hH]
  ·unfold prg23;rw [if_neg hH];exact hdb
  ·unfold prg23;rw [if_neg hH];exact S.tail.tail.tail
 refine cond_f (by rw [h6,decide_eq_true hH];rfl) ?_
 refine S.reg λD hD hkeep Sd T=>?_
 refine ⟨hD _ S.bl2,Sd.lb2 (o:=0) rfl ⟨hD _ S.bl1,Sd.lb1 (o:=2) rfl ⟨hD _ S.bl2,Sd.ld2 (j:=2) rfl rfl ⟨hD _ S.bl1,Sd.ld1 (j:=8) rfl rfl ?_⟩⟩⟩⟩
 refine (payload23_c (n:=C.g.s) (by omega)).mono ?_
 rintro ⟨⟨sa,sn,sc⟩,⟨⟩⟩ w7 h7
 dsimp only
 have T:=T.stepE h7.ext
 have sn7:sn=C.g.s.toNat:=by have h:=h7.ints.len;rw [pay23_len] at h;exact h.symm
 refine ⟨hkeep _ T.fr,?_⟩
 refine (rMake_c (g:=C.g) (h:=x.h) hr h7.ints intsNil ⟨hC.g,⟨hH,.inl rfl⟩,.inr (by show (sn:Int)=C.g.s;omega)⟩).mono ?_
 rintro ⟨⟨ma,mn,mc⟩,⟨⟩⟩ w8 h8
 dsimp only
 have T:=T.stepE h8.ext
 refine ⟨hkeep _ T.fr,?_⟩
 have h8:Res w7 w8 ⟨ma,mn,mc⟩ (pgB C x o):=h8
 have bm:Byt (pgB C x o):=mkL_byt hr hH (pay23_byt _ _) (λy hy=>(List.not_mem_nil hy).elim)
 have lm:(pgB C x o).length=mn:=h8.ints.len
 have S:=res_rdL (Sd.stepE h7.ext) h8 bm
 have hml:mn<=100000:=by
  rw [<-lm]
  unfold pgB mkL payL
  rw [List.length_append,endL_length _ (.inl rfl)]
  split
  ·rw [List.length_replicate];omega
  ·rw [pay23_len];omega
 refine S.la3 rfl (S.lb2 (o:=0) rfl ?_)
 have hnil:LF.rd w8 All nilF:=⟨rfl,Nat.le_refl _,Nat.zero_le _,.inl ⟨rfl,rfl⟩,λy hy=>(List.not_mem_nil hy).elim⟩
 refine refCall (l:=[.agg SH10,.one (.int .i64)]) (f:=nilF) (get:=λr=>r.1) (Q:=λr=>True) (C':=(progC C x.b x.p (pgB C x o)).1) (S.fro [4] rfl) hdb hnil hpl.symm (λH hHH hRR=>(rProgram13_c hHH hRR hC (by omega) h8.ints bm).mono λr w' ⟨B',a,b,c,d⟩=>⟨B',a,trivial,c,d⟩) ?_
 rintro ⟨rt,(e:Int),⟨⟩⟩ w9 B1 hr1-hdb1 x9 S
 dsimp only at hr1
 subst hr1
 refine S.st4 (by rfl) λw10 S f10=>S.lb3 (o:=0) rfl ?_
 refine (Program_e (bl:=x.b) (pa:=x.p) (dd:=⟨ma,mn,mc,pgB C x o⟩) hC hml (S.fro [5,1] rfl)).mono ?_
 rintro ⟨(e2:Int),⟨⟩⟩ w11 ⟨-,S⟩
 obtain ⟨hC1,ho1,ho2⟩:=progC_ok hC x.b x.p bm (by omega)
 have hk1:=progC_k C x.b x.p (pgB C x o)
 refine S.ld4 (j:=9) rfl rfl (cond_of (λ(hd:x.dn=true)=>?_) (λ(hd:x.dn=false)=>?_))
 case refine_2=>
  have hp:prg23 C x o=(progC C x.b x.p (pgB C x o)).1:=by unfold prg23;rw [if_pos hH,if_neg (by rw [hd];decide)]
  rw [hp]
  refine S.la5 rfl (S.st3 (by rfl) λw12 S f12=>S.la3 rfl ⟨B1,rfl,hdb1,?_⟩)
  have S:=(S.fro [1] rfl).tail
  have S:=(S.fro [2] rfl).tail
  have S:=(S.fro [2] rfl).tail
  have S:=(S.fro [2] rfl).tail
  exact S.fro [1] rfl
 have hp:prg23 C x o=(progC (progC C x.b x.p (pgB C x o)).1 x.b x.p (comL C.g)).1:=by unfold prg23;rw [if_pos hH,if_pos hd]
 rw [hp]
 clear hp
 rw [<-hk1.1]
 have hpl1:=hk1.2.trans hpl
 generalize (progC C x.b x.p (pgB C x o)).1=C1 at S hdb1 hC1 ho1 ho2 hpl1
 have bc:Byt (comL C1.g):=comL_byt C1.g
 have hkk:=progC_k C1 x.b x.p (comL C1.g)
 have g5:32<=C1.g.s/\C1.g.s<=128:=by have:=hC1.num.2.2.1;omega
 have hcl:(comL C1.g).length<=100000:=by rw [comL_len];omega
 refine ⟨λ_ w'=>∃ B2:SlP TBd.T,B2.l.map bdOf=(progC C1 x.b x.p (comL C1.g)).1.bs/\Sep E w0 w' (RdT (Ty.sl TBd) B2::chipE p C1::RdL [⟨ma,mn,mc,pgB C x o⟩]::BoxA b5 45 zCH::BoxA b3 63 x.vs::BoxA b1 45 (chV B2 nilF (progC C1 x.b x.p (comL C1.g)).1)::Rs),?_,?_⟩
 ·rintro ⟨⟩ w12 ⟨B2,hdb2,S⟩
  have S:=S.fro [1] rfl
  refine Sep.regC [_] S λG D hG U S hDt hDo hkeep back=>?_
  refine ⟨hDt 3 _ _ _ rfl,S.lb4 (o:=0) rfl ⟨hDt 4 _ _ _ rfl,S.lb5 (o:=0) rfl ?_⟩⟩
  refine (rCommit15_c (g:=(progC C1 x.b x.p (comL C1.g)).1.g) (by rw [hkk.1];exact hC1.g)).mono ?_
  rintro ⟨⟨ca,cn,cc⟩,⟨⟩⟩ w13 h13
  dsimp only
  rw [hkk.1] at h13
  have U:=(res_rdL U h13 bc).fro [1] rfl
  refine ⟨hkeep _ U.fr,?_⟩
  have hcn:cn<=100000:=by have h:(comL C1.g).length=cn:=h13.ints.len;omega
  refine (Program_e (bl:=x.b) (pa:=x.p) (dd:=⟨ca,cn,cc,comL C1.g⟩) hC1 hcn U).mono ?_
  rintro ⟨(e3:Int),⟨⟩⟩ w14 ⟨-,U⟩
  refine ⟨hkeep _ U.fr,?_⟩
  have S:=back _ _ U
  refine S.la6 rfl (S.st4 (by rfl) λw15 S f15=>S.la4 rfl ⟨B2,rfl,hdb2,?_⟩)
  have S:=(S.fro [1] rfl).tail
  have S:=(S.fro [2] rfl).tail
  have S:=(S.fro [2] rfl).tail
  have S:=(S.fro [2] rfl).tail
  have S:=(S.fro [2] rfl).tail
  exact S.fro [1] rfl
 ·have hne:=S.ne 4 5 (by omega) rfl rfl
  refine S.regX (λk=>k=b1) λD hD hkeep Sd T=>?_
  refine ⟨hD _ S.bl4 hne,Sd.lb4 (o:=0) rfl ?_⟩
  have fin:∀ {w7:World} {ca:Option Addr} {cn cc:Nat},Sep NoB w11.drew w7 []->Ints w7 .u8 ca cn cc (comL C1.g)->CallV Tryz.prog 60 #[chVal B1 nilF C1,.agg #[.int .i64 x.b,.int .i64 x.p],.slice ca cn cc] w7 [.agg SH10,.one (.int .i64)] λ(r:(Int×Int×Int×Int×Int×Int×SlV×SlV×Bool×Int×Unit)×Int×Unit) w8=>
    KeepOn D w11.drew w8/\StoreV w8 ⟨b1,0,none⟩ [.int .i64 r.1.1,.int .i64 r.1.2.1,.int .i64 r.1.2.2.1,.int .i64 r.1.2.2.2.1,.int .i64 r.1.2.2.2.2.1,.int .i64 r.1.2.2.2.2.2.1,.slice r.1.2.2.2.2.2.2.1.a r.1.2.2.2.2.2.2.1.n r.1.2.2.2.2.2.2.1.c,.slice r.1.2.2.2.2.2.2.2.1.a r.1.2.2.2.2.2.2.2.1.n r.1.2.2.2.2.2.2.2.1.c,.bool r.1.2.2.2.2.2.2.2.2.1,.int .i64 r.1.2.2.2.2.2.2.2.2.2.1] λw9=>
    KeepOn D w11.drew w9/\∃ B2:SlP TBd.T,B2.l.map bdOf=(progC C1 x.b x.p (comL C1.g)).1.bs/\Sep E w0 w9 (RdT (Ty.sl TBd) B2::chipE p C1::RdL [⟨ma,mn,mc,pgB C x o⟩]::BoxA b5 45 zCH::BoxA b3 63 x.vs::BoxA b1 45 (chV B2 nilF (progC C1 x.b x.p (comL C1.g)).1)::Rs):=λ{w7 ca cn cc} T hI=>by
   have S:=Sd.stepE T.ext
   have hnil:LF.rd w7 All nilF:=⟨rfl,Nat.le_refl _,Nat.zero_le _,.inl ⟨rfl,rfl⟩,λy hy=>(List.not_mem_nil hy).elim⟩
   refine refCall (l:=[.agg SH10,.one (.int .i64)]) (f:=nilF) (get:=λr=>r.1) (Q:=λr=>True) (C':=(progC C1 x.b x.p (comL C1.g)).1) (S.fro [2] rfl) hdb1 hnil hpl1.symm (λH hHH hRR=>(rProgram13_c hHH hRR hC1 (by omega) hI bc).mono λr w' ⟨B',a,b,c,d⟩=>⟨B',a,trivial,c,d⟩) ?_
   rintro ⟨rt,(e:Int),⟨⟩⟩ w9 B2 hr2-hdb2 x9 S
   dsimp only at hr2
   subst hr2
   have T:=T.stepE x9
   refine ⟨hkeep _ T.fr.any,S.st5 (by rfl) λw10 S f10=>⟨hkeep _ (T.fr.any.trans f10),B2,hdb2,S⟩⟩
  have com:∀ {w7:World},Sep NoB w11.drew w7 []->∀ {K:SlV×Unit->World->Prop},(∀ ca cn cc w8,Sep NoB w11.drew w8 []->Ints w8 .u8 ca cn cc (comL C1.g)->K (⟨ca,cn,cc⟩,()) w8)->CallV Tryz.prog 62 #[C1.g.val] w7 [.one .sl] K:=λ{w7} T K hK=>
   (rCommit15_c hC1.g).mono λr w8 h=>by
    obtain ⟨⟨ca,cn,cc⟩,⟨⟩⟩:=r
    exact hK ca cn cc w8 (T.stepE h.ext) h.ints
  refine ⟨?_,?_⟩
  ·refine Sd.la5 rfl ⟨hkeep _ T.fr.any,Sd.lb5 (o:=0) rfl ⟨hkeep _ T.fr.any,?_⟩⟩
   refine com T λca cn cc w8 T hI=>?_
   refine ⟨hkeep _ T.fr.any,?_⟩
   exact fin T hI
  refine Sd.lb5 (o:=0) rfl ⟨hkeep _ T.fr.any,?_,?_⟩
  ·refine Sd.la5 rfl ⟨hkeep _ T.fr.any,?_⟩
   refine com T λca cn cc w8 T hI=>?_
   refine ⟨hkeep _ T.fr.any,?_⟩
   exact fin T hI
  ·refine com T λca cn cc w8 T hI=>?_
   refine ⟨hkeep _ T.fr.any,?_⟩
   refine (Sd.stepE T.ext).la5 rfl ⟨hkeep _ T.fr.any,?_⟩
   exact fin T hI
end
abbrev TH23:Ty:=.cons (.int .i64) (.cons (.int .i64) (.cons (.int .i64) (.cons (.int .u32) (.cons (.int .u64) (.cons (.int .u64) .nil)))))
abbrev TPg:Ty:=.cons (.cons (.int .i64) (.cons (.int .i64) .nil)) (.cons TH23 (.cons (.int .u8) (.cons .bool .nil)))
abbrev LPg:Ty:=.sl TPg
abbrev pgOf (z:TPg.T):Pg23:=⟨z.1.1,z.1.2.1,⟨z.2.1.1,z.2.1.2.1,z.2.1.2.2.1,z.2.1.2.2.2.1,z.2.1.2.2.2.2.1,z.2.1.2.2.2.2.2.1⟩,z.2.2.1,z.2.2.2.1⟩
def arr23 (C:CD) (L:List TPg.T) (o:Int):Nat->CD
 | 0=>C
 | i+1=>match L[i]? with | some z=>prg23 (arr23 C L o i) (pgOf z) o | none=>arr23 C L o i
theorem prg23_ok {C:CD} {x:Pg23} {o:Int} (hC:COk C) (ho:C.ops+2<=1000000000000) (hr:x.h.rng):COk (prg23 C x o)/\(prg23 C x o).ops<=C.ops+2/\(prg23 C x o).g=C.g/\(prg23 C x o).pl=C.pl:=by
 unfold prg23
 split
 ·rename_i hH
  have bm:Byt (pgB C x o):=mkL_byt hr hH (pay23_byt _ _) (λy hy=>(List.not_mem_nil hy).elim)
  obtain ⟨a1,a2,a3⟩:=progC_ok hC x.b x.p bm (by omega)
  have ak:=progC_k C x.b x.p (pgB C x o)
  split
  ·obtain ⟨b1,b2,b3⟩:=progC_ok a1 x.b x.p (comL_byt C.g) (by omega)
   have bk:=progC_k (progC C x.b x.p (pgB C x o)).1 x.b x.p (comL C.g)
   exact ⟨b1,by omega,bk.1.trans ak.1,bk.2.trans ak.2⟩
  ·exact ⟨a1,by omega,ak.1,ak.2⟩
 ·exact ⟨hC,by omega,rfl,rfl⟩
theorem pg_rng {w:World} {G:Nat->Prop} {z:TPg.T} (h:TPg.rd w G z):(pgOf z).h.rng:=by
 obtain ⟨-,⟨-,-,-,h1,h2,h3,-⟩,-⟩:=h
 exact ⟨rng_u32 h1,rng_u64 h2,rng_u64 h3⟩
theorem arr23_ok {C:CD} {L:List TPg.T} {o:Int} (hC:COk C) (hL:∀ z∈L,(pgOf z).h.rng):∀ i:Nat,C.ops+2*i<=1000000000000->COk (arr23 C L o i)/\(arr23 C L o i).ops<=C.ops+2*i/\(arr23 C L o i).g=C.g/\(arr23 C L o i).pl=C.pl
 | 0,h=>⟨hC,by show C.ops<=_;omega,rfl,rfl⟩
 | i+1,h=>by
  obtain ⟨h1,h2,h3,h4⟩:=arr23_ok hC hL i (by omega)
  unfold arr23
  split
  ·rename_i z hz
   obtain ⟨a1,a2,a3,a4⟩:=prg23_ok (x:=pgOf z) (o:=o) h1 (by omega) (hL z (List.mem_of_getElem? hz))
   exact ⟨a1,by omega,a3.trans h3,a4.trans h4⟩
  ·exact ⟨h1,by omega,h3,h4⟩
section
variable {w:World} {g:Geo} {z:Sl4} {bad o:Int} {L:SlP TPg.T}
theorem array23_c (hR:Right g) (hg:LG g) (hn:L.n<=1000) (hL:LPg.rd w All L) :
  CallV Tryz.prog 9 #[.agg (csL g ⟨L.a,L.n,L.c⟩ z bad).toArray,.int .u8 o] w [.one .ptr,.agg SH10] λr w'=>∃ (p:Nat) (B:SlP TBd.T),r.1=some (⟨p,0,none⟩:Addr)/\r.2.1=chT B nilF (arr23 (newC g []) L.l o L.n) /\
   B.l.map bdOf=(arr23 (newC g []) L.l o L.n).bs/\Sep NoB w w' [RdT (Ty.sl TBd) B,chipE p (arr23 (newC g []) L.l o L.n)]:=by
 apply law23_array.vc
 unfold law23_array.P
 have S:=Sep.start NoB w
 have hC0:COk (newC g []):=newC_ok hR hg λf hf=>(List.not_mem_nil hf).elim
 have hLr:∀ z∈L.l,(pgOf z).h.rng:=λz hz=>pg_rng (hL.2.2.2.2 z hz)
 refine S.newB (vs:=csL g ⟨L.a,L.n,L.c⟩ z bad) λb1 w1 S f1 _=>?_
 refine S.newB (vs:=zCH) λb3 w3 S f3 _=>?_
 refine S.lb1 (o:=0) rfl ?_
 refine (New13_c (g:=g) (x:=⟨none,0,0,[]⟩) (G:=All) ⟨rfl,Nat.le_refl _,Nat.zero_le _,.inl ⟨rfl,rfl⟩,λy hy=>(List.not_mem_nil hy).elim⟩ (λf hf=>(List.not_mem_nil hf).elim)).mono ?_
 rintro ⟨pv,(e:Int),⟨⟩⟩ w4 ⟨x4,-,hgood⟩
 obtain ⟨-,p,y,hp,hyF,S2⟩:=hgood ⟨hR,by decide⟩
 dsimp only at hp
 subst hp
 have S:=chip_new (w:=w) hyF (S.frame0 S2)
 refine S.lb2 (o:=0) rfl ?_
 have hnil:LF.rd w4 All nilF:=⟨rfl,Nat.le_refl _,Nat.zero_le _,.inl ⟨rfl,rfl⟩,λy hy=>(List.not_mem_nil hy).elim⟩
 refine (rNew13_c (g:=g) (f:=nilF) hR hnil).mono ?_
 rintro ⟨_,⟨⟩⟩ w5 ⟨B,h5,hRR,x5⟩
 dsimp only at h5
 subst h5
 have S:=S.push (R:=RdT (Ty.sl TBd) B) (F:=λk=>_<=k/\k<w5.heap.size) (.of x5) ((Ty.sl TBd).rd_mono (λk h1 h2=>⟨h1,h2⟩) hRR.rb) λk hk=>hk
 have hdb:B.l.map bdOf=(newC g []).bs:=hRR.db
 refine S.newB (vs:=zCH) λb11 w6 S f6 _=>S.st0 (by rfl) λw7 S f7=>?_
 refine Loop1 (λ(v:Int×Unit) w'=>∃ (i:Nat) (B:SlP TBd.T),v.1=(i:Int)/\i<=L.n/\B.l.map bdOf=(arr23 (newC g []) L.l o i).bs/\Sep NoB w w' [BoxA b11 45 (chV B nilF (arr23 (newC g []) L.l o i)),RdT (Ty.sl TBd) B,chipE p (arr23 (newC g []) L.l o i),BoxA b3 45 zCH,BoxA b1 31 (csL g ⟨L.a,L.n,L.c⟩ z bad)])
  (λ(v:Int×Unit) _=>((L.n:Int)-v.1).toNat) ⟨0,B,rfl,by omega,hdb,S⟩ ?_
 clear S hdb
 rintro ⟨(v:Int),⟨⟩⟩ w8 ⟨i,B1,hv,hi,hdb,S⟩
 dsimp only at hv ⊢
 subst hv
 obtain ⟨hC1,ho1,hg1,hpl1⟩:=arr23_ok (o:=o) hC0 hLr i (by show 0+2*i<=_;omega)
 have ho1:(arr23 (newC g []) L.l o i).ops<=2*i:=by have:(newC g []).ops=0:=rfl;omega
 refine S.ld4 (j:=6) rfl rfl (cond_d (λ(hlt:(i:Int)<(L.n:Int))=>?_) (λ(hge:¬ (i:Int)<(L.n:Int))=>?_))
 case refine_2=>
  have hie:i=L.n:=by omega
  subst hie
  have hne:=S.ne 0 3 (by omega) rfl rfl
  refine S.regX (λk=>k=b3) λD hD hkeep Sd T=>?_
  refine ⟨hD _ S.bl0 hne,Sd.la0 rfl (Sd.st3 (by rfl) λw9 S f9=>⟨hkeep _ f9,S.la3 rfl ⟨p,B1,rfl,rfl,hdb,S.sel [1,1] rfl⟩⟩)⟩
 obtain ⟨q,k,hq,hk,hc,hkr,-,hb⟩:=Ty.nth (e:=TPg) hL (i:=(i:Int)) (by omega) hlt (by decide)
 rw [Int.toNat_natCast] at hk hc
 have hst:arr23 (newC g []) L.l o (i+1)=prg23 (arr23 (newC g []) L.l o i) (pgOf k) o:=by
  show (match L.l[i]? with | some z=>prg23 (arr23 (newC g []) L.l o i) (pgOf z) o | none=>arr23 (newC g []) L.l o i)=_
  rw [hk]
 have hpr:=pg_rng hkr
 generalize arr23 (newC g []) L.l o i=C1 at S hC1 ho1 hg1 hpl1 hst hdb
 refine Sep.regC [_,_,_] S λG D hG U S hDt hDo hkeep back=>?_
 refine ⟨hDt 1 _ _ _ rfl,S.ld4 (j:=6) rfl rfl ⟨⟨by omega,hlt⟩,q,hq,by rw [add_block];exact hDo _ hb (λh=>h),?_⟩⟩
 rw [Int.toNat_natCast]
 have hcw:CellsAt w8.drew (q.add (i*10)) (TPg.vs k):=(S.ext).cells hc
 refine ⟨((pgOf k).b,(pgOf k).p,(pgOf k).h.k,(pgOf k).h.n,(pgOf k).h.c,(pgOf k).h.l,(pgOf k).h.e,(pgOf k).h.t,(pgOf k).sd,(pgOf k).dn,()),hcw,?_⟩
 refine U.la0 rfl ⟨hkeep _ U.fr,?_⟩
 refine (program23_c (x:=pgOf k) (o:=o) hC1 (by omega) (hpl1.trans rfl) hdb hpr (U.fro [1,1] rfl)).mono ?_
 rintro ⟨_,⟨⟩⟩ w9 ⟨B2,h9,hdb2,U⟩
 dsimp only at h9
 subst h9
 refine ⟨hkeep _ U.fr,U.st2 (by rfl) λw10 U f10=>⟨hkeep _ U.fr,Rng.i64 (by omega) (by omega),⟨i+1,B2,by push_cast;rfl,by omega,by rw [hst];exact hdb2,?_⟩,by omega⟩⟩
 rw [hst]
 exact (back _ _ U).sel [2,0,0,0,0] rfl
end
end Go.Proofs.YtcekmdehjnlkpaaGreat.Vc
namespace Go.Proofs.YtcekmdehjnlkpaaGreat.Vc
open Go Go.Eng
def ref23_Block.A:Ann:=.two .no (.two (.two (.draw (.take 0 (.take 1 (.take 2 (.take 3 (.take 4 (.take 5 (.take 6 (.take 7 (.done)))))))))) .no) (.join [7,20,21,22,23,24] [(7,.one .ptr)] (.draw (.take 0 (.take 1 (.take 2 (.take 3 (.both 4 (.eff 5 (.eff 6 (.done))) 5 (.eff 4 (.eff 6 (.done))))))))) (.two .no (.two .no (.two (.two .no (.one (.loop [9,10,45,46,47,48,49,50,51,52,53,54,55,56,57,58,59,60,61,62,63,64,65,66,67,68,69,70,71,72,73,74,75,76,77,78,79,80,81,82,83,84,85,86,87,88,89,90,91,92,93,94,95,96,97,98,99,100,101,102,103,104] [(9,.one (.int .i64))] (.two .no (.two (.one (.two (.two (.draw (.take 0 (.take 1 (.take 2 (.take 3 (.take 4 (.take 5 (.take 6 (.take 7 (.take 8 (.done))))))))))) .no) (.join [10,60,61,62,63,64,65] [(10,.one .ptr)] (.draw (.take 0 (.take 1 (.take 2 (.take 3 (.take 4 (.both 5 (.eff 6 (.eff 7 (.done))) 6 (.eff 5 (.eff 7 (.done)))))))))) .no))) .no))))) .no)))))
def ref23_Block.P (p0_0 p0_1 p0_2 p0_3 p0_4 p0_5 p1:Int) (a2:Option Addr) (n2 c2:Nat) (w:World) (K:(Bool×Int×Int×Int×Int×Int×Int×Int×Int×SlV×Unit)×Unit->World->Prop):Prop:=
 NewV #[.int .i64 p0_0,.int .i64 p0_1,.int .i64 p0_2,.int .i64 p0_3,.int .i64 p0_4,.int .i64 p0_5] 23 w λb1 w2=>
 NewV #[.bool false,.int .i64 0,.int .i64 0,.int .i64 0,.int .i64 0,.int .i64 0,.int .u32 0,.int .u64 0,.int .u64 0,.slice none 0 0] 54 w2 λb3 w4=>
 DrawV λD5=>
 (0<=(0:Int)/\0<((n2:Nat):Int))/\∃ q6:Addr,a2=some q6 /\
 (D5 (q6.add (0*1)).block/\LoadS w4.drew (q6.add (0*1)) .sl λ(x7:SlV)=>
 (D5 b1/\LoadS w4.drew ⟨b1,2,none⟩ (.int .i64) λ(x8:Int)=>
 Rng .i64 (x8+88) /\
 cond (((x7.n:Nat):Int) != (x8+88))
 (StoreV w4.drew ⟨b3,0,none⟩ [.bool false,.int .i64 0,.int .i64 0,.int .i64 0,.int .i64 0,.int .i64 0,.int .u32 0,.int .u64 0,.int .u64 0,.slice none 0 0] λw9=>
 LoadA w9 ⟨b3,0,none⟩ [.bool,.int .i64,.int .i64,.int .i64,.int .i64,.int .i64,.int .u32,.int .u64,.int .u64,.sl] λ(x10:Bool×Int×Int×Int×Int×Int×Int×Int×Int×SlV×Unit)=>
 K ((x10.1,x10.2.1,x10.2.2.1,x10.2.2.2.1,x10.2.2.2.2.1,x10.2.2.2.2.2.1,x10.2.2.2.2.2.2.1,x10.2.2.2.2.2.2.2.1,x10.2.2.2.2.2.2.2.2.1,x10.2.2.2.2.2.2.2.2.2.1,()),()) w9)
 (JoinV [.one .ptr] (λ(v12:(Option Addr)×Unit) w13=>
 PtrK v12.1 λq14=>
 LoadS w13 (q14.add 9) .bool λ(x15:Bool)=>
 cond (!x15)
 (StoreV w13 ⟨b3,0,none⟩ [.bool false,.int .i64 0,.int .i64 0,.int .i64 0,.int .i64 0,.int .i64 0,.int .u32 0,.int .u64 0,.int .u64 0,.slice none 0 0] λw16=>
 LoadA w16 ⟨b3,0,none⟩ [.bool,.int .i64,.int .i64,.int .i64,.int .i64,.int .i64,.int .u32,.int .u64,.int .u64,.sl] λ(x17:Bool×Int×Int×Int×Int×Int×Int×Int×Int×SlV×Unit)=>
 K ((x17.1,x17.2.1,x17.2.2.1,x17.2.2.2.1,x17.2.2.2.2.1,x17.2.2.2.2.2.1,x17.2.2.2.2.2.2.1,x17.2.2.2.2.2.2.2.1,x17.2.2.2.2.2.2.2.2.1,x17.2.2.2.2.2.2.2.2.2.1,()),()) w16)
 (PtrK v12.1 λq18=>
 LoadS w13 (q18.add 1) (.int .i64) λ(x19:Int)=>
 cond (decide (x19>3))
 (StoreV w13 ⟨b3,0,none⟩ [.bool false,.int .i64 0,.int .i64 0,.int .i64 0,.int .i64 0,.int .i64 0,.int .u32 0,.int .u64 0,.int .u64 0,.slice none 0 0] λw20=>
 LoadA w20 ⟨b3,0,none⟩ [.bool,.int .i64,.int .i64,.int .i64,.int .i64,.int .i64,.int .u32,.int .u64,.int .u64,.sl] λ(x21:Bool×Int×Int×Int×Int×Int×Int×Int×Int×SlV×Unit)=>
 K ((x21.1,x21.2.1,x21.2.2.1,x21.2.2.2.1,x21.2.2.2.2.1,x21.2.2.2.2.2.1,x21.2.2.2.2.2.2.1,x21.2.2.2.2.2.2.2.1,x21.2.2.2.2.2.2.2.2.1,x21.2.2.2.2.2.2.2.2.2.1,()),()) w20)
 (PtrK v12.1 λq22=>
 LoadS w13 (q22.add 1) (.int .i64) λ(x23:Int)=>
 PtrK v12.1 λq24=>
 LoadS w13 (q24.add 3) (.int .u32) λ(x25:Int)=>
 PtrK v12.1 λq26=>
 LoadA w13 q26 [.int .i64,.int .i64,.int .i64,.int .u32,.int .u64,.int .u64] λ(x27:Int×Int×Int×Int×Int×Int×Unit)=>
 NewV #[.bool false,.int .i64 0,.int .i64 0,.int .i64 0,.int .i64 0,.int .i64 0,.int .u32 0,.int .u64 0,.int .u64 0,.slice none 0 0] 54 w13 λb28 w29=>
 StoreV w29 ⟨b28,0,none⟩ [.bool true,.int .i64 x23,.int .i64 (IntKind.i64.wrap x25),.int .i64 x27.1,.int .i64 x27.2.1,.int .i64 x27.2.2.1,.int .u32 x27.2.2.2.1,.int .u64 x27.2.2.2.2.1,.int .u64 x27.2.2.2.2.2.1,.slice none 0 0] λw30=>
 LoopV [.one (.int .i64)] ((1:Int),()) w30 λ(z31:Int×Unit) w32 (K33:Int×Unit->World->Prop)=>
 LoadS w32 ⟨b1,1,none⟩ (.int .i64) λ(x34:Int)=>
 cond (decide (z31.1<x34))
 (DrawV λD35=>
 (0<=z31.1/\z31.1<((n2:Nat):Int))/\∃ q36:Addr,a2=some q36 /\
 (D35 (q36.add (z31.1.toNat*1)).block/\LoadS w32.drew (q36.add (z31.1.toNat*1)) .sl λ(x37:SlV)=>
 (D35 b1/\LoadS w32.drew ⟨b1,2,none⟩ (.int .i64) λ(x38:Int)=>
 Rng .i64 (x38+88) /\
 cond (((x37.n:Nat):Int) != (x38+88))
 (Rng .i64 (z31.1+1) /\
 K33 (z31.1+1,()) w32.drew)
 (JoinV [.one .ptr] (λ(v40:(Option Addr)×Unit) w41=>
 PtrK v40.1 λq42=>
 LoadS w41 (q42.add 9) .bool λ(x43:Bool)=>
 cond x43
 (PtrK v40.1 λq44=>
 LoadS w41 (q44.add 8) .bool λ(x45:Bool)=>
 cond x45
 (PtrK v40.1 λq46=>
 LoadS w41 q46 (.int .i64) λ(x47:Int)=>
 cond (x47 == 1)
 (PtrK v40.1 λq48=>
 LoadS w41 (q48.add 1) (.int .i64) λ(x49:Int)=>
 LoadS w41 ⟨b28,1,none⟩ (.int .i64) λ(x50:Int)=>
 cond (x49 == x50)
 (LoadS w41 ⟨b28,9,none⟩ .sl λ(x51:SlV)=>
 PtrK v40.1 λq52=>
 LoadA w41 q52 [.int .i64,.int .i64,.int .i64,.int .u32,.int .u64,.int .u64] λ(x53:Int×Int×Int×Int×Int×Int×Unit)=>
 LoadA w41 ⟨b28,3,none⟩ [.int .i64,.int .i64,.int .i64,.int .u32,.int .u64,.int .u64] λ(x54:Int×Int×Int×Int×Int×Int×Unit)=>
 NewV #[.int .i64 p1,.int .i64 z31.1,.int .i64 x53.1,.int .i64 x53.2.1,.int .i64 x53.2.2.1,.int .u32 x53.2.2.2.1,.int .u64 x53.2.2.2.2.1,.int .u64 x53.2.2.2.2.2.1,.int .i64 x54.1,.int .i64 x54.2.1,.int .i64 x54.2.2.1,.int .u32 x54.2.2.2.1,.int .u64 x54.2.2.2.2.1,.int .u64 x54.2.2.2.2.2.1] 60 w41 λb55 w56=>
 AppS w56 (some ⟨b55,0,none⟩) 1 14 λns61=>
 AppV w56 60 14 112 x51.a x51.n x51.c ns61 1 λa57 n58 c59 w60=>
 StoreV w60 ⟨b28,9,none⟩ [.slice a57 n58 c59] λw62=>
 Rng .i64 (z31.1+1) /\
 K33 (z31.1+1,()) w62)
 (Rng .i64 (z31.1+1) /\
 K33 (z31.1+1,()) w41))
 (PtrK v40.1 λq63=>
 LoadS w41 q63 (.int .i64) λ(x64:Int)=>
 cond (x64 == 2)
 (PtrK v40.1 λq65=>
 LoadS w41 (q65.add 1) (.int .i64) λ(x66:Int)=>
 LoadS w41 ⟨b28,1,none⟩ (.int .i64) λ(x67:Int)=>
 cond (x66 == x67)
 (LoadS w41 ⟨b28,9,none⟩ .sl λ(x68:SlV)=>
 PtrK v40.1 λq69=>
 LoadA w41 q69 [.int .i64,.int .i64,.int .i64,.int .u32,.int .u64,.int .u64] λ(x70:Int×Int×Int×Int×Int×Int×Unit)=>
 LoadA w41 ⟨b28,3,none⟩ [.int .i64,.int .i64,.int .i64,.int .u32,.int .u64,.int .u64] λ(x71:Int×Int×Int×Int×Int×Int×Unit)=>
 NewV #[.int .i64 p1,.int .i64 z31.1,.int .i64 x70.1,.int .i64 x70.2.1,.int .i64 x70.2.2.1,.int .u32 x70.2.2.2.1,.int .u64 x70.2.2.2.2.1,.int .u64 x70.2.2.2.2.2.1,.int .i64 x71.1,.int .i64 x71.2.1,.int .i64 x71.2.2.1,.int .u32 x71.2.2.2.1,.int .u64 x71.2.2.2.2.1,.int .u64 x71.2.2.2.2.2.1] 60 w41 λb72 w73=>
 AppS w73 (some ⟨b72,0,none⟩) 1 14 λns78=>
 AppV w73 60 14 112 x68.a x68.n x68.c ns78 1 λa74 n75 c76 w77=>
 StoreV w77 ⟨b28,9,none⟩ [.slice a74 n75 c76] λw79=>
 Rng .i64 (z31.1+1) /\
 K33 (z31.1+1,()) w79)
 (Rng .i64 (z31.1+1) /\
 K33 (z31.1+1,()) w41))
 (Rng .i64 (z31.1+1) /\
 K33 (z31.1+1,()) w41)))
 (Rng .i64 (z31.1+1) /\
 K33 (z31.1+1,()) w41))
 (Rng .i64 (z31.1+1) /\
 K33 (z31.1+1,()) w41)) λ(J39:(Option Addr)×Unit->World->Prop)=>
 DrawV λD80=>
 (D80 b1/\LoadA w32.drew.drew ⟨b1,0,none⟩ [.int .i64,.int .i64,.int .i64,.int .i64,.int .i64,.int .i64] λ(x81:Int×Int×Int×Int×Int×Int×Unit)=>
 (0<=z31.1/\z31.1<((n2:Nat):Int))/\∃ q82:Addr,a2=some q82 /\
 (D80 (q82.add (z31.1.toNat*1)).block/\LoadS w32.drew.drew (q82.add (z31.1.toNat*1)) .sl λ(x83:SlV)=>
 ((CallV Tryz.prog 27 #[.agg #[.int .i64 x81.1,.int .i64 x81.2.1,.int .i64 x81.2.2.1,.int .i64 x81.2.2.2.1,.int .i64 x81.2.2.2.2.1,.int .i64 x81.2.2.2.2.2.1],.slice x83.a x83.n x83.c] w32.drew.drew [.agg [.int .i64,.int .i64,.int .i64,.int .u32,.int .u64,.int .u64,.sl,.sl,.bool,.bool]] λ(r84:(Int×Int×Int×Int×Int×Int×SlV×SlV×Bool×Bool×Unit)×Unit) w85=>
 KeepOn D80 w32.drew.drew w85 /\
 NewV #[.int .i64 0,.int .i64 0,.int .i64 0,.int .u32 0,.int .u64 0,.int .u64 0,.slice none 0 0,.slice none 0 0,.bool false,.bool false] 103 w85 λb86 w87=>
 KeepOn D80 w32.drew.drew w87 /\
 StoreV w87 ⟨b86,0,none⟩ [.int .i64 r84.1.1,.int .i64 r84.1.2.1,.int .i64 r84.1.2.2.1,.int .u32 r84.1.2.2.2.1,.int .u64 r84.1.2.2.2.2.1,.int .u64 r84.1.2.2.2.2.2.1,.slice r84.1.2.2.2.2.2.2.1.a r84.1.2.2.2.2.2.2.1.n r84.1.2.2.2.2.2.2.1.c,.slice r84.1.2.2.2.2.2.2.2.1.a r84.1.2.2.2.2.2.2.2.1.n r84.1.2.2.2.2.2.2.2.1.c,.bool r84.1.2.2.2.2.2.2.2.2.1,.bool r84.1.2.2.2.2.2.2.2.2.2.1] λw88=>
 KeepOn D80 w32.drew.drew w88 /\
 J39 ((some ⟨b86,0,none⟩),()) w88) /\
 (NewV #[.int .i64 0,.int .i64 0,.int .i64 0,.int .u32 0,.int .u64 0,.int .u64 0,.slice none 0 0,.slice none 0 0,.bool false,.bool false] 103 w32.drew.drew λb89 w90=>
 KeepOn D80 w32.drew.drew w90 /\
 CallV Tryz.prog 27 #[.agg #[.int .i64 x81.1,.int .i64 x81.2.1,.int .i64 x81.2.2.1,.int .i64 x81.2.2.2.1,.int .i64 x81.2.2.2.2.1,.int .i64 x81.2.2.2.2.2.1],.slice x83.a x83.n x83.c] w90 [.agg [.int .i64,.int .i64,.int .i64,.int .u32,.int .u64,.int .u64,.sl,.sl,.bool,.bool]] λ(r91:(Int×Int×Int×Int×Int×Int×SlV×SlV×Bool×Bool×Unit)×Unit) w92=>
 KeepOn D80 w32.drew.drew w92 /\
 StoreV w92 ⟨b89,0,none⟩ [.int .i64 r91.1.1,.int .i64 r91.1.2.1,.int .i64 r91.1.2.2.1,.int .u32 r91.1.2.2.2.1,.int .u64 r91.1.2.2.2.2.1,.int .u64 r91.1.2.2.2.2.2.1,.slice r91.1.2.2.2.2.2.2.1.a r91.1.2.2.2.2.2.2.1.n r91.1.2.2.2.2.2.2.1.c,.slice r91.1.2.2.2.2.2.2.2.1.a r91.1.2.2.2.2.2.2.2.1.n r91.1.2.2.2.2.2.2.2.1.c,.bool r91.1.2.2.2.2.2.2.2.2.1,.bool r91.1.2.2.2.2.2.2.2.2.2.1] λw93=>
 KeepOn D80 w32.drew.drew w93 /\
 J39 ((some ⟨b89,0,none⟩),()) w93))))))))
 (LoadA w32 ⟨b28,0,none⟩ [.bool,.int .i64,.int .i64,.int .i64,.int .i64,.int .i64,.int .u32,.int .u64,.int .u64,.sl] λ(x94:Bool×Int×Int×Int×Int×Int×Int×Int×Int×SlV×Unit)=>
 StoreV w32 ⟨b3,0,none⟩ [.bool x94.1,.int .i64 x94.2.1,.int .i64 x94.2.2.1,.int .i64 x94.2.2.2.1,.int .i64 x94.2.2.2.2.1,.int .i64 x94.2.2.2.2.2.1,.int .u32 x94.2.2.2.2.2.2.1,.int .u64 x94.2.2.2.2.2.2.2.1,.int .u64 x94.2.2.2.2.2.2.2.2.1,.slice x94.2.2.2.2.2.2.2.2.2.1.a x94.2.2.2.2.2.2.2.2.2.1.n x94.2.2.2.2.2.2.2.2.2.1.c] λw95=>
 LoadA w95 ⟨b3,0,none⟩ [.bool,.int .i64,.int .i64,.int .i64,.int .i64,.int .i64,.int .u32,.int .u64,.int .u64,.sl] λ(x96:Bool×Int×Int×Int×Int×Int×Int×Int×Int×SlV×Unit)=>
 K ((x96.1,x96.2.1,x96.2.2.1,x96.2.2.2.1,x96.2.2.2.2.1,x96.2.2.2.2.2.1,x96.2.2.2.2.2.2.1,x96.2.2.2.2.2.2.2.1,x96.2.2.2.2.2.2.2.2.1,x96.2.2.2.2.2.2.2.2.2.1,()),()) w95)))) λ(J11:(Option Addr)×Unit->World->Prop)=>
 DrawV λD97=>
 (D97 b1/\LoadA w4.drew.drew ⟨b1,0,none⟩ [.int .i64,.int .i64,.int .i64,.int .i64,.int .i64,.int .i64] λ(x98:Int×Int×Int×Int×Int×Int×Unit)=>
 (0<=(0:Int)/\0<((n2:Nat):Int))/\∃ q99:Addr,a2=some q99 /\
 (D97 (q99.add (0*1)).block/\LoadS w4.drew.drew (q99.add (0*1)) .sl λ(x100:SlV)=>
 ((CallV Tryz.prog 26 #[.agg #[.int .i64 x98.1,.int .i64 x98.2.1,.int .i64 x98.2.2.1,.int .i64 x98.2.2.2.1,.int .i64 x98.2.2.2.2.1,.int .i64 x98.2.2.2.2.2.1],.slice x100.a x100.n x100.c,.int .i64 3] w4.drew.drew [.agg [.int .i64,.int .i64,.int .i64,.int .u32,.int .u64,.int .u64,.sl,.sl,.bool,.bool]] λ(r101:(Int×Int×Int×Int×Int×Int×SlV×SlV×Bool×Bool×Unit)×Unit) w102=>
 KeepOn D97 w4.drew.drew w102 /\
 NewV #[.int .i64 0,.int .i64 0,.int .i64 0,.int .u32 0,.int .u64 0,.int .u64 0,.slice none 0 0,.slice none 0 0,.bool false,.bool false] 103 w102 λb103 w104=>
 KeepOn D97 w4.drew.drew w104 /\
 StoreV w104 ⟨b103,0,none⟩ [.int .i64 r101.1.1,.int .i64 r101.1.2.1,.int .i64 r101.1.2.2.1,.int .u32 r101.1.2.2.2.1,.int .u64 r101.1.2.2.2.2.1,.int .u64 r101.1.2.2.2.2.2.1,.slice r101.1.2.2.2.2.2.2.1.a r101.1.2.2.2.2.2.2.1.n r101.1.2.2.2.2.2.2.1.c,.slice r101.1.2.2.2.2.2.2.2.1.a r101.1.2.2.2.2.2.2.2.1.n r101.1.2.2.2.2.2.2.2.1.c,.bool r101.1.2.2.2.2.2.2.2.2.1,.bool r101.1.2.2.2.2.2.2.2.2.2.1] λw105=>
 KeepOn D97 w4.drew.drew w105 /\
 J11 ((some ⟨b103,0,none⟩),()) w105) /\
 (NewV #[.int .i64 0,.int .i64 0,.int .i64 0,.int .u32 0,.int .u64 0,.int .u64 0,.slice none 0 0,.slice none 0 0,.bool false,.bool false] 103 w4.drew.drew λb106 w107=>
 KeepOn D97 w4.drew.drew w107 /\
 CallV Tryz.prog 26 #[.agg #[.int .i64 x98.1,.int .i64 x98.2.1,.int .i64 x98.2.2.1,.int .i64 x98.2.2.2.1,.int .i64 x98.2.2.2.2.1,.int .i64 x98.2.2.2.2.2.1],.slice x100.a x100.n x100.c,.int .i64 3] w107 [.agg [.int .i64,.int .i64,.int .i64,.int .u32,.int .u64,.int .u64,.sl,.sl,.bool,.bool]] λ(r108:(Int×Int×Int×Int×Int×Int×SlV×SlV×Bool×Bool×Unit)×Unit) w109=>
 KeepOn D97 w4.drew.drew w109 /\
 StoreV w109 ⟨b106,0,none⟩ [.int .i64 r108.1.1,.int .i64 r108.1.2.1,.int .i64 r108.1.2.2.1,.int .u32 r108.1.2.2.2.1,.int .u64 r108.1.2.2.2.2.1,.int .u64 r108.1.2.2.2.2.2.1,.slice r108.1.2.2.2.2.2.2.1.a r108.1.2.2.2.2.2.2.1.n r108.1.2.2.2.2.2.2.1.c,.slice r108.1.2.2.2.2.2.2.2.1.a r108.1.2.2.2.2.2.2.2.1.n r108.1.2.2.2.2.2.2.2.1.c,.bool r108.1.2.2.2.2.2.2.2.2.1,.bool r108.1.2.2.2.2.2.2.2.2.2.1] λw110=>
 KeepOn D97 w4.drew.drew w110 /\
 J11 ((some ⟨b106,0,none⟩),()) w110)))))))
theorem ref23_Block.vc (p0_0 p0_1 p0_2 p0_3 p0_4 p0_5 p1:Int) (a2:Option Addr) (n2 c2:Nat) (w:World) (K:(Bool×Int×Int×Int×Int×Int×Int×Int×Int×SlV×Unit)×Unit->World->Prop) (h:ref23_Block.P p0_0 p0_1 p0_2 p0_3 p0_4 p0_5 p1 a2 n2 c2 w K):CallV Tryz.prog 10 #[.agg #[.int .i64 p0_0,.int .i64 p0_1,.int .i64 p0_2,.int .i64 p0_3,.int .i64 p0_4,.int .i64 p0_5],.int .i64 p1,.slice a2 n2 c2] w [.agg [.bool,.int .i64,.int .i64,.int .i64,.int .i64,.int .i64,.int .u32,.int .u64,.int .u64,.sl]] K:=by
 refine vcFun.of (A:=ref23_Block.A) (wr:=false) okf_ok follows h Tryz.func10 ?_
 kernel_rfl
end Go.Proofs.YtcekmdehjnlkpaaGreat.Vc
namespace Go.Proofs.YtcekmdehjnlkpaaGreat.Vc
open Go Go.Eng Go.RowKit
section
variable {E:Nat->Prop} {w0 w:World} {Rs:List Asr} {t:Slt} {h:Hh} {g:Geo} {bl:Int} {x:SlP (SlP Int)}
abbrev puL (h:Hd) (s t:SlV) (d o:Bool):List Value:=[.int .i64 h.k,.int .i64 h.n,.int .i64 h.c,.int .u32 h.l,.int .u64 h.e,.int .u64 h.t,.slice s.a s.n s.c,.slice t.a t.n t.c,.bool d,.bool o]
theorem pu_fin {E:Nat->Prop} {w0 w':World} {Rs:List Asr} {h:Hd} {c:Prop} [Decidable c] {b:Nat} {v:PgU} {dd:Bool} (h1:¬ c->v=zPu) (h2:c->∃ s t:SlV,v=pgU h s t dd)
  (S:Sep E w0 w' (BoxA b 103 [.int .i64 v.1,.int .i64 v.2.1,.int .i64 v.2.2.1,.int .u32 v.2.2.2.1,.int .u64 v.2.2.2.2.1,.int .u64 v.2.2.2.2.2.1,.slice v.2.2.2.2.2.2.1.a v.2.2.2.2.2.2.1.n v.2.2.2.2.2.2.1.c,.slice v.2.2.2.2.2.2.2.1.a v.2.2.2.2.2.2.2.1.n v.2.2.2.2.2.2.2.1.c,.bool v.2.2.2.2.2.2.2.2.1,.bool v.2.2.2.2.2.2.2.2.2.1]::Rs)) :
  ∃ (b':Nat) (h':Hd) (s t:SlV) (d o:Bool),some (⟨b,0,none⟩:Addr)=some (⟨b',0,none⟩:Addr)/\o=decide c/\(c->h'=h/\d=dd)/\Sep E w0 w' (BoxA b' 103 (puL h' s t d o)::Rs):=by
 obtain ⟨k1,k2,k3,k4,k5,k6,s,t,d,o,⟨⟩⟩:=v
 refine ⟨b,⟨k1,k2,k3,k4,k5,k6⟩,s,t,d,o,rfl,?_,λhd=>?_,S⟩
 ·by_cases hd:c
  ·obtain ⟨s,t,e⟩:=h2 hd
   rw [decide_eq_true hd]
   exact congrArg (λv:PgU=>v.2.2.2.2.2.2.2.2.2.1) e
  ·rw [decide_eq_false hd]
   exact congrArg (λv:PgU=>v.2.2.2.2.2.2.2.2.2.1) (h1 hd)
 ·obtain ⟨s,t,e⟩:=h2 hd
  injection e with e1 e;injection e with e2 e;injection e with e3 e;injection e with e4 e;injection e with e5 e;injection e with e6 e;injection e with e7 e;injection e with e8 e;injection e with e9 e
  exact ⟨by rw [e1,e2,e3,e4,e5,e6],e9⟩
abbrev outR (a:Option Addr) (n c:Nat) (L:List Sp):Asr:=OwnA 60 14 a n c (L.flatMap Sp.vs)
theorem spB_one {g:Geo} {bl ns:Int} {od:Hh} {L:List (List Int)} {n:Nat}:(tel g ns L (n+1)->spB g bl ns od L (n+1)=spB g bl ns od L n++[⟨bl,((n+1:Nat):Int),hh23 (hd23 g L (n+1)),od⟩])/\(¬ tel g ns L (n+1)->spB g bl ns od L (n+1)=spB g bl ns od L n):=by
 refine ⟨λh=>?_,λh=>?_⟩
 ·show spB g bl ns od L n++_=_;rw [if_pos h]
 ·show spB g bl ns od L n++_=_;rw [if_neg h,List.append_nil]
theorem rBlock23_c (hR:Right g) (hp:g.p<=(x.n:Int)) (hx:TBB.rd w All x):CallV Tryz.prog 10 #[g.val,.int .i64 bl,.slice x.a x.n x.c] w [.agg [.bool,.int .i64,.int .i64,.int .i64,.int .i64,.int .i64,.int .u32,.int .u64,.int .u64,.sl]] λr w'=>
  ∃ y:SlV,r.1=tbT (tdB g bl (pg23 x)) y/\Sep NoB w w' [outR y.a y.n y.c (tdB g bl (pg23 x)).sp]:=by
 apply ref23_Block.vc
 unfold ref23_Block.P
 obtain ⟨⟨p1,p2⟩,s1,s2⟩:(4<=g.p/\g.p<=1024)/\0<=g.s/\g.s<=1000000:=by have h0:=hR;unfold Right Kept at h0;omega
 have S:=Sep.start NoB w
 refine S.newB λb1 w1 S f1 _=>?_
 refine S.newB λb3 w3 S f3 _=>?_
 have out:∀ {w':World} {b:Nat} {Rs:List Asr} {v:List Value},tdB g bl (pg23 x)=Tb0->v.length=10->Sep NoB w w' (BoxA b 54 v::Rs)->StoreV w' ⟨b,0,none⟩ (tbL false 0 0 Hh0 ⟨none,0,0⟩) λw16=>LoadA w16 ⟨b,0,none⟩ [.bool,.int .i64,.int .i64,.int .i64,.int .i64,.int .i64,.int .u32,.int .u64,.int .u64,.sl] λ(z:TbTy)=>
   ∃ y:SlV,(z.1,z.2.1,z.2.2.1,z.2.2.2.1,z.2.2.2.2.1,z.2.2.2.2.2.1,z.2.2.2.2.2.2.1,z.2.2.2.2.2.2.2.1,z.2.2.2.2.2.2.2.2.1,z.2.2.2.2.2.2.2.2.2.1,())=tbT (tdB g bl (pg23 x)) y/\Sep NoB w w16 [outR y.a y.n y.c (tdB g bl (pg23 x)).sp]:=λ{w' b Rs v} h0 hv S=>by
  refine S.st0 (by rw [hv];rfl) λw9 S f9=>S.la0 rfl ⟨⟨none,0,0⟩,?_,?_⟩
  ·rw [h0];rfl
  ·rw [h0]
   exact (S.nilOwn 60 14).take1
 obtain ⟨q,z,hq,hz,hc,hr,-,hb0⟩:=TBB_nth (TBB.rd_ext S.ext hx) (i:=(0:Int)) (by omega) (by omega)
 have hz:x.l[0]? = some z:=hz
 have hc:CellsAt w3 (q.add (0*1)) [slV z]:=hc
 have hzl:(pg23 x).getD 0 []=z.l:=getD_some (by rw [List.getElem?_map,hz];rfl)
 have iz0:Ints w3 .u8 z.a z.n z.c z.l:=Ty.ints hr
 have bz:Byt z.l:=Ty.byt hr
 refine S.reg λD hD hkeep Sd _=>?_
 refine ⟨⟨by omega,by show (0:Int)<(x.n:Int);omega⟩,q,hq,by rw [add_block];exact hD _ hb0,?_⟩
 refine ldp0 (cells_same (by rw [add_block];rfl) hc) (h:=.sl) (x:=⟨z.a,z.n,z.c⟩) rfl ⟨hD _ S.bl1,Sd.ld1 (j:=2) rfl rfl ⟨Rng.i64 (by omega) (by omega),?_⟩⟩
 refine cond_ne (λ(hne:(z.n:Int)≠g.s+88)=>out (by unfold tdB;rw [if_neg λk=>hne (by have:=k.1.1.2;rw [hzl,iz0.len] at this;exact this)]) rfl Sd) (λ(heq:(z.n:Int)=g.s+88)=>?_)
 have hL:lenP g z.l:=⟨hR,by rw [iz0.len];exact heq⟩
 clear hD hkeep D
 have S:=Sd
 refine ⟨λv w'=>∃ (b:Nat) (h:Hd) (s t:SlV) (d o:Bool),v.1=some (⟨b,0,none⟩:Addr)/\o=decide (okR (endP g z.l)/\comm (endP g z.l)=true/\(hdOf (endP g z.l)).k=3)/\((okR (endP g z.l)/\comm (endP g z.l)=true/\(hdOf (endP g z.l)).k=3)->h=hdOf (endP g z.l)/\d=comm (endP g z.l)) /\
  Sep NoB w w' (BoxA b 103 (puL h s t d o)::[BoxA b3 54 (tbL false 0 0 Hh0 ⟨none,0,0⟩),BoxA b1 23 g.vs]),?_,?_⟩
 ·rintro ⟨va,⟨⟩⟩ w4 ⟨b,h,s,t,d,o,h1,h2,h3,S⟩
  dsimp only at h1
  subst h1
  refine PtrK.of rfl ?_
  simp only [Addr.add_lit,Nat.zero_add]
  refine S.ld0 (j:=9) rfl rfl ?_
  by_cases hd:okR (endP g z.l)/\comm (endP g z.l)=true/\(hdOf (endP g z.l)).k=3
  case neg=>exact cond_t (by rw [h2,decide_eq_false hd];rfl) (out (by unfold tdB;rw [if_neg λk=>hd (by have:=k.1.2;rw [hzl] at this;exact this)]) rfl S.tail)
  obtain ⟨hh,-⟩:=h3 hd
  have hn':hd23 g (pg23 x) 0=h:=by rw [hh];show hdOf (endP g ((pg23 x).getD 0 []))=_;rw [hzl]
  have hrg:h.rng:=by
   rw [hh]
   refine hdOf_rng (λy hy=>bz y (List.mem_of_mem_drop hy)) ?_
   show 24<=(List.drop _ _).length
   rw [List.length_drop]
   have:=hL.2
   omega
  refine cond_f (by rw [h2,decide_eq_true hd];rfl) (PtrK.of rfl ?_)
  simp only [Addr.add_lit,Nat.zero_add]
  refine S.ld0 (j:=1) rfl rfl (cond_d (λ(h4:h.n>3)=>out (by unfold tdB;rw [if_neg λk=>by have:=k.2;rw [hn'] at this;omega]) rfl S.tail) (λ(h4:¬ h.n>3)=>?_))
  have hkn:knB g (pg23 x):=⟨by rw [hzl];exact ⟨hL,hd⟩,by rw [hn'];omega⟩
  have hT:tdB g bl (pg23 x)=⟨true,h.n,h.l,hh23 h,spB g bl h.n (hh23 h) (pg23 x) (g.p.toNat-1)⟩:=by unfold tdB;rw [if_pos hkn,hn']
  rw [hT]
  refine PtrK.of rfl ?_
  simp only [Addr.add_lit,Nat.zero_add]
  refine S.ld0 (j:=1) rfl rfl (PtrK.of rfl ?_)
  simp only [Addr.add_lit,Nat.zero_add]
  refine S.ld0 (j:=3) rfl rfl (PtrK.of rfl (S.lb0 (o:=0) rfl ?_))
  refine S.newB λb28 w5 S f5 _=>?_
  have hw:IntKind.i64.wrap h.l=h.l:=i64_wrap (by have:=hrg.1;omega) (by have:=hrg.1;omega)
  rw [hw]
  refine S.st0 (by rfl) λw6 S f6=>?_
  have S:=S.nilOwn 60 14
  refine Loop1 (λ(v:Int×Unit) w'=>∃ (i:Nat) (y:SlV),v.1=(i:Int)+1/\(i:Int)+1<=g.p/\Sep NoB w w' [BoxA b28 54 (tbL true h.n h.l (hh23 h) y),outR y.a y.n y.c (spB g bl h.n (hh23 h) (pg23 x) i),BoxA b3 54 (tbL false 0 0 Hh0 ⟨none,0,0⟩),BoxA b1 23 g.vs])
   (λ(v:Int×Unit) _=>(g.p-v.1).toNat) ⟨0,⟨none,0,0⟩,rfl,by omega,S.sel [1,0,1,1] rfl⟩ ?_
  clear S hz hzl hc hq hb0 hr iz0 bz hL hd h2 h3 hh
  rintro ⟨(v:Int),⟨⟩⟩ w7 ⟨i,y,hv,hi,S⟩
  dsimp only at hv ⊢
  subst hv
  refine S.ld3 (j:=1) rfl rfl (cond_d (λ(hlt:(i:Int)+1<g.p)=>?_) (λ(hge:¬ (i:Int)+1<g.p)=>?_))
  case refine_2=>
   have hie:i=g.p.toNat-1:=by omega
   subst hie
   refine S.la0 rfl ?_
   refine S.st2 (by rfl) λw8 S f8=>S.la2 rfl ⟨y,rfl,S.sel [1] rfl⟩
  have rg:Rng .i64 ((i:Int)+1+1):=Rng.i64 (by omega) (by omega)
  have hil:(spB g bl h.n (hh23 h) (pg23 x) i).length<=i:=spB_len i
  have cast:((i+1:Nat):Int)=(i:Int)+1:=by push_cast;rfl
  have nxt:∀ {w':World} {y':SlV} {l:List Sp},l=spB g bl h.n (hh23 h) (pg23 x) (i+1)->Sep NoB w w' [BoxA b28 54 (tbL true h.n h.l (hh23 h) y'),outR y'.a y'.n y'.c l,BoxA b3 54 (tbL false 0 0 Hh0 ⟨none,0,0⟩),BoxA b1 23 g.vs] ->
    (∃ (i':Nat) (y:SlV),(i:Int)+1+1=(i':Int)+1/\(i':Int)+1<=g.p/\Sep NoB w w' [BoxA b28 54 (tbL true h.n h.l (hh23 h) y),outR y.a y.n y.c (spB g bl h.n (hh23 h) (pg23 x) i'),BoxA b3 54 (tbL false 0 0 Hh0 ⟨none,0,0⟩),BoxA b1 23 g.vs])/\(g.p-((i:Int)+1+1)).toNat<(g.p-((i:Int)+1)).toNat:=λ{w' y' l} e S=>by
   subst e
   exact ⟨⟨i+1,_,by omega,by omega,S⟩,by omega⟩
  obtain ⟨q,z,hq,hz,hc,hr,-,hb0⟩:=TBB_nth (TBB.rd_ext S.ext hx) (i:=(i:Int)+1) (by omega) (by omega)
  have ti:((i:Int)+1).toNat=i+1:=by omega
  rw [ti] at hz hc
  have hzl:(pg23 x).getD (i+1) []=z.l:=getD_some (by rw [List.getElem?_map,hz];rfl)
  have iz0:Ints w7 .u8 z.a z.n z.c z.l:=Ty.ints hr
  have bz:Byt z.l:=Ty.byt hr
  refine S.reg λD hD hkeep Sd _=>?_
  refine ⟨⟨by omega,by omega⟩,q,hq,by rw [add_block];exact hD _ hb0,?_⟩
  rw [ti]
  refine ldp0 (cells_same (by rw [add_block];rfl) hc) (h:=.sl) (x:=⟨z.a,z.n,z.c⟩) rfl ⟨hD _ S.bl3,Sd.ld3 (j:=2) rfl rfl ⟨Rng.i64 (by omega) (by omega),?_⟩⟩
  have ntel:¬ tel g h.n (pg23 x) (i+1)->spB g bl h.n (hh23 h) (pg23 x) i=spB g bl h.n (hh23 h) (pg23 x) (i+1):=λk=>(spB_one.2 k).symm
  refine cond_ne (λ(hne:(z.n:Int)≠g.s+88)=>⟨rg,nxt (ntel λk=>hne ?_) Sd⟩) (λ(heq:(z.n:Int)=g.s+88)=>?_)
  ·have:lenP g ((pg23 x).getD (i+1) []):=k.1.elim (λk=>k.1) (λk=>k.1)
   rw [hzl] at this
   rw [<-iz0.len]
   exact this.2
  have hL:lenP g z.l:=⟨hR,by rw [iz0.len];exact heq⟩
  clear hD hkeep D
  have S:=Sd
  refine ⟨λv w'=>∃ (b:Nat) (k:Hd) (s t:SlV) (d o:Bool),v.1=some (⟨b,0,none⟩:Addr)/\o=decide (okR (endP g z.l))/\(okR (endP g z.l)->k=hdOf (endP g z.l)/\d=comm (endP g z.l)) /\
   Sep NoB w w' (BoxA b 103 (puL k s t d o)::[BoxA b28 54 (tbL true h.n h.l (hh23 h) y),outR y.a y.n y.c (spB g bl h.n (hh23 h) (pg23 x) i),BoxA b3 54 (tbL false 0 0 Hh0 ⟨none,0,0⟩),BoxA b1 23 g.vs]),?_,?_⟩
  ·clear S
   rintro ⟨va,⟨⟩⟩ w8 ⟨b,k,s,t,d,o,h1,h2,h3,S⟩
   dsimp only at h1
   subst h1
   refine PtrK.of rfl ?_
   simp only [Addr.add_lit,Nat.zero_add]
   refine S.ld0 (j:=9) rfl rfl ?_
   have tof:tel g h.n (pg23 x) (i+1)->okR (endP g z.l)/\comm (endP g z.l)=true/\((hdOf (endP g z.l)).k=1\/(hdOf (endP g z.l)).k=2):=λe=>by
    have e1:=e.1
    rw [hzl] at e1
    exact e1.elim (λk=>⟨k.2.1,k.2.2.1,.inl k.2.2.2⟩) (λk=>⟨k.2.1,k.2.2.1,.inr k.2.2.2⟩)
   by_cases ho:okR (endP g z.l)
   case neg=>exact cond_f (h2.trans (decide_eq_false ho)) ⟨rg,nxt (ntel λe=>ho (tof e).1) S.tail⟩
   obtain ⟨hkk,hdd⟩:=h3 ho
   have hk':hd23 g (pg23 x) (i+1)=k:=by rw [hkk];show hdOf (endP g ((pg23 x).getD (i+1) []))=_;rw [hzl]
   refine cond_t (h2.trans (decide_eq_true ho)) (PtrK.of rfl ?_)
   simp only [Addr.add_lit,Nat.zero_add]
   refine S.ld0 (j:=8) rfl rfl (cond_of (λ(hd:d=true)=>?_) (λ(hd:d=false)=>⟨rg,nxt (ntel λe=>by have:=(tof e).2.1;rw [<-hdd,hd] at this;cases this) S.tail⟩))
   have hcm:comm (endP g z.l)=true:=hdd ▸ hd
   refine PtrK.of rfl (S.ld0 (j:=0) rfl rfl (cond_eq (λ(hk1:k.k=1)=>?_) (λ(hk1:¬ k.k=1)=>?_)))
   rotate_left
   refine PtrK.of rfl (S.ld0 (j:=0) rfl rfl (cond_eq (λ(hk1:k.k=2)=>?_) (λ(hk2:¬ k.k=2)=>⟨rg,nxt (ntel λe=>by have:=(tof e).2.2;rw [<-hkk] at this;omega) S.tail⟩)))
   refine PtrK.of rfl ?_
   simp only [Addr.add_lit,Nat.zero_add]
   refine S.ld0 (j:=1) rfl rfl (S.ld1 (j:=1) rfl rfl (cond_eq (λ(hn:k.n=h.n)=>?_) (λ(hn:¬ k.n=h.n)=>⟨rg,nxt (ntel λe=>hn (by rw [<-hk'];exact e.2)) S.tail⟩)))
   have ht:tel g h.n (pg23 x) (i+1):=⟨.inr (by rw [hzl];exact ⟨hL,ho,hcm,by rw [<-hkk];exact hk1⟩),by rw [hk'];exact hn⟩
   refine S.ld1 (j:=9) rfl rfl (PtrK.of rfl (S.lb0 (o:=0) rfl (S.lb1 (o:=3) rfl ?_)))
   have hon:(spB g bl h.n (hh23 h) (pg23 x) i).length=y.n:=(S.own 2 rfl).lenF Spv_len (by decide)
   refine S.newB (vs:=(⟨bl,(i:Int)+1,hh23 k,hh23 h⟩:Sp).vs) λb12 w9 S f9 _=>?_
   refine AppS.of (news:=(⟨bl,(i:Int)+1,hh23 k,hh23 h⟩:Sp).vs) rfl (.inr ⟨_,rfl,S.cells 0 rfl⟩) ?_
   refine S.ap3 rfl (SpS_one _) (by omega) (by omega) λa' c' w10 S f10=>?_
   refine S.su2 (by rfl) λw11 S f11=>⟨rg,nxt (y':=⟨a',y.n+1,c'⟩) (spB_one.1 ht).symm ?_⟩
   have e2:(spB g bl h.n (hh23 h) (pg23 x) i++[(⟨bl,((i+1:Nat):Int),hh23 (hd23 g (pg23 x) (i+1)),hh23 h⟩:Sp)]).flatMap Sp.vs=(spB g bl h.n (hh23 h) (pg23 x) i).flatMap Sp.vs++(⟨bl,(i:Int)+1,hh23 k,hh23 h⟩:Sp).vs:=by rw [List.flatMap_append,hk',cast];simp
   show Sep NoB w w11 [_,OwnA _ _ _ _ _ ((spB g bl h.n (hh23 h) (pg23 x) i++[_]).flatMap Sp.vs),_,_]
   rw [e2]
   exact S.sel [2,2,2,2] rfl
   refine PtrK.of rfl ?_
   simp only [Addr.add_lit,Nat.zero_add]
   refine S.ld0 (j:=1) rfl rfl (S.ld1 (j:=1) rfl rfl (cond_eq (λ(hn:k.n=h.n)=>?_) (λ(hn:¬ k.n=h.n)=>⟨rg,nxt (ntel λe=>hn (by rw [<-hk'];exact e.2)) S.tail⟩)))
   have ht:tel g h.n (pg23 x) (i+1):=⟨.inl (by rw [hzl];exact ⟨hL,ho,hcm,by rw [<-hkk];exact hk1⟩),by rw [hk'];exact hn⟩
   refine S.ld1 (j:=9) rfl rfl (PtrK.of rfl (S.lb0 (o:=0) rfl (S.lb1 (o:=3) rfl ?_)))
   have hon:(spB g bl h.n (hh23 h) (pg23 x) i).length=y.n:=(S.own 2 rfl).lenF Spv_len (by decide)
   refine S.newB (vs:=(⟨bl,(i:Int)+1,hh23 k,hh23 h⟩:Sp).vs) λb12 w9 S f9 _=>?_
   refine AppS.of (news:=(⟨bl,(i:Int)+1,hh23 k,hh23 h⟩:Sp).vs) rfl (.inr ⟨_,rfl,S.cells 0 rfl⟩) ?_
   refine S.ap3 rfl (SpS_one _) (by omega) (by omega) λa' c' w10 S f10=>?_
   refine S.su2 (by rfl) λw11 S f11=>⟨rg,nxt (y':=⟨a',y.n+1,c'⟩) (spB_one.1 ht).symm ?_⟩
   have e2:(spB g bl h.n (hh23 h) (pg23 x) i++[(⟨bl,((i+1:Nat):Int),hh23 (hd23 g (pg23 x) (i+1)),hh23 h⟩:Sp)]).flatMap Sp.vs=(spB g bl h.n (hh23 h) (pg23 x) i).flatMap Sp.vs++(⟨bl,(i:Int)+1,hh23 k,hh23 h⟩:Sp).vs:=by rw [List.flatMap_append,hk',cast];simp
   show Sep NoB w w11 [_,OwnA _ _ _ _ _ ((spB g bl h.n (hh23 h) (pg23 x) i++[_]).flatMap Sp.vs),_,_]
   rw [e2]
   exact S.sel [2,2,2,2] rfl
  ·refine S.reg λD hD hkeep Sd T=>?_
   refine ⟨hD _ S.bl3,Sd.la3 rfl ⟨⟨by omega,by omega⟩,q,hq,by rw [add_block];exact hD _ hb0,?_⟩⟩
   refine ldp0 (cells_same (by rw [add_block];rfl) hc) (h:=.sl) (x:=⟨z.a,z.n,z.c⟩) rfl ⟨?_,?_⟩
   ·refine (rPRead_c (g:=g) iz0.drew.drew (Ext.refl _) bz hL).mono ?_
    rintro ⟨v,⟨⟩⟩ w2 ⟨x2,h1,h2⟩
    dsimp only at h1 h2 ⊢
    have T:=T.stepE x2
    refine ⟨hkeep _ T.fr,T.newB λb6 w6 T f6 _=>⟨hkeep _ T.fr,?_⟩⟩
    refine T.st0 (by rfl) λw7 T f7=>⟨hkeep _ T.fr,?_⟩
    exact pu_fin h1 (λhd=>by obtain ⟨s,t,e,-⟩:=h2 hd;exact ⟨s,t,e⟩) ((Sd.frame0 T).sel [0,0,0,0,0] rfl)
   ·refine T.newB λb6 w6 T f6 _=>⟨hkeep _ T.fr,?_⟩
    refine (rPRead_c (g:=g) (iz0.drew.drew.ext T.ext) (Ext.refl _) bz hL).mono ?_
    rintro ⟨v,⟨⟩⟩ w2 ⟨x2,h1,h2⟩
    dsimp only at h1 h2 ⊢
    have T:=T.stepE x2
    refine ⟨hkeep _ T.fr,?_⟩
    refine T.st0 (by rfl) λw7 T f7=>⟨hkeep _ T.fr,?_⟩
    exact pu_fin h1 (λhd=>by obtain ⟨s,t,e,-⟩:=h2 hd;exact ⟨s,t,e⟩) ((Sd.frame0 T).sel [0,0,0,0,0] rfl)
 ·refine S.reg λD hD hkeep Sd T=>?_
  refine ⟨hD _ S.bl1,Sd.la1 rfl ⟨⟨by omega,by show (0:Int)<(x.n:Int);omega⟩,q,hq,by rw [add_block];exact hD _ hb0,?_⟩⟩
  refine ldp0 (cells_same (by rw [add_block];rfl) hc) (h:=.sl) (x:=⟨z.a,z.n,z.c⟩) rfl ⟨?_,?_⟩
  ·refine (rPDone_c (g:=g) (kind:=3) iz0.drew.drew (Ext.refl _) bz hL).mono ?_
   rintro ⟨v,⟨⟩⟩ w2 ⟨x2,h1,h2⟩
   dsimp only at h1 h2 ⊢
   have T:=T.stepE x2
   refine ⟨hkeep _ T.fr,T.newB λb6 w6 T f6 _=>⟨hkeep _ T.fr,?_⟩⟩
   refine T.st0 (by rfl) λw7 T f7=>⟨hkeep _ T.fr,?_⟩
   exact pu_fin h1 (λhd=>by obtain ⟨s,t,e,-⟩:=h2 hd;exact ⟨s,t,e⟩) ((Sd.frame0 T).sel [0,0,0] rfl)
  ·refine T.newB λb6 w6 T f6 _=>⟨hkeep _ T.fr,?_⟩
   refine (rPDone_c (g:=g) (kind:=3) (iz0.drew.drew.ext T.ext) (Ext.refl _) bz hL).mono ?_
   rintro ⟨v,⟨⟩⟩ w2 ⟨x2,h1,h2⟩
   dsimp only at h1 h2 ⊢
   have T:=T.stepE x2
   refine ⟨hkeep _ T.fr,?_⟩
   refine T.st0 (by rfl) λw7 T f7=>⟨hkeep _ T.fr,?_⟩
   exact pu_fin h1 (λhd=>by obtain ⟨s,t,e,-⟩:=h2 hd;exact ⟨s,t,e⟩) ((Sd.frame0 T).sel [0,0,0] rfl)
end
end Go.Proofs.YtcekmdehjnlkpaaGreat.Vc
namespace Go.Proofs.YtcekmdehjnlkpaaGreat.Vc
open Go Go.Eng
def law23_ScanBlocks.A:Ann:=.two .no (.two .no (.two .no (.two .no (.two .no (.two (.join [55,56,57,58,59,60,61,62] [(62,.one .bool)] .no (.two (.join [11,63,64,65,66,67,68,69] [(11,.one .ptr)] (.draw (.take 0 (.take 1 (.take 2 (.take 3 (.take 4 (.take 5 (.both 6 (.eff 7 (.eff 8 (.done))) 7 (.eff 6 (.eff 8 (.done))))))))))) .no) .no)) (.two .no (.two .no (.two .no (.two (.two .no (.one (.loop [6,14,127,128,129,130,131,132,133,134,135,136,137,138,139,140,141,142,143,144,145,146,147,148,149,150,151,152,153,154,155,156,157,158] [(14,.one (.int .i64))] (.two .no (.two (.one (.two (.draw (.take 0 (.take 1 (.take 2 (.take 3 (.take 4 (.take 5 (.take 6 (.take 7 (.take 8 (.take 9 (.take 10 (.take 11 (.take 12 (.take 13 (.take 14 (.take 15 (.take 16 (.take 17 (.take 18 (.take 19 (.take 20 (.take 21 (.take 22 (.take 23 (.take 24 (.done))))))))))))))))))))))))))) .no)) .no))))) .no)))))))))
def law23_ScanBlocks.P (p0_0 p0_1 p0_2 p0_3 p0_4 p0_5:Int) (a0_6:Option Addr) (n0_6 c0_6:Nat) (p0_7:Bool) (p0_8 p0_9 p0_10:Int) (a0_11:Option Addr) (n0_11 c0_11:Nat) (p0_12:Bool) (p0_13 p0_14 p0_15:Int) (a0_16:Option Addr) (n0_16 c0_16:Nat) (p0_17:Bool) (p0_18 p0_19 p0_20:Int) (a0_21:Option Addr) (n0_21 c0_21:Nat) (p0_22:Bool) (p0_23 p0_24 p0_25:Int) (a0_26:Option Addr) (n0_26 c0_26:Nat) (p0_27 p1 p2:Int) (w:World) (K:Bool×Unit->World->Prop):Prop:=
 NewV #[.int .i64 p0_0,.int .i64 p0_1,.int .i64 p0_2,.int .i64 p0_3,.int .i64 p0_4,.int .i64 p0_5,.slice a0_6 n0_6 c0_6,.bool p0_7,.int .i64 p0_8,.int .u64 p0_9,.int .u64 p0_10,.slice a0_11 n0_11 c0_11,.bool p0_12,.int .i64 p0_13,.int .u64 p0_14,.int .u64 p0_15,.slice a0_16 n0_16 c0_16,.bool p0_17,.int .i64 p0_18,.int .u64 p0_19,.int .u64 p0_20,.slice a0_21 n0_21 c0_21,.bool p0_22,.int .i64 p0_23,.int .u64 p0_24,.int .u64 p0_25,.slice a0_26 n0_26 c0_26,.int .u64 p0_27] 31 w λb1 w2=>
 LoadA w2 ⟨b1,0,none⟩ [.int .i64,.int .i64,.int .i64,.int .i64,.int .i64,.int .i64,.sl,.bool,.int .i64,.int .u64,.int .u64,.sl,.bool,.int .i64,.int .u64,.int .u64,.sl,.bool,.int .i64,.int .u64,.int .u64,.sl,.bool,.int .i64,.int .u64,.int .u64,.sl,.int .u64] λ(x3:Int×Int×Int×Int×Int×Int×SlV×Bool×Int×Int×Int×SlV×Bool×Int×Int×Int×SlV×Bool×Int×Int×Int×SlV×Bool×Int×Int×Int×SlV×Int×Unit)=>
 CallV Tryz.prog 6 #[.agg #[.int .i64 x3.1,.int .i64 x3.2.1,.int .i64 x3.2.2.1,.int .i64 x3.2.2.2.1,.int .i64 x3.2.2.2.2.1,.int .i64 x3.2.2.2.2.2.1,.slice x3.2.2.2.2.2.2.1.a x3.2.2.2.2.2.2.1.n x3.2.2.2.2.2.2.1.c,.bool x3.2.2.2.2.2.2.2.1,.int .i64 x3.2.2.2.2.2.2.2.2.1,.int .u64 x3.2.2.2.2.2.2.2.2.2.1,.int .u64 x3.2.2.2.2.2.2.2.2.2.2.1,.slice x3.2.2.2.2.2.2.2.2.2.2.2.1.a x3.2.2.2.2.2.2.2.2.2.2.2.1.n x3.2.2.2.2.2.2.2.2.2.2.2.1.c,.bool x3.2.2.2.2.2.2.2.2.2.2.2.2.1,.int .i64 x3.2.2.2.2.2.2.2.2.2.2.2.2.2.1,.int .u64 x3.2.2.2.2.2.2.2.2.2.2.2.2.2.2.1,.int .u64 x3.2.2.2.2.2.2.2.2.2.2.2.2.2.2.2.1,.slice x3.2.2.2.2.2.2.2.2.2.2.2.2.2.2.2.2.1.a x3.2.2.2.2.2.2.2.2.2.2.2.2.2.2.2.2.1.n x3.2.2.2.2.2.2.2.2.2.2.2.2.2.2.2.2.1.c,.bool x3.2.2.2.2.2.2.2.2.2.2.2.2.2.2.2.2.2.1,.int .i64 x3.2.2.2.2.2.2.2.2.2.2.2.2.2.2.2.2.2.2.1,.int .u64 x3.2.2.2.2.2.2.2.2.2.2.2.2.2.2.2.2.2.2.2.1,.int .u64 x3.2.2.2.2.2.2.2.2.2.2.2.2.2.2.2.2.2.2.2.2.1,.slice x3.2.2.2.2.2.2.2.2.2.2.2.2.2.2.2.2.2.2.2.2.2.1.a x3.2.2.2.2.2.2.2.2.2.2.2.2.2.2.2.2.2.2.2.2.2.1.n x3.2.2.2.2.2.2.2.2.2.2.2.2.2.2.2.2.2.2.2.2.2.1.c,.bool x3.2.2.2.2.2.2.2.2.2.2.2.2.2.2.2.2.2.2.2.2.2.2.1,.int .i64 x3.2.2.2.2.2.2.2.2.2.2.2.2.2.2.2.2.2.2.2.2.2.2.2.1,.int .u64 x3.2.2.2.2.2.2.2.2.2.2.2.2.2.2.2.2.2.2.2.2.2.2.2.2.1,.int .u64 x3.2.2.2.2.2.2.2.2.2.2.2.2.2.2.2.2.2.2.2.2.2.2.2.2.2.1,.slice x3.2.2.2.2.2.2.2.2.2.2.2.2.2.2.2.2.2.2.2.2.2.2.2.2.2.2.1.a x3.2.2.2.2.2.2.2.2.2.2.2.2.2.2.2.2.2.2.2.2.2.2.2.2.2.2.1.n x3.2.2.2.2.2.2.2.2.2.2.2.2.2.2.2.2.2.2.2.2.2.2.2.2.2.2.1.c,.int .u64 x3.2.2.2.2.2.2.2.2.2.2.2.2.2.2.2.2.2.2.2.2.2.2.2.2.2.2.2.1]] w2 [.one .bool] λ(r4:Bool×Unit) w5=>
 cond (!r4.1)
 (LoadA w5 ⟨b1,0,none⟩ [.int .i64,.int .i64,.int .i64,.int .i64,.int .i64,.int .i64] λ(x6:Int×Int×Int×Int×Int×Int×Unit)=>
 CallV Tryz.prog 7 #[.agg #[.int .i64 x6.1,.int .i64 x6.2.1,.int .i64 x6.2.2.1,.int .i64 x6.2.2.2.1,.int .i64 x6.2.2.2.2.1,.int .i64 x6.2.2.2.2.2.1],.int .i64 p1,.slice none 0 0] w5 [.agg [.bool,.int .i64,.int .i64,.int .i64,.int .i64,.int .i64,.int .u32,.int .u64,.int .u64,.sl]] λ(r7:(Bool×Int×Int×Int×Int×Int×Int×Int×Int×SlV×Unit)×Unit) w8=>
 NewV #[.bool false,.int .i64 0,.int .i64 0,.int .i64 0,.int .i64 0,.int .i64 0,.int .u32 0,.int .u64 0,.int .u64 0,.slice none 0 0] 38 w8 λb9 w10=>
 StoreV w10 ⟨b9,0,none⟩ [.bool r7.1.1,.int .i64 r7.1.2.1,.int .i64 r7.1.2.2.1,.int .i64 r7.1.2.2.2.1,.int .i64 r7.1.2.2.2.2.1,.int .i64 r7.1.2.2.2.2.2.1,.int .u32 r7.1.2.2.2.2.2.2.1,.int .u64 r7.1.2.2.2.2.2.2.2.1,.int .u64 r7.1.2.2.2.2.2.2.2.2.1,.slice r7.1.2.2.2.2.2.2.2.2.2.1.a r7.1.2.2.2.2.2.2.2.2.2.1.n r7.1.2.2.2.2.2.2.2.2.2.1.c] λw11=>
 LoadS w11 ⟨b9,0,none⟩ .bool λ(x12:Bool)=>
 cond (!x12)
 (LoadS w11 ⟨b9,9,none⟩ .sl λ(x13:SlV)=>
 cond (((x13.n:Nat):Int) == 0)
 (CallV Tryz.prog 8 #[] w11 [.one .bool] λ(r14:Bool×Unit) w15=>
 K (r14.1,()) w15)
 (K (false,()) w11))
 (K (false,()) w11))
 (LoadA w5 ⟨b1,0,none⟩ [.int .i64,.int .i64,.int .i64,.int .i64,.int .i64,.int .i64,.sl,.bool,.int .i64,.int .u64,.int .u64,.sl,.bool,.int .i64,.int .u64,.int .u64,.sl,.bool,.int .i64,.int .u64,.int .u64,.sl,.bool,.int .i64,.int .u64,.int .u64,.sl,.int .u64] λ(x16:Int×Int×Int×Int×Int×Int×SlV×Bool×Int×Int×Int×SlV×Bool×Int×Int×Int×SlV×Bool×Int×Int×Int×SlV×Bool×Int×Int×Int×SlV×Int×Unit)=>
 CallV Tryz.prog 9 #[.agg #[.int .i64 x16.1,.int .i64 x16.2.1,.int .i64 x16.2.2.1,.int .i64 x16.2.2.2.1,.int .i64 x16.2.2.2.2.1,.int .i64 x16.2.2.2.2.2.1,.slice x16.2.2.2.2.2.2.1.a x16.2.2.2.2.2.2.1.n x16.2.2.2.2.2.2.1.c,.bool x16.2.2.2.2.2.2.2.1,.int .i64 x16.2.2.2.2.2.2.2.2.1,.int .u64 x16.2.2.2.2.2.2.2.2.2.1,.int .u64 x16.2.2.2.2.2.2.2.2.2.2.1,.slice x16.2.2.2.2.2.2.2.2.2.2.2.1.a x16.2.2.2.2.2.2.2.2.2.2.2.1.n x16.2.2.2.2.2.2.2.2.2.2.2.1.c,.bool x16.2.2.2.2.2.2.2.2.2.2.2.2.1,.int .i64 x16.2.2.2.2.2.2.2.2.2.2.2.2.2.1,.int .u64 x16.2.2.2.2.2.2.2.2.2.2.2.2.2.2.1,.int .u64 x16.2.2.2.2.2.2.2.2.2.2.2.2.2.2.2.1,.slice x16.2.2.2.2.2.2.2.2.2.2.2.2.2.2.2.2.1.a x16.2.2.2.2.2.2.2.2.2.2.2.2.2.2.2.2.1.n x16.2.2.2.2.2.2.2.2.2.2.2.2.2.2.2.2.1.c,.bool x16.2.2.2.2.2.2.2.2.2.2.2.2.2.2.2.2.2.1,.int .i64 x16.2.2.2.2.2.2.2.2.2.2.2.2.2.2.2.2.2.2.1,.int .u64 x16.2.2.2.2.2.2.2.2.2.2.2.2.2.2.2.2.2.2.2.1,.int .u64 x16.2.2.2.2.2.2.2.2.2.2.2.2.2.2.2.2.2.2.2.2.1,.slice x16.2.2.2.2.2.2.2.2.2.2.2.2.2.2.2.2.2.2.2.2.2.1.a x16.2.2.2.2.2.2.2.2.2.2.2.2.2.2.2.2.2.2.2.2.2.1.n x16.2.2.2.2.2.2.2.2.2.2.2.2.2.2.2.2.2.2.2.2.2.1.c,.bool x16.2.2.2.2.2.2.2.2.2.2.2.2.2.2.2.2.2.2.2.2.2.2.1,.int .i64 x16.2.2.2.2.2.2.2.2.2.2.2.2.2.2.2.2.2.2.2.2.2.2.2.1,.int .u64 x16.2.2.2.2.2.2.2.2.2.2.2.2.2.2.2.2.2.2.2.2.2.2.2.2.1,.int .u64 x16.2.2.2.2.2.2.2.2.2.2.2.2.2.2.2.2.2.2.2.2.2.2.2.2.2.1,.slice x16.2.2.2.2.2.2.2.2.2.2.2.2.2.2.2.2.2.2.2.2.2.2.2.2.2.2.1.a x16.2.2.2.2.2.2.2.2.2.2.2.2.2.2.2.2.2.2.2.2.2.2.2.2.2.2.1.n x16.2.2.2.2.2.2.2.2.2.2.2.2.2.2.2.2.2.2.2.2.2.2.2.2.2.2.1.c,.int .u64 x16.2.2.2.2.2.2.2.2.2.2.2.2.2.2.2.2.2.2.2.2.2.2.2.2.2.2.2.1],.int .u8 0] w5 [.one .ptr,.agg [.int .i64,.int .i64,.int .i64,.int .i64,.int .i64,.int .i64,.sl,.sl,.bool,.int .i64]] λ(r17:(Option Addr)×(Int×Int×Int×Int×Int×Int×SlV×SlV×Bool×Int×Unit)×Unit) w18=>
 NewV #[.int .i64 0,.int .i64 0,.int .i64 0,.int .i64 0,.int .i64 0,.int .i64 0,.slice none 0 0,.slice none 0 0,.bool false,.int .i64 0] 45 w18 λb19 w20=>
 StoreV w20 ⟨b19,0,none⟩ [.int .i64 r17.2.1.1,.int .i64 r17.2.1.2.1,.int .i64 r17.2.1.2.2.1,.int .i64 r17.2.1.2.2.2.1,.int .i64 r17.2.1.2.2.2.2.1,.int .i64 r17.2.1.2.2.2.2.2.1,.slice r17.2.1.2.2.2.2.2.2.1.a r17.2.1.2.2.2.2.2.2.1.n r17.2.1.2.2.2.2.2.2.1.c,.slice r17.2.1.2.2.2.2.2.2.2.1.a r17.2.1.2.2.2.2.2.2.2.1.n r17.2.1.2.2.2.2.2.2.2.1.c,.bool r17.2.1.2.2.2.2.2.2.2.2.1,.int .i64 r17.2.1.2.2.2.2.2.2.2.2.2.1] λw21=>
 cond (decide (p1<0))
 (CallV Tryz.prog 8 #[] w21 [.one .bool] λ(r22:Bool×Unit) w23=>
 K (r22.1,()) w23)
 (LoadS w21 ⟨b1,0,none⟩ (.int .i64) λ(x24:Int)=>
 cond (decide (p1≥x24))
 (CallV Tryz.prog 8 #[] w21 [.one .bool] λ(r25:Bool×Unit) w26=>
 K (r25.1,()) w26)
 (LoadS w21 ⟨b19,6,none⟩ .sl λ(x27:SlV)=>
 (0<=p1/\p1<((x27.n:Nat):Int))/\∃ q28:Addr,x27.a=some q28 /\
 LoadS w21 (q28.add (p1.toNat*5)) .sl λ(x29:SlV)=>
 JoinV [.one .bool] (λ(v31:Bool×Unit) w32=>
 cond v31.1
 (JoinV [.one .ptr] (λ(v34:(Option Addr)×Unit) w35=>
 PtrK v34.1 λq36=>
 LoadS w35 q36 .bool λ(x37:Bool)=>
 cond (!x37)
 (PtrK v34.1 λq38=>
 LoadS w35 (q38.add 9) .sl λ(x39:SlV)=>
 cond (((x39.n:Nat):Int) == 0)
 (CallV Tryz.prog 8 #[] w35 [.one .bool] λ(r40:Bool×Unit) w41=>
 K (r40.1,()) w41)
 (K (false,()) w35))
 (K (false,()) w35)) λ(J33:(Option Addr)×Unit->World->Prop)=>
 DrawV λD42=>
 (D42 b1/\LoadA w32.drew ⟨b1,0,none⟩ [.int .i64,.int .i64,.int .i64,.int .i64,.int .i64,.int .i64] λ(x43:Int×Int×Int×Int×Int×Int×Unit)=>
 ((0:Int)<=p2/\p2<=((x29.n:Nat):Int)) /\
 SubK x29.a p2.toNat x29.c 1 λa44=>
 ((CallV Tryz.prog 7 #[.agg #[.int .i64 x43.1,.int .i64 x43.2.1,.int .i64 x43.2.2.1,.int .i64 x43.2.2.2.1,.int .i64 x43.2.2.2.2.1,.int .i64 x43.2.2.2.2.2.1],.int .i64 p1,.slice a44 (x29.n-p2.toNat) (x29.c-p2.toNat)] w32.drew [.agg [.bool,.int .i64,.int .i64,.int .i64,.int .i64,.int .i64,.int .u32,.int .u64,.int .u64,.sl]] λ(r45:(Bool×Int×Int×Int×Int×Int×Int×Int×Int×SlV×Unit)×Unit) w46=>
 KeepOn D42 w32.drew w46 /\
 NewV #[.bool false,.int .i64 0,.int .i64 0,.int .i64 0,.int .i64 0,.int .i64 0,.int .u32 0,.int .u64 0,.int .u64 0,.slice none 0 0] 38 w46 λb47 w48=>
 KeepOn D42 w32.drew w48 /\
 StoreV w48 ⟨b47,0,none⟩ [.bool r45.1.1,.int .i64 r45.1.2.1,.int .i64 r45.1.2.2.1,.int .i64 r45.1.2.2.2.1,.int .i64 r45.1.2.2.2.2.1,.int .i64 r45.1.2.2.2.2.2.1,.int .u32 r45.1.2.2.2.2.2.2.1,.int .u64 r45.1.2.2.2.2.2.2.2.1,.int .u64 r45.1.2.2.2.2.2.2.2.2.1,.slice r45.1.2.2.2.2.2.2.2.2.2.1.a r45.1.2.2.2.2.2.2.2.2.2.1.n r45.1.2.2.2.2.2.2.2.2.2.1.c] λw49=>
 KeepOn D42 w32.drew w49 /\
 J33 ((some ⟨b47,0,none⟩),()) w49) /\
 (NewV #[.bool false,.int .i64 0,.int .i64 0,.int .i64 0,.int .i64 0,.int .i64 0,.int .u32 0,.int .u64 0,.int .u64 0,.slice none 0 0] 38 w32.drew λb50 w51=>
 KeepOn D42 w32.drew w51 /\
 CallV Tryz.prog 7 #[.agg #[.int .i64 x43.1,.int .i64 x43.2.1,.int .i64 x43.2.2.1,.int .i64 x43.2.2.2.1,.int .i64 x43.2.2.2.2.1,.int .i64 x43.2.2.2.2.2.1],.int .i64 p1,.slice a44 (x29.n-p2.toNat) (x29.c-p2.toNat)] w51 [.agg [.bool,.int .i64,.int .i64,.int .i64,.int .i64,.int .i64,.int .u32,.int .u64,.int .u64,.sl]] λ(r52:(Bool×Int×Int×Int×Int×Int×Int×Int×Int×SlV×Unit)×Unit) w53=>
 KeepOn D42 w32.drew w53 /\
 StoreV w53 ⟨b50,0,none⟩ [.bool r52.1.1,.int .i64 r52.1.2.1,.int .i64 r52.1.2.2.1,.int .i64 r52.1.2.2.2.1,.int .i64 r52.1.2.2.2.2.1,.int .i64 r52.1.2.2.2.2.2.1,.int .u32 r52.1.2.2.2.2.2.2.1,.int .u64 r52.1.2.2.2.2.2.2.2.1,.int .u64 r52.1.2.2.2.2.2.2.2.2.1,.slice r52.1.2.2.2.2.2.2.2.2.2.1.a r52.1.2.2.2.2.2.2.2.2.2.1.n r52.1.2.2.2.2.2.2.2.2.2.1.c] λw54=>
 KeepOn D42 w32.drew w54 /\
 J33 ((some ⟨b50,0,none⟩),()) w54))))
 (LoadA w32 ⟨b1,0,none⟩ [.int .i64,.int .i64,.int .i64,.int .i64,.int .i64,.int .i64] λ(x55:Int×Int×Int×Int×Int×Int×Unit)=>
 CallV Tryz.prog 7 #[.agg #[.int .i64 x55.1,.int .i64 x55.2.1,.int .i64 x55.2.2.1,.int .i64 x55.2.2.2.1,.int .i64 x55.2.2.2.2.1,.int .i64 x55.2.2.2.2.2.1],.int .i64 p1,.slice x29.a x29.n x29.c] w32 [.agg [.bool,.int .i64,.int .i64,.int .i64,.int .i64,.int .i64,.int .u32,.int .u64,.int .u64,.sl]] λ(r56:(Bool×Int×Int×Int×Int×Int×Int×Int×Int×SlV×Unit)×Unit) w57=>
 NewV #[.bool false,.int .i64 0,.int .i64 0,.int .i64 0,.int .i64 0,.int .i64 0,.int .u32 0,.int .u64 0,.int .u64 0,.slice none 0 0] 38 w57 λb58 w59=>
 StoreV w59 ⟨b58,0,none⟩ [.bool r56.1.1,.int .i64 r56.1.2.1,.int .i64 r56.1.2.2.1,.int .i64 r56.1.2.2.2.1,.int .i64 r56.1.2.2.2.2.1,.int .i64 r56.1.2.2.2.2.2.1,.int .u32 r56.1.2.2.2.2.2.2.1,.int .u64 r56.1.2.2.2.2.2.2.2.1,.int .u64 r56.1.2.2.2.2.2.2.2.2.1,.slice r56.1.2.2.2.2.2.2.2.2.2.1.a r56.1.2.2.2.2.2.2.2.2.2.1.n r56.1.2.2.2.2.2.2.2.2.2.1.c] λw60=>
 LoadA w60 ⟨b1,0,none⟩ [.int .i64,.int .i64,.int .i64,.int .i64,.int .i64,.int .i64] λ(x61:Int×Int×Int×Int×Int×Int×Unit)=>
 CallV Tryz.prog 10 #[.agg #[.int .i64 x61.1,.int .i64 x61.2.1,.int .i64 x61.2.2.1,.int .i64 x61.2.2.2.1,.int .i64 x61.2.2.2.2.1,.int .i64 x61.2.2.2.2.2.1],.int .i64 p1,.slice x29.a x29.n x29.c] w60 [.agg [.bool,.int .i64,.int .i64,.int .i64,.int .i64,.int .i64,.int .u32,.int .u64,.int .u64,.sl]] λ(r62:(Bool×Int×Int×Int×Int×Int×Int×Int×Int×SlV×Unit)×Unit) w63=>
 NewV #[.bool false,.int .i64 0,.int .i64 0,.int .i64 0,.int .i64 0,.int .i64 0,.int .u32 0,.int .u64 0,.int .u64 0,.slice none 0 0] 54 w63 λb64 w65=>
 StoreV w65 ⟨b64,0,none⟩ [.bool r62.1.1,.int .i64 r62.1.2.1,.int .i64 r62.1.2.2.1,.int .i64 r62.1.2.2.2.1,.int .i64 r62.1.2.2.2.2.1,.int .i64 r62.1.2.2.2.2.2.1,.int .u32 r62.1.2.2.2.2.2.2.1,.int .u64 r62.1.2.2.2.2.2.2.2.1,.int .u64 r62.1.2.2.2.2.2.2.2.2.1,.slice r62.1.2.2.2.2.2.2.2.2.2.1.a r62.1.2.2.2.2.2.2.2.2.2.1.n r62.1.2.2.2.2.2.2.2.2.2.1.c] λw66=>
 LoadS w66 ⟨b58,0,none⟩ .bool λ(x67:Bool)=>
 LoadS w66 ⟨b64,0,none⟩ .bool λ(x68:Bool)=>
 cond (!(x67 == x68))
 (K (false,()) w66)
 (LoadS w66 ⟨b58,1,none⟩ (.int .i64) λ(x69:Int)=>
 LoadS w66 ⟨b64,1,none⟩ (.int .i64) λ(x70:Int)=>
 cond (x69 != x70)
 (K (false,()) w66)
 (LoadS w66 ⟨b58,2,none⟩ (.int .i64) λ(x71:Int)=>
 LoadS w66 ⟨b64,2,none⟩ (.int .i64) λ(x72:Int)=>
 cond (x71 != x72)
 (K (false,()) w66)
 (LoadA w66 ⟨b58,3,none⟩ [.int .i64,.int .i64,.int .i64,.int .u32,.int .u64,.int .u64] λ(x73:Int×Int×Int×Int×Int×Int×Unit)=>
 LoadA w66 ⟨b64,3,none⟩ [.int .i64,.int .i64,.int .i64,.int .u32,.int .u64,.int .u64] λ(x74:Int×Int×Int×Int×Int×Int×Unit)=>
 AggEq Tryz.prog 35 #[.int .i64 x73.1,.int .i64 x73.2.1,.int .i64 x73.2.2.1,.int .u32 x73.2.2.2.1,.int .u64 x73.2.2.2.2.1,.int .u64 x73.2.2.2.2.2.1] #[.int .i64 x74.1,.int .i64 x74.2.1,.int .i64 x74.2.2.1,.int .u32 x74.2.2.2.1,.int .u64 x74.2.2.2.2.1,.int .u64 x74.2.2.2.2.2.1] λe75=>
 cond (!e75)
 (K (false,()) w66)
 (LoadS w66 ⟨b58,9,none⟩ .sl λ(x76:SlV)=>
 LoadS w66 ⟨b64,9,none⟩ .sl λ(x77:SlV)=>
 cond (((x76.n:Nat):Int) != ((x77.n:Nat):Int))
 (K (false,()) w66)
 (LoopV [.one (.int .i64)] ((0:Int),()) w66 λ(z78:Int×Unit) w79 (K80:Int×Unit->World->Prop)=>
 LoadS w79 ⟨b58,9,none⟩ .sl λ(x81:SlV)=>
 cond (decide (z78.1<((x81.n:Nat):Int)))
 (DrawV λD82=>
 (D82 b58/\LoadS w79.drew ⟨b58,9,none⟩ .sl λ(x83:SlV)=>
 (0<=z78.1/\z78.1<((x83.n:Nat):Int))/\∃ q84:Addr,x83.a=some q84 /\
 (D82 (q84.add (z78.1.toNat*14)).block/\LoadA w79.drew (q84.add (z78.1.toNat*14)) [.int .i64,.int .i64] λ(x85:Int×Int×Unit)=>
 (D82 b58/\LoadS w79.drew ⟨b58,9,none⟩ .sl λ(x86:SlV)=>
 (0<=z78.1/\z78.1<((x86.n:Nat):Int))/\∃ q87:Addr,x86.a=some q87 /\
 (D82 ((q87.add (z78.1.toNat*14)).add 2).block/\LoadA w79.drew ((q87.add (z78.1.toNat*14)).add 2) [.int .i64,.int .i64,.int .i64,.int .u32,.int .u64,.int .u64] λ(x88:Int×Int×Int×Int×Int×Int×Unit)=>
 (D82 b58/\LoadS w79.drew ⟨b58,9,none⟩ .sl λ(x89:SlV)=>
 (0<=z78.1/\z78.1<((x89.n:Nat):Int))/\∃ q90:Addr,x89.a=some q90 /\
 (D82 ((q90.add (z78.1.toNat*14)).add 8).block/\LoadA w79.drew ((q90.add (z78.1.toNat*14)).add 8) [.int .i64,.int .i64,.int .i64,.int .u32,.int .u64,.int .u64] λ(x91:Int×Int×Int×Int×Int×Int×Unit)=>
 (D82 b64/\LoadS w79.drew ⟨b64,9,none⟩ .sl λ(x92:SlV)=>
 (0<=z78.1/\z78.1<((x92.n:Nat):Int))/\∃ q93:Addr,x92.a=some q93 /\
 (D82 (q93.add (z78.1.toNat*14)).block/\LoadA w79.drew (q93.add (z78.1.toNat*14)) [.int .i64,.int .i64,.int .i64,.int .i64,.int .i64,.int .u32,.int .u64,.int .u64,.int .i64,.int .i64,.int .i64,.int .u32,.int .u64,.int .u64] λ(x94:Int×Int×Int×Int×Int×Int×Int×Int×Int×Int×Int×Int×Int×Int×Unit)=>
 AggEq Tryz.prog 60 #[.int .i64 x85.1,.int .i64 x85.2.1,.int .i64 x88.1,.int .i64 x88.2.1,.int .i64 x88.2.2.1,.int .u32 x88.2.2.2.1,.int .u64 x88.2.2.2.2.1,.int .u64 x88.2.2.2.2.2.1,.int .i64 x91.1,.int .i64 x91.2.1,.int .i64 x91.2.2.1,.int .u32 x91.2.2.2.1,.int .u64 x91.2.2.2.2.1,.int .u64 x91.2.2.2.2.2.1] #[.int .i64 x94.1,.int .i64 x94.2.1,.int .i64 x94.2.2.1,.int .i64 x94.2.2.2.1,.int .i64 x94.2.2.2.2.1,.int .u32 x94.2.2.2.2.2.1,.int .u64 x94.2.2.2.2.2.2.1,.int .u64 x94.2.2.2.2.2.2.2.1,.int .i64 x94.2.2.2.2.2.2.2.2.1,.int .i64 x94.2.2.2.2.2.2.2.2.2.1,.int .i64 x94.2.2.2.2.2.2.2.2.2.2.1,.int .u32 x94.2.2.2.2.2.2.2.2.2.2.2.1,.int .u64 x94.2.2.2.2.2.2.2.2.2.2.2.2.1,.int .u64 x94.2.2.2.2.2.2.2.2.2.2.2.2.2.1] λe95=>
 cond (!e95)
 (K (false,()) w79.drew)
 (Rng .i64 (z78.1+1) /\
 K80 (z78.1+1,()) w79.drew))))))))))
 (CallV Tryz.prog 8 #[] w79 [.one .bool] λ(r96:Bool×Unit) w97=>
 K (r96.1,()) w97)))))))) λ(J30:Bool×Unit->World->Prop)=>
 cond (decide (p2≥1))
 (J30 (decide (p2<=((x29.n:Nat):Int)),()) w21)
 (J30 (false,()) w21))))
theorem law23_ScanBlocks.vc (p0_0 p0_1 p0_2 p0_3 p0_4 p0_5:Int) (a0_6:Option Addr) (n0_6 c0_6:Nat) (p0_7:Bool) (p0_8 p0_9 p0_10:Int) (a0_11:Option Addr) (n0_11 c0_11:Nat) (p0_12:Bool) (p0_13 p0_14 p0_15:Int) (a0_16:Option Addr) (n0_16 c0_16:Nat) (p0_17:Bool) (p0_18 p0_19 p0_20:Int) (a0_21:Option Addr) (n0_21 c0_21:Nat) (p0_22:Bool) (p0_23 p0_24 p0_25:Int) (a0_26:Option Addr) (n0_26 c0_26:Nat) (p0_27 p1 p2:Int) (w:World) (K:Bool×Unit->World->Prop) (h:law23_ScanBlocks.P p0_0 p0_1 p0_2 p0_3 p0_4 p0_5 a0_6 n0_6 c0_6 p0_7 p0_8 p0_9 p0_10 a0_11 n0_11 c0_11 p0_12 p0_13 p0_14 p0_15 a0_16 n0_16 c0_16 p0_17 p0_18 p0_19 p0_20 a0_21 n0_21 c0_21 p0_22 p0_23 p0_24 p0_25 a0_26 n0_26 c0_26 p0_27 p1 p2 w K):CallV Tryz.prog 3 #[.agg #[.int .i64 p0_0,.int .i64 p0_1,.int .i64 p0_2,.int .i64 p0_3,.int .i64 p0_4,.int .i64 p0_5,.slice a0_6 n0_6 c0_6,.bool p0_7,.int .i64 p0_8,.int .u64 p0_9,.int .u64 p0_10,.slice a0_11 n0_11 c0_11,.bool p0_12,.int .i64 p0_13,.int .u64 p0_14,.int .u64 p0_15,.slice a0_16 n0_16 c0_16,.bool p0_17,.int .i64 p0_18,.int .u64 p0_19,.int .u64 p0_20,.slice a0_21 n0_21 c0_21,.bool p0_22,.int .i64 p0_23,.int .u64 p0_24,.int .u64 p0_25,.slice a0_26 n0_26 c0_26,.int .u64 p0_27],.int .i64 p1,.int .i64 p2] w [.one .bool] K:=by
 refine vcFun.of (A:=law23_ScanBlocks.A) (wr:=false) okf_ok follows h Tryz.func3 ?_
 kernel_rfl
end Go.Proofs.YtcekmdehjnlkpaaGreat.Vc
namespace Go.Proofs.YtcekmdehjnlkpaaGreat.Vc
open Go Go.Eng Go.RowKit
set_option maxRecDepth 100000 in
theorem eqPl1 (a1 a2 b1 b2:Int) (w:World):(Op.equalIn 9999 57 (.agg #[.int .i64 a1,.int .i64 a2]) (.agg #[.int .i64 b1,.int .i64 b2])).run Tryz.prog w=.ok (a1 == b1 && a2 == b2) w:=by
 have u1:=Tryz.underlying3
 have v1:=Tryz.isAgg3
 have z1:=Tryz.sizeOf3
 have hS:Tryz.prog.underlying 57=some (.struct (Tryz.prog.fieldsOf 57)):=by kernel_rfl
 rw [show (9999:Nat)=9998+1 from rfl,run_equalIn_agg w 9998 57 _ _ hS (by kernel_rfl)]
 simp only [Program.fieldsOf,Tryz.underlying57]
 go_simp
 repeat' split
 all_goals simp_all
set_option maxRecDepth 100000 in
theorem eqHh1 (a b:Hh) (w:World):(Op.equalIn 9999 35 a.val b.val).run Tryz.prog w=.ok (a.k == b.k && (a.n == b.n && (a.c == b.c && (a.l == b.l && (a.e == b.e && a.t == b.t))))) w:=by
 have u1:=Tryz.underlying3
 have v1:=Tryz.isAgg3
 have z1:=Tryz.sizeOf3
 have u2:=Tryz.underlying33
 have v2:=Tryz.isAgg33
 have z2:=Tryz.sizeOf33
 have u3:=Tryz.underlying25
 have v3:=Tryz.isAgg25
 have z3:=Tryz.sizeOf25
 have hS:Tryz.prog.underlying 35=some (.struct (Tryz.prog.fieldsOf 35)):=by kernel_rfl
 rw [show (9999:Nat)=9998+1 from rfl,run_equalIn_agg w 9998 35 _ _ hS (by kernel_rfl)]
 simp only [Program.fieldsOf,Tryz.underlying35]
 go_simp
 repeat' split
 all_goals simp_all
set_option maxRecDepth 100000 in
theorem eqRp0 (a b:Sp) (w:World):(Op.equalIn 10000 60 a.val b.val).run Tryz.prog w=.ok (a.b == b.b && (a.p == b.p && (a.h.k == b.h.k && (a.h.n == b.h.n && (a.h.c == b.h.c && (a.h.l == b.h.l && (a.h.e == b.h.e && (a.h.t == b.h.t && (a.o.k == b.o.k && (a.o.n == b.o.n && (a.o.c == b.o.c && (a.o.l == b.o.l && (a.o.e == b.o.e && a.o.t == b.o.t))))))))))))) w:=by
 have h1:=λw=>eqPl1 a.b a.p b.b b.p w
 have h2:=λw=>eqHh1 a.h b.h w
 have h3:=λw=>eqHh1 a.o b.o w
 have u1:=Tryz.underlying35
 have v1:=Tryz.isAgg35
 have z1:=Tryz.sizeOf35
 have u2:=Tryz.underlying57
 have v2:=Tryz.isAgg57
 have z2:=Tryz.sizeOf57
 have hS:Tryz.prog.underlying 60=some (.struct (Tryz.prog.fieldsOf 60)):=by kernel_rfl
 rw [show (10000:Nat)=9999+1 from rfl,run_equalIn_agg w 9999 60 _ _ hS (by kernel_rfl)]
 simp only [Program.fieldsOf,Tryz.underlying60]
 go_simp
 repeat' split
 all_goals simp_all
deriving instance DecidableEq for Hh
deriving instance DecidableEq for Sp
theorem eqSp_chain (a b:Sp):(a.b == b.b && (a.p == b.p && (a.h.k == b.h.k && (a.h.n == b.h.n && (a.h.c == b.h.c && (a.h.l == b.h.l && (a.h.e == b.h.e && (a.h.t == b.h.t && (a.o.k == b.o.k && (a.o.n == b.o.n && (a.o.c == b.o.c && (a.o.l == b.o.l && (a.o.e == b.o.e && a.o.t == b.o.t)))))))))))))=decide (a=b):=by
 apply Bool.eq_iff_iff.2
 obtain ⟨a1,a2,⟨a3,a4,a5,a6,a7,a8⟩,⟨a9,a10,a11,a12,a13,a14⟩⟩:=a
 obtain ⟨b1,b2,⟨b3,b4,b5,b6,b7,b8⟩,⟨b9,b10,b11,b12,b13,b14⟩⟩:=b
 simp [and_assoc]
theorem eqRp {a b:Sp} {K:Bool->Prop} (hk:K (decide (a=b))):AggEq Tryz.prog 60 a.vs.toArray b.vs.toArray K:=
 ⟨_,λw=>eqRp0 a b w,by kernel_rfl,by rw [eqSp_chain];exact hk⟩
end Go.Proofs.YtcekmdehjnlkpaaGreat.Vc
