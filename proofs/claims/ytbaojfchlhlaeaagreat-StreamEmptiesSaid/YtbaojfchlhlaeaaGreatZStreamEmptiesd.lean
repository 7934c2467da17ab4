/- Texts in one: The contracts of layer 21 (ledger): new ones, and what a ledger tells. Calls and open orders that own the first parts. An array, and a ledger, as parts of which only the data is told. The plans of functions as plain statements, printed by wip/tools/vcgen.py; the kernel holds each to the code. The contracts of layer 14 (head): a head's bytes. The law HeadBytes of layer 14: each call gives true, and what it read stays. The contracts of layer 14 (head): an end's bytes, and is it committed. Plain laws for layer 14 (head): numbers of bytes, back as bytes. The contracts of layer 14 (head): what an end tells. The contract of head.Read. Heads are the same where all their numbers are. The law HeadEnds of layer 14: each call gives true, and what it read stays. The plans of functions as plain statements, printed by wip/tools/vcgen.py; the kernel holds each to the code. The contracts of layer 15 (page): pages that are made. Parts of plans, cut out by wip/tools/vccut.py. The contract of the document's Read (layer 14). The contracts of layer 15 (page): what commits a page, and what a page tells. The contracts of layer 15 (page): what bytes tell. The contracts of layer 15 (page): the document's, and small ones. Plain data of layer 24 (pool): what each of its operations makes. The plans of functions as plain statements, printed by wip/tools/vcgen.py; the kernel holds each to the code. Some cells of an element of one's own slice are written. The order of the parts. The contracts of pool (layer 24): destroy, program, seal, begin. The contracts of pool (layer 24): begin, open. -/
import Derived.Test.YtbaojfchlhlaeaaGreatZStreamEmptiesc
set_option linter.unusedVariables false
set_option linter.unusedSimpArgs false
namespace Go.Proofs.YtbaojfchlhlaeaaGreat.Vc
open Go Go.Eng Go.RowKit
theorem bvs_rep (i:Nat):bvs (List.replicate (i+1) Blk.new)=bvs (List.replicate i Blk.new)++Blk.new.vs:=by
 rw [List.replicate_succ',bvs,List.flatMap_append]
 simp
theorem New21_c {w:World} {n:Int} (h:0<=n/\n<=64):CallV Tryz.prog 79 #[.int .i64 n] w [.one .ptr,.one (.int .i64)] λr w'=>
  r.2.1=(0:Int)/\∃ p a c,r.1=some (⟨p,0,none⟩:Addr)/\Sep NoB w w' (LedP p a n.toNat c (List.replicate n.toNat Blk.new)):=by
 apply ledger_New.vc
 unfold ledger_New.P
 refine cond_d (λk=>absurd k (by omega)) λ_=>cond_d (λk=>absurd k (by omega)) λ_=>?_
 have S:=Sep.start NoB w
 refine S.newB λb1 w1 S f1 _=>?_
 have S:=(S.nilOwn 103 9).sel [1,0] rfl
 refine Loop1 (λ(v:Int×Unit) w'=>∃ (i:Nat) (a:Option Addr) (c:Nat),v.1=(i:Int)/\(i:Int)<=n/\Sep NoB w w' (LedP b1 a i c (List.replicate i Blk.new))) (λ(v:Int×Unit) _=>(n-v.1).toNat) ⟨0,none,0,rfl,by omega,S⟩ ?_
 rintro ⟨(z:Int),⟨⟩⟩ w4 ⟨i,a,c,hz,hi,S⟩
 dsimp only at hz ⊢
 subst hz
 refine cond_d (λhlt=>?_) (λhge=>?_)
 ·refine S.ld0 rfl rfl ?_
  refine S.newB λb7 w8 S f8 _=>?_
  dsimp only
  refine AppS.of (news:=Blk.new.vs) rfl (.inr ⟨_,rfl,S.cells 0 rfl⟩) ?_
  refine S.ap2 (by rfl) (vs_one _) (by omega) (by omega) λa9 c11 w12 S f12=>?_
  refine S.st1 (by rfl) λw14 S f14=>?_
  refine ⟨Rng.i64 (by omega) (by omega),⟨i+1,a9,c11,by push_cast;rfl,by omega,?_⟩,by omega⟩
  show Sep NoB w w14 [_,OwnA _ 9 a9 (i+1) c11 (bvs (List.replicate (i+1) Blk.new))]
  rw [bvs_rep]
  exact S.tail
 ·have:n.toNat=i:=by omega
  rw [this]
  exact ⟨rfl,b1,a,c,rfl,S⟩
section
variable {E:Nat->Prop} {w0 w:World} {Rs:List Asr} {p:Nat} {e e2:TypeId} {a:Option Addr} {n c:Nat} {L:List Blk}
theorem nthB {i:Int} (k:Nat) (S:Sep E w0 w Rs) (hk:Rs[k]? = some (OwnA e2 9 a n c (bvs L))) (h0:0<=i) (h1:i<(n:Int)) :
  ∃ q,a=some q/\CellsAt w (q.add (i.toNat*9)) (gx L i.toNat).vs/\q.block<w.heap.size:=by
 obtain ⟨q,x,hq,hx,hc⟩:=S.nthF (f:=Blk.vs) (m:=9) k hk (λ_=>rfl) (by decide) h0 h1
 refine ⟨q,hq,?_,?_⟩
 ·rw [show gx L i.toNat=x from getD_of hx];exact hc
 ·have:=cells_lt hc;rwa [add_block] at this
theorem best_c {f1 f2:FuncId} {cap1 cap2:Array Value} {m:Nat->Blk->Bool} {ah:Blk->Blk->Bool} (hn:n<=1000000) (hf1:okf f1=true) (hf2:okf f2=true)
  (h1:∀ (w':World) (i:Nat) (x:Blk),Ext w w'->CallV Tryz.prog f1 ([]++((([.int .i64 (i:Int),x.val]:List Value))++cap1.toList)).toArray w' [.one .bool] λr w2=>r.1=m i x/\Ext w' w2)
  (h2:∀ (w':World) (x y:Blk),Ext w w'->CallV Tryz.prog f2 ([]++((([x.val,y.val]:List Value))++cap2.toList)).toArray w' [.one .bool] λr w2=>r.1=ah x y/\Ext w' w2)
  (S:Sep E w0 w (BoxA p e [.slice a n c]::OwnA e2 9 a n c (bvs L)::Rs)) :
  CallV Tryz.prog 239 #[.pointer (some ⟨p,0,none⟩),.func (.func f1) #[] cap1,.func (.func f2) #[] cap2] w [.one (.int .i64)] λr w'=>r.1=bestT L m ah n/\Ext w w':=by
 apply ledger_Ledger_best.vc
 unfold ledger_Ledger_best.P
 refine (Len_c S).mono ?_
 rintro ⟨(r:Int),⟨⟩⟩ w1 ⟨hr,rfl⟩
 dsimp only at hr ⊢
 subst hr
 refine Loop1 (λ(v:Int×Int×Unit) w'=>∃ i:Nat,v.2.1=(i:Int)/\i<=n/\v.1=bestT L m ah i/\Ext w1 w') (λ(v:Int×Int×Unit) _=>((n:Int)-v.2.1).toNat) ⟨0,rfl,by omega,rfl,Ext.refl _⟩ ?_
 rintro ⟨(t:Int),(z:Int),⟨⟩⟩ w4 ⟨i,hz,hi,ht,x4⟩
 dsimp only at hz ht ⊢
 subst hz
 have S:=S.stepE x4
 refine cond_d (λhlt=>?_) (λhge=>⟨by rw [ht];congr 1;omega,x4⟩)
 have tb:=bestT_bd (L:=L) (m:=m) (ah:=ah) i
 rw [<-ht] at tb
 refine S.reg λD hD hkeep S T=>?_
 have X:=x4.trans (Ext.drew w4)
 obtain ⟨q,hq,hc,hb⟩:=nthB (i:=(i:Int)) 1 S rfl (by omega) hlt
 rw [Int.toNat_natCast] at hc
 refine ⟨hD _ S.bl0,S.ld0 rfl rfl ⟨⟨by omega,hlt⟩,q,hq,by rw [add_block];exact hD _ hb,(gx L i).tup,by rw [Int.toNat_natCast];exact hc,cond_t hf1 ?_⟩⟩
 refine (h1 _ i (gx L i) X).mono ?_
 rintro ⟨(r:Bool),⟨⟩⟩ w5 ⟨hr,x5⟩
 dsimp only at hr ⊢
 have T5:=T.stepE x5
 refine ⟨hkeep _ T5.fr,?_⟩
 have rng:Rng .i64 ((i:Int)+1):=Rng.i64 (by omega) (by omega)
 have no:∀ {w':World},¬ (m i (gx L i)=true/\(bestT L m ah i<0\/ah (gx L i) (gx L (bestT L m ah i).toNat)=true))->Ext w1 w'->Rng .i64 ((i:Int)+1)/\(∃ j:Nat,(i:Int)+1=(j:Int)/\j<=n/\t=bestT L m ah j/\Ext w1 w')/\((n:Int)-((i:Int)+1)).toNat<((n:Int)-(i:Int)).toNat:=
  λh x=>⟨rng,⟨i+1,by push_cast;rfl,by omega,by show t=if _ then _ else _;rw [if_neg h];exact ht,x⟩,by omega⟩
 have yes:∀ {w':World},(m i (gx L i)=true/\(bestT L m ah i<0\/ah (gx L i) (gx L (bestT L m ah i).toNat)=true))->Ext w1 w'->Rng .i64 ((i:Int)+1)/\(∃ j:Nat,(i:Int)+1=(j:Int)/\j<=n/\(i:Int)=bestT L m ah j/\Ext w1 w')/\((n:Int)-((i:Int)+1)).toNat<((n:Int)-(i:Int)).toNat:=
  λh x=>⟨rng,⟨i+1,by push_cast;rfl,by omega,by show (i:Int)=if _ then _ else _;rw [if_pos h],x⟩,by omega⟩
 subst hr
 refine cond_of (λhm=>?_) (λhm=>no (λh=>by rw [h.1] at hm;cases hm) (X.trans x5))
 refine cond_d (λh0=>yes ⟨hm,.inl (by omega)⟩ (X.trans x5)) (λh0=>?_)
 obtain ⟨q2,hq2,hc2,hb2⟩:=nthB (i:=t) 1 S rfl (by omega) (by omega)
 rw [hq] at hq2
 cases hq2
 refine ⟨hD _ S.bl0,S.ld0 rfl rfl ⟨⟨by omega,hlt⟩,q,hq,by rw [add_block];exact hD _ hb,(gx L i).tup,by rw [Int.toNat_natCast];exact hc,?_⟩⟩
 refine ⟨hD _ S.bl0,S.ld0 rfl rfl ⟨⟨by omega,by dsimp only;omega⟩,q,hq,by rw [add_block];exact hD _ hb,(gx L t.toNat).tup,hc2,cond_t hf2 ?_⟩⟩
 refine (h2 _ (gx L i) (gx L t.toNat) (X.trans x5)).mono ?_
 rintro ⟨(r:Bool),⟨⟩⟩ w6 ⟨hr,x6⟩
 dsimp only at hr ⊢
 subst hr
 have T6:=T5.stepE x6
 refine ⟨hkeep _ T6.fr,?_⟩
 refine cond_of (λha=>yes ⟨hm,.inr (by rw [<-ht];exact ha)⟩ ((X.trans x5).trans x6)) (λha=>no (λh=>?_) ((X.trans x5).trans x6))
 rcases h.2 with k | k
 ·omega
 ·rw [<-ht] at k
  rw [k] at ha
  cases ha
theorem many_c {f1:FuncId} {cap1:Array Value} {m:Blk->Bool} (hn:n<=1000000) (hf1:okf f1=true)
  (h1:∀ (w':World) (x:Blk),Ext w w'->CallV Tryz.prog f1 ([]++((([x.val]:List Value))++cap1.toList)).toArray w' [.one .bool] λr w2=>r.1=m x/\Ext w' w2)
  (S:Sep E w0 w (BoxA p e [.slice a n c]::OwnA e2 9 a n c (bvs L)::Rs)) :
  CallV Tryz.prog 93 #[.pointer (some ⟨p,0,none⟩),.func (.func f1) #[] cap1] w [.one (.int .i64)] λr w'=>r.1=manyT L m n/\Ext w w':=by
 apply ledger_Ledger_many.vc
 unfold ledger_Ledger_many.P
 refine (Len_c S).mono ?_
 rintro ⟨(r:Int),⟨⟩⟩ w1 ⟨hr,rfl⟩
 dsimp only at hr ⊢
 subst hr
 refine Loop1 (λ(v:Int×Int×Unit) w'=>∃ i:Nat,v.2.1=(i:Int)/\i<=n/\v.1=manyT L m i/\Ext w1 w') (λ(v:Int×Int×Unit) _=>((n:Int)-v.2.1).toNat) ⟨0,rfl,by omega,rfl,Ext.refl _⟩ ?_
 rintro ⟨(t:Int),(z:Int),⟨⟩⟩ w4 ⟨i,hz,hi,ht,x4⟩
 dsimp only at hz ht ⊢
 subst hz
 have S:=S.stepE x4
 refine cond_d (λhlt=>?_) (λhge=>⟨by rw [ht];congr 1;omega,x4⟩)
 have tb:=manyT_bd (L:=L) (m:=m) i
 rw [<-ht] at tb
 obtain ⟨q,hq,hc,hb⟩:=nthB (i:=(i:Int)) 1 S rfl (by omega) hlt
 rw [Int.toNat_natCast] at hc
 refine S.ld0 rfl rfl ⟨⟨by omega,hlt⟩,q,hq,(gx L i).tup,by rw [Int.toNat_natCast];exact hc,cond_t hf1 ?_⟩
 refine (h1 _ (gx L i) x4).mono ?_
 rintro ⟨(r:Bool),⟨⟩⟩ w5 ⟨hr,x5⟩
 dsimp only at hr ⊢
 subst hr
 refine cond_of (λhm=>?_) (λhm=>?_)
 ·exact ⟨Rng.i64 (by omega) (by omega),Rng.i64 (by omega) (by omega),⟨i+1,by push_cast;rfl,by omega,by show t+1=if _ then _ else _;rw [if_pos hm,ht],x4.trans x5⟩,by omega⟩
 ·exact ⟨Rng.i64 (by omega) (by omega),⟨i+1,by push_cast;rfl,by omega,by show t=if _ then _ else _;rw [if_neg (by rw [hm];simp),ht],x4.trans x5⟩,by omega⟩
end
def freeB (x:Blk):Bool:=!x.he && !x.ba
def ownB (ns:Int) (x:Blk):Bool:=x.he && !x.ba && x.ow == ns
section
variable {w:World} {x y:Blk}
theorem Free_c:CallV Tryz.prog 281 #[x.val] w [.one .bool] λr w'=>r.1=freeB x/\Ext w w':=by
 apply ledger_Free.vc
 unfold ledger_Free.P
 have S:=Sep.start NoB w
 refine S.newB λb1 w1 S f1 _=>?_
 refine S.ld0 rfl rfl (cond_of (λh=>S.ld0 rfl rfl ⟨?_,S.ext⟩) λh=>⟨?_,S.ext⟩)
 ·show (!x.ba)=(!x.he && !x.ba);rw [h];rfl
 ·show false=(!x.he && !x.ba);rw [h];rfl
theorem own21_c {ns:Int}:CallV Tryz.prog 95 #[x.val,.int .i64 ns] w [.one .bool] λr w'=>r.1=ownB ns x/\Ext w w':=by
 apply ledger_own.vc
 unfold ledger_own.P
 have S:=Sep.start NoB w
 refine S.newB λb1 w1 S f1 _=>?_
 refine S.ld0 rfl rfl (cond_of (λh=>S.ld0 rfl rfl (cond_of (λh2=>S.ld0 rfl rfl ⟨?_,S.ext⟩) λh2=>⟨?_,S.ext⟩)) λh=>⟨?_,S.ext⟩)
 ·show (x.ow == ns)=(x.he && !x.ba && x.ow == ns);rw [h,h2];rfl
 ·show false=(x.he && !x.ba && x.ow == ns);rw [h,h2];rfl
 ·show false=(x.he && !x.ba && x.ow == ns);rw [h];rfl
theorem less21_c:CallV Tryz.prog 240 #[x.val,y.val] w [.one .bool] λr w'=>r.1=decide (x.er<y.er)/\Ext w w':=by
 apply ledger_less.vc
 unfold ledger_less.P
 have S:=Sep.start NoB w
 (repeat ((first | refine S.newB λ_ _ S f _=>?_ | refine S.la0 rfl ?_ | refine S.la1 rfl ?_ | refine S.la2 rfl ?_ | refine S.la3 rfl ?_ | refine S.la4 rfl ?_ | refine S.la5 rfl ?_ | refine S.ld0 rfl rfl ?_ | refine S.ld1 rfl rfl ?_ | refine S.ld2 rfl rfl ?_ | refine S.ld3 rfl rfl ?_ | refine S.ld4 rfl rfl ?_ | refine S.ld5 rfl rfl ?_ | refine S.st0 (by rfl) λ_ S f=>?_ | refine S.st1 (by rfl) λ_ S f=>?_ | refine S.st2 (by rfl) λ_ S f=>?_ | refine S.st3 (by rfl) λ_ S f=>?_ | refine S.st4 (by rfl) λ_ S f=>?_ | refine S.st5 (by rfl) λ_ S f=>?_ | refine S.su0 (by rfl) λ_ S f=>?_ | refine S.su1 (by rfl) λ_ S f=>?_ | refine S.su2 (by rfl) λ_ S f=>?_ | refine S.su3 (by rfl) λ_ S f=>?_ | refine S.su4 (by rfl) λ_ S f=>?_ | refine S.su5 (by rfl) λ_ S f=>?_ | refine ⟨by decide,?_⟩);try dsimp only [List.set_cons_zero,List.set_cons_succ,cond_true,cond_false,Bool.not_true,Bool.not_false]))
 exact ⟨rfl,S.ext⟩
theorem Pick1_c {i:Int}:CallV Tryz.prog 280 #[.int .i64 i,x.val] w [.one .bool] λr w'=>r.1=freeB x/\Ext w w':=by
 apply ledger_Ledger_Pick_1.vc
 unfold ledger_Ledger_Pick_1.P
 have S:=Sep.start NoB w
 (repeat ((first | refine S.newB λ_ _ S f _=>?_ | refine S.la0 rfl ?_ | refine S.la1 rfl ?_ | refine S.la2 rfl ?_ | refine S.la3 rfl ?_ | refine S.la4 rfl ?_ | refine S.la5 rfl ?_ | refine S.ld0 rfl rfl ?_ | refine S.ld1 rfl rfl ?_ | refine S.ld2 rfl rfl ?_ | refine S.ld3 rfl rfl ?_ | refine S.ld4 rfl rfl ?_ | refine S.ld5 rfl rfl ?_ | refine S.st0 (by rfl) λ_ S f=>?_ | refine S.st1 (by rfl) λ_ S f=>?_ | refine S.st2 (by rfl) λ_ S f=>?_ | refine S.st3 (by rfl) λ_ S f=>?_ | refine S.st4 (by rfl) λ_ S f=>?_ | refine S.st5 (by rfl) λ_ S f=>?_ | refine S.su0 (by rfl) λ_ S f=>?_ | refine S.su1 (by rfl) λ_ S f=>?_ | refine S.su2 (by rfl) λ_ S f=>?_ | refine S.su3 (by rfl) λ_ S f=>?_ | refine S.su4 (by rfl) λ_ S f=>?_ | refine S.su5 (by rfl) λ_ S f=>?_ | refine ⟨by decide,?_⟩);try dsimp only [List.set_cons_zero,List.set_cons_succ,cond_true,cond_false,Bool.not_true,Bool.not_false]))
 refine (Free_c (x:=x)).mono ?_
 rintro ⟨(r:Bool),⟨⟩⟩ w1 ⟨h,x1⟩
 exact ⟨h,S.ext.trans x1⟩
theorem Victim1_c {E:Nat->Prop} {w0:World} {Rs:List Asr} {i bu ns:Int} {q0 q1:Nat} {e0 e1:TypeId} (S0:Sep E w0 w (BoxA q0 e0 [.int .i64 bu]::BoxA q1 e1 [.int .i64 ns]::Rs)) :
  CallV Tryz.prog 246 #[.int .i64 i,x.val,.pointer (some ⟨q0,0,none⟩),.pointer (some ⟨q1,0,none⟩)] w [.one .bool] λr w'=>r.1=(decide (i≠bu) && ownB ns x)/\Ext w w':=by
 apply ledger_Ledger_Victim_1.vc
 unfold ledger_Ledger_Victim_1.P
 have S:=Sep.start NoB w
 refine S.newB λb1 w1 S f1 _=>?_
 have S0:=S0.stepE S.ext
 refine S0.ld0 rfl rfl (cond_ne (λh=>S.la0 rfl (S0.ld1 rfl rfl ?_)) λh=>⟨by rw [decide_eq_false (λk=>k h)];rfl,S.ext⟩)
 refine (own21_c (x:=x)).mono ?_
 rintro ⟨(r:Bool),⟨⟩⟩ w2 ⟨h2,x2⟩
 exact ⟨by rw [decide_eq_true h];exact h2,S.ext.trans x2⟩
theorem Victim2_c:CallV Tryz.prog 247 #[x.val,y.val] w [.one .bool] λr w'=>r.1=decide (x.li<y.li)/\Ext w w':=by
 apply ledger_Ledger_Victim_2.vc
 unfold ledger_Ledger_Victim_2.P
 have S:=Sep.start NoB w
 (repeat ((first | refine S.newB λ_ _ S f _=>?_ | refine S.la0 rfl ?_ | refine S.la1 rfl ?_ | refine S.la2 rfl ?_ | refine S.la3 rfl ?_ | refine S.la4 rfl ?_ | refine S.la5 rfl ?_ | refine S.ld0 rfl rfl ?_ | refine S.ld1 rfl rfl ?_ | refine S.ld2 rfl rfl ?_ | refine S.ld3 rfl rfl ?_ | refine S.ld4 rfl rfl ?_ | refine S.ld5 rfl rfl ?_ | refine S.st0 (by rfl) λ_ S f=>?_ | refine S.st1 (by rfl) λ_ S f=>?_ | refine S.st2 (by rfl) λ_ S f=>?_ | refine S.st3 (by rfl) λ_ S f=>?_ | refine S.st4 (by rfl) λ_ S f=>?_ | refine S.st5 (by rfl) λ_ S f=>?_ | refine S.su0 (by rfl) λ_ S f=>?_ | refine S.su1 (by rfl) λ_ S f=>?_ | refine S.su2 (by rfl) λ_ S f=>?_ | refine S.su3 (by rfl) λ_ S f=>?_ | refine S.su4 (by rfl) λ_ S f=>?_ | refine S.su5 (by rfl) λ_ S f=>?_ | refine ⟨by decide,?_⟩);try dsimp only [List.set_cons_zero,List.set_cons_succ,cond_true,cond_false,Bool.not_true,Bool.not_false]))
 exact ⟨rfl,S.ext⟩
theorem Held1_c {E:Nat->Prop} {w0:World} {Rs:List Asr} {ns:Int} {q1:Nat} {e1:TypeId} (S0:Sep E w0 w (BoxA q1 e1 [.int .i64 ns]::Rs)) :
  CallV Tryz.prog 94 #[x.val,.pointer (some ⟨q1,0,none⟩)] w [.one .bool] λr w'=>r.1=ownB ns x/\Ext w w':=by
 apply ledger_Ledger_Held_1.vc
 unfold ledger_Ledger_Held_1.P
 have S:=Sep.start NoB w
 refine S.newB λb1 w1 S f1 _=>?_
 have S0:=S0.stepE S.ext
 refine S.la0 rfl (S0.ld0 rfl rfl ?_)
 refine (own21_c (x:=x)).mono ?_
 rintro ⟨(r:Bool),⟨⟩⟩ w2 ⟨h2,x2⟩
 exact ⟨h2,S.ext.trans x2⟩
theorem Bads1_c:CallV Tryz.prog 196 #[x.val] w [.one .bool] λr w'=>r.1=x.ba/\Ext w w':=by
 apply ledger_Ledger_Bads_1.vc
 unfold ledger_Ledger_Bads_1.P
 have S:=Sep.start NoB w
 (repeat ((first | refine S.newB λ_ _ S f _=>?_ | refine S.la0 rfl ?_ | refine S.la1 rfl ?_ | refine S.la2 rfl ?_ | refine S.la3 rfl ?_ | refine S.la4 rfl ?_ | refine S.la5 rfl ?_ | refine S.ld0 rfl rfl ?_ | refine S.ld1 rfl rfl ?_ | refine S.ld2 rfl rfl ?_ | refine S.ld3 rfl rfl ?_ | refine S.ld4 rfl rfl ?_ | refine S.ld5 rfl rfl ?_ | refine S.st0 (by rfl) λ_ S f=>?_ | refine S.st1 (by rfl) λ_ S f=>?_ | refine S.st2 (by rfl) λ_ S f=>?_ | refine S.st3 (by rfl) λ_ S f=>?_ | refine S.st4 (by rfl) λ_ S f=>?_ | refine S.st5 (by rfl) λ_ S f=>?_ | refine S.su0 (by rfl) λ_ S f=>?_ | refine S.su1 (by rfl) λ_ S f=>?_ | refine S.su2 (by rfl) λ_ S f=>?_ | refine S.su3 (by rfl) λ_ S f=>?_ | refine S.su4 (by rfl) λ_ S f=>?_ | refine S.su5 (by rfl) λ_ S f=>?_ | refine ⟨by decide,?_⟩);try dsimp only [List.set_cons_zero,List.set_cons_succ,cond_true,cond_false,Bool.not_true,Bool.not_false]))
 exact ⟨rfl,S.ext⟩
end
section
variable {E:Nat->Prop} {w0 w:World} {Rs:List Asr} {p:Nat} {e e2:TypeId} {a:Option Addr} {n c:Nat} {L:List Blk}
def pickT (L:List Blk) (n:Nat):Int:=bestT L (λ_ x=>freeB x) (λx y=>decide (x.er<y.er)) n
def victT (L:List Blk) (ns bu:Int) (n:Nat):Int:=bestT L (λi x=>decide ((i:Int)≠bu) && ownB ns x) (λx y=>decide (x.li<y.li)) n
theorem Pick_c (hn:n<=1000000) (S:Sep E w0 w (BoxA p e [.slice a n c]::OwnA e2 9 a n c (bvs L)::Rs)) :
  CallV Tryz.prog 255 #[.pointer (some ⟨p,0,none⟩)] w [.one (.int .i64)] λr w'=>r.1=pickT L n/\Ext w w':=by
 apply ledger_Ledger_Pick.vc
 unfold ledger_Ledger_Pick.P
 exact best_c hn (by kernel_rfl) (by kernel_rfl) (λw' i x _=>Pick1_c) (λw' x y _=>less21_c) S
theorem Victim_c {ns bu:Int} (hn:n<=1000000) (S:Sep E w0 w (BoxA p e [.slice a n c]::OwnA e2 9 a n c (bvs L)::Rs)) :
  CallV Tryz.prog 200 #[.pointer (some ⟨p,0,none⟩),.int .i64 ns,.int .i64 bu] w [.one (.int .i64)] λr w'=>r.1=victT L ns bu n/\Ext w w':=by
 apply ledger_Ledger_Victim.vc
 unfold ledger_Ledger_Victim.P
 have T:=Sep.start NoB w
 refine T.newB λb1 w1 T f1 _=>?_
 refine T.newB λb3 w3 T f3 _=>?_
 refine (best_c hn (by kernel_rfl) (by kernel_rfl) (λw' i x x'=>Victim1_c (T.stepE x')) (λw' x y _=>Victim2_c) (S.stepE T.ext)).mono ?_
 rintro ⟨(r:Int),⟨⟩⟩ w2 ⟨h2,x2⟩
 exact ⟨h2,T.ext.trans x2⟩
theorem Held21_c {ns:Int} (hn:n<=1000000) (S:Sep E w0 w (BoxA p e [.slice a n c]::OwnA e2 9 a n c (bvs L)::Rs)) :
  CallV Tryz.prog 28 #[.pointer (some ⟨p,0,none⟩),.int .i64 ns] w [.one (.int .i64)] λr w'=>r.1=manyT L (ownB ns) n/\Ext w w':=by
 apply ledger_Ledger_Held.vc
 unfold ledger_Ledger_Held.P
 have T:=Sep.start NoB w
 refine T.newB λb1 w1 T f1 _=>?_
 refine (many_c hn (by kernel_rfl) (λw' x x'=>Held1_c (T.stepE x')) (S.stepE T.ext)).mono ?_
 rintro ⟨(r:Int),⟨⟩⟩ w2 ⟨h2,x2⟩
 exact ⟨h2,T.ext.trans x2⟩
theorem Bads_c (hn:n<=1000000) (S:Sep E w0 w (BoxA p e [.slice a n c]::OwnA e2 9 a n c (bvs L)::Rs)) :
  CallV Tryz.prog 158 #[.pointer (some ⟨p,0,none⟩)] w [.one (.int .i64)] λr w'=>r.1=manyT L (λx=>x.ba) n/\Ext w w':=by
 apply ledger_Ledger_Bads.vc
 unfold ledger_Ledger_Bads.P
 exact many_c hn (by kernel_rfl) (λw' x _=>Bads1_c) S
theorem At21_c {b:Int} (S:Sep E w0 w (BoxA p e [.slice a n c]::OwnA e2 9 a n c (bvs L)::Rs)) (hb:0<=b/\b<(n:Int)) :
  CallV Tryz.prog 54 #[.pointer (some ⟨p,0,none⟩),.int .i64 b] w [.agg [.int .i64,.int .i64,.int .i64,.int .i64,.bool,.bool,.bool,.bool,.bool]] λr w'=>r.1=(gx L b.toNat).tup/\Ext w w':=by
 apply ledger_Ledger_At.vc
 unfold ledger_Ledger_At.P
 have T:=Sep.start NoB w
 refine T.newB λb1 w1 T f1 _=>?_
 have S:=S.stepE T.ext
 refine (has_c (b:=b) S).mono ?_
 rintro ⟨(r:Bool),⟨⟩⟩ w2 ⟨h2,rfl⟩
 dsimp only at h2 ⊢
 subst h2
 refine cond_f (by rw [decide_eq_true hb];rfl) ?_
 obtain ⟨q,hq,hc,-⟩:=nthB (i:=b) 1 S rfl hb.1 hb.2
 refine S.ld0 rfl rfl ⟨hb,q,hq,(gx L b.toNat).tup,hc,?_⟩
 refine T.st0 (by rfl) λw3 T f3=>T.la0 rfl ⟨rfl,T.ext⟩
end
end Go.Proofs.YtbaojfchlhlaeaaGreat.Vc
namespace Go.Eng
open Go
section
variable {E:Nat->Prop} {w0 w w':World} {Rs Ts:List Asr}
theorem Sep.regC (Rs:List Asr) {Ts:List Asr} (S:Sep E w0 w (Rs++Ts)) {body:(Nat->Prop)->Prop}
  (h:∀ F D:Nat->Prop,(∀ k,F k->(E k\/w0.heap.size<=k)/\k<w.heap.size)->Sep F w.drew w.drew Rs->Sep E w0 w.drew (Rs++Ts)->(∀ (i:Nat) (b:Nat) (e:TypeId) (vs:List Value),Ts[i]? = some (BoxA b e vs)->D b)->(∀ b,b<w0.heap.size->¬ E b->D b)->(∀ w',Fr F w.drew w'->KeepOn D w.drew w')->(∀ w' Ls,Sep F w.drew w' Ls->Sep E w0 w' (Ls++Ts))->body D):DrawV body:=by
 have S:=S.drew
 obtain ⟨F,hF,hb⟩:=S.ex
 obtain ⟨F1,F2,h1,h2,h3,h4,h5⟩:=StarP.app.1 hF
 have hsz:w0.heap.size<=w.drew.heap.size:=S.fr.size
 refine DrawV.but F1 w λD hD hk=>h F1 D (λk hk=>hb k (h4 k hk)) (Sep.begin h1 λk hk=>(hb k (h4 k hk)).2) S (λi b e vs hi=>?_) (λb hb1 hb2=>?_) hk λw' Ls S'=>?_
 ·obtain ⟨G,g1,g2⟩:=StarP.get hi h2
  exact hD b (hb b (h5 b (g2 b g1.1))).2 λx=>h3 b x (g2 b g1.1)
 ·refine hD b (Nat.lt_of_lt_of_le hb1 hsz) λx=>?_
  rcases (hb b (h4 b x)).1 with y | y
  ·exact hb2 y
  ·omega
 ·obtain ⟨G,g1,g2⟩:=S'.ex
  refine ⟨S.fr.trans' S'.fr λk hk=>(hb k (h4 k hk)).1,λk=>G k\/F2 k,StarP.app.2 ⟨G,F2,g1,h2.st λk hk=>S'.fr.block k (hb k (h5 k hk)).2 λx=>h3 k x hk,λk hk hf=>?_,λk=>.inl,λk=>.inr⟩,λk hk=>?_⟩
  ·rcases (g2 k hk).1 with x | x
   ·exact h3 k x hf
   ·have:=(hb k (h5 k hf)).2;omega
  ·rcases hk with hk | hk
   ·refine ⟨?_,(g2 k hk).2⟩
    rcases (g2 k hk).1 with x | x
    ·exact (hb k (h4 k x)).1
    ·exact .inr (by omega)
   ·exact ⟨(hb k (h5 k hk)).1,Nat.lt_of_lt_of_le (hb k (h5 k hk)).2 S'.fr.size⟩
end
end Go.Eng
namespace Go.Proofs.YtbaojfchlhlaeaaGreat.Vc
open Go Go.Eng Go.RowKit
abbrev TDat:Type:=Int×Int×Int×List Int×Int
def lenD (l:List TDat):Prop:=∀ o∈l,o.2.2.2.1.length<=100000
def trD (l:List TDat):List (Int×Int):=l.map λo=>(o.1,o.2.2.2.2)
theorem lenD.app {l t:List TDat} (h:lenD l) (k:lenD t):lenD (l++t):=λo ho=>(List.mem_append.1 ho).elim (h o) (k o)
theorem lenD.if1 {c:Prop} [Decidable c] {x:TDat} (h:x.2.2.2.1.length<=100000):lenD (if c then [x] else []):=λo ho=>by
 split at ho
 ·rw [List.mem_singleton.1 ho];exact h
 ·exact (List.not_mem_nil ho).elim
theorem trD.if1 {c:Prop} [Decidable c] (l:List TDat) (x:TDat):trD (l++if c then [x] else [])=if c then trD l++[(x.1,x.2.2.2.2)] else trD l:=by
 split
 ·unfold trD;rw [List.map_append];rfl
 ·rw [List.append_nil]
structure ChT (y:Lay) (L:List TOp) (C:CD):Prop where
 pl:fds y.F=C.pl
 tr:trD (L.map TOp.dat)=C.tr
 le:lenD (L.map TOp.dat)
def chipE (p:Nat) (C:CD):Asr:=⟨λw F=>∃ (y:Lay) (L:List TOp),ChT y L C/\StarP w (ChipP p y C L) F,λh k=>by obtain ⟨y,L,h1,h2⟩:=h;exact ⟨y,L,h1,h2.st k⟩⟩
def ledE (q:Nat) (L:List Blk):Asr:=⟨λw F=>∃ (a:Option Addr) (c:Nat),StarP w (LedP q a L.length c L) F,λh k=>by obtain ⟨a,c,h1⟩:=h;exact ⟨a,c,h1.st k⟩⟩
theorem eraC_k (C:CD) (n:Int):(eraC C n).1.g=C.g/\(eraC C n).1.pl=C.pl:=by unfold eraC eraX;split <;> exact ⟨rfl,rfl⟩
theorem scrC_k (C:CD) (n:Int):(scrC C n).1.g=C.g/\(scrC C n).1.pl=C.pl:=by unfold scrC scrX;split <;> exact ⟨rfl,rfl⟩
theorem progC_k (C:CD) (bl pa:Int) (b:List Int):(progC C bl pa b).1.g=C.g/\(progC C bl pa b).1.pl=C.pl:=by unfold progC progX;split <;> exact ⟨rfl,rfl⟩
theorem eraC_tr (C:CD) (n:Int):(eraC C n).1.tr=if mayC C n=0 then C.tr++[(2,(codeC C).1)] else C.tr:=by unfold eraC eraX;split <;> rfl
theorem scrC_tr (C:CD) (n:Int):(scrC C n).1.tr=if mayC C n=0 then C.tr++[(3,(codeC C).1)] else C.tr:=by unfold scrC scrX;split <;> rfl
theorem progC_tr (C:CD) (bl pa:Int) (b:List Int):(progC C bl pa b).1.tr=if refC C bl pa b.length=0 then C.tr++[(1,(codeC C).1)] else C.tr:=by unfold progC progX;split <;> rfl
theorem eraC_ok {C:CD} (hC:COk C) (n:Int) (ho:C.ops<1000000000000):COk (eraC C n).1/\(eraC C n).1.ops<=C.ops+1/\C.ops<=(eraC C n).1.ops:=by
 unfold eraC
 split
 ·rename_i h;exact ⟨eraX_ok hC h ho,Nat.le_refl _,Nat.le_succ _⟩
 ·exact ⟨hC,Nat.le_succ _,Nat.le_refl _⟩
theorem scrC_ok {C:CD} (hC:COk C) (n:Int) (ho:C.ops<1000000000000):COk (scrC C n).1/\(scrC C n).1.ops<=C.ops+1/\C.ops<=(scrC C n).1.ops:=by
 unfold scrC
 split
 ·rename_i h;exact ⟨scrX_ok hC h ho,Nat.le_refl _,Nat.le_succ _⟩
 ·exact ⟨hC,Nat.le_succ _,Nat.le_refl _⟩
theorem progC_ok {C:CD} (hC:COk C) (bl pa:Int) {b:List Int} (bb:Byt b) (ho:C.ops<1000000000000):COk (progC C bl pa b).1/\(progC C bl pa b).1.ops<=C.ops+1/\C.ops<=(progC C bl pa b).1.ops:=by
 unfold progC
 split
 ·rename_i h;exact ⟨progX_ok hC h bb ho,Nat.le_refl _,Nat.le_succ _⟩
 ·exact ⟨hC,Nat.le_succ _,Nat.le_refl _⟩
section
variable {E:Nat->Prop} {w0 w:World} {Rs:List Asr} {p q:Nat} {C:CD} {L:List Blk}
theorem chipE_in {y:Lay} {T:List TOp} (hF:ChT y T C) (S:Sep E w0 w (ChipP p y C T++Rs)):Sep E w0 w (chipE p C::Rs):=
 (S.fold (Rs:=ChipP p y C T)).conv λF h _=>⟨y,T,hF,h⟩
theorem chipE_out (S:Sep E w0 w (chipE p C::Rs)):∃ (y:Lay) (T:List TOp),ChT y T C/\Sep E w0 w (ChipP p y C T++Rs):=by
 obtain ⟨F,⟨F1,F2,⟨y,T,h1,h2⟩,h3⟩,hb⟩:=S.ex
 have S2:Sep E w0 w (StarA (ChipP p y C T)::Rs):=⟨S.fr,F,⟨F1,F2,h2,h3⟩,hb⟩
 exact ⟨y,T,h1,S2.unfold (Rs:=ChipP p y C T)⟩
theorem ledE_in {a:Option Addr} {n c:Nat} (S:Sep E w0 w (LedP q a n c L++Rs)):Sep E w0 w (ledE q L::Rs):=by
 have hl:(bvs L).length=n*9:=(S.own 1 rfl).len
 have hn:n=L.length:=by rw [bvs_len] at hl;omega
 subst hn
 exact (S.fold (Rs:=LedP q a L.length c L)).conv λF h _=>⟨a,c,h⟩
theorem ledE_out (S:Sep E w0 w (ledE q L::Rs)):∃ (a:Option Addr) (c:Nat),Sep E w0 w (LedP q a L.length c L++Rs):=by
 obtain ⟨F,⟨F1,F2,⟨a,c,h2⟩,h3⟩,hb⟩:=S.ex
 have S2:Sep E w0 w (StarA (LedP q a L.length c L)::Rs):=⟨S.fr,F,⟨F1,F2,h2,h3⟩,hb⟩
 exact ⟨a,c,S2.unfold (Rs:=LedP q a L.length c L)⟩
theorem Erase_e {n:Int} (hC:COk C) (S:Sep E w0 w (chipE p C::Rs)):CallV Tryz.prog 180 #[.pointer (some ⟨p,0,none⟩),.int .i64 n] w [.one (.int .i64)] λr w'=>
  r.1=(eraC C n).2/\Sep E w0 w' (chipE p (eraC C n).1::Rs):=by
 obtain ⟨y,T,hF,S⟩:=chipE_out S
 refine Sep.call (ChipP p y C T) S (λG SG=>Erase13_c hC hF.pl SG) λG fr r w' hr=>?_
 obtain ⟨h1,ta,tc,L',hL,S'⟩:=hr
 exact ⟨h1,chipE_in (y:=upT y ta tc) ⟨by show fds y.F=_;rw [hF.pl,(eraC_k C n).2],by rw [hL,trD.if1,hF.tr,eraC_tr],by rw [hL];exact hF.le.app (lenD.if1 (by show (0:Nat)<=100000;omega))⟩ (fr _ _ S')⟩
theorem Scrub_e {n:Int} (hC:COk C) (S:Sep E w0 w (chipE p C::Rs)):CallV Tryz.prog 183 #[.pointer (some ⟨p,0,none⟩),.int .i64 n] w [.one (.int .i64)] λr w'=>
  r.1=(scrC C n).2/\Sep E w0 w' (chipE p (scrC C n).1::Rs):=by
 obtain ⟨y,T,hF,S⟩:=chipE_out S
 refine Sep.call (ChipP p y C T) S (λG SG=>Scrub13_c hC hF.pl SG) λG fr r w' hr=>?_
 obtain ⟨h1,ta,tc,L',hL,S'⟩:=hr
 exact ⟨h1,chipE_in (y:=upT y ta tc) ⟨by show fds y.F=_;rw [hF.pl,(scrC_k C n).2],by rw [hL,trD.if1,hF.tr,scrC_tr],by rw [hL];exact hF.le.app (lenD.if1 (by show (0:Nat)<=100000;omega))⟩ (fr _ _ S')⟩
theorem Program_eL {bl pa:Int} {dd:SlP Int} {D:List (SlP Int)} (hC:COk C) (hdn:dd.n<=100000) (hD:dd∈D) (S:Sep E w0 w (chipE p C::RdL D::Rs)):CallV Tryz.prog 205 #[.pointer (some ⟨p,0,none⟩),.agg #[.int .i64 bl,.int .i64 pa],.slice dd.a dd.n dd.c] w [.one (.int .i64)] λr w'=>
  r.1=(progC C bl pa dd.l).2/\Sep E w0 w' (chipE p (progC C bl pa dd.l).1::RdL D::Rs):=by
 have hdl:dd.l.length=dd.n:=by
  obtain ⟨F1,h,_⟩:=S.get (i:=1) rfl
  exact (Ty.ints (h dd hD)).len
 obtain ⟨y,T,hF,S⟩:=chipE_out S
 refine Sep.call (ChipQ p y C T [RdL D]) S (λG SG=>Program13_c (bl:=bl) (pa:=pa) hC hF.pl hdn SG hD) λG fr r w' hr=>?_
 obtain ⟨h1,ta,tc,L',hL,S'⟩:=hr
 exact ⟨h1,chipE_in (y:=upT y ta tc) (T:=L') (Rs:=RdL D::Rs) ⟨by show fds y.F=_;rw [hF.pl,(progC_k C bl pa dd.l).2],by rw [hL,trD.if1,hF.tr,progC_tr],by rw [hL];exact hF.le.app (lenD.if1 (by show dd.l.length<=100000;omega))⟩ (fr _ _ S')⟩
theorem Program_e {bl pa:Int} {dd:SlP Int} (hC:COk C) (hdn:dd.n<=100000) (S:Sep E w0 w (chipE p C::RdL [dd]::Rs)):CallV Tryz.prog 205 #[.pointer (some ⟨p,0,none⟩),.agg #[.int .i64 bl,.int .i64 pa],.slice dd.a dd.n dd.c] w [.one (.int .i64)] λr w'=>
  r.1=(progC C bl pa dd.l).2/\Sep E w0 w' (chipE p (progC C bl pa dd.l).1::RdL [dd]::Rs):=Program_eL hC hdn (List.mem_singleton.2 rfl) S
theorem res_rdL {w1:World} {s:SlV} {xs:List Int} (S:Sep E w0 w Rs) (h:Res w w1 s xs) (bx:Byt xs):Sep E w0 w1 (RdL [⟨s.a,s.n,s.c,xs⟩]::Rs):=
 (S.pushO h.ext h.own).conv λF hF _ x hx=>by
  rw [List.mem_singleton.1 hx]
  exact own_rdB hF (λk hk=>hk) bx
theorem Ops_e (S:Sep E w0 w (chipE p C::Rs)):CallV Tryz.prog 96 #[.pointer (some ⟨p,0,none⟩)] w [.one (.int .i64)] λr w'=>r.1=(C.ops:Int)/\w'=w:=by
 obtain ⟨y,T,hF,S⟩:=chipE_out S
 exact Ops_c S
theorem Geometry_e (S:Sep E w0 w (chipE p C::Rs)):CallV Tryz.prog 100 #[.pointer (some ⟨p,0,none⟩)] w [.agg [.int .i64,.int .i64,.int .i64,.int .i64,.int .i64,.int .i64]] λr w'=>r.1=C.g.tup/\Ext w w':=by
 obtain ⟨y,T,hF,S⟩:=chipE_out S
 exact Geometry_c S
theorem Read_e {bl pa:Int} (hC:COk C) (S:Sep E w0 w (chipE p C::Rs)):CallV Tryz.prog 130 #[.pointer (some ⟨p,0,none⟩),.agg #[.int .i64 bl,.int .i64 pa]] w [.one .sl,.one (.int .i64)] λr w'=>
  r.2.1=readC C bl pa/\(readC C bl pa≠0->r.1=(⟨none,0,0⟩:SlV)/\Ext w w')/\(readC C bl pa=0->Res w w' r.1 (pgC13 C bl pa)):=by
 obtain ⟨y,T,hF,S⟩:=chipE_out S
 exact Read13_c hC S
theorem led_call {fn:FuncId} {args:Array Value} {L':List Blk} {v:Int} (S:Sep E w0 w (ledE q L::Rs)) (h:∀ (G:Nat->Prop) (a:Option Addr) (c:Nat),Sep G w w (LedP q a L.length c L)->CallV Tryz.prog fn args w [.one (.int .i64)] λr w'=>r.1=v/\Sep G w w' (LedP q a L.length c L')) :
  CallV Tryz.prog fn args w [.one (.int .i64)] λr w'=>r.1=v/\Sep E w0 w' (ledE q L'::Rs):=by
 obtain ⟨a,c,S⟩:=ledE_out S
 refine Sep.call (LedP q a L.length c L) S (λG SG=>h G a c SG) λG fr r w' hr=>?_
 exact ⟨hr.1,ledE_in (fr _ _ hr.2)⟩
theorem Hold_e {b ns:Int} (S:Sep E w0 w (ledE q L::Rs)):CallV Tryz.prog 282 #[.pointer (some ⟨q,0,none⟩),.int .i64 b,.int .i64 ns] w [.one (.int .i64)] λr w'=>
  r.1=(if 0<=ns/\ns<4 then chE b L.length else 2)/\Sep E w0 w' (ledE q (if 0<=ns/\ns<4 then chL b L.length (hB ns) L else L)::Rs):=led_call S λG a c SG=>Hold21_c SG
theorem Scrubbed_e {b:Int} {m:Bool} (S:Sep E w0 w (ledE q L::Rs)):CallV Tryz.prog 184 #[.pointer (some ⟨q,0,none⟩),.int .i64 b,.bool m] w [.one (.int .i64)] λr w'=>
  r.1=chE b L.length/\Sep E w0 w' (ledE q (chL b L.length (sB m) L)::Rs):=led_call S λG a c SG=>Scrubbed_c SG
theorem Release_e {b:Int} (S:Sep E w0 w (ledE q L::Rs)):CallV Tryz.prog 113 #[.pointer (some ⟨q,0,none⟩),.int .i64 b] w [.one (.int .i64)] λr w'=>
  r.1=chE b L.length/\Sep E w0 w' (ledE q (chL b L.length rB L)::Rs):=led_call S λG a c SG=>Release_c SG
theorem Erased_e {b:Int} (hL:∀ x∈L,0<=x.er/\x.er<=2000000000000) (S:Sep E w0 w (ledE q L::Rs)):CallV Tryz.prog 181 #[.pointer (some ⟨q,0,none⟩),.int .i64 b] w [.one (.int .i64)] λr w'=>
  r.1=chE b L.length/\Sep E w0 w' (ledE q (chL b L.length eB L)::Rs):=led_call S λG a c SG=>Erased_c hL SG
theorem Failed_e {b:Int} (S:Sep E w0 w (ledE q L::Rs)):CallV Tryz.prog 182 #[.pointer (some ⟨q,0,none⟩),.int .i64 b] w [.one (.int .i64)] λr w'=>
  r.1=chE b L.length/\Sep E w0 w' (ledE q (chL b L.length fB L)::Rs):=led_call S λG a c SG=>Failed_c SG
theorem Pick_e (hn:L.length<=1000000) (S:Sep E w0 w (ledE q L::Rs)):CallV Tryz.prog 255 #[.pointer (some ⟨q,0,none⟩)] w [.one (.int .i64)] λr w'=>r.1=pickT L L.length/\Ext w w':=by
 obtain ⟨a,c,S⟩:=ledE_out S
 exact Pick_c hn S
theorem At_e {b:Int} (S:Sep E w0 w (ledE q L::Rs)) (hb:0<=b/\b<(L.length:Int)):CallV Tryz.prog 54 #[.pointer (some ⟨q,0,none⟩),.int .i64 b] w [.agg [.int .i64,.int .i64,.int .i64,.int .i64,.bool,.bool,.bool,.bool,.bool]] λr w'=>r.1=(gx L b.toNat).tup/\Ext w w':=by
 obtain ⟨a,c,S⟩:=ledE_out S
 exact At21_c S hb
theorem Len_e (S:Sep E w0 w (ledE q L::Rs)):CallV Tryz.prog 52 #[.pointer (some ⟨q,0,none⟩)] w [.one (.int .i64)] λr w'=>r.1=(L.length:Int)/\w'=w:=by
 obtain ⟨a,c,S⟩:=ledE_out S
 exact Len_c S
end
end Go.Proofs.YtbaojfchlhlaeaaGreat.Vc
namespace Go.Proofs.YtbaojfchlhlaeaaGreat.Vc
open Go Go.Eng
def head_Bytes.A:Ann:=.two .no (.two (.two .no (.one (.loop [2,3,5,14,15,16,17,18,19,20,21,22,23] [(14,.one (.int .i64))] .no))) .no)
def head_Bytes.P (p0_0 p0_1 p0_2 p0_3 p0_4 p0_5:Int) (w:World) (K:SlV×Int×Unit->World->Prop):Prop:=
 NewV #[.int .i64 p0_0,.int .i64 p0_1,.int .i64 p0_2,.int .u32 p0_3,.int .u64 p0_4,.int .u64 p0_5] 62 w λb1 w2=>
 LoadS w2 ⟨b1,0,none⟩ (.int .i64) λ(x3:Int)=>
 LoadS w2 ⟨b1,1,none⟩ (.int .i64) λ(x4:Int)=>
 LoadS w2 ⟨b1,2,none⟩ (.int .i64) λ(x5:Int)=>
 LoopV [.one (.int .i64)] ((0:Int),()) w2 λ(z6:Int×Unit) w7 (K8:Int×Unit->World->Prop)=>
 cond (decide (z6.1<3))
 ((0<=z6.1/\z6.1<(3:Int))/\∃ y9:Int,([.int .i64 x3,.int .i64 x4,.int .i64 x5]:List Value)[z6.1.toNat*1]? = some (.int .i64 y9) /\
 cond (decide (y9<0))
 (K ((⟨none,0,0⟩:SlV),(2:Int),()) w7)
 (cond (decide (y9>255))
 (K ((⟨none,0,0⟩:SlV),(2:Int),()) w7)
 (Rng .i64 (z6.1+1) /\
 K8 (z6.1+1,()) w7)))
 (LoadS w7 ⟨b1,0,none⟩ (.int .i64) λ(x10:Int)=>
 cond (decide (x10<1))
 (K ((⟨none,0,0⟩:SlV),(2:Int),()) w7)
 (LoadS w7 ⟨b1,0,none⟩ (.int .i64) λ(x11:Int)=>
 cond (decide (x11>4))
 (K ((⟨none,0,0⟩:SlV),(2:Int),()) w7)
 (LoadS w7 ⟨b1,0,none⟩ (.int .i64) λ(x12:Int)=>
 LoadS w7 ⟨b1,1,none⟩ (.int .i64) λ(x13:Int)=>
 LoadS w7 ⟨b1,2,none⟩ (.int .i64) λ(x14:Int)=>
 NewV #[.int .u8 (IntKind.u8.wrap x12),.int .u8 (IntKind.u8.wrap x13),.int .u8 (IntKind.u8.wrap x14),.int .u8 0] 5 w7 λb15 w16=>
 LoadS w16 ⟨b1,3,none⟩ (.int .u32) λ(x17:Int)=>
 CallV Tryz.prog 279 #[.int .u64 (IntKind.u64.wrap x17),.int .i64 4] w16 [.one .sl] λ(r18:SlV×Unit) w19=>
 AppS w19 r18.1.a r18.1.n 1 λns24=>
 AppV w19 5 1 1 (some ⟨b15,0,none⟩) 4 4 ns24 r18.1.n λa20 n21 c22 w23=>
 LoadS w23 ⟨b1,4,none⟩ (.int .u64) λ(x25:Int)=>
 CallV Tryz.prog 279 #[.int .u64 x25,.int .i64 8] w23 [.one .sl] λ(r26:SlV×Unit) w27=>
 AppS w27 r26.1.a r26.1.n 1 λns32=>
 AppV w27 5 1 1 a20 n21 c22 ns32 r26.1.n λa28 n29 c30 w31=>
 LoadS w31 ⟨b1,5,none⟩ (.int .u64) λ(x33:Int)=>
 CallV Tryz.prog 279 #[.int .u64 x33,.int .i64 8] w31 [.one .sl] λ(r34:SlV×Unit) w35=>
 AppS w35 r34.1.a r34.1.n 1 λns40=>
 AppV w35 5 1 1 a28 n29 c30 ns40 r34.1.n λa36 n37 c38 w39=>
 K ((⟨a36,n37,c38⟩:SlV),(0:Int),()) w39)))
theorem head_Bytes.vc (p0_0 p0_1 p0_2 p0_3 p0_4 p0_5:Int) (w:World) (K:SlV×Int×Unit->World->Prop) (h:head_Bytes.P p0_0 p0_1 p0_2 p0_3 p0_4 p0_5 w K):CallV Tryz.prog 248 #[.agg #[.int .i64 p0_0,.int .i64 p0_1,.int .i64 p0_2,.int .u32 p0_3,.int .u64 p0_4,.int .u64 p0_5]] w [.one .sl,.one (.int .i64)] K:=by
 refine vcFun.of (A:=head_Bytes.A) (wr:=false) okf_ok follows h Tryz.func248 ?_
 kernel_rfl
def ref14_Right.A:Ann:=.no
def ref14_Right.P (p0_0 p0_1 p0_2 p0_3 p0_4 p0_5:Int) (w:World) (K:Bool×Unit->World->Prop):Prop:=
 NewV #[.int .i64 p0_0,.int .i64 p0_1,.int .i64 p0_2,.int .u32 p0_3,.int .u64 p0_4,.int .u64 p0_5] 62 w λb1 w2=>
 LoadS w2 ⟨b1,0,none⟩ (.int .i64) λ(x3:Int)=>
 cond (decide (x3≥1))
 (LoadS w2 ⟨b1,0,none⟩ (.int .i64) λ(x4:Int)=>
 cond (decide (x4<=4))
 (LoadS w2 ⟨b1,1,none⟩ (.int .i64) λ(x5:Int)=>
 cond (decide (x5≥0))
 (LoadS w2 ⟨b1,1,none⟩ (.int .i64) λ(x6:Int)=>
 cond (decide (x6<=255))
 (LoadS w2 ⟨b1,2,none⟩ (.int .i64) λ(x7:Int)=>
 cond (decide (x7≥0))
 (LoadS w2 ⟨b1,2,none⟩ (.int .i64) λ(x8:Int)=>
 K (decide (x8<=255),()) w2)
 (K (false,()) w2))
 (K (false,()) w2))
 (K (false,()) w2))
 (K (false,()) w2))
 (K (false,()) w2)
theorem ref14_Right.vc (p0_0 p0_1 p0_2 p0_3 p0_4 p0_5:Int) (w:World) (K:Bool×Unit->World->Prop) (h:ref14_Right.P p0_0 p0_1 p0_2 p0_3 p0_4 p0_5 w K):CallV Tryz.prog 235 #[.agg #[.int .i64 p0_0,.int .i64 p0_1,.int .i64 p0_2,.int .u32 p0_3,.int .u64 p0_4,.int .u64 p0_5]] w [.one .bool] K:=by
 refine vcFun.of (A:=ref14_Right.A) (wr:=false) okf_ok follows h Tryz.func235 ?_
 kernel_rfl
def ref14_Bytes.A:Ann:=.two .no (.two (.draw (.take 0 (.take 1 (.take 2 (.take 3 (.take 4 (.take 5 (.take 6 (.take 7 (.take 8 (.take 10 (.take 11 (.take 12 (.both 9 (.eff 13 (.eff 14 (.take 15 (.done)))) 13 (.eff 9 (.eff 14 (.take 15 (.done)))))))))))))))))) .no)
def ref14_Bytes.P (p0_0 p0_1 p0_2 p0_3 p0_4 p0_5:Int) (w:World) (K:SlV×Unit->World->Prop):Prop:=
 NewV #[.int .i64 p0_0,.int .i64 p0_1,.int .i64 p0_2,.int .u32 p0_3,.int .u64 p0_4,.int .u64 p0_5] 62 w λb1 w2=>
 DrawV λD3=>
 (D3 b1/\LoadS w2.drew ⟨b1,0,none⟩ (.int .i64) λ(x4:Int)=>
 (D3 b1/\LoadS w2.drew ⟨b1,1,none⟩ (.int .i64) λ(x5:Int)=>
 (D3 b1/\LoadS w2.drew ⟨b1,2,none⟩ (.int .i64) λ(x6:Int)=>
 (D3 b1/\LoadS w2.drew ⟨b1,3,none⟩ (.int .u32) λ(x7:Int)=>
 ((NewV #[.int .u8 (IntKind.u8.wrap x4),.int .u8 (IntKind.u8.wrap x5),.int .u8 (IntKind.u8.wrap x6),.int .u8 0] 5 w2.drew λb8 w9=>
 KeepOn D3 w2.drew w9 /\
 CallV Tryz.prog 267 #[.int .u64 (IntKind.u64.wrap x7),.int .i64 4] w9 [.one .sl] λ(r10:SlV×Unit) w11=>
 KeepOn D3 w2.drew w11 /\
 AppS w11 r10.1.a r10.1.n 1 λns16=>
 AppV w11 5 1 1 (some ⟨b8,0,none⟩) 4 4 ns16 r10.1.n λa12 n13 c14 w15=>
 KeepOn D3 w2.drew w15 /\
 LoadS w15 ⟨b1,4,none⟩ (.int .u64) λ(x17:Int)=>
 CallV Tryz.prog 267 #[.int .u64 x17,.int .i64 8] w15 [.one .sl] λ(r18:SlV×Unit) w19=>
 AppS w19 r18.1.a r18.1.n 1 λns24=>
 AppV w19 5 1 1 a12 n13 c14 ns24 r18.1.n λa20 n21 c22 w23=>
 LoadS w23 ⟨b1,5,none⟩ (.int .u64) λ(x25:Int)=>
 CallV Tryz.prog 267 #[.int .u64 x25,.int .i64 8] w23 [.one .sl] λ(r26:SlV×Unit) w27=>
 AppS w27 r26.1.a r26.1.n 1 λns32=>
 AppV w27 5 1 1 a20 n21 c22 ns32 r26.1.n λa28 n29 c30 w31=>
 K ((⟨a28,n29,c30⟩:SlV),()) w31) /\
 (CallV Tryz.prog 267 #[.int .u64 (IntKind.u64.wrap x7),.int .i64 4] w2.drew [.one .sl] λ(r33:SlV×Unit) w34=>
 KeepOn D3 w2.drew w34 /\
 NewV #[.int .u8 (IntKind.u8.wrap x4),.int .u8 (IntKind.u8.wrap x5),.int .u8 (IntKind.u8.wrap x6),.int .u8 0] 5 w34 λb35 w36=>
 KeepOn D3 w2.drew w36 /\
 AppS w36 r33.1.a r33.1.n 1 λns41=>
 AppV w36 5 1 1 (some ⟨b35,0,none⟩) 4 4 ns41 r33.1.n λa37 n38 c39 w40=>
 KeepOn D3 w2.drew w40 /\
 LoadS w40 ⟨b1,4,none⟩ (.int .u64) λ(x42:Int)=>
 CallV Tryz.prog 267 #[.int .u64 x42,.int .i64 8] w40 [.one .sl] λ(r43:SlV×Unit) w44=>
 AppS w44 r43.1.a r43.1.n 1 λns49=>
 AppV w44 5 1 1 a37 n38 c39 ns49 r43.1.n λa45 n46 c47 w48=>
 LoadS w48 ⟨b1,5,none⟩ (.int .u64) λ(x50:Int)=>
 CallV Tryz.prog 267 #[.int .u64 x50,.int .i64 8] w48 [.one .sl] λ(r51:SlV×Unit) w52=>
 AppS w52 r51.1.a r51.1.n 1 λns57=>
 AppV w52 5 1 1 a45 n46 c47 ns57 r51.1.n λa53 n54 c55 w56=>
 K ((⟨a53,n54,c55⟩:SlV),()) w56))))))
theorem ref14_Bytes.vc (p0_0 p0_1 p0_2 p0_3 p0_4 p0_5:Int) (w:World) (K:SlV×Unit->World->Prop) (h:ref14_Bytes.P p0_0 p0_1 p0_2 p0_3 p0_4 p0_5 w K):CallV Tryz.prog 236 #[.agg #[.int .i64 p0_0,.int .i64 p0_1,.int .i64 p0_2,.int .u32 p0_3,.int .u64 p0_4,.int .u64 p0_5]] w [.one .sl] K:=by
 refine vcFun.of (A:=ref14_Bytes.A) (wr:=false) okf_ok follows h Tryz.func236 ?_
 kernel_rfl
def head_Less.A:Ann:=.no
def head_Less.P (p0_0 p0_1 p0_2 p0_3 p0_4 p0_5 p1_0 p1_1 p1_2 p1_3 p1_4 p1_5:Int) (w:World) (K:Bool×Unit->World->Prop):Prop:=
 NewV #[.int .i64 p0_0,.int .i64 p0_1,.int .i64 p0_2,.int .u32 p0_3,.int .u64 p0_4,.int .u64 p0_5] 62 w λb1 w2=>
 NewV #[.int .i64 p1_0,.int .i64 p1_1,.int .i64 p1_2,.int .u32 p1_3,.int .u64 p1_4,.int .u64 p1_5] 62 w2 λb3 w4=>
 LoadS w4 ⟨b1,4,none⟩ (.int .u64) λ(x5:Int)=>
 LoadS w4 ⟨b3,4,none⟩ (.int .u64) λ(x6:Int)=>
 cond (x5 != x6)
 (LoadS w4 ⟨b1,4,none⟩ (.int .u64) λ(x7:Int)=>
 LoadS w4 ⟨b3,4,none⟩ (.int .u64) λ(x8:Int)=>
 K (decide (x7<x8),()) w4)
 (LoadS w4 ⟨b1,5,none⟩ (.int .u64) λ(x9:Int)=>
 LoadS w4 ⟨b3,5,none⟩ (.int .u64) λ(x10:Int)=>
 K (decide (x9<x10),()) w4)
theorem head_Less.vc (p0_0 p0_1 p0_2 p0_3 p0_4 p0_5 p1_0 p1_1 p1_2 p1_3 p1_4 p1_5:Int) (w:World) (K:Bool×Unit->World->Prop) (h:head_Less.P p0_0 p0_1 p0_2 p0_3 p0_4 p0_5 p1_0 p1_1 p1_2 p1_3 p1_4 p1_5 w K):CallV Tryz.prog 195 #[.agg #[.int .i64 p0_0,.int .i64 p0_1,.int .i64 p0_2,.int .u32 p0_3,.int .u64 p0_4,.int .u64 p0_5],.agg #[.int .i64 p1_0,.int .i64 p1_1,.int .i64 p1_2,.int .u32 p1_3,.int .u64 p1_4,.int .u64 p1_5]] w [.one .bool] K:=by
 refine vcFun.of (A:=head_Less.A) (wr:=false) okf_ok follows h Tryz.func195 ?_
 kernel_rfl
def head_Mark.A:Ann:=.no
def head_Mark.P (p0:Int) (w:World) (K:SlV×Unit->World->Prop):Prop:=
 cond (decide (p0<88))
 (K ((⟨none,0,0⟩:SlV),()) w)
 (cond (decide (p0>4184))
 (K ((⟨none,0,0⟩:SlV),()) w)
 (Rng .i64 (p0-8) /\
 CallV Tryz.prog 203 #[.int .u8 255,.int .i64 (p0-8)] w [.one .sl] λ(r1:SlV×Unit) w2=>
 CallV Tryz.prog 203 #[.int .u8 0,.int .i64 8] w2 [.one .sl] λ(r3:SlV×Unit) w4=>
 AppS w4 r3.1.a r3.1.n 1 λns9=>
 AppV w4 5 1 1 r1.1.a r1.1.n r1.1.c ns9 r3.1.n λa5 n6 c7 w8=>
 K ((⟨a5,n6,c7⟩:SlV),()) w8))
theorem head_Mark.vc (p0:Int) (w:World) (K:SlV×Unit->World->Prop) (h:head_Mark.P p0 w K):CallV Tryz.prog 254 #[.int .i64 p0] w [.one .sl] K:=by
 refine vcFun.of (A:=head_Mark.A) (wr:=false) okf_ok follows h Tryz.func254 ?_
 kernel_rfl
def ref14_Committed.A:Ann:=.two .no (.two (.draw (.take 0 (.take 1 (.eff 2 (.eff 3 (.take 4 (.done))))))) .no)
def ref14_Committed.P (a0:Option Addr) (n0 c0:Nat) (w:World) (K:Bool×Unit->World->Prop):Prop:=
 DrawV λD1=>
 ((0:Int)<=(80:Int)/\(80:Int)<=((n0:Nat):Int)) /\
 SubK a0 80 c0 1 λa2=>
 CallV Tryz.prog 132 #[.int .u8 0,.int .i64 8] w.drew [.one .sl] λ(r3:SlV×Unit) w4=>
 KeepOn D1 w.drew w4 /\
 CallV Tryz.prog 70 #[.slice a2 (n0-80) (c0-80),.slice r3.1.a r3.1.n r3.1.c] w4 [.one .bool] λ(r5:Bool×Unit) w6=>
 KeepOn D1 w.drew w6 /\
 K (r5.1,()) w6
theorem ref14_Committed.vc (a0:Option Addr) (n0 c0:Nat) (w:World) (K:Bool×Unit->World->Prop) (h:ref14_Committed.P a0 n0 c0 w K):CallV Tryz.prog 190 #[.slice a0 n0 c0] w [.one .bool] K:=by
 refine vcFun.of (A:=ref14_Committed.A) (wr:=false) okf_ok follows h Tryz.func190 ?_
 kernel_rfl
def ref14_Read.A:Ann:=.two .no (.two (.draw (.take 0 (.take 1 (.take 2 (.take 3 (.take 4 (.take 5 (.take 6 (.take 7 (.take 8 (.take 9 (.take 10 (.take 11 (.take 12 (.take 13 (.take 16 (.take 17 (.take 19 (.take 20 (.both 14 (.take 15 (.both 18 (.both 21 (.take 22 (.eff 23 (.eff 24 (.done)))) 23 (.eff 21 (.take 22 (.eff 24 (.done))))) 23 (.eff 18 (.eff 21 (.take 22 (.eff 24 (.done))))))) 23 (.eff 14 (.take 15 (.eff 18 (.eff 21 (.take 22 (.eff 24 (.done))))))))))))))))))))))))))) (.two .no (.two (.two (.draw (.take 0 (.take 2 (.take 6 (.take 7 (.eff 1 (.eff 3 (.eff 4 (.eff 5 (.eff 8 (.take 9 (.done)))))))))))) .no) .no)))
def ref14_Read.P (a0:Option Addr) (n0 c0:Nat) (w:World) (K:(Int×Int×Int×Int×Int×Int×Unit)×Bool×Unit->World->Prop):Prop:=
 NewV #[.int .i64 0,.int .i64 0,.int .i64 0,.int .u32 0,.int .u64 0,.int .u64 0] 62 w λb1 w2=>
 DrawV λD3=>
 (0<=(0:Int)/\0<((n0:Nat):Int))/\∃ q4:Addr,a0=some q4 /\
 (D3 (q4.add (0*1)).block/\LoadS w2.drew (q4.add (0*1)) (.int .u8) λ(x5:Int)=>
 (0<=(1:Int)/\1<((n0:Nat):Int))/\∃ q6:Addr,a0=some q6 /\
 (D3 (q6.add (1*1)).block/\LoadS w2.drew (q6.add (1*1)) (.int .u8) λ(x7:Int)=>
 (0<=(2:Int)/\2<((n0:Nat):Int))/\∃ q8:Addr,a0=some q8 /\
 (D3 (q8.add (2*1)).block/\LoadS w2.drew (q8.add (2*1)) (.int .u8) λ(x9:Int)=>
 ((0:Int)<=(4:Int)/\(4:Int)<=(8:Int)/\(8:Int)<=((c0:Nat):Int)) /\
 SubK a0 4 c0 1 λa10=>
 ((0:Int)<=(8:Int)/\(8:Int)<=(16:Int)/\(16:Int)<=((c0:Nat):Int)) /\
 SubK a0 8 c0 1 λa11=>
 ((0:Int)<=(16:Int)/\(16:Int)<=(24:Int)/\(24:Int)<=((c0:Nat):Int)) /\
 SubK a0 16 c0 1 λa12=>
 ((CallV Tryz.prog 234 #[.slice a10 (8-4) (c0-4)] w2.drew [.one (.int .u64)] λ(r13:Int×Unit) w14=>
 KeepOn D3 w2.drew w14 /\
 ((CallV Tryz.prog 234 #[.slice a11 (16-8) (c0-8)] w14 [.one (.int .u64)] λ(r15:Int×Unit) w16=>
 KeepOn D3 w2.drew w16 /\
 ((CallV Tryz.prog 234 #[.slice a12 (24-16) (c0-16)] w16 [.one (.int .u64)] λ(r17:Int×Unit) w18=>
 KeepOn D3 w2.drew w18 /\
 NewV #[.int .i64 0,.int .i64 0,.int .i64 0,.int .u32 0,.int .u64 0,.int .u64 0] 62 w18 λb19 w20=>
 KeepOn D3 w2.drew w20 /\
 StoreV w20 ⟨b19,0,none⟩ [.int .i64 (IntKind.i64.wrap x5),.int .i64 (IntKind.i64.wrap x7),.int .i64 (IntKind.i64.wrap x9),.int .u32 (IntKind.u32.wrap r13.1),.int .u64 r15.1,.int .u64 r17.1] λw21=>
 KeepOn D3 w2.drew w21 /\
 LoadA w21 ⟨b19,0,none⟩ [.int .i64,.int .i64,.int .i64,.int .u32,.int .u64,.int .u64] λ(x22:Int×Int×Int×Int×Int×Int×Unit)=>
 CallV Tryz.prog 235 #[.agg #[.int .i64 x22.1,.int .i64 x22.2.1,.int .i64 x22.2.2.1,.int .u32 x22.2.2.2.1,.int .u64 x22.2.2.2.2.1,.int .u64 x22.2.2.2.2.2.1]] w21 [.one .bool] λ(r23:Bool×Unit) w24=>
 cond (!r23.1)
 (StoreV w24 ⟨b1,0,none⟩ [.int .i64 0,.int .i64 0,.int .i64 0,.int .u32 0,.int .u64 0,.int .u64 0] λw25=>
 LoadA w25 ⟨b1,0,none⟩ [.int .i64,.int .i64,.int .i64,.int .u32,.int .u64,.int .u64] λ(x26:Int×Int×Int×Int×Int×Int×Unit)=>
 K ((x26.1,x26.2.1,x26.2.2.1,x26.2.2.2.1,x26.2.2.2.2.1,x26.2.2.2.2.2.1,()),false,()) w25)
 (DrawV λD27=>
 (D27 b19/\LoadA w24.drew ⟨b19,0,none⟩ [.int .i64,.int .i64,.int .i64,.int .u32,.int .u64,.int .u64] λ(x28:Int×Int×Int×Int×Int×Int×Unit)=>
 (D27 b19/\LoadA w24.drew ⟨b19,0,none⟩ [.int .i64,.int .i64,.int .i64,.int .u32,.int .u64,.int .u64] λ(x29:Int×Int×Int×Int×Int×Int×Unit)=>
 ((0:Int)<=(48:Int)/\(48:Int)<=((c0:Nat):Int)) /\
 SubK a0 0 c0 1 λa30=>
 CallV Tryz.prog 236 #[.agg #[.int .i64 x28.1,.int .i64 x28.2.1,.int .i64 x28.2.2.1,.int .u32 x28.2.2.2.1,.int .u64 x28.2.2.2.2.1,.int .u64 x28.2.2.2.2.2.1]] w24.drew [.one .sl] λ(r31:SlV×Unit) w32=>
 KeepOn D27 w24.drew w32 /\
 CallV Tryz.prog 236 #[.agg #[.int .i64 x29.1,.int .i64 x29.2.1,.int .i64 x29.2.2.1,.int .u32 x29.2.2.2.1,.int .u64 x29.2.2.2.2.1,.int .u64 x29.2.2.2.2.2.1]] w32 [.one .sl] λ(r33:SlV×Unit) w34=>
 KeepOn D27 w24.drew w34 /\
 CallV Tryz.prog 237 #[.slice r33.1.a r33.1.n r33.1.c] w34 [.one .sl] λ(r35:SlV×Unit) w36=>
 KeepOn D27 w24.drew w36 /\
 AppS w36 r35.1.a r35.1.n 1 λns41=>
 AppV w36 5 1 1 r31.1.a r31.1.n r31.1.c ns41 r35.1.n λa37 n38 c39 w40=>
 KeepOn D27 w24.drew w40 /\
 CallV Tryz.prog 70 #[.slice a37 n38 c39,.slice a30 (48-0) (c0-0)] w40 [.one .bool] λ(r42:Bool×Unit) w43=>
 KeepOn D27 w24.drew w43 /\
 cond (!r42.1)
 (StoreV w43 ⟨b1,0,none⟩ [.int .i64 0,.int .i64 0,.int .i64 0,.int .u32 0,.int .u64 0,.int .u64 0] λw44=>
 LoadA w44 ⟨b1,0,none⟩ [.int .i64,.int .i64,.int .i64,.int .u32,.int .u64,.int .u64] λ(x45:Int×Int×Int×Int×Int×Int×Unit)=>
 K ((x45.1,x45.2.1,x45.2.2.1,x45.2.2.2.1,x45.2.2.2.2.1,x45.2.2.2.2.2.1,()),false,()) w44)
 (LoadA w43 ⟨b19,0,none⟩ [.int .i64,.int .i64,.int .i64,.int .u32,.int .u64,.int .u64] λ(x46:Int×Int×Int×Int×Int×Int×Unit)=>
 StoreV w43 ⟨b1,0,none⟩ [.int .i64 x46.1,.int .i64 x46.2.1,.int .i64 x46.2.2.1,.int .u32 x46.2.2.2.1,.int .u64 x46.2.2.2.2.1,.int .u64 x46.2.2.2.2.2.1] λw47=>
 LoadA w47 ⟨b1,0,none⟩ [.int .i64,.int .i64,.int .i64,.int .u32,.int .u64,.int .u64] λ(x48:Int×Int×Int×Int×Int×Int×Unit)=>
 K ((x48.1,x48.2.1,x48.2.2.1,x48.2.2.2.1,x48.2.2.2.2.1,x48.2.2.2.2.2.1,()),true,()) w47))))) /\
 (NewV #[.int .i64 0,.int .i64 0,.int .i64 0,.int .u32 0,.int .u64 0,.int .u64 0] 62 w16 λb49 w50=>
 KeepOn D3 w2.drew w50 /\
 CallV Tryz.prog 234 #[.slice a12 (24-16) (c0-16)] w50 [.one (.int .u64)] λ(r51:Int×Unit) w52=>
 KeepOn D3 w2.drew w52 /\
 StoreV w52 ⟨b49,0,none⟩ [.int .i64 (IntKind.i64.wrap x5),.int .i64 (IntKind.i64.wrap x7),.int .i64 (IntKind.i64.wrap x9),.int .u32 (IntKind.u32.wrap r13.1),.int .u64 r15.1,.int .u64 r51.1] λw53=>
 KeepOn D3 w2.drew w53 /\
 LoadA w53 ⟨b49,0,none⟩ [.int .i64,.int .i64,.int .i64,.int .u32,.int .u64,.int .u64] λ(x54:Int×Int×Int×Int×Int×Int×Unit)=>
 CallV Tryz.prog 235 #[.agg #[.int .i64 x54.1,.int .i64 x54.2.1,.int .i64 x54.2.2.1,.int .u32 x54.2.2.2.1,.int .u64 x54.2.2.2.2.1,.int .u64 x54.2.2.2.2.2.1]] w53 [.one .bool] λ(r55:Bool×Unit) w56=>
 cond (!r55.1)
 (StoreV w56 ⟨b1,0,none⟩ [.int .i64 0,.int .i64 0,.int .i64 0,.int .u32 0,.int .u64 0,.int .u64 0] λw57=>
 LoadA w57 ⟨b1,0,none⟩ [.int .i64,.int .i64,.int .i64,.int .u32,.int .u64,.int .u64] λ(x58:Int×Int×Int×Int×Int×Int×Unit)=>
 K ((x58.1,x58.2.1,x58.2.2.1,x58.2.2.2.1,x58.2.2.2.2.1,x58.2.2.2.2.2.1,()),false,()) w57)
 (DrawV λD59=>
 (D59 b49/\LoadA w56.drew ⟨b49,0,none⟩ [.int .i64,.int .i64,.int .i64,.int .u32,.int .u64,.int .u64] λ(x60:Int×Int×Int×Int×Int×Int×Unit)=>
 (D59 b49/\LoadA w56.drew ⟨b49,0,none⟩ [.int .i64,.int .i64,.int .i64,.int .u32,.int .u64,.int .u64] λ(x61:Int×Int×Int×Int×Int×Int×Unit)=>
 ((0:Int)<=(48:Int)/\(48:Int)<=((c0:Nat):Int)) /\
 SubK a0 0 c0 1 λa62=>
 CallV Tryz.prog 236 #[.agg #[.int .i64 x60.1,.int .i64 x60.2.1,.int .i64 x60.2.2.1,.int .u32 x60.2.2.2.1,.int .u64 x60.2.2.2.2.1,.int .u64 x60.2.2.2.2.2.1]] w56.drew [.one .sl] λ(r63:SlV×Unit) w64=>
 KeepOn D59 w56.drew w64 /\
 CallV Tryz.prog 236 #[.agg #[.int .i64 x61.1,.int .i64 x61.2.1,.int .i64 x61.2.2.1,.int .u32 x61.2.2.2.1,.int .u64 x61.2.2.2.2.1,.int .u64 x61.2.2.2.2.2.1]] w64 [.one .sl] λ(r65:SlV×Unit) w66=>
 KeepOn D59 w56.drew w66 /\
 CallV Tryz.prog 237 #[.slice r65.1.a r65.1.n r65.1.c] w66 [.one .sl] λ(r67:SlV×Unit) w68=>
 KeepOn D59 w56.drew w68 /\
 AppS w68 r67.1.a r67.1.n 1 λns73=>
 AppV w68 5 1 1 r63.1.a r63.1.n r63.1.c ns73 r67.1.n λa69 n70 c71 w72=>
 KeepOn D59 w56.drew w72 /\
 CallV Tryz.prog 70 #[.slice a69 n70 c71,.slice a62 (48-0) (c0-0)] w72 [.one .bool] λ(r74:Bool×Unit) w75=>
 KeepOn D59 w56.drew w75 /\
 cond (!r74.1)
 (StoreV w75 ⟨b1,0,none⟩ [.int .i64 0,.int .i64 0,.int .i64 0,.int .u32 0,.int .u64 0,.int .u64 0] λw76=>
 LoadA w76 ⟨b1,0,none⟩ [.int .i64,.int .i64,.int .i64,.int .u32,.int .u64,.int .u64] λ(x77:Int×Int×Int×Int×Int×Int×Unit)=>
 K ((x77.1,x77.2.1,x77.2.2.1,x77.2.2.2.1,x77.2.2.2.2.1,x77.2.2.2.2.2.1,()),false,()) w76)
 (LoadA w75 ⟨b49,0,none⟩ [.int .i64,.int .i64,.int .i64,.int .u32,.int .u64,.int .u64] λ(x78:Int×Int×Int×Int×Int×Int×Unit)=>
 StoreV w75 ⟨b1,0,none⟩ [.int .i64 x78.1,.int .i64 x78.2.1,.int .i64 x78.2.2.1,.int .u32 x78.2.2.2.1,.int .u64 x78.2.2.2.2.1,.int .u64 x78.2.2.2.2.2.1] λw79=>
 LoadA w79 ⟨b1,0,none⟩ [.int .i64,.int .i64,.int .i64,.int .u32,.int .u64,.int .u64] λ(x80:Int×Int×Int×Int×Int×Int×Unit)=>
 K ((x80.1,x80.2.1,x80.2.2.1,x80.2.2.2.1,x80.2.2.2.2.1,x80.2.2.2.2.2.1,()),true,()) w79))))))) /\
 (NewV #[.int .i64 0,.int .i64 0,.int .i64 0,.int .u32 0,.int .u64 0,.int .u64 0] 62 w14 λb81 w82=>
 KeepOn D3 w2.drew w82 /\
 CallV Tryz.prog 234 #[.slice a11 (16-8) (c0-8)] w82 [.one (.int .u64)] λ(r83:Int×Unit) w84=>
 KeepOn D3 w2.drew w84 /\
 CallV Tryz.prog 234 #[.slice a12 (24-16) (c0-16)] w84 [.one (.int .u64)] λ(r85:Int×Unit) w86=>
 KeepOn D3 w2.drew w86 /\
 StoreV w86 ⟨b81,0,none⟩ [.int .i64 (IntKind.i64.wrap x5),.int .i64 (IntKind.i64.wrap x7),.int .i64 (IntKind.i64.wrap x9),.int .u32 (IntKind.u32.wrap r13.1),.int .u64 r83.1,.int .u64 r85.1] λw87=>
 KeepOn D3 w2.drew w87 /\
 LoadA w87 ⟨b81,0,none⟩ [.int .i64,.int .i64,.int .i64,.int .u32,.int .u64,.int .u64] λ(x88:Int×Int×Int×Int×Int×Int×Unit)=>
 CallV Tryz.prog 235 #[.agg #[.int .i64 x88.1,.int .i64 x88.2.1,.int .i64 x88.2.2.1,.int .u32 x88.2.2.2.1,.int .u64 x88.2.2.2.2.1,.int .u64 x88.2.2.2.2.2.1]] w87 [.one .bool] λ(r89:Bool×Unit) w90=>
 cond (!r89.1)
 (StoreV w90 ⟨b1,0,none⟩ [.int .i64 0,.int .i64 0,.int .i64 0,.int .u32 0,.int .u64 0,.int .u64 0] λw91=>
 LoadA w91 ⟨b1,0,none⟩ [.int .i64,.int .i64,.int .i64,.int .u32,.int .u64,.int .u64] λ(x92:Int×Int×Int×Int×Int×Int×Unit)=>
 K ((x92.1,x92.2.1,x92.2.2.1,x92.2.2.2.1,x92.2.2.2.2.1,x92.2.2.2.2.2.1,()),false,()) w91)
 (DrawV λD93=>
 (D93 b81/\LoadA w90.drew ⟨b81,0,none⟩ [.int .i64,.int .i64,.int .i64,.int .u32,.int .u64,.int .u64] λ(x94:Int×Int×Int×Int×Int×Int×Unit)=>
 (D93 b81/\LoadA w90.drew ⟨b81,0,none⟩ [.int .i64,.int .i64,.int .i64,.int .u32,.int .u64,.int .u64] λ(x95:Int×Int×Int×Int×Int×Int×Unit)=>
 ((0:Int)<=(48:Int)/\(48:Int)<=((c0:Nat):Int)) /\
 SubK a0 0 c0 1 λa96=>
 CallV Tryz.prog 236 #[.agg #[.int .i64 x94.1,.int .i64 x94.2.1,.int .i64 x94.2.2.1,.int .u32 x94.2.2.2.1,.int .u64 x94.2.2.2.2.1,.int .u64 x94.2.2.2.2.2.1]] w90.drew [.one .sl] λ(r97:SlV×Unit) w98=>
 KeepOn D93 w90.drew w98 /\
 CallV Tryz.prog 236 #[.agg #[.int .i64 x95.1,.int .i64 x95.2.1,.int .i64 x95.2.2.1,.int .u32 x95.2.2.2.1,.int .u64 x95.2.2.2.2.1,.int .u64 x95.2.2.2.2.2.1]] w98 [.one .sl] λ(r99:SlV×Unit) w100=>
 KeepOn D93 w90.drew w100 /\
 CallV Tryz.prog 237 #[.slice r99.1.a r99.1.n r99.1.c] w100 [.one .sl] λ(r101:SlV×Unit) w102=>
 KeepOn D93 w90.drew w102 /\
 AppS w102 r101.1.a r101.1.n 1 λns107=>
 AppV w102 5 1 1 r97.1.a r97.1.n r97.1.c ns107 r101.1.n λa103 n104 c105 w106=>
 KeepOn D93 w90.drew w106 /\
 CallV Tryz.prog 70 #[.slice a103 n104 c105,.slice a96 (48-0) (c0-0)] w106 [.one .bool] λ(r108:Bool×Unit) w109=>
 KeepOn D93 w90.drew w109 /\
 cond (!r108.1)
 (StoreV w109 ⟨b1,0,none⟩ [.int .i64 0,.int .i64 0,.int .i64 0,.int .u32 0,.int .u64 0,.int .u64 0] λw110=>
 LoadA w110 ⟨b1,0,none⟩ [.int .i64,.int .i64,.int .i64,.int .u32,.int .u64,.int .u64] λ(x111:Int×Int×Int×Int×Int×Int×Unit)=>
 K ((x111.1,x111.2.1,x111.2.2.1,x111.2.2.2.1,x111.2.2.2.2.1,x111.2.2.2.2.2.1,()),false,()) w110)
 (LoadA w109 ⟨b81,0,none⟩ [.int .i64,.int .i64,.int .i64,.int .u32,.int .u64,.int .u64] λ(x112:Int×Int×Int×Int×Int×Int×Unit)=>
 StoreV w109 ⟨b1,0,none⟩ [.int .i64 x112.1,.int .i64 x112.2.1,.int .i64 x112.2.2.1,.int .u32 x112.2.2.2.1,.int .u64 x112.2.2.2.2.1,.int .u64 x112.2.2.2.2.2.1] λw113=>
 LoadA w113 ⟨b1,0,none⟩ [.int .i64,.int .i64,.int .i64,.int .u32,.int .u64,.int .u64] λ(x114:Int×Int×Int×Int×Int×Int×Unit)=>
 K ((x114.1,x114.2.1,x114.2.2.1,x114.2.2.2.1,x114.2.2.2.2.1,x114.2.2.2.2.2.1,()),true,()) w113))))))) /\
 (NewV #[.int .i64 0,.int .i64 0,.int .i64 0,.int .u32 0,.int .u64 0,.int .u64 0] 62 w2.drew λb115 w116=>
 KeepOn D3 w2.drew w116 /\
 CallV Tryz.prog 234 #[.slice a10 (8-4) (c0-4)] w116 [.one (.int .u64)] λ(r117:Int×Unit) w118=>
 KeepOn D3 w2.drew w118 /\
 CallV Tryz.prog 234 #[.slice a11 (16-8) (c0-8)] w118 [.one (.int .u64)] λ(r119:Int×Unit) w120=>
 KeepOn D3 w2.drew w120 /\
 CallV Tryz.prog 234 #[.slice a12 (24-16) (c0-16)] w120 [.one (.int .u64)] λ(r121:Int×Unit) w122=>
 KeepOn D3 w2.drew w122 /\
 StoreV w122 ⟨b115,0,none⟩ [.int .i64 (IntKind.i64.wrap x5),.int .i64 (IntKind.i64.wrap x7),.int .i64 (IntKind.i64.wrap x9),.int .u32 (IntKind.u32.wrap r117.1),.int .u64 r119.1,.int .u64 r121.1] λw123=>
 KeepOn D3 w2.drew w123 /\
 LoadA w123 ⟨b115,0,none⟩ [.int .i64,.int .i64,.int .i64,.int .u32,.int .u64,.int .u64] λ(x124:Int×Int×Int×Int×Int×Int×Unit)=>
 CallV Tryz.prog 235 #[.agg #[.int .i64 x124.1,.int .i64 x124.2.1,.int .i64 x124.2.2.1,.int .u32 x124.2.2.2.1,.int .u64 x124.2.2.2.2.1,.int .u64 x124.2.2.2.2.2.1]] w123 [.one .bool] λ(r125:Bool×Unit) w126=>
 cond (!r125.1)
 (StoreV w126 ⟨b1,0,none⟩ [.int .i64 0,.int .i64 0,.int .i64 0,.int .u32 0,.int .u64 0,.int .u64 0] λw127=>
 LoadA w127 ⟨b1,0,none⟩ [.int .i64,.int .i64,.int .i64,.int .u32,.int .u64,.int .u64] λ(x128:Int×Int×Int×Int×Int×Int×Unit)=>
 K ((x128.1,x128.2.1,x128.2.2.1,x128.2.2.2.1,x128.2.2.2.2.1,x128.2.2.2.2.2.1,()),false,()) w127)
 (DrawV λD129=>
 (D129 b115/\LoadA w126.drew ⟨b115,0,none⟩ [.int .i64,.int .i64,.int .i64,.int .u32,.int .u64,.int .u64] λ(x130:Int×Int×Int×Int×Int×Int×Unit)=>
 (D129 b115/\LoadA w126.drew ⟨b115,0,none⟩ [.int .i64,.int .i64,.int .i64,.int .u32,.int .u64,.int .u64] λ(x131:Int×Int×Int×Int×Int×Int×Unit)=>
 ((0:Int)<=(48:Int)/\(48:Int)<=((c0:Nat):Int)) /\
 SubK a0 0 c0 1 λa132=>
 CallV Tryz.prog 236 #[.agg #[.int .i64 x130.1,.int .i64 x130.2.1,.int .i64 x130.2.2.1,.int .u32 x130.2.2.2.1,.int .u64 x130.2.2.2.2.1,.int .u64 x130.2.2.2.2.2.1]] w126.drew [.one .sl] λ(r133:SlV×Unit) w134=>
 KeepOn D129 w126.drew w134 /\
 CallV Tryz.prog 236 #[.agg #[.int .i64 x131.1,.int .i64 x131.2.1,.int .i64 x131.2.2.1,.int .u32 x131.2.2.2.1,.int .u64 x131.2.2.2.2.1,.int .u64 x131.2.2.2.2.2.1]] w134 [.one .sl] λ(r135:SlV×Unit) w136=>
 KeepOn D129 w126.drew w136 /\
 CallV Tryz.prog 237 #[.slice r135.1.a r135.1.n r135.1.c] w136 [.one .sl] λ(r137:SlV×Unit) w138=>
 KeepOn D129 w126.drew w138 /\
 AppS w138 r137.1.a r137.1.n 1 λns143=>
 AppV w138 5 1 1 r133.1.a r133.1.n r133.1.c ns143 r137.1.n λa139 n140 c141 w142=>
 KeepOn D129 w126.drew w142 /\
 CallV Tryz.prog 70 #[.slice a139 n140 c141,.slice a132 (48-0) (c0-0)] w142 [.one .bool] λ(r144:Bool×Unit) w145=>
 KeepOn D129 w126.drew w145 /\
 cond (!r144.1)
 (StoreV w145 ⟨b1,0,none⟩ [.int .i64 0,.int .i64 0,.int .i64 0,.int .u32 0,.int .u64 0,.int .u64 0] λw146=>
 LoadA w146 ⟨b1,0,none⟩ [.int .i64,.int .i64,.int .i64,.int .u32,.int .u64,.int .u64] λ(x147:Int×Int×Int×Int×Int×Int×Unit)=>
 K ((x147.1,x147.2.1,x147.2.2.1,x147.2.2.2.1,x147.2.2.2.2.1,x147.2.2.2.2.2.1,()),false,()) w146)
 (LoadA w145 ⟨b115,0,none⟩ [.int .i64,.int .i64,.int .i64,.int .u32,.int .u64,.int .u64] λ(x148:Int×Int×Int×Int×Int×Int×Unit)=>
 StoreV w145 ⟨b1,0,none⟩ [.int .i64 x148.1,.int .i64 x148.2.1,.int .i64 x148.2.2.1,.int .u32 x148.2.2.2.1,.int .u64 x148.2.2.2.2.1,.int .u64 x148.2.2.2.2.2.1] λw149=>
 LoadA w149 ⟨b1,0,none⟩ [.int .i64,.int .i64,.int .i64,.int .u32,.int .u64,.int .u64] λ(x150:Int×Int×Int×Int×Int×Int×Unit)=>
 K ((x150.1,x150.2.1,x150.2.2.1,x150.2.2.2.1,x150.2.2.2.2.1,x150.2.2.2.2.2.1,()),true,()) w149)))))))))
theorem ref14_Read.vc (a0:Option Addr) (n0 c0:Nat) (w:World) (K:(Int×Int×Int×Int×Int×Int×Unit)×Bool×Unit->World->Prop) (h:ref14_Read.P a0 n0 c0 w K):CallV Tryz.prog 189 #[.slice a0 n0 c0] w [.agg [.int .i64,.int .i64,.int .i64,.int .u32,.int .u64,.int .u64],.one .bool] K:=by
 refine vcFun.of (A:=ref14_Read.A) (wr:=false) okf_ok follows h Tryz.func189 ?_
 kernel_rfl
def head_End.A:Ann:=.no
def head_End.P (p0_0 p0_1 p0_2 p0_3 p0_4 p0_5:Int) (a1:Option Addr) (n1 c1:Nat) (w:World) (K:SlV×Int×Unit->World->Prop):Prop:=
 NewV #[.int .i64 p0_0,.int .i64 p0_1,.int .i64 p0_2,.int .u32 p0_3,.int .u64 p0_4,.int .u64 p0_5] 62 w λb1 w2=>
 LoadA w2 ⟨b1,0,none⟩ [.int .i64,.int .i64,.int .i64,.int .u32,.int .u64,.int .u64] λ(x3:Int×Int×Int×Int×Int×Int×Unit)=>
 CallV Tryz.prog 248 #[.agg #[.int .i64 x3.1,.int .i64 x3.2.1,.int .i64 x3.2.2.1,.int .u32 x3.2.2.2.1,.int .u64 x3.2.2.2.2.1,.int .u64 x3.2.2.2.2.2.1]] w2 [.one .sl,.one (.int .i64)] λ(r4:SlV×Int×Unit) w5=>
 cond (r4.2.1 != 0)
 (K ((⟨none,0,0⟩:SlV),r4.2.1,()) w5)
 (cond (((n1:Nat):Int) == 0)
 (CallV Tryz.prog 203 #[.int .u8 255,.int .i64 32] w5 [.one .sl] λ(r6:SlV×Unit) w7=>
 cond (((r6.1.n:Nat):Int) != 32)
 (K ((⟨none,0,0⟩:SlV),(2:Int),()) w7)
 (CallV Tryz.prog 249 #[.slice r4.1.a r4.1.n r4.1.c] w7 [.one .sl] λ(r8:SlV×Unit) w9=>
 AppS w9 r8.1.a r8.1.n 1 λns14=>
 AppV w9 5 1 1 r4.1.a r4.1.n r4.1.c ns14 r8.1.n λa10 n11 c12 w13=>
 AppS w13 r6.1.a r6.1.n 1 λns19=>
 AppV w13 5 1 1 a10 n11 c12 ns19 r6.1.n λa15 n16 c17 w18=>
 CallV Tryz.prog 203 #[.int .u8 255,.int .i64 8] w18 [.one .sl] λ(r20:SlV×Unit) w21=>
 AppS w21 r20.1.a r20.1.n 1 λns26=>
 AppV w21 5 1 1 a15 n16 c17 ns26 r20.1.n λa22 n23 c24 w25=>
 K ((⟨a22,n23,c24⟩:SlV),(0:Int),()) w25))
 (cond (((n1:Nat):Int) != 32)
 (K ((⟨none,0,0⟩:SlV),(2:Int),()) w5)
 (CallV Tryz.prog 249 #[.slice r4.1.a r4.1.n r4.1.c] w5 [.one .sl] λ(r27:SlV×Unit) w28=>
 AppS w28 r27.1.a r27.1.n 1 λns33=>
 AppV w28 5 1 1 r4.1.a r4.1.n r4.1.c ns33 r27.1.n λa29 n30 c31 w32=>
 AppS w32 a1 n1 1 λns38=>
 AppV w32 5 1 1 a29 n30 c31 ns38 n1 λa34 n35 c36 w37=>
 CallV Tryz.prog 203 #[.int .u8 255,.int .i64 8] w37 [.one .sl] λ(r39:SlV×Unit) w40=>
 AppS w40 r39.1.a r39.1.n 1 λns45=>
 AppV w40 5 1 1 a34 n35 c36 ns45 r39.1.n λa41 n42 c43 w44=>
 K ((⟨a41,n42,c43⟩:SlV),(0:Int),()) w44)))
theorem head_End.vc (p0_0 p0_1 p0_2 p0_3 p0_4 p0_5:Int) (a1:Option Addr) (n1 c1:Nat) (w:World) (K:SlV×Int×Unit->World->Prop) (h:head_End.P p0_0 p0_1 p0_2 p0_3 p0_4 p0_5 a1 n1 c1 w K):CallV Tryz.prog 204 #[.agg #[.int .i64 p0_0,.int .i64 p0_1,.int .i64 p0_2,.int .u32 p0_3,.int .u64 p0_4,.int .u64 p0_5],.slice a1 n1 c1] w [.one .sl,.one (.int .i64)] K:=by
 refine vcFun.of (A:=head_End.A) (wr:=false) okf_ok follows h Tryz.func204 ?_
 kernel_rfl
end Go.Proofs.YtbaojfchlhlaeaaGreat.Vc
namespace Go.Proofs.YtbaojfchlhlaeaaGreat.Vc
open Go Go.Eng Go.RowKit
theorem appL {w:World} {a a2:Option Addr} {n c m c2:Nat} {xs ys:List Int} {B:Nat} {K:Option Addr->Nat->Nat->World->Prop} (ho:Own w B 5 1 a n c (xs.map (Value.int .u8))) (hy:Ints w .u8 a2 m c2 ys) (hB:B<=w.heap.size) (hn:n+m<=100000000)
  (hk:∀ a' c' w',Own w' B 5 1 a' (n+m) c' ((xs++ys).map (Value.int .u8))->Below B w w'->K a' (n+m) c' w') :
  AppS w a2 m 1 λns=>AppV w 5 1 1 a n c ns m K:=by
 refine AppS.of (news:=ys.map (Value.int .u8)) (by rw [List.length_map,hy.len];omega) hy.rd ?_
 refine AppV.own ho hB (by rw [List.length_map,hy.len];omega) (oneAll.ints _ _) (by omega) (by omega) λa' c' w' h1 h2 _ _=>?_
 refine hk a' c' w' ?_ h2
 rw [List.map_append]
 exact h1
structure Hd where
 k:Int
 n:Int
 c:Int
 l:Int
 e:Int
 t:Int
abbrev Hd.vs (h:Hd):List Value:=[.int .i64 h.k,.int .i64 h.n,.int .i64 h.c,.int .u32 h.l,.int .u64 h.e,.int .u64 h.t]
abbrev Hd.val (h:Hd):Value:=.agg #[.int .i64 h.k,.int .i64 h.n,.int .i64 h.c,.int .u32 h.l,.int .u64 h.e,.int .u64 h.t]
abbrev Hd.tup (h:Hd):Int×Int×Int×Int×Int×Int×Unit:=(h.k,h.n,h.c,h.l,h.e,h.t,())
def Hd.rng (h:Hd):Prop:=(0<=h.l/\h.l<4294967296)/\(0<=h.e/\h.e<18446744073709551616)/\(0<=h.t/\h.t<18446744073709551616)
def HRight (h:Hd):Prop:=(1<=h.k/\h.k<=4)/\(0<=h.n/\h.n<=255)/\(0<=h.c/\h.c<=255)
instance (h:Hd):Decidable (HRight h):=by unfold HRight;infer_instance
def big (n:Int) (k:Nat):List Int:=(leL n k).reverse
def hdL (h:Hd):List Int:=[h.k,h.n,h.c,0]++big h.l 4++big h.e 8++big h.t 8
theorem big_length (n:Int) (k:Nat):(big n k).length=k:=by simp [big,leL_length]
theorem hdL_length (h:Hd):(hdL h).length=24:=by simp [hdL,big_length]
theorem newH {w:World} {h:Hd} {K:Nat->World->Prop} (hk:∀ b w1,Ext w w1->Box w1 w.heap.size b 62 h.vs->K b w1):NewV #[.int .i64 h.k,.int .i64 h.n,.int .i64 h.c,.int .u32 h.l,.int .u64 h.e,.int .u64 h.t] 62 w K:=newBox hk
theorem ldH {w:World} {h:Hd} {B b:Nat} {e:TypeId} (hb:Box w B b e h.vs) {K:Int×Int×Int×Int×Int×Int×Unit->Prop} (hk:K h.tup):LoadA w ⟨b,0,none⟩ [.int .i64,.int .i64,.int .i64,.int .u32,.int .u64,.int .u64] K:=hb.lda (l:=[.int .i64,.int .i64,.int .i64,.int .u32,.int .u64,.int .u64]) h.tup rfl hk
theorem Own.list {w:World} {xs:List Int} {n:Nat} (hn:n=xs.length) (h9:n<=9223372036854775807):Own (w.alloc (.cells (xs.map (Value.int .u8)).toArray 5)) w.heap.size 5 1 (some ⟨w.heap.size,0,none⟩) n n (xs.map (Value.int .u8)):=by
 have:=Own.new (w:=w) (B:=w.heap.size) (e:=5) (sz:=1) (n:=n) (c:=n) (cs:=xs.map (Value.int .u8)) (Nat.le_refl _) (by simp [hn]) (Nat.le_refl _) h9 (oneAll.ints _ _)
 rwa [List.take_of_length_le (by simp [hn])] at this
theorem wrap_u8 {x:Int} (h:0<=x/\x<=255):IntKind.u8.wrap x=x:=by rw [u8_wrap];omega
theorem HRight_c {w:World} {h:Hd}:CallV Tryz.prog 235 #[h.val] w [.one .bool] λr w'=>r.1=decide (HRight h)/\Ext w w':=by
 refine ref14_Right.vc _ _ _ _ _ _ _ _ ?_
 unfold ref14_Right.P
 refine newH λb1 w1 e1 hb=>?_
 have no:¬ HRight h->(false=decide (HRight h)/\Ext w w1):=λhr=>⟨(decide_eq_false hr).symm,e1⟩
 refine hb.ld (i:=0) (h:=.int .i64) (x:=h.k) rfl (cond_d (λc1=>?_) (λhc=>no (λhr=>by unfold HRight at hr;omega)))
 refine hb.ld (i:=0) (h:=.int .i64) (x:=h.k) rfl (cond_d (λc2=>?_) (λhc=>no (λhr=>by unfold HRight at hr;omega)))
 refine hb.ld (i:=1) (h:=.int .i64) (x:=h.n) rfl (cond_d (λc3=>?_) (λhc=>no (λhr=>by unfold HRight at hr;omega)))
 refine hb.ld (i:=1) (h:=.int .i64) (x:=h.n) rfl (cond_d (λc4=>?_) (λhc=>no (λhr=>by unfold HRight at hr;omega)))
 refine hb.ld (i:=2) (h:=.int .i64) (x:=h.c) rfl (cond_d (λc5=>?_) (λhc=>no (λhr=>by unfold HRight at hr;omega)))
 refine hb.ld (i:=2) (h:=.int .i64) (x:=h.c) rfl ?_
 refine ⟨?_,e1⟩
 apply decide_eq_decide.2
 unfold HRight
 omega
theorem c4:cl8 4=4:=by decide
theorem c8:cl8 8=8:=by decide
theorem Bytes_c {w:World} {h:Hd} (hg:h.rng):CallV Tryz.prog 248 #[h.val] w [.one .sl,.one (.int .i64)] λr w'=>Ext w w'/\(HRight h->Res w w' r.1 (hdL h)/\r.2.1=(0:Int))/\(¬ HRight h->r.1=(⟨none,0,0⟩:SlV)/\r.2.1=(2:Int)):=by
 unfold Hd.rng at hg
 refine head_Bytes.vc _ _ _ _ _ _ _ _ ?_
 unfold head_Bytes.P
 refine newH λb1 w1 e1 hb=>?_
 have no:∀ {w':World},¬ HRight h->Ext w w'->(Ext w w'/\(HRight h->Res w w' (⟨none,0,0⟩:SlV) (hdL h)/\(2:Int)=(0:Int))/\(¬ HRight h->(⟨none,0,0⟩:SlV)=(⟨none,0,0⟩:SlV)/\(2:Int)=(2:Int))):=λhr he=>⟨he,λh=>absurd h hr,λ_=>⟨rfl,rfl⟩⟩
 refine hb.ld (i:=0) (h:=.int .i64) (x:=h.k) rfl ?_
 refine hb.ld (i:=1) (h:=.int .i64) (x:=h.n) rfl ?_
 refine hb.ld (i:=2) (h:=.int .i64) (x:=h.c) rfl ?_
 refine Loop1 (λ(y:Int×Unit) w'=>∃ i:Nat,y.1=(i:Int)/\i<=3/\(∀ j,j<i->0<=[h.k,h.n,h.c].getD j 0/\[h.k,h.n,h.c].getD j 0<=255)/\w'=w1) (λ(y:Int×Unit) _=>(3-y.1).toNat) ⟨0,rfl,by omega,λj hj=>absurd hj (by omega),rfl⟩ ?_
 rintro ⟨(z:Int),⟨⟩⟩ w' ⟨i,hz,h3,hr,rfl⟩
 dsimp only at hz ⊢
 subst hz
 refine cond_d (λhlt=>?_) (λhge=>?_)
 ·refine ⟨⟨by omega,hlt⟩,[h.k,h.n,h.c].getD i 0,?_,?_⟩
  ·rw [Int.toNat_natCast]
   match i,hlt with
   | 0,_=>rfl
   | 1,_=>rfl
   | 2,_=>rfl
   | n+3,hh=>exact absurd hh (by omega)
  ·have bad:¬ (0<=[h.k,h.n,h.c].getD i 0/\[h.k,h.n,h.c].getD i 0<=255)->¬ HRight h:=λhb hrr=>hb (by
    unfold HRight at hrr
    match i,hlt with
    | 0,_=>show 0<=h.k/\h.k<=255;omega
    | 1,_=>exact hrr.2.1
    | 2,_=>exact hrr.2.2
    | n+3,hh=>exact absurd hh (by omega))
   refine cond_d (λhc=>no (bad (by omega)) e1) (λhc=>cond_d (λhc'=>no (bad (by omega)) e1) (λhc'=>?_))
   refine ⟨Rng.i64 (by omega) (by omega),⟨i+1,by push_cast;rfl,by omega,λj hj=>?_,rfl⟩,by omega⟩
   by_cases hji:j=i
   ·subst hji;omega
   ·exact hr j (by omega)
 ·have:i=3:=by omega
  subst this
  have k0:0<=h.k/\h.k<=255:=hr 0 (by omega)
  have k1:0<=h.n/\h.n<=255:=hr 1 (by omega)
  have k2:0<=h.c/\h.c<=255:=hr 2 (by omega)
  refine hb.ld (i:=0) (h:=.int .i64) (x:=h.k) rfl (cond_d (λhc=>no (λhr=>by unfold HRight at hr;omega) e1) (λc1=>?_))
  refine hb.ld (i:=0) (h:=.int .i64) (x:=h.k) rfl (cond_d (λhc=>no (λhr=>by unfold HRight at hr;omega) e1) (λc2=>?_))
  have hR:HRight h:=⟨by omega,k1,k2⟩
  refine hb.ld (i:=0) (h:=.int .i64) (x:=h.k) rfl ?_
  refine hb.ld (i:=1) (h:=.int .i64) (x:=h.n) rfl ?_
  refine hb.ld (i:=2) (h:=.int .i64) (x:=h.c) rfl ?_
  rw [wrap_u8 k0,wrap_u8 k1,wrap_u8 k2]
  rintro b2 w2 rfl rfl
  have ho:=Own.list (w:=w') (xs:=[h.k,h.n,h.c,0]) (n:=4) rfl (by omega)
  have x2:Ext w' (w'.alloc (.cells #[.int .u8 h.k,.int .u8 h.n,.int .u8 h.c,.int .u8 0] 5)):=Ext.alloc _ _
  generalize hw2:w'.alloc (.cells #[.int .u8 h.k,.int .u8 h.n,.int .u8 h.c,.int .u8 0] 5)=w2 at x2 ⊢
  have ho2:Own w2 w'.heap.size 5 1 (some ⟨w'.heap.size,0,none⟩) 4 4 ([h.k,h.n,h.c,0].map (Value.int .u8)):=by rw [<-hw2];exact ho
  refine (hb.ext x2).ld (i:=3) (h:=.int .u32) (x:=h.l) rfl ?_
  rw [show IntKind.u64.wrap h.l=h.l from u64_id (by omega) (by omega)]
  refine (Big_c (by omega)).mono ?_
  rintro ⟨(s3:SlV),⟨⟩⟩ w3 h3
  dsimp only at h3 ⊢
  rw [c4] at h3
  have l3:=h3.ints.len
  rw [List.length_reverse,leL_length] at l3
  have x3:=x2.trans h3.ext
  refine appL (ho2.ext h3.ext) h3.ints x3.size (by omega) λa4 c4' w4 o4 b4=>?_
  have x4:Ext w' w4:=Below.trans x3 b4
  refine (hb.ext x4).ld (i:=4) (h:=.int .u64) (x:=h.e) rfl ?_
  refine (Big_c (by omega)).mono ?_
  rintro ⟨(s5:SlV),⟨⟩⟩ w5 h5
  dsimp only at h5 ⊢
  rw [c8] at h5
  have l5:=h5.ints.len
  rw [List.length_reverse,leL_length] at l5
  have x5:=x4.trans h5.ext
  refine appL (o4.ext h5.ext) h5.ints x5.size (by omega) λa6 c6' w6 o6 b6=>?_
  have x6:Ext w' w6:=Below.trans x5 b6
  refine (hb.ext x6).ld (i:=5) (h:=.int .u64) (x:=h.t) rfl ?_
  refine (Big_c (by omega)).mono ?_
  rintro ⟨(s7:SlV),⟨⟩⟩ w7 h7
  dsimp only at h7 ⊢
  rw [c8] at h7
  have l7:=h7.ints.len
  rw [List.length_reverse,leL_length] at l7
  have x7:=x6.trans h7.ext
  refine appL (o6.ext h7.ext) h7.ints x7.size (by omega) λa8 c8' w8 o8 b8=>?_
  have x8:Ext w' w8:=Below.trans x7 b8
  exact ⟨e1.trans x8,λ_=>⟨⟨e1.trans x8,o8.mono e1.size⟩,rfl⟩,λhn=>absurd hR hn⟩
theorem rBytes_c {w:World} {h:Hd} (hg:h.rng) (hR:HRight h):CallV Tryz.prog 236 #[h.val] w [.one .sl] λr w'=>Res w w' r.1 (hdL h):=by
 unfold Hd.rng at hg
 have hR':=hR
 unfold HRight at hR'
 refine ref14_Bytes.vc _ _ _ _ _ _ _ _ ?_
 unfold ref14_Bytes.P
 refine newH λb1 w1 e1 hb=>?_
 refine DrawV.old w1 λD hD hkeep=>?_
 have hD1:=hD _ hb.lt
 have hd:=hb.ext (Ext.drew w1)
 refine ⟨hD1,hd.ld (i:=0) (h:=.int .i64) (x:=h.k) rfl ⟨hD1,hd.ld (i:=1) (h:=.int .i64) (x:=h.n) rfl ⟨hD1,hd.ld (i:=2) (h:=.int .i64) (x:=h.c) rfl ⟨hD1,hd.ld (i:=3) (h:=.int .u32) (x:=h.l) rfl ?_⟩⟩⟩⟩
 rw [show IntKind.u64.wrap h.l=h.l from u64_id (by omega) (by omega),wrap_u8 (by omega:0<=h.k/\h.k<=255),wrap_u8 hR'.2.1,wrap_u8 hR'.2.2]
 have tail:∀ (a:Option Addr) (c:Nat) (w4:World),Ext w1 w4->Own w4 w1.heap.size 5 1 a (4+4) c (([h.k,h.n,h.c,0]++big h.l 4).map (Value.int .u8))->LoadS w4 ⟨b1,4,none⟩ (.int .u64) λ(x17:Int)=>
   CallV Tryz.prog 267 #[.int .u64 x17,.int .i64 8] w4 [.one .sl] λ(r18:SlV×Unit) w19=>
   AppS w19 r18.1.a r18.1.n 1 λns24=>
   AppV w19 5 1 1 a (4+4) c ns24 r18.1.n λa20 n21 c22 w23=>
   LoadS w23 ⟨b1,5,none⟩ (.int .u64) λ(x25:Int)=>
   CallV Tryz.prog 267 #[.int .u64 x25,.int .i64 8] w23 [.one .sl] λ(r26:SlV×Unit) w27=>
   AppS w27 r26.1.a r26.1.n 1 λns32=>
   AppV w27 5 1 1 a20 n21 c22 ns32 r26.1.n λa28 n29 c30 w31=>Res w w31 (⟨a28,n29,c30⟩:SlV) (hdL h):=by
  intro a c w4 x4 o4
  refine (hb.ext x4).ld (i:=4) (h:=.int .u64) (x:=h.e) rfl ?_
  refine (rBig_c (by omega) (by omega)).mono ?_
  rintro ⟨(s5:SlV),⟨⟩⟩ w5 h5
  dsimp only at h5 ⊢
  rw [c8] at h5
  have l5:=h5.ints.len
  rw [List.length_reverse,leL_length] at l5
  have x5:=x4.trans h5.ext
  refine appL (o4.ext h5.ext) h5.ints x5.size (by omega) λa6 c6' w6 o6 b6=>?_
  have x6:Ext w1 w6:=Below.trans x5 b6
  refine (hb.ext x6).ld (i:=5) (h:=.int .u64) (x:=h.t) rfl ?_
  refine (rBig_c (by omega) (by omega)).mono ?_
  rintro ⟨(s7:SlV),⟨⟩⟩ w7 h7
  dsimp only at h7 ⊢
  rw [c8] at h7
  have l7:=h7.ints.len
  rw [List.length_reverse,leL_length] at l7
  have x7:=x6.trans h7.ext
  refine appL (o6.ext h7.ext) h7.ints x7.size (by omega) λa8 c8' w8 o8 b8=>?_
  have x8:Ext w1 w8:=Below.trans x7 b8
  exact ⟨e1.trans x8,o8.mono e1.size⟩
 constructor
 ·rintro b2 w2 rfl rfl
  have ho:=Own.list (w:=w1.drew) (xs:=[h.k,h.n,h.c,0]) (n:=4) rfl (by omega)
  have x2:Ext w1 (w1.drew.alloc (.cells #[.int .u8 h.k,.int .u8 h.n,.int .u8 h.c,.int .u8 0] 5)):=(Ext.drew w1).trans (Ext.alloc _ _)
  refine ⟨hkeep _ x2,?_⟩
  refine (rBig_c (by omega) (by omega)).mono ?_
  rintro ⟨⟨sa,sn,sc⟩,⟨⟩⟩ w3 h3
  dsimp only at h3 ⊢
  rw [c4] at h3
  have l3:=h3.ints.len
  rw [List.length_reverse,leL_length] at l3
  dsimp only at l3
  subst l3
  have x3:=x2.trans h3.ext
  refine ⟨hkeep _ x3,?_⟩
  refine appL (ho.ext h3.ext) h3.ints x3.size (by omega) λa4 c4' w4 o4 b4=>?_
  have x4:Ext w1 w4:=Below.trans x3 b4
  refine ⟨hkeep _ x4,?_⟩
  exact tail a4 c4' w4 x4 o4
 ·refine (rBig_c (by omega) (by omega)).mono ?_
  rintro ⟨⟨sa,sn,sc⟩,⟨⟩⟩ w3 h3
  dsimp only at h3 ⊢
  rw [c4] at h3
  have l3:=h3.ints.len
  rw [List.length_reverse,leL_length] at l3
  dsimp only at l3
  subst l3
  have x3:=(Ext.drew w1).trans h3.ext
  refine ⟨hkeep _ x3,?_⟩
  rintro b2 w2 rfl rfl
  have ho:=Own.list (w:=w3) (xs:=[h.k,h.n,h.c,0]) (n:=4) rfl (by omega)
  have x2:Ext w3 (w3.alloc (.cells #[.int .u8 h.k,.int .u8 h.n,.int .u8 h.c,.int .u8 0] 5)):=Ext.alloc _ _
  refine ⟨hkeep _ (x3.trans x2),?_⟩
  refine appL ho (h3.ints.ext x2) x2.size (by omega) λa4 c4' w4 o4 b4=>?_
  have x4:Ext w1 w4:=x3.trans (Below.trans x2 b4)
  refine ⟨hkeep _ x4,?_⟩
  exact tail a4 c4' w4 x4 (o4.mono x3.size)
theorem MarkLen_c {w:World} {n:Int} (h:88<=n/\n<=4184):CallV Tryz.prog 254 #[.int .i64 n] w [.one .sl] λr w'=>Res w w' r.1 (List.replicate (n-8).toNat 255++List.replicate 8 0):=by
 refine head_Mark.vc _ _ _ ?_
 unfold head_Mark.P
 refine cond_d (λh=>by omega) (λ_=>cond_d (λh=>by omega) (λ_=>⟨Rng.i64 (by omega) (by omega),?_⟩))
 refine Fill_c.mono ?_
 rintro ⟨(s1:SlV),⟨⟩⟩ w1 h1
 refine Fill_c.mono ?_
 rintro ⟨(s2:SlV),⟨⟩⟩ w2 h2
 dsimp only at h1 h2 ⊢
 generalize hL:(65536:Int)=L at h1 h2
 rw [show max 0 (min L (n-8))=n-8 by omega] at h1
 rw [show (max 0 (min L 8)).toNat=8 by omega] at h2
 have l1:=h1.ints.len
 have l2:=h2.ints.len
 rw [List.length_replicate] at l1 l2
 refine appL (h1.own.ext h2.ext) h2.ints (Nat.le_trans h1.ext.size h2.ext.size) (by omega) λa' c' w' o b=>?_
 exact ⟨Below.trans (h1.ext.trans h2.ext) b,o⟩
theorem appLB {w:World} {a a2:Option Addr} {n c m c2:Nat} {xs ys:List Int} {B:Nat} {K:Option Addr->Nat->Nat->World->Prop} (ho:Own w B 5 1 a n c (xs.map (Value.int .u8))) (hy:Ints w .u8 a2 m c2 ys) (hB:B<=w.heap.size) (hn:n+m<=100000000)
  (hk:∀ a' c' w',Own w' B 5 1 a' (n+m) c' ((xs++ys).map (Value.int .u8))->Below B w w'->But a w w'->K a' (n+m) c' w') :
  AppS w a2 m 1 λns=>AppV w 5 1 1 a n c ns m K:=by
 refine AppS.of (news:=ys.map (Value.int .u8)) (by rw [List.length_map,hy.len];omega) hy.rd ?_
 refine AppV.own ho hB (by rw [List.length_map,hy.len];omega) (oneAll.ints _ _) (by omega) (by omega) λa' c' w' h1 h2 h3 _=>?_
 refine hk a' c' w' ?_ h2 h3
 rw [List.map_append]
 exact h1
theorem intsU_but {w w':World} {a a2:Option Addr} {n c:Nat} {xs:List Int} (h:Ints w .u8 a n c xs) (x:But a2 w w') (hne:∀ p q,a=some p->a2=some q->p.block≠q.block):Ints w' .u8 a n c xs:=by
 refine ⟨h.len,h.cap,h.lim,?_⟩
 rcases h.rd with h1 | ⟨p,h1,h2⟩
 ·exact .inl h1
 ·refine .inr ⟨p,h1,?_⟩
  cases hx:xs.map (Value.int .u8) with
  | nil=>intro j v hv;simp at hv
  | cons v vs=>
   rw [hx] at h2
   exact cells_same (x _ (cells_lt h2) (λq hq=>hne p q h1 hq)) h2
theorem Res.apart {w0 w1 w2:World} {s t:SlV} {xs ys:List Int} (h:Res w0 w1 s xs) (k:Res w1 w2 t ys):∀ p q,t.a=some p->s.a=some q->p.block≠q.block:=by
 intro p q hp hq
 rcases h.own.at_ with ⟨h1,_⟩ | ⟨b,cs,h1,_,h3,_⟩
 ·rw [h1] at hq;cases hq
 ·rcases k.own.at_ with ⟨k1,_⟩ | ⟨b',cs',k1,k2,_⟩
  ·rw [k1] at hp;cases hp
  ·rw [k1] at hp;rw [h1] at hq
   have e1:=Option.some.inj hp
   have e2:=Option.some.inj hq
   subst e1;subst e2
   have hlt:b<w1.heap.size:=(Array.getElem?_eq_some_iff.1 h3).1
   show b'≠b
   omega
def tagL (tg:List Int):List Int:=if tg.length=0 then List.replicate 32 255 else tg
def endL (h:Hd) (tg:List Int):List Int:=((hdL h++invL (hdL h))++tagL tg)++List.replicate 8 255
def ERight (h:Hd) (n:Nat):Prop:=HRight h/\(n=0\/n=32)
instance (h:Hd) (n:Nat):Decidable (ERight h n):=by unfold ERight;infer_instance
theorem invL_length (xs:List Int):(invL xs).length=xs.length:=by simp [invL]
theorem fill32:(max 0 (min (65536:Int) 32)).toNat=32:=by generalize hL:(65536:Int)=L;omega
theorem fill8:(max 0 (min (65536:Int) 8)).toNat=8:=by generalize hL:(65536:Int)=L;omega
theorem End_c {w:World} {h:Hd} {a:Option Addr} {n c:Nat} {tg:List Int} (hg:h.rng) (ht:Ints w .u8 a n c tg) :
  CallV Tryz.prog 204 #[h.val,.slice a n c] w [.one .sl,.one (.int .i64)] λr w'=>Ext w w'/\(ERight h n->Res w w' r.1 (endL h tg)/\r.2.1=(0:Int))/\(¬ ERight h n->r.1=(⟨none,0,0⟩:SlV)/\r.2.1=(2:Int)):=by
 refine head_End.vc _ _ _ _ _ _ _ _ _ _ _ ?_
 unfold head_End.P
 have lt:=ht.len
 refine newH λb1 w1 e1 hb=>?_
 refine ldH hb ?_
 refine (Bytes_c (h:=h) hg).mono ?_
 rintro ⟨⟨sa,sn,sc⟩,(e2:Int),⟨⟩⟩ w2 ⟨x2,h2,h2'⟩
 dsimp only at h2 h2' ⊢
 have E2:=e1.trans x2
 have no:∀ {w':World},¬ ERight h n->Ext w w'->(Ext w w'/\(ERight h n->Res w w' (⟨none,0,0⟩:SlV) (endL h tg)/\(2:Int)=(0:Int))/\(¬ ERight h n->(⟨none,0,0⟩:SlV)=(⟨none,0,0⟩:SlV)/\(2:Int)=(2:Int))):=λhr he=>⟨he,λh=>absurd h hr,λ_=>⟨rfl,rfl⟩⟩
 by_cases hR:¬ HRight h
 ·obtain ⟨_,k2⟩:=h2' hR
  refine cond_t (by rw [k2];rfl) ?_
  have:=no (w':=w2) (λhh=>hR hh.1) E2
  rw [k2]
  exact this
 have hR:=Decidable.not_not.1 hR
 obtain ⟨k1,k2⟩:=h2 hR
 have l1:=k1.ints.len
 rw [hdL_length] at l1
 dsimp only at l1
 subst l1
 refine cond_f (by rw [k2];rfl) ?_
 have fin:∀ {w':World} {a':Option Addr} {m c':Nat},Ext w w'->Own w' w1.heap.size 5 1 a' m c' ((endL h tg).map (Value.int .u8))->ERight h n ->
   (Ext w w'/\(ERight h n->Res w w' (⟨a',m,c'⟩:SlV) (endL h tg)/\(0:Int)=(0:Int))/\(¬ ERight h n->(⟨a',m,c'⟩:SlV)=(⟨none,0,0⟩:SlV)/\(0:Int)=(2:Int))):=λe o hr=>
  ⟨e,λ_=>⟨⟨e,o.mono e1.size⟩,rfl⟩,λhn=>absurd hr hn⟩
 refine cond_eq (λh0=>?_) (λh0=>?_)
 ·refine Fill_c.mono ?_
  rintro ⟨⟨ta,tn,tc⟩,⟨⟩⟩ w3 h3
  dsimp only at h3 ⊢
  rw [fill32] at h3
  have l3:=h3.ints.len
  rw [List.length_replicate] at l3
  dsimp only at l3
  subst l3
  refine cond_ne (λhh=>absurd rfl hh) (λ_=>?_)
  refine (Invert_c (k1.ints.ext h3.ext) (by dsimp only;omega)).mono ?_
  rintro ⟨⟨va,vn,vc⟩,⟨⟩⟩ w4 h4
  dsimp only at h4 ⊢
  have l4:=h4.ints.len
  rw [invL_length,hdL_length] at l4
  dsimp only at l4
  subst l4
  have x4:=h3.ext.trans h4.ext
  have X4:Ext w1 w4:=x2.trans x4
  refine appLB (k1.own.ext x4) h4.ints X4.size (by omega) λa5 c5 w5 o5 b5 but5=>?_
  have X5:Ext w1 w5:=Below.trans X4 b5
  have i5:=intsU_but (h3.ints.ext h4.ext) but5 (Res.apart k1 h3)
  refine appL o5 i5 X5.size (by omega) λa6 c6 w6 o6 b6=>?_
  have X6:Ext w1 w6:=Below.trans X5 b6
  refine Fill_c.mono ?_
  rintro ⟨⟨ua,un,uc⟩,⟨⟩⟩ w7 h7
  dsimp only at h7 ⊢
  rw [fill8] at h7
  have l7:=h7.ints.len
  rw [List.length_replicate] at l7
  dsimp only at l7
  subst l7
  have X7:=X6.trans h7.ext
  refine appL (o6.ext h7.ext) h7.ints X7.size (by omega) λa8 c8 w8 o8 b8=>?_
  have X8:Ext w1 w8:=Below.trans X7 b8
  have ht0:tagL tg=List.replicate 32 255:=by unfold tagL;rw [if_pos (by omega)]
  refine fin (e1.trans X8) ?_ ⟨hR,.inl (by omega)⟩
  unfold endL
  rw [ht0]
  exact o8
 ·refine cond_ne (λhh=>no (λhr=>by unfold ERight at hr;omega) E2) (λh32=>?_)
  refine (Invert_c k1.ints (by dsimp only;omega)).mono ?_
  rintro ⟨⟨va,vn,vc⟩,⟨⟩⟩ w4 h4
  dsimp only at h4 ⊢
  have l4:=h4.ints.len
  rw [invL_length,hdL_length] at l4
  dsimp only at l4
  subst l4
  have X4:Ext w1 w4:=x2.trans h4.ext
  refine appL (k1.own.ext h4.ext) h4.ints X4.size (by omega) λa5 c5 w5 o5 b5=>?_
  have X5:Ext w1 w5:=Below.trans X4 b5
  refine appL o5 (ht.ext (e1.trans X5)) X5.size (by omega) λa6 c6 w6 o6 b6=>?_
  have X6:Ext w1 w6:=Below.trans X5 b6
  refine Fill_c.mono ?_
  rintro ⟨⟨ua,un,uc⟩,⟨⟩⟩ w7 h7
  dsimp only at h7 ⊢
  rw [fill8] at h7
  have l7:=h7.ints.len
  rw [List.length_replicate] at l7
  dsimp only at l7
  subst l7
  have X7:=X6.trans h7.ext
  refine appL (o6.ext h7.ext) h7.ints X7.size (by omega) λa8 c8 w8 o8 b8=>?_
  have X8:Ext w1 w8:=Below.trans X7 b8
  have ht0:tagL tg=tg:=by unfold tagL;rw [if_neg (by omega)]
  refine fin (e1.trans X8) ?_ ⟨hR,.inr (by omega)⟩
  unfold endL
  rw [ht0]
  exact o8
def comm (xs:List Int):Bool:=decide (xs.length=88/\xs.drop 80=List.replicate 8 0)
theorem rCommitted_c {w:World} {a:Option Addr} {n c:Nat} {xs:List Int} (hx:Ints w .u8 a n c xs) (hn:n=88) :
  CallV Tryz.prog 190 #[.slice a n c] w [.one .bool] λr w'=>r.1=comm xs/\Ext w w':=by
 refine ref14_Committed.vc _ _ _ _ _ ?_
 unfold ref14_Committed.P
 have lx:=hx.len
 refine DrawV.old w λD hD hkeep=>?_
 refine ⟨by omega,?_⟩
 intro a2 ha2
 have hs:=(hx.ext (Ext.drew w)).sub (l:=80) (hh:=n) (m:=c) (by omega) (Nat.le_refl _) hx.cap ha2
 rw [List.take_of_length_le (by rw [List.length_drop];omega)] at hs
 refine rFill_c.mono ?_
 rintro ⟨(s3:SlV),⟨⟩⟩ w3 h3
 dsimp only at h3 ⊢
 rw [fill8] at h3
 have x3:=(Ext.drew w).trans h3.ext
 refine ⟨hkeep _ x3,?_⟩
 refine (SameBytes_c (hs.ext h3.ext) h3.ints).mono ?_
 rintro ⟨(r4:Bool),⟨⟩⟩ w4 ⟨h4,e4⟩
 refine ⟨hkeep _ (x3.trans e4),?_,x3.trans e4⟩
 dsimp only at h4 ⊢
 rw [h4]
 unfold comm
 exact decide_eq_decide.2 ⟨λh=>⟨by omega,h⟩,λh=>h.2⟩
theorem leL_cons (n:Int) (h:0<=n) (k:Nat):leL n (k+1)=n % 256::leL (n / 256) k:=by
 refine List.ext_getElem (by simp [leL_length]) λi h1 h2=>?_
 rw [leL_get]
 cases i with
 | zero=>simp
 | succ i=>
  rw [List.getElem_cons_succ,leL_get,Int.pow_succ,Int.mul_comm,<- Int.ediv_ediv_of_nonneg (by omega)]
theorem leL_leN:∀ {xs:List Int},Byt xs->leL (leN xs) xs.length=xs
 | [],_=>rfl
 | x::xs,hb=>by
  have hx:=hb x (List.mem_cons_self ..)
  have hb':Byt xs:=λy hy=>hb y (List.mem_cons_of_mem _ hy)
  have bd:=leN_bd hb'
  have bd2:=leN_bd hb
  have e:leN (x::xs)=x+256*leN xs:=rfl
  rw [List.length_cons,leL_cons _ bd2.1,e,show (x+256*leN xs) % 256=x by omega,show (x+256*leN xs) / 256=leN xs by omega,leL_leN hb']
theorem big_numB {xs:List Int} (hb:Byt xs) (h8:xs.length<=8):big (numB xs) xs.length=xs:=by
 unfold big numB
 rw [List.take_of_length_le (by rw [List.length_reverse];exact h8)]
 have:=leL_leN hb.reverse
 rw [List.length_reverse] at this
 rw [this,List.reverse_reverse]
theorem numB_bd {xs:List Int} (hb:Byt xs) {k:Nat} (h:xs.length=k) (h8:k<=8):0<=numB xs/\numB xs<256 ^ k:=by
 unfold numB
 rw [List.take_of_length_le (by rw [List.length_reverse];omega)]
 have:=leN_bd hb.reverse
 rw [List.length_reverse,h] at this
 exact this
def part (xs:List Int) (i j:Nat):List Int:=(xs.drop i).take (j-i)
theorem part_length {xs:List Int} {i j:Nat} (h:j<=xs.length) (hi:i<=j):(part xs i j).length=j-i:=by unfold part;simp;omega
theorem part_byt {xs:List Int} (hb:Byt xs) (i j:Nat):Byt (part xs i j):=(hb.drop i).take _
def hdOf (xs:List Int):Hd:=⟨xs.getD 0 0,xs.getD 1 0,xs.getD 2 0,numB (part xs 4 8),numB (part xs 8 16),numB (part xs 16 24)⟩
def okR (xs:List Int):Prop:=(1<=xs.getD 0 0/\xs.getD 0 0<=4)/\xs.getD 3 0=0/\invL (part xs 0 24)=part xs 24 48
instance (xs:List Int):Decidable (okR xs):=by unfold okR;infer_instance
theorem part_split (xs:List Int) {i j k:Nat} (h1:i<=j) (h2:j<=k):part xs i j++part xs j k=part xs i k:=by
 unfold part
 rw [show k-i=(j-i)+(k-j) by omega,List.take_add,List.drop_drop,show i+(j-i)=j by omega]
theorem part4 {xs:List Int} (h:4<=xs.length):part xs 0 4=[xs.getD 0 0,xs.getD 1 0,xs.getD 2 0,xs.getD 3 0]:=by
 unfold part
 match xs,h with
 | a::b::c::d::t,_=>rfl
theorem hdL_of {xs:List Int} (hb:Byt xs) (hl:24<=xs.length):hdL (hdOf xs)=[xs.getD 0 0,xs.getD 1 0,xs.getD 2 0,0]++part xs 4 8++part xs 8 16++part xs 16 24:=by
 unfold hdL hdOf
 have a:=big_numB (part_byt hb 4 8) (by rw [part_length (by omega) (by omega)];omega)
 have b:=big_numB (part_byt hb 8 16) (by rw [part_length (by omega) (by omega)];omega)
 have c:=big_numB (part_byt hb 16 24) (by rw [part_length (by omega) (by omega)];omega)
 rw [part_length (by omega) (by omega)] at a b c
 dsimp only
 rw [show (4:Nat)=8-4 from rfl,a,show (8:Nat)=16-8 from rfl,b]
 rw [show (16-8:Nat)=24-16 from rfl,c]
theorem hdL_eq {xs:List Int} (hb:Byt xs) (hl:24<=xs.length):hdL (hdOf xs)=part xs 0 24↔xs.getD 3 0=0:=by
 rw [hdL_of hb hl,<- part_split xs (show 0<=16 by omega) (show 16<=24 by omega),<- part_split xs (show 0<=8 by omega) (show 8<=16 by omega),<- part_split xs (show 0<=4 by omega) (show 4<=8 by omega),part4 (by omega)]
 constructor
 ·intro h
  have:=congrArg (λl=>l.getD 3 0) h
  simpa using this.symm
 ·intro h
  rw [h]
theorem hdOf_rng {xs:List Int} (hb:Byt xs) (hl:24<=xs.length):(hdOf xs).rng:=by
 have a:=numB_bd (part_byt hb 4 8) (part_length (by omega) (by omega)) (by omega)
 have b:=numB_bd (part_byt hb 8 16) (part_length (by omega) (by omega)) (by omega)
 have c:=numB_bd (part_byt hb 16 24) (part_length (by omega) (by omega)) (by omega)
 exact ⟨a,b,c⟩
theorem hdOf_right {xs:List Int} (hb:Byt xs):HRight (hdOf xs)↔1<=xs.getD 0 0/\xs.getD 0 0<=4:=by
 have h1:=hb.getD 1
 have h2:=hb.getD 2
 unfold HRight hdOf
 dsimp only
 omega
theorem okR_iff {xs:List Int} (hb:Byt xs) (hl:xs.length=88):okR xs↔HRight (hdOf xs)/\hdL (hdOf xs)++invL (hdL (hdOf xs))=part xs 0 48:=by
 rw [hdOf_right hb,<- part_split xs (show 0<=24 by omega) (show 24<=48 by omega)]
 have e:=hdL_eq hb (by omega)
 constructor
 ·rintro ⟨h1,h2,h3⟩
  have:=e.2 h2
  exact ⟨h1,by rw [this,h3]⟩
 ·rintro ⟨h1,h2⟩
  have hlen:(hdL (hdOf xs)).length=(part xs 0 24).length:=by rw [hdL_length,part_length (by omega) (by omega)]
  obtain ⟨a,b⟩:=List.append_inj h2 hlen
  exact ⟨h1,e.1 a,by rw [<-a];exact b⟩
theorem part_hdL (h:Hd) (hg:h.rng) (rest:List Int):hdOf (hdL h++rest)=h:=by
 unfold Hd.rng at hg
 have p1:part (hdL h++rest) 4 8=big h.l 4:=by
  unfold part hdL
  rw [List.append_assoc,List.append_assoc,List.append_assoc,List.drop_left' (by rfl),List.take_left' (by rw [big_length])]
 have p2:part (hdL h++rest) 8 16=big h.e 8:=by
  unfold part hdL
  rw [List.append_assoc,List.append_assoc,List.drop_left' (by rw [List.length_append,big_length];rfl),List.take_left' (by rw [big_length])]
 have p3:part (hdL h++rest) 16 24=big h.t 8:=by
  unfold part hdL
  rw [List.append_assoc,List.drop_left' (by rw [List.length_append,List.length_append,big_length,big_length];rfl),List.take_left' (by rw [big_length])]
 have nb:∀ (n:Int) (k:Nat),0<=n->n<256 ^ k->k<=8->numB (big n k)=n:=λn k h0 h1 h8=>by
  unfold numB big
  rw [List.reverse_reverse,List.take_of_length_le (by rw [leL_length];exact h8),leN_leL n h0]
  exact Int.emod_eq_of_lt h0 h1
 unfold hdOf
 rw [p1,p2,p3,nb _ _ hg.1.1 hg.1.2 (by omega),nb _ _ hg.2.1.1 hg.2.1.2 (by omega),nb _ _ hg.2.2.1 hg.2.2.2 (by omega)]
 rfl
abbrev zeroH:Hd:=⟨0,0,0,0,0,0⟩
theorem sub_part {w:World} {a:Option Addr} {n c:Nat} {xs:List Int} (h:Ints w .u8 a n c xs) {i j m:Nat} (h1:i<=j) (h2:j<=n) (h3:j<=m) {a':Option Addr} (ha:a'=if m=i then a else a.map (·.add (i*1))):Ints w .u8 a' (j-i) (m-i) (part xs i j):=h.sub h1 h2 h3 ha
set_option maxRecDepth 100000 in
theorem eqH (a1 a2 a3 a4 a5 a6 b1 b2 b3 b4 b5 b6:Int) (w:World):(Op.equalIn 10000 62 (.agg #[.int .i64 a1,.int .i64 a2,.int .i64 a3,.int .u32 a4,.int .u64 a5,.int .u64 a6]) (.agg #[.int .i64 b1,.int .i64 b2,.int .i64 b3,.int .u32 b4,.int .u64 b5,.int .u64 b6])).run Tryz.prog w =
  .ok (a1 == b1 && (a2 == b2 && (a3 == b3 && (a4 == b4 && (a5 == b5 && a6 == b6))))) w:=by
 have u1:=Tryz.underlying3
 have u2:=Tryz.underlying59
 have u3:=Tryz.underlying60
 have v1:=Tryz.isAgg3
 have v2:=Tryz.isAgg59
 have v3:=Tryz.isAgg60
 have z1:=Tryz.sizeOf3
 have z2:=Tryz.sizeOf59
 have z3:=Tryz.sizeOf60
 have hS:Tryz.prog.underlying 62=some (.struct (Tryz.prog.fieldsOf 62)):=by kernel_rfl
 rw [show (10000:Nat)=9999+1 from rfl,run_equalIn_agg w 9999 62 _ _ hS (by kernel_rfl)]
 simp only [Program.fieldsOf,Tryz.underlying62]
 go_simp
 repeat' split
 all_goals simp_all
open Classical in
theorem eqHd {g h:Hd} {K:Bool->Prop} (hk:K (decide (g=h))):AggEq Tryz.prog 62 #[.int .i64 g.k,.int .i64 g.n,.int .i64 g.c,.int .u32 g.l,.int .u64 g.e,.int .u64 g.t] #[.int .i64 h.k,.int .i64 h.n,.int .i64 h.c,.int .u32 h.l,.int .u64 h.e,.int .u64 h.t] K:=by
 refine ⟨_,λw=>eqH _ _ _ _ _ _ _ _ _ _ _ _ w,by kernel_rfl,?_⟩
 have:(g.k == h.k && (g.n == h.n && (g.c == h.c && (g.l == h.l && (g.e == h.e && g.t == h.t)))))=decide (g=h):=by
  obtain ⟨a1,a2,a3,a4,a5,a6⟩:=g
  obtain ⟨b1,b2,b3,b4,b5,b6⟩:=h
  apply Bool.eq_iff_iff.2
  simp
 rw [this]
 exact hk
theorem tagL_length {tg:List Int} (hl:tg.length=0\/tg.length=32):(tagL tg).length=32:=by
 unfold tagL
 split
 ·simp
 ·omega
theorem endL_length (h:Hd) {tg:List Int} (hl:tg.length=0\/tg.length=32):(endL h tg).length=88:=by
 unfold endL
 rw [List.length_append,List.length_append,List.length_append,invL_length,hdL_length,tagL_length hl,List.length_replicate]
theorem big_byt (n:Int) (k:Nat):Byt (big n k):=(leL_byt n k).reverse
theorem hdL_byt {h:Hd} (hR:HRight h):Byt (hdL h):=by
 unfold HRight at hR
 unfold hdL
 refine (((Byt.cons (by omega) (Byt.cons (by omega) (Byt.cons (by omega) (Byt.cons (by omega) Byt.nil)))).append (big_byt _ _)).append (big_byt _ _)).append (big_byt _ _)
theorem endL_byt {h:Hd} (hg:h.rng) (hR:HRight h) {tg:List Int} (bt:Byt tg):Byt (endL h tg):=by
 unfold endL
 refine (((hdL_byt hR).append (invL_byt _)).append ?_).append (Byt.replicate (by omega) (by omega) _)
 unfold tagL
 split
 ·exact Byt.replicate (by omega) (by omega) _
 ·exact bt
end Go.Proofs.YtbaojfchlhlaeaaGreat.Vc
namespace Go.Proofs.YtbaojfchlhlaeaaGreat.Vc
open Go Go.Eng
def page_Make.A:Ann:=.no
def page_Make.P (p0_0 p0_1 p0_2 p0_3 p0_4 p0_5 p1_0 p1_1 p1_2 p1_3 p1_4 p1_5:Int) (a2:Option Addr) (n2 c2:Nat) (a3:Option Addr) (n3 c3:Nat) (w:World) (K:SlV×Int×Unit->World->Prop):Prop:=
 NewV #[.int .i64 p0_0,.int .i64 p0_1,.int .i64 p0_2,.int .i64 p0_3,.int .i64 p0_4,.int .i64 p0_5] 23 w λb1 w2=>
 NewV #[.int .i64 p1_0,.int .i64 p1_1,.int .i64 p1_2,.int .u32 p1_3,.int .u64 p1_4,.int .u64 p1_5] 62 w2 λb3 w4=>
 LoadA w4 ⟨b1,0,none⟩ [.int .i64,.int .i64,.int .i64,.int .i64,.int .i64,.int .i64] λ(x5:Int×Int×Int×Int×Int×Int×Unit)=>
 CallV Tryz.prog 110 #[.agg #[.int .i64 x5.1,.int .i64 x5.2.1,.int .i64 x5.2.2.1,.int .i64 x5.2.2.2.1,.int .i64 x5.2.2.2.2.1,.int .i64 x5.2.2.2.2.2.1]] w4 [.one (.int .i64)] λ(r6:Int×Unit) w7=>
 cond (r6.1 != 0)
 (K ((⟨none,0,0⟩:SlV),(2:Int),()) w7)
 (cond (((n2:Nat):Int) == 0)
 (LoadS w7 ⟨b1,2,none⟩ (.int .i64) λ(x8:Int)=>
 CallV Tryz.prog 203 #[.int .u8 255,.int .i64 x8] w7 [.one .sl] λ(r9:SlV×Unit) w10=>
 LoadS w10 ⟨b1,2,none⟩ (.int .i64) λ(x11:Int)=>
 cond (((r9.1.n:Nat):Int) != x11)
 (K ((⟨none,0,0⟩:SlV),(2:Int),()) w10)
 (LoadA w10 ⟨b3,0,none⟩ [.int .i64,.int .i64,.int .i64,.int .u32,.int .u64,.int .u64] λ(x12:Int×Int×Int×Int×Int×Int×Unit)=>
 CallV Tryz.prog 204 #[.agg #[.int .i64 x12.1,.int .i64 x12.2.1,.int .i64 x12.2.2.1,.int .u32 x12.2.2.2.1,.int .u64 x12.2.2.2.2.1,.int .u64 x12.2.2.2.2.2.1],.slice a3 n3 c3] w10 [.one .sl,.one (.int .i64)] λ(r13:SlV×Int×Unit) w14=>
 cond (r13.2.1 != 0)
 (K ((⟨none,0,0⟩:SlV),r13.2.1,()) w14)
 (NewV #[] 5 w14 λb15 w16=>
 AppS w16 r9.1.a r9.1.n 1 λns21=>
 AppV w16 5 1 1 (some ⟨b15,0,none⟩) 0 0 ns21 r9.1.n λa17 n18 c19 w20=>
 AppS w20 r13.1.a r13.1.n 1 λns26=>
 AppV w20 5 1 1 a17 n18 c19 ns26 r13.1.n λa22 n23 c24 w25=>
 K ((⟨a22,n23,c24⟩:SlV),(0:Int),()) w25)))
 (LoadS w7 ⟨b1,2,none⟩ (.int .i64) λ(x27:Int)=>
 cond (((n2:Nat):Int) != x27)
 (K ((⟨none,0,0⟩:SlV),(2:Int),()) w7)
 (LoadA w7 ⟨b3,0,none⟩ [.int .i64,.int .i64,.int .i64,.int .u32,.int .u64,.int .u64] λ(x28:Int×Int×Int×Int×Int×Int×Unit)=>
 CallV Tryz.prog 204 #[.agg #[.int .i64 x28.1,.int .i64 x28.2.1,.int .i64 x28.2.2.1,.int .u32 x28.2.2.2.1,.int .u64 x28.2.2.2.2.1,.int .u64 x28.2.2.2.2.2.1],.slice a3 n3 c3] w7 [.one .sl,.one (.int .i64)] λ(r29:SlV×Int×Unit) w30=>
 cond (r29.2.1 != 0)
 (K ((⟨none,0,0⟩:SlV),r29.2.1,()) w30)
 (NewV #[] 5 w30 λb31 w32=>
 AppS w32 a2 n2 1 λns37=>
 AppV w32 5 1 1 (some ⟨b31,0,none⟩) 0 0 ns37 n2 λa33 n34 c35 w36=>
 AppS w36 r29.1.a r29.1.n 1 λns42=>
 AppV w36 5 1 1 a33 n34 c35 ns42 r29.1.n λa38 n39 c40 w41=>
 K ((⟨a38,n39,c40⟩:SlV),(0:Int),()) w41))))
theorem page_Make.vc (p0_0 p0_1 p0_2 p0_3 p0_4 p0_5 p1_0 p1_1 p1_2 p1_3 p1_4 p1_5:Int) (a2:Option Addr) (n2 c2:Nat) (a3:Option Addr) (n3 c3:Nat) (w:World) (K:SlV×Int×Unit->World->Prop) (h:page_Make.P p0_0 p0_1 p0_2 p0_3 p0_4 p0_5 p1_0 p1_1 p1_2 p1_3 p1_4 p1_5 a2 n2 c2 a3 n3 c3 w K):CallV Tryz.prog 168 #[.agg #[.int .i64 p0_0,.int .i64 p0_1,.int .i64 p0_2,.int .i64 p0_3,.int .i64 p0_4,.int .i64 p0_5],.agg #[.int .i64 p1_0,.int .i64 p1_1,.int .i64 p1_2,.int .u32 p1_3,.int .u64 p1_4,.int .u64 p1_5],.slice a2 n2 c2,.slice a3 n3 c3] w [.one .sl,.one (.int .i64)] K:=by
 refine vcFun.of (A:=page_Make.A) (wr:=false) okf_ok follows h Tryz.func168 ?_
 kernel_rfl
def page_Commit.A:Ann:=.no
def page_Commit.P (p0_0 p0_1 p0_2 p0_3 p0_4 p0_5:Int) (w:World) (K:SlV×Int×Unit->World->Prop):Prop:=
 NewV #[.int .i64 p0_0,.int .i64 p0_1,.int .i64 p0_2,.int .i64 p0_3,.int .i64 p0_4,.int .i64 p0_5] 23 w λb1 w2=>
 LoadA w2 ⟨b1,0,none⟩ [.int .i64,.int .i64,.int .i64,.int .i64,.int .i64,.int .i64] λ(x3:Int×Int×Int×Int×Int×Int×Unit)=>
 CallV Tryz.prog 110 #[.agg #[.int .i64 x3.1,.int .i64 x3.2.1,.int .i64 x3.2.2.1,.int .i64 x3.2.2.2.1,.int .i64 x3.2.2.2.2.1,.int .i64 x3.2.2.2.2.2.1]] w2 [.one (.int .i64)] λ(r4:Int×Unit) w5=>
 cond (r4.1 != 0)
 (K ((⟨none,0,0⟩:SlV),(2:Int),()) w5)
 (LoadA w5 ⟨b1,0,none⟩ [.int .i64,.int .i64,.int .i64,.int .i64,.int .i64,.int .i64] λ(x6:Int×Int×Int×Int×Int×Int×Unit)=>
 CallV Tryz.prog 143 #[.agg #[.int .i64 x6.1,.int .i64 x6.2.1,.int .i64 x6.2.2.1,.int .i64 x6.2.2.2.1,.int .i64 x6.2.2.2.2.1,.int .i64 x6.2.2.2.2.2.1]] w5 [.one (.int .i64)] λ(r7:Int×Unit) w8=>
 CallV Tryz.prog 254 #[.int .i64 r7.1] w8 [.one .sl] λ(r9:SlV×Unit) w10=>
 K (r9.1,(0:Int),()) w10)
theorem page_Commit.vc (p0_0 p0_1 p0_2 p0_3 p0_4 p0_5:Int) (w:World) (K:SlV×Int×Unit->World->Prop) (h:page_Commit.P p0_0 p0_1 p0_2 p0_3 p0_4 p0_5 w K):CallV Tryz.prog 206 #[.agg #[.int .i64 p0_0,.int .i64 p0_1,.int .i64 p0_2,.int .i64 p0_3,.int .i64 p0_4,.int .i64 p0_5]] w [.one .sl,.one (.int .i64)] K:=by
 refine vcFun.of (A:=page_Commit.A) (wr:=false) okf_ok follows h Tryz.func206 ?_
 kernel_rfl
def ref15_Read.A:Ann:=.two .no (.two .no (.two .no (.two .no (.two (.draw (.take 0 (.take 1 (.take 2 (.take 3 (.take 4 (.take 5 (.take 6 (.take 7 (.eff 8 (.take 9 (.eff 10 (.done))))))))))))) .no))))
def ref15_Read.P (p0_0 p0_1 p0_2 p0_3 p0_4 p0_5:Int) (a1:Option Addr) (n1 c1:Nat) (w:World) (K:(Int×Int×Int×Int×Int×Int×SlV×SlV×Bool×Bool×Unit)×Unit->World->Prop):Prop:=
 NewV #[.int .i64 p0_0,.int .i64 p0_1,.int .i64 p0_2,.int .i64 p0_3,.int .i64 p0_4,.int .i64 p0_5] 23 w λb1 w2=>
 NewV #[.int .i64 0,.int .i64 0,.int .i64 0,.int .u32 0,.int .u64 0,.int .u64 0,.slice none 0 0,.slice none 0 0,.bool false,.bool false] 207 w2 λb3 w4=>
 LoadS w4 ⟨b1,2,none⟩ (.int .i64) λ(x5:Int)=>
 ((0:Int)<=x5/\x5<=((n1:Nat):Int)) /\
 SubK a1 x5.toNat c1 1 λa6=>
 CallV Tryz.prog 189 #[.slice a6 (n1-x5.toNat) (c1-x5.toNat)] w4 [.agg [.int .i64,.int .i64,.int .i64,.int .u32,.int .u64,.int .u64],.one .bool] λ(r7:(Int×Int×Int×Int×Int×Int×Unit)×Bool×Unit) w8=>
 NewV #[.int .i64 0,.int .i64 0,.int .i64 0,.int .u32 0,.int .u64 0,.int .u64 0] 62 w8 λb9 w10=>
 StoreV w10 ⟨b9,0,none⟩ [.int .i64 r7.1.1,.int .i64 r7.1.2.1,.int .i64 r7.1.2.2.1,.int .u32 r7.1.2.2.2.1,.int .u64 r7.1.2.2.2.2.1,.int .u64 r7.1.2.2.2.2.2.1] λw11=>
 cond (!r7.2.1)
 (StoreV w11 ⟨b3,0,none⟩ [.int .i64 0,.int .i64 0,.int .i64 0,.int .u32 0,.int .u64 0,.int .u64 0,.slice none 0 0,.slice none 0 0,.bool false,.bool false] λw12=>
 LoadA w12 ⟨b3,0,none⟩ [.int .i64,.int .i64,.int .i64,.int .u32,.int .u64,.int .u64,.sl,.sl,.bool,.bool] λ(x13:Int×Int×Int×Int×Int×Int×SlV×SlV×Bool×Bool×Unit)=>
 K ((x13.1,x13.2.1,x13.2.2.1,x13.2.2.2.1,x13.2.2.2.2.1,x13.2.2.2.2.2.1,x13.2.2.2.2.2.2.1,x13.2.2.2.2.2.2.2.1,x13.2.2.2.2.2.2.2.2.1,x13.2.2.2.2.2.2.2.2.2.1,()),()) w12)
 (DrawV λD14=>
 (D14 b9/\LoadA w11.drew ⟨b9,0,none⟩ [.int .i64,.int .i64,.int .i64,.int .u32,.int .u64,.int .u64] λ(x15:Int×Int×Int×Int×Int×Int×Unit)=>
 (D14 b1/\LoadS w11.drew ⟨b1,2,none⟩ (.int .i64) λ(x16:Int)=>
 ((0:Int)<=x16/\x16<=((c1:Nat):Int)) /\
 SubK a1 0 c1 1 λa17=>
 ((0:Int)<=(48:Int)/\(48:Int)<=(80:Int)/\(80:Int)<=((c1-x5.toNat:Nat):Int)) /\
 SubK a6 48 (c1-x5.toNat) 1 λa18=>
 CallV Tryz.prog 190 #[.slice a6 (n1-x5.toNat) (c1-x5.toNat)] w11.drew [.one .bool] λ(r19:Bool×Unit) w20=>
 KeepOn D14 w11.drew w20 /\
 StoreV w20 ⟨b3,0,none⟩ [.int .i64 x15.1,.int .i64 x15.2.1,.int .i64 x15.2.2.1,.int .u32 x15.2.2.2.1,.int .u64 x15.2.2.2.2.1,.int .u64 x15.2.2.2.2.2.1,.slice a17 (x16.toNat-0) (c1-0),.slice a18 (80-48) ((c1-x5.toNat)-48),.bool r19.1,.bool true] λw21=>
 KeepOn D14 w11.drew w21 /\
 LoadA w21 ⟨b3,0,none⟩ [.int .i64,.int .i64,.int .i64,.int .u32,.int .u64,.int .u64,.sl,.sl,.bool,.bool] λ(x22:Int×Int×Int×Int×Int×Int×SlV×SlV×Bool×Bool×Unit)=>
 K ((x22.1,x22.2.1,x22.2.2.1,x22.2.2.2.1,x22.2.2.2.2.1,x22.2.2.2.2.2.1,x22.2.2.2.2.2.2.1,x22.2.2.2.2.2.2.2.1,x22.2.2.2.2.2.2.2.2.1,x22.2.2.2.2.2.2.2.2.2.1,()),()) w21)))
theorem ref15_Read.vc (p0_0 p0_1 p0_2 p0_3 p0_4 p0_5:Int) (a1:Option Addr) (n1 c1:Nat) (w:World) (K:(Int×Int×Int×Int×Int×Int×SlV×SlV×Bool×Bool×Unit)×Unit->World->Prop) (h:ref15_Read.P p0_0 p0_1 p0_2 p0_3 p0_4 p0_5 a1 n1 c1 w K):CallV Tryz.prog 131 #[.agg #[.int .i64 p0_0,.int .i64 p0_1,.int .i64 p0_2,.int .i64 p0_3,.int .i64 p0_4,.int .i64 p0_5],.slice a1 n1 c1] w [.agg [.int .i64,.int .i64,.int .i64,.int .u32,.int .u64,.int .u64,.sl,.sl,.bool,.bool]] K:=by
 refine vcFun.of (A:=ref15_Read.A) (wr:=false) okf_ok follows h Tryz.func131 ?_
 kernel_rfl
end Go.Proofs.YtbaojfchlhlaeaaGreat.Vc
namespace Go.Proofs.YtbaojfchlhlaeaaGreat.Vc
open Go Go.Eng Go.RowKit
def payL (g:Geo) (pl:List Int):List Int:=if pl.length=0 then List.replicate g.s.toNat 255 else pl
def mkL (g:Geo) (h:Hd) (pl tg:List Int):List Int:=payL g pl++endL h tg
def comL (g:Geo):List Int:=List.replicate (g.s+80).toNat 255++List.replicate 8 0
def PRight (g:Geo) (h:Hd) (n m:Nat):Prop:=Right g/\ERight h m/\(n=0\/(n:Int)=g.s)
instance (g:Geo) (h:Hd) (n m:Nat):Decidable (PRight g h n m):=by unfold PRight;infer_instance
theorem Make_c {w:World} {g:Geo} {h:Hd} {a a2:Option Addr} {n c m c2:Nat} {xs ts:List Int} (hg:h.rng) (hx:Ints w .u8 a n c xs) (ht:Ints w .u8 a2 m c2 ts) :
  CallV Tryz.prog 168 #[g.val,h.val,.slice a n c,.slice a2 m c2] w [.one .sl,.one (.int .i64)] λr w'=>Ext w w'/\(PRight g h n m->Res w w' r.1 (mkL g h xs ts)/\r.2.1=(0:Int))/\(¬ PRight g h n m->r.1=(⟨none,0,0⟩:SlV)/\r.2.1=(2:Int)):=by
 apply page_Make.vc
 unfold page_Make.P
 have S:=Sep.start NoB w
 have no:∀ {w':World},¬ PRight g h n m->Ext w w'->(Ext w w'/\(PRight g h n m->Res w w' (⟨none,0,0⟩:SlV) (mkL g h xs ts)/\(2:Int)=(0:Int))/\(¬ PRight g h n m->(⟨none,0,0⟩:SlV)=(⟨none,0,0⟩:SlV)/\(2:Int)=(2:Int))):=λhr he=>⟨he,λh=>absurd h hr,λ_=>⟨rfl,rfl⟩⟩
 have lx:=hx.len
 have lt:=ht.len
 (repeat ((first | refine S.newB λ_ _ S f _=>?_ | refine S.la0 rfl ?_ | refine S.la1 rfl ?_ | refine S.la2 rfl ?_ | refine S.la3 rfl ?_ | refine S.la4 rfl ?_ | refine S.la5 rfl ?_ | refine S.ld0 rfl rfl ?_ | refine S.ld1 rfl rfl ?_ | refine S.ld2 rfl rfl ?_ | refine S.ld3 rfl rfl ?_ | refine S.ld4 rfl rfl ?_ | refine S.ld5 rfl rfl ?_ | refine S.st0 (by rfl) λ_ S f=>?_ | refine S.st1 (by rfl) λ_ S f=>?_ | refine S.st2 (by rfl) λ_ S f=>?_ | refine S.st3 (by rfl) λ_ S f=>?_ | refine S.st4 (by rfl) λ_ S f=>?_ | refine S.st5 (by rfl) λ_ S f=>?_ | refine S.su0 (by rfl) λ_ S f=>?_ | refine S.su1 (by rfl) λ_ S f=>?_ | refine S.su2 (by rfl) λ_ S f=>?_ | refine S.su3 (by rfl) λ_ S f=>?_ | refine S.su4 (by rfl) λ_ S f=>?_ | refine S.su5 (by rfl) λ_ S f=>?_ | refine ⟨by decide,?_⟩);try dsimp only [List.set_cons_zero,List.set_cons_succ,cond_true,cond_false,Bool.not_true,Bool.not_false]))
 refine (Check_c (g:=g)).mono ?_
 rintro ⟨(r:Int),⟨⟩⟩ w2 ⟨h2,e2⟩
 dsimp only at h2 ⊢
 have S:=S.stepE e2
 subst h2
 by_cases hR:Right g
 ·refine cond_f (by unfold chkE;rw [if_pos hR];rfl) ?_
  have hs:=hR.sec
  refine cond_eq (λh0=>?_) (λh0=>?_)
  ·(repeat ((first | refine S.newB λ_ _ S f _=>?_ | refine S.la0 rfl ?_ | refine S.la1 rfl ?_ | refine S.la2 rfl ?_ | refine S.la3 rfl ?_ | refine S.la4 rfl ?_ | refine S.la5 rfl ?_ | refine S.ld0 rfl rfl ?_ | refine S.ld1 rfl rfl ?_ | refine S.ld2 rfl rfl ?_ | refine S.ld3 rfl rfl ?_ | refine S.ld4 rfl rfl ?_ | refine S.ld5 rfl rfl ?_ | refine S.st0 (by rfl) λ_ S f=>?_ | refine S.st1 (by rfl) λ_ S f=>?_ | refine S.st2 (by rfl) λ_ S f=>?_ | refine S.st3 (by rfl) λ_ S f=>?_ | refine S.st4 (by rfl) λ_ S f=>?_ | refine S.st5 (by rfl) λ_ S f=>?_ | refine S.su0 (by rfl) λ_ S f=>?_ | refine S.su1 (by rfl) λ_ S f=>?_ | refine S.su2 (by rfl) λ_ S f=>?_ | refine S.su3 (by rfl) λ_ S f=>?_ | refine S.su4 (by rfl) λ_ S f=>?_ | refine S.su5 (by rfl) λ_ S f=>?_ | refine ⟨by decide,?_⟩);try dsimp only [List.set_cons_zero,List.set_cons_succ,cond_true,cond_false,Bool.not_true,Bool.not_false]))
   refine Fill_c.mono ?_
   rintro ⟨⟨sa,sn,sc⟩,⟨⟩⟩ w3 h3
   dsimp only at h3 ⊢
   have l3:=h3.ints.len
   rw [List.length_replicate,fill_sec hs] at l3
   have S:=S.res h3
   rw [fill_sec hs] at S
   dsimp only at l3 S
   subst l3
   (repeat ((first | refine S.newB λ_ _ S f _=>?_ | refine S.la0 rfl ?_ | refine S.la1 rfl ?_ | refine S.la2 rfl ?_ | refine S.la3 rfl ?_ | refine S.la4 rfl ?_ | refine S.la5 rfl ?_ | refine S.ld0 rfl rfl ?_ | refine S.ld1 rfl rfl ?_ | refine S.ld2 rfl rfl ?_ | refine S.ld3 rfl rfl ?_ | refine S.ld4 rfl rfl ?_ | refine S.ld5 rfl rfl ?_ | refine S.st0 (by rfl) λ_ S f=>?_ | refine S.st1 (by rfl) λ_ S f=>?_ | refine S.st2 (by rfl) λ_ S f=>?_ | refine S.st3 (by rfl) λ_ S f=>?_ | refine S.st4 (by rfl) λ_ S f=>?_ | refine S.st5 (by rfl) λ_ S f=>?_ | refine S.su0 (by rfl) λ_ S f=>?_ | refine S.su1 (by rfl) λ_ S f=>?_ | refine S.su2 (by rfl) λ_ S f=>?_ | refine S.su3 (by rfl) λ_ S f=>?_ | refine S.su4 (by rfl) λ_ S f=>?_ | refine S.su5 (by rfl) λ_ S f=>?_ | refine ⟨by decide,?_⟩);try dsimp only [List.set_cons_zero,List.set_cons_succ,cond_true,cond_false,Bool.not_true,Bool.not_false]))
   refine cond_ne (λh=>absurd (by omega) h) λ_=>?_
   (repeat ((first | refine S.newB λ_ _ S f _=>?_ | refine S.la0 rfl ?_ | refine S.la1 rfl ?_ | refine S.la2 rfl ?_ | refine S.la3 rfl ?_ | refine S.la4 rfl ?_ | refine S.la5 rfl ?_ | refine S.ld0 rfl rfl ?_ | refine S.ld1 rfl rfl ?_ | refine S.ld2 rfl rfl ?_ | refine S.ld3 rfl rfl ?_ | refine S.ld4 rfl rfl ?_ | refine S.ld5 rfl rfl ?_ | refine S.st0 (by rfl) λ_ S f=>?_ | refine S.st1 (by rfl) λ_ S f=>?_ | refine S.st2 (by rfl) λ_ S f=>?_ | refine S.st3 (by rfl) λ_ S f=>?_ | refine S.st4 (by rfl) λ_ S f=>?_ | refine S.st5 (by rfl) λ_ S f=>?_ | refine S.su0 (by rfl) λ_ S f=>?_ | refine S.su1 (by rfl) λ_ S f=>?_ | refine S.su2 (by rfl) λ_ S f=>?_ | refine S.su3 (by rfl) λ_ S f=>?_ | refine S.su4 (by rfl) λ_ S f=>?_ | refine S.su5 (by rfl) λ_ S f=>?_ | refine ⟨by decide,?_⟩);try dsimp only [List.set_cons_zero,List.set_cons_succ,cond_true,cond_false,Bool.not_true,Bool.not_false]))
   refine (End_c hg (ht.ext S.ext)).mono ?_
   rintro ⟨⟨ea,en,ec⟩,(e4:Int),⟨⟩⟩ w4 ⟨x4,h4,h4'⟩
   dsimp only at h4 h4' ⊢
   by_cases hE:ERight h m
   ·obtain ⟨k1,k2⟩:=h4 hE
    refine cond_f (by rw [k2];rfl) ?_
    have l4:=k1.ints.len
    have l4':(endL h ts).length=88:=endL_length h (by have:=hE.2;omega)
    have S:=S.res ⟨x4,k1.own⟩
    dsimp only at S l4
    (repeat ((first | refine S.newB λ_ _ S f _=>?_ | refine S.la0 rfl ?_ | refine S.la1 rfl ?_ | refine S.la2 rfl ?_ | refine S.la3 rfl ?_ | refine S.la4 rfl ?_ | refine S.la5 rfl ?_ | refine S.ld0 rfl rfl ?_ | refine S.ld1 rfl rfl ?_ | refine S.ld2 rfl rfl ?_ | refine S.ld3 rfl rfl ?_ | refine S.ld4 rfl rfl ?_ | refine S.ld5 rfl rfl ?_ | refine S.st0 (by rfl) λ_ S f=>?_ | refine S.st1 (by rfl) λ_ S f=>?_ | refine S.st2 (by rfl) λ_ S f=>?_ | refine S.st3 (by rfl) λ_ S f=>?_ | refine S.st4 (by rfl) λ_ S f=>?_ | refine S.st5 (by rfl) λ_ S f=>?_ | refine S.su0 (by rfl) λ_ S f=>?_ | refine S.su1 (by rfl) λ_ S f=>?_ | refine S.su2 (by rfl) λ_ S f=>?_ | refine S.su3 (by rfl) λ_ S f=>?_ | refine S.su4 (by rfl) λ_ S f=>?_ | refine S.su5 (by rfl) λ_ S f=>?_ | refine ⟨by decide,?_⟩);try dsimp only [List.set_cons_zero,List.set_cons_succ,cond_true,cond_false,Bool.not_true,Bool.not_false]))
    have S:=S.asOwn (sz:=1) (n:=0) rfl (by omega) oneAll.nil
    refine S.ab0 (xs:=[]) S.in2 (by omega) λa5 c5 w5 S f5=>?_
    refine S.ab0 S.in1 (by omega) λa6 c6 w6 S f6=>?_
    have R:=S.out
    have hp:[]++List.replicate g.s.toNat 255++endL h ts=mkL g h xs ts:=by unfold mkL payL;rw [if_pos (by omega)];rfl
    rw [hp] at R
    refine ⟨S.ext,λ_=>⟨R,rfl⟩,λhn=>absurd ⟨hR,hE,.inl (by omega)⟩ hn⟩
   ·obtain ⟨k1,k2⟩:=h4' hE
    rw [k2]
    exact cond_t rfl (no (λhp=>hE hp.2.1) (S.ext.trans x4))
  ·(repeat ((first | refine S.newB λ_ _ S f _=>?_ | refine S.la0 rfl ?_ | refine S.la1 rfl ?_ | refine S.la2 rfl ?_ | refine S.la3 rfl ?_ | refine S.la4 rfl ?_ | refine S.la5 rfl ?_ | refine S.ld0 rfl rfl ?_ | refine S.ld1 rfl rfl ?_ | refine S.ld2 rfl rfl ?_ | refine S.ld3 rfl rfl ?_ | refine S.ld4 rfl rfl ?_ | refine S.ld5 rfl rfl ?_ | refine S.st0 (by rfl) λ_ S f=>?_ | refine S.st1 (by rfl) λ_ S f=>?_ | refine S.st2 (by rfl) λ_ S f=>?_ | refine S.st3 (by rfl) λ_ S f=>?_ | refine S.st4 (by rfl) λ_ S f=>?_ | refine S.st5 (by rfl) λ_ S f=>?_ | refine S.su0 (by rfl) λ_ S f=>?_ | refine S.su1 (by rfl) λ_ S f=>?_ | refine S.su2 (by rfl) λ_ S f=>?_ | refine S.su3 (by rfl) λ_ S f=>?_ | refine S.su4 (by rfl) λ_ S f=>?_ | refine S.su5 (by rfl) λ_ S f=>?_ | refine ⟨by decide,?_⟩);try dsimp only [List.set_cons_zero,List.set_cons_succ,cond_true,cond_false,Bool.not_true,Bool.not_false]))
   refine cond_ne (λhne=>no (λhp=>by have:=hp.2.2;omega) S.ext) λheq=>?_
   (repeat ((first | refine S.newB λ_ _ S f _=>?_ | refine S.la0 rfl ?_ | refine S.la1 rfl ?_ | refine S.la2 rfl ?_ | refine S.la3 rfl ?_ | refine S.la4 rfl ?_ | refine S.la5 rfl ?_ | refine S.ld0 rfl rfl ?_ | refine S.ld1 rfl rfl ?_ | refine S.ld2 rfl rfl ?_ | refine S.ld3 rfl rfl ?_ | refine S.ld4 rfl rfl ?_ | refine S.ld5 rfl rfl ?_ | refine S.st0 (by rfl) λ_ S f=>?_ | refine S.st1 (by rfl) λ_ S f=>?_ | refine S.st2 (by rfl) λ_ S f=>?_ | refine S.st3 (by rfl) λ_ S f=>?_ | refine S.st4 (by rfl) λ_ S f=>?_ | refine S.st5 (by rfl) λ_ S f=>?_ | refine S.su0 (by rfl) λ_ S f=>?_ | refine S.su1 (by rfl) λ_ S f=>?_ | refine S.su2 (by rfl) λ_ S f=>?_ | refine S.su3 (by rfl) λ_ S f=>?_ | refine S.su4 (by rfl) λ_ S f=>?_ | refine S.su5 (by rfl) λ_ S f=>?_ | refine ⟨by decide,?_⟩);try dsimp only [List.set_cons_zero,List.set_cons_succ,cond_true,cond_false,Bool.not_true,Bool.not_false]))
   refine (End_c hg (ht.ext S.ext)).mono ?_
   rintro ⟨⟨ea,en,ec⟩,(e4:Int),⟨⟩⟩ w4 ⟨x4,h4,h4'⟩
   dsimp only at h4 h4' ⊢
   by_cases hE:ERight h m
   ·obtain ⟨k1,k2⟩:=h4 hE
    refine cond_f (by rw [k2];rfl) ?_
    have l4:=k1.ints.len
    have l4':(endL h ts).length=88:=endL_length h (by have:=hE.2;omega)
    have S:=S.res ⟨x4,k1.own⟩
    dsimp only at S l4
    (repeat ((first | refine S.newB λ_ _ S f _=>?_ | refine S.la0 rfl ?_ | refine S.la1 rfl ?_ | refine S.la2 rfl ?_ | refine S.la3 rfl ?_ | refine S.la4 rfl ?_ | refine S.la5 rfl ?_ | refine S.ld0 rfl rfl ?_ | refine S.ld1 rfl rfl ?_ | refine S.ld2 rfl rfl ?_ | refine S.ld3 rfl rfl ?_ | refine S.ld4 rfl rfl ?_ | refine S.ld5 rfl rfl ?_ | refine S.st0 (by rfl) λ_ S f=>?_ | refine S.st1 (by rfl) λ_ S f=>?_ | refine S.st2 (by rfl) λ_ S f=>?_ | refine S.st3 (by rfl) λ_ S f=>?_ | refine S.st4 (by rfl) λ_ S f=>?_ | refine S.st5 (by rfl) λ_ S f=>?_ | refine S.su0 (by rfl) λ_ S f=>?_ | refine S.su1 (by rfl) λ_ S f=>?_ | refine S.su2 (by rfl) λ_ S f=>?_ | refine S.su3 (by rfl) λ_ S f=>?_ | refine S.su4 (by rfl) λ_ S f=>?_ | refine S.su5 (by rfl) λ_ S f=>?_ | refine ⟨by decide,?_⟩);try dsimp only [List.set_cons_zero,List.set_cons_succ,cond_true,cond_false,Bool.not_true,Bool.not_false]))
    have S:=S.asOwn (sz:=1) (n:=0) rfl (by omega) oneAll.nil
    refine S.ab0 (xs:=[]) (hx.ext S.ext) (by omega) λa5 c5 w5 S f5=>?_
    refine S.ab0 S.in1 (by omega) λa6 c6 w6 S f6=>?_
    have R:=S.out
    have hp:[]++xs++endL h ts=mkL g h xs ts:=by unfold mkL payL;rw [if_neg (by omega)];rfl
    rw [hp] at R
    refine ⟨S.ext,λ_=>⟨R,rfl⟩,λhn=>absurd ⟨hR,hE,.inr (by omega)⟩ hn⟩
   ·obtain ⟨k1,k2⟩:=h4' hE
    rw [k2]
    exact cond_t rfl (no (λhp=>hE hp.2.1) (S.ext.trans x4))
 ·refine cond_t (by unfold chkE;rw [if_neg hR];rfl) ?_
  exact no (λhp=>hR hp.1) S.ext
end Go.Proofs.YtbaojfchlhlaeaaGreat.Vc
namespace Go.Proofs.YtbaojfchlhlaeaaGreat.Vc
open Go Go.Eng
def ref14_Read.T (w21:World) (b19:Nat) (b1:Nat) (K:(Int×Int×Int×Int×Int×Int×Unit)×Bool×Unit->World->Prop) (c0:Nat) (a0:Option Addr):Prop:=
LoadA w21 ⟨b19,0,none⟩ [.int .i64,.int .i64,.int .i64,.int .u32,.int .u64,.int .u64] λ(x22:Int×Int×Int×Int×Int×Int×Unit)=>
 CallV Tryz.prog 235 #[.agg #[.int .i64 x22.1,.int .i64 x22.2.1,.int .i64 x22.2.2.1,.int .u32 x22.2.2.2.1,.int .u64 x22.2.2.2.2.1,.int .u64 x22.2.2.2.2.2.1]] w21 [.one .bool] λ(r23:Bool×Unit) w24=>
 cond (!r23.1)
 (StoreV w24 ⟨b1,0,none⟩ [.int .i64 0,.int .i64 0,.int .i64 0,.int .u32 0,.int .u64 0,.int .u64 0] λw25=>
 LoadA w25 ⟨b1,0,none⟩ [.int .i64,.int .i64,.int .i64,.int .u32,.int .u64,.int .u64] λ(x26:Int×Int×Int×Int×Int×Int×Unit)=>
 K ((x26.1,x26.2.1,x26.2.2.1,x26.2.2.2.1,x26.2.2.2.2.1,x26.2.2.2.2.2.1,()),false,()) w25)
 (DrawV λD27=>
 (D27 b19/\LoadA w24.drew ⟨b19,0,none⟩ [.int .i64,.int .i64,.int .i64,.int .u32,.int .u64,.int .u64] λ(x28:Int×Int×Int×Int×Int×Int×Unit)=>
 (D27 b19/\LoadA w24.drew ⟨b19,0,none⟩ [.int .i64,.int .i64,.int .i64,.int .u32,.int .u64,.int .u64] λ(x29:Int×Int×Int×Int×Int×Int×Unit)=>
 ((0:Int)<=(48:Int)/\(48:Int)<=((c0:Nat):Int)) /\
 SubK a0 0 c0 1 λa30=>
 CallV Tryz.prog 236 #[.agg #[.int .i64 x28.1,.int .i64 x28.2.1,.int .i64 x28.2.2.1,.int .u32 x28.2.2.2.1,.int .u64 x28.2.2.2.2.1,.int .u64 x28.2.2.2.2.2.1]] w24.drew [.one .sl] λ(r31:SlV×Unit) w32=>
 KeepOn D27 w24.drew w32 /\
 CallV Tryz.prog 236 #[.agg #[.int .i64 x29.1,.int .i64 x29.2.1,.int .i64 x29.2.2.1,.int .u32 x29.2.2.2.1,.int .u64 x29.2.2.2.2.1,.int .u64 x29.2.2.2.2.2.1]] w32 [.one .sl] λ(r33:SlV×Unit) w34=>
 KeepOn D27 w24.drew w34 /\
 CallV Tryz.prog 237 #[.slice r33.1.a r33.1.n r33.1.c] w34 [.one .sl] λ(r35:SlV×Unit) w36=>
 KeepOn D27 w24.drew w36 /\
 AppS w36 r35.1.a r35.1.n 1 λns41=>
 AppV w36 5 1 1 r31.1.a r31.1.n r31.1.c ns41 r35.1.n λa37 n38 c39 w40=>
 KeepOn D27 w24.drew w40 /\
 CallV Tryz.prog 70 #[.slice a37 n38 c39,.slice a30 (48-0) (c0-0)] w40 [.one .bool] λ(r42:Bool×Unit) w43=>
 KeepOn D27 w24.drew w43 /\
 cond (!r42.1)
 (StoreV w43 ⟨b1,0,none⟩ [.int .i64 0,.int .i64 0,.int .i64 0,.int .u32 0,.int .u64 0,.int .u64 0] λw44=>
 LoadA w44 ⟨b1,0,none⟩ [.int .i64,.int .i64,.int .i64,.int .u32,.int .u64,.int .u64] λ(x45:Int×Int×Int×Int×Int×Int×Unit)=>
 K ((x45.1,x45.2.1,x45.2.2.1,x45.2.2.2.1,x45.2.2.2.2.1,x45.2.2.2.2.2.1,()),false,()) w44)
 (LoadA w43 ⟨b19,0,none⟩ [.int .i64,.int .i64,.int .i64,.int .u32,.int .u64,.int .u64] λ(x46:Int×Int×Int×Int×Int×Int×Unit)=>
 StoreV w43 ⟨b1,0,none⟩ [.int .i64 x46.1,.int .i64 x46.2.1,.int .i64 x46.2.2.1,.int .u32 x46.2.2.2.1,.int .u64 x46.2.2.2.2.1,.int .u64 x46.2.2.2.2.2.1] λw47=>
 LoadA w47 ⟨b1,0,none⟩ [.int .i64,.int .i64,.int .i64,.int .u32,.int .u64,.int .u64] λ(x48:Int×Int×Int×Int×Int×Int×Unit)=>
 K ((x48.1,x48.2.1,x48.2.2.1,x48.2.2.2.1,x48.2.2.2.2.1,x48.2.2.2.2.2.1,()),true,()) w47))))
end Go.Proofs.YtbaojfchlhlaeaaGreat.Vc
namespace Go.Proofs.YtbaojfchlhlaeaaGreat.Vc
open Go Go.Eng Go.RowKit
def rRPost (w:World) (xs:List Int) (r:(Int×Int×Int×Int×Int×Int×Unit)×Bool×Unit) (w':World):Prop:=
 Ext w w'/\(okR xs->r.1=(hdOf xs).tup/\r.2.1=true)/\(¬ okR xs->r.1=zeroH.tup/\r.2.1=false)
theorem rReadTail {w w21:World} {xs:List Int} {a0:Option Addr} {c0 b1 b19:Nat} (x21:Ext w w21) (hb1:Box w21 w.heap.size b1 62 zeroH.vs) (hb19:Box w21 w.heap.size b19 62 (hdOf xs).vs) (hne:b1≠b19)
  (hx:Ints w .u8 a0 88 c0 xs) (bx:Byt xs):ref14_Read.T w21 b19 b1 (rRPost w xs) c0 a0:=by
 have hl:=hx.len
 have hcap:=hx.cap
 have hg:=hdOf_rng bx (by omega)
 unfold ref14_Read.T
 refine ldH (h:=hdOf xs) hb19 ?_
 refine (HRight_c (h:=hdOf xs)).mono ?_
 rintro ⟨(r1:Bool),⟨⟩⟩ w1 ⟨h1,x1⟩
 dsimp only at h1 ⊢
 subst h1
 have fail:∀ {w':World},Ext w21 w'->¬ okR xs->StoreV w' ⟨b1,0,none⟩ [.int .i64 0,.int .i64 0,.int .i64 0,.int .u32 0,.int .u64 0,.int .u64 0] λw33=>
   LoadA w33 ⟨b1,0,none⟩ [.int .i64,.int .i64,.int .i64,.int .u32,.int .u64,.int .u64] λ(x34:Int×Int×Int×Int×Int×Int×Unit)=>
   rRPost w xs ((x34.1,x34.2.1,x34.2.2.1,x34.2.2.2.1,x34.2.2.2.2.1,x34.2.2.2.2.2.1,()),false,()) w33:=λe hno=>by
  refine (hb1.ext e).store 0 (by simp) λw3 hb3 bel3 _ _=>?_
  refine ldH (h:=zeroH) hb3 ?_
  exact ⟨Below.trans (x21.trans e) bel3,λh=>absurd h hno,λ_=>⟨rfl,rfl⟩⟩
 have iff:=okR_iff bx hl
 by_cases hR:¬ HRight (hdOf xs)
 ·exact cond_t (by rw [decide_eq_false hR];rfl) (fail x1 (λh=>hR (iff.1 h).1))
 have hR:=Decidable.not_not.1 hR
 refine cond_f (by rw [decide_eq_true hR];rfl) ?_
 refine DrawV.old w1 λD hD hkeep=>?_
 have b19':=hb19.ext x1
 have hD1:=hD _ b19'.lt
 have xd:=Ext.drew w1
 have X1:=x21.trans x1
 refine ⟨hD1,ldH (h:=hdOf xs) (b19'.ext xd) ⟨hD1,ldH (h:=hdOf xs) (b19'.ext xd) ⟨by omega,?_⟩⟩⟩
 intro a30 ha30
 have i30:=sub_part (hx.ext X1) (i:=0) (j:=48) (m:=c0) (by omega) (by omega) (by omega) ha30
 refine (rBytes_c (h:=hdOf xs) hg hR).mono ?_
 rintro ⟨⟨sa,sn,sc⟩,⟨⟩⟩ w2 h2
 dsimp only at h2 ⊢
 have x2:=xd.trans h2.ext
 refine ⟨hkeep _ x2,?_⟩
 refine (rBytes_c (h:=hdOf xs) hg hR).mono ?_
 rintro ⟨(s3:SlV),⟨⟩⟩ w3 h3
 dsimp only at h3 ⊢
 have x3:=x2.trans h3.ext
 refine ⟨hkeep _ x3,?_⟩
 have l2:=h2.ints.len
 rw [hdL_length] at l2
 dsimp only at l2
 subst l2
 have l3:=h3.ints.len
 rw [hdL_length] at l3
 refine (rInvert_c h3.ints (by omega)).mono ?_
 rintro ⟨⟨va,vn,vc⟩,⟨⟩⟩ w4 h4
 dsimp only at h4 ⊢
 have l4:=h4.ints.len
 rw [show (invL (hdL (hdOf xs))).length=24 by simp [invL,hdL_length]] at l4
 dsimp only at l4
 subst l4
 have x4:=x3.trans h4.ext
 refine ⟨hkeep _ x4,?_⟩
 have o4:=(h2.own.ext (h3.ext.trans h4.ext)).mono xd.size
 refine appL o4 h4.ints x4.size (by omega) λa5 c5 w5 o5 b5=>?_
 have x5:Ext w1 w5:=Below.trans x4 b5
 refine ⟨hkeep _ x5,?_⟩
 refine (SameBytes_c o5.ints (i30.ext x5)).mono ?_
 rintro ⟨(r6:Bool),⟨⟩⟩ w6 ⟨h6,x6⟩
 dsimp only at h6 ⊢
 have X6:=x5.trans x6
 refine ⟨hkeep _ X6,?_⟩
 refine cond_of (λhc=>fail (x1.trans X6) (λhok=>by
  rw [h6,decide_eq_true (iff.1 hok).2] at hc
  cases hc)) (λhc=>?_)
 have hok:okR xs:=iff.2 ⟨hR,by
  rw [h6] at hc
  simpa using hc⟩
 refine ldH (h:=hdOf xs) (b19'.ext X6) ?_
 refine (hb1.ext (x1.trans X6)).store 0 (by simp) λw7 hb7 bel7 _ _=>?_
 refine ldH (h:=hdOf xs) hb7 ?_
 exact ⟨Below.trans (X1.trans X6) bel7,λ_=>⟨rfl,rfl⟩,λh=>absurd hok h⟩
theorem rRead_c {w:World} {a0:Option Addr} {n0 c0:Nat} {xs:List Int} (hx:Ints w .u8 a0 n0 c0 xs) (bx:Byt xs) (h88:n0=88) :
  CallV Tryz.prog 189 #[.slice a0 n0 c0] w [.agg [.int .i64,.int .i64,.int .i64,.int .u32,.int .u64,.int .u64],.one .bool] λr w'=>rRPost w xs r w':=by
 subst h88
 refine ref14_Read.vc _ _ _ _ _ ?_
 unfold ref14_Read.P
 have lx:=hx.len
 have hcap:=hx.cap
 refine newH (h:=zeroH) λb1 w2 e2 hb1=>?_
 refine DrawV.old w2 λD hD hkeep=>?_
 have b0:=bx.getD 0
 have b1':=bx.getD 1
 have b2:=bx.getD 2
 have x2:=Ext.drew w2
 have y2:=e2.trans x2
 refine (hx.ext e2).idxD x2 (i:=0) (by omega) (by omega) hD ?_
 refine (hx.ext e2).idxD x2 (i:=1) (by omega) (by omega) hD ?_
 refine (hx.ext e2).idxD x2 (i:=2) (by omega) (by omega) hD ?_
 rw [show (0:Int).toNat=0 from rfl,show (1:Int).toNat=1 from rfl,show (2:Int).toNat=2 from rfl]
 rw [i64_id (by omega:-9223372036854775808<=xs.getD 0 0) (by omega),i64_id (by omega:-9223372036854775808<=xs.getD 1 0) (by omega),i64_id (by omega:-9223372036854775808<=xs.getD 2 0) (by omega)]
 refine ⟨by omega,?_⟩
 intro a10 ha10
 refine ⟨by omega,?_⟩
 intro a11 ha11
 refine ⟨by omega,?_⟩
 intro a12 ha12
 have h10:=sub_part hx (i:=4) (j:=8) (m:=c0) (by omega) (by omega) (by omega) ha10
 have h11:=sub_part hx (i:=8) (j:=16) (m:=c0) (by omega) (by omega) (by omega) ha11
 have h12:=sub_part hx (i:=16) (j:=24) (m:=c0) (by omega) (by omega) (by omega) ha12
 generalize hW:w2.drew=W at *
 have nbl:=numB_bd (part_byt bx 4 8) (part_length (by omega) (by omega)) (by omega)
 have hu:IntKind.u32.wrap (numB (part xs 4 8))=numB (part xs 4 8):=by rw [u32_wrap];exact Int.emod_eq_of_lt nbl.1 (by have:=nbl.2;simpa using this)
 have keepW:∀ {w':World},Ext W w'->KeepOn D W w':=λe=>hkeep _ (x2.trans e)
 have hb1W:=hb1.ext x2
 have done:∀ {w25:World} {b24:Nat},Ext W w25->Box w25 W.heap.size b24 62 zeroH.vs->StoreV w25 ⟨b24,0,none⟩ (hdOf xs).vs λw26=>KeepOn D W w26/\ref14_Read.T w26 b24 b1 (rRPost w xs) c0 a0:=λ{w25 b24} e25 hb24=>by
  refine hb24.store 0 (by simp) λw26 hb26 bel26 _ _=>?_
  have X26:Ext W w26:=Below.trans e25 bel26
  refine ⟨keepW X26,?_⟩
  refine rReadTail (y2.trans X26) (hb1W.ext X26) ⟨Nat.le_trans y2.size hb26.base,hb26.heap⟩ (λh=>?_) hx bx
  have:=hb1W.lt
  have:=hb24.base
  omega
 have N10:∀ {w':World},Ext W w'->CallV Tryz.prog 234 #[.slice a10 (8-4) (c0-4)] w' [.one (.int .u64)] λr w2=>r.1=numB (part xs 4 8)/\Ext w' w2:=λe=>rNum_c (h10.ext (y2.trans e)) (part_byt bx 4 8) (by omega)
 have N11:∀ {w':World},Ext W w'->CallV Tryz.prog 234 #[.slice a11 (16-8) (c0-8)] w' [.one (.int .u64)] λr w2=>r.1=numB (part xs 8 16)/\Ext w' w2:=λe=>rNum_c (h11.ext (y2.trans e)) (part_byt bx 8 16) (by omega)
 have N12:∀ {w':World},Ext W w'->CallV Tryz.prog 234 #[.slice a12 (24-16) (c0-16)] w' [.one (.int .u64)] λr w2=>r.1=numB (part xs 16 24)/\Ext w' w2:=λe=>rNum_c (h12.ext (y2.trans e)) (part_byt bx 16 24) (by omega)
 have newZ:∀ {w':World} {K:Nat->World->Prop},Ext W w'->(∀ b w1,Ext w' w1->Ext W w1->Box w1 W.heap.size b 62 zeroH.vs->K b w1)->NewV #[.int .i64 0,.int .i64 0,.int .i64 0,.int .u32 0,.int .u64 0,.int .u64 0] 62 w' K:=λe hk=>newH (h:=zeroH) λb w1 e1 hb=>hk b w1 e1 (e.trans e1) ⟨Nat.le_trans e.size hb.base,hb.heap⟩
 refine ⟨?_,?_⟩
 ·refine (N10 (Ext.refl _)).mono ?_
  rintro ⟨(r1:Int),⟨⟩⟩ w3 ⟨q1,e3⟩
  dsimp only at q1 ⊢
  subst q1
  rw [hu]
  refine ⟨keepW e3,?_,?_⟩
  ·refine (N11 e3).mono ?_
   rintro ⟨(r2:Int),⟨⟩⟩ w4 ⟨q2,e4⟩
   dsimp only at q2 ⊢
   subst q2
   have X4:=e3.trans e4
   refine ⟨keepW X4,?_,?_⟩
   ·refine (N12 X4).mono ?_
    rintro ⟨(r3:Int),⟨⟩⟩ w5 ⟨q3,e5⟩
    dsimp only at q3 ⊢
    subst q3
    exact ⟨keepW (X4.trans e5),newZ (X4.trans e5) λb24 w25 _ e25 hb24=>⟨keepW e25,done e25 hb24⟩⟩
   ·refine newZ X4 λb24 w25 _ e25 hb24=>⟨keepW e25,?_⟩
    refine (N12 e25).mono ?_
    rintro ⟨(r3:Int),⟨⟩⟩ w5 ⟨q3,e5⟩
    dsimp only at q3 ⊢
    subst q3
    exact ⟨keepW (e25.trans e5),done (e25.trans e5) (hb24.ext e5)⟩
  ·refine newZ e3 λb24 w25 _ e25 hb24=>⟨keepW e25,?_⟩
   refine (N11 e25).mono ?_
   rintro ⟨(r2:Int),⟨⟩⟩ w4 ⟨q2,e4⟩
   dsimp only at q2 ⊢
   subst q2
   have X4:=e25.trans e4
   refine ⟨keepW X4,?_⟩
   refine (N12 X4).mono ?_
   rintro ⟨(r3:Int),⟨⟩⟩ w5 ⟨q3,e5⟩
   dsimp only at q3 ⊢
   subst q3
   exact ⟨keepW (X4.trans e5),done (X4.trans e5) (hb24.ext (e4.trans e5))⟩
 ·refine newZ (Ext.refl _) λb24 w25 _ e25 hb24=>⟨keepW e25,?_⟩
  refine (N10 e25).mono ?_
  rintro ⟨(r1:Int),⟨⟩⟩ w3 ⟨q1,e3⟩
  dsimp only at q1 ⊢
  subst q1
  rw [hu]
  have X3:=e25.trans e3
  refine ⟨keepW X3,?_⟩
  refine (N11 X3).mono ?_
  rintro ⟨(r2:Int),⟨⟩⟩ w4 ⟨q2,e4⟩
  dsimp only at q2 ⊢
  subst q2
  have X4:=X3.trans e4
  refine ⟨keepW X4,?_⟩
  refine (N12 X4).mono ?_
  rintro ⟨(r3:Int),⟨⟩⟩ w5 ⟨q3,e5⟩
  dsimp only at q3 ⊢
  subst q3
  exact ⟨keepW (X4.trans e5),done (X4.trans e5) (hb24.ext (e3.trans (e4.trans e5)))⟩
theorem PCommit_c {w:World} {g:Geo}:CallV Tryz.prog 206 #[g.val] w [.one .sl,.one (.int .i64)] λr w'=>Ext w w'/\(Right g->Res w w' r.1 (comL g)/\r.2.1=(0:Int))/\(¬ Right g->r.1=(⟨none,0,0⟩:SlV)/\r.2.1=(2:Int)):=by
 apply page_Commit.vc
 unfold page_Commit.P
 have S:=Sep.start NoB w
 (repeat ((first | refine S.newB λ_ _ S f _=>?_ | refine S.la0 rfl ?_ | refine S.la1 rfl ?_ | refine S.la2 rfl ?_ | refine S.la3 rfl ?_ | refine S.la4 rfl ?_ | refine S.la5 rfl ?_ | refine S.ld0 rfl rfl ?_ | refine S.ld1 rfl rfl ?_ | refine S.ld2 rfl rfl ?_ | refine S.ld3 rfl rfl ?_ | refine S.ld4 rfl rfl ?_ | refine S.ld5 rfl rfl ?_ | refine S.st0 (by rfl) λ_ S f=>?_ | refine S.st1 (by rfl) λ_ S f=>?_ | refine S.st2 (by rfl) λ_ S f=>?_ | refine S.st3 (by rfl) λ_ S f=>?_ | refine S.st4 (by rfl) λ_ S f=>?_ | refine S.st5 (by rfl) λ_ S f=>?_ | refine S.su0 (by rfl) λ_ S f=>?_ | refine S.su1 (by rfl) λ_ S f=>?_ | refine S.su2 (by rfl) λ_ S f=>?_ | refine S.su3 (by rfl) λ_ S f=>?_ | refine S.su4 (by rfl) λ_ S f=>?_ | refine S.su5 (by rfl) λ_ S f=>?_ | refine ⟨by decide,?_⟩);try dsimp only [List.set_cons_zero,List.set_cons_succ,cond_true,cond_false,Bool.not_true,Bool.not_false]))
 refine (Check_c (g:=g)).mono ?_
 rintro ⟨(r:Int),⟨⟩⟩ w2 ⟨h2,e2⟩
 dsimp only at h2 ⊢
 have S:=S.stepE e2
 subst h2
 by_cases hR:Right g
 ·refine cond_f (by unfold chkE;rw [if_pos hR];rfl) ?_
  have hs:=hR.sec
  (repeat ((first | refine S.newB λ_ _ S f _=>?_ | refine S.la0 rfl ?_ | refine S.la1 rfl ?_ | refine S.la2 rfl ?_ | refine S.la3 rfl ?_ | refine S.la4 rfl ?_ | refine S.la5 rfl ?_ | refine S.ld0 rfl rfl ?_ | refine S.ld1 rfl rfl ?_ | refine S.ld2 rfl rfl ?_ | refine S.ld3 rfl rfl ?_ | refine S.ld4 rfl rfl ?_ | refine S.ld5 rfl rfl ?_ | refine S.st0 (by rfl) λ_ S f=>?_ | refine S.st1 (by rfl) λ_ S f=>?_ | refine S.st2 (by rfl) λ_ S f=>?_ | refine S.st3 (by rfl) λ_ S f=>?_ | refine S.st4 (by rfl) λ_ S f=>?_ | refine S.st5 (by rfl) λ_ S f=>?_ | refine S.su0 (by rfl) λ_ S f=>?_ | refine S.su1 (by rfl) λ_ S f=>?_ | refine S.su2 (by rfl) λ_ S f=>?_ | refine S.su3 (by rfl) λ_ S f=>?_ | refine S.su4 (by rfl) λ_ S f=>?_ | refine S.su5 (by rfl) λ_ S f=>?_ | refine ⟨by decide,?_⟩);try dsimp only [List.set_cons_zero,List.set_cons_succ,cond_true,cond_false,Bool.not_true,Bool.not_false]))
  refine (PageSize_c (g:=g)).mono ?_
  rintro ⟨(r3:Int),⟨⟩⟩ w3 ⟨h3,e3⟩
  dsimp only at h3 ⊢
  have S:=S.stepE e3
  rw [if_pos hR] at h3
  subst h3
  refine (MarkLen_c (by omega)).mono ?_
  rintro ⟨(r4:SlV),⟨⟩⟩ w4 h4
  have E:=S.ext.trans h4.ext
  rw [show g.s+88-8=g.s+80 by omega] at h4
  exact ⟨E,λ_=>⟨h4.after S.ext,rfl⟩,λhn=>absurd hR hn⟩
 ·exact cond_t (by unfold chkE;rw [if_neg hR];rfl) ⟨S.ext,λh=>absurd h hR,λ_=>⟨rfl,rfl⟩⟩
def endP (g:Geo) (xs:List Int):List Int:=xs.drop g.s.toNat
def lenP (g:Geo) (xs:List Int):Prop:=Right g/\(xs.length:Int)=g.s+88
instance (g:Geo) (xs:List Int):Decidable (lenP g xs):=by unfold lenP;infer_instance
abbrev pays (g:Geo) (xs:List Int):List Int:=xs.take g.s.toNat
abbrev tags (g:Geo) (xs:List Int):List Int:=part (endP g xs) 48 80
abbrev PgU:Type:=Int×Int×Int×Int×Int×Int×SlV×SlV×Bool×Bool×Unit
abbrev zPu:PgU:=((0:Int),(0:Int),(0:Int),(0:Int),(0:Int),(0:Int),(⟨none,0,0⟩:SlV),(⟨none,0,0⟩:SlV),false,false,())
abbrev pgU (h:Hd) (s t:SlV) (d:Bool):PgU:=(h.k,h.n,h.c,h.l,h.e,h.t,s,t,d,true,())
theorem rPRead_c {w0 w:World} {g:Geo} {a:Option Addr} {n c:Nat} {xs:List Int} (hx:Ints w0 .u8 a n c xs) (e0:Ext w0 w) (bx:Byt xs) (hL:lenP g xs) :
  CallV Tryz.prog 131 #[g.val,.slice a n c] w [.agg [.int .i64,.int .i64,.int .i64,.int .u32,.int .u64,.int .u64,.sl,.sl,.bool,.bool]] λr w'=>
   Ext w w'/\(¬ okR (endP g xs)->r.1=zPu)/\(okR (endP g xs)->∃ s t:SlV,r.1=pgU (hdOf (endP g xs)) s t (comm (endP g xs))/\Ints w0 .u8 s.a s.n s.c (pays g xs)/\Ints w0 .u8 t.a t.n t.c (tags g xs)):=by
 apply ref15_Read.vc
 unfold ref15_Read.P
 have lx:=hx.len
 have hc:=hx.cap
 have hs:=hL.1.sec
 have hl:=hL.2
 have S:=Sep.start NoB w
 refine S.newB λb1 w1 S f _=>?_
 refine S.newB λb3 w2 S f _=>?_
 (repeat ((first | refine S.newB λ_ _ S f _=>?_ | refine S.la0 rfl ?_ | refine S.la1 rfl ?_ | refine S.la2 rfl ?_ | refine S.la3 rfl ?_ | refine S.la4 rfl ?_ | refine S.la5 rfl ?_ | refine S.ld0 rfl rfl ?_ | refine S.ld1 rfl rfl ?_ | refine S.ld2 rfl rfl ?_ | refine S.ld3 rfl rfl ?_ | refine S.ld4 rfl rfl ?_ | refine S.ld5 rfl rfl ?_ | refine S.st0 (by rfl) λ_ S f=>?_ | refine S.st1 (by rfl) λ_ S f=>?_ | refine S.st2 (by rfl) λ_ S f=>?_ | refine S.st3 (by rfl) λ_ S f=>?_ | refine S.st4 (by rfl) λ_ S f=>?_ | refine S.st5 (by rfl) λ_ S f=>?_ | refine S.su0 (by rfl) λ_ S f=>?_ | refine S.su1 (by rfl) λ_ S f=>?_ | refine S.su2 (by rfl) λ_ S f=>?_ | refine S.su3 (by rfl) λ_ S f=>?_ | refine S.su4 (by rfl) λ_ S f=>?_ | refine S.su5 (by rfl) λ_ S f=>?_ | refine ⟨by decide,?_⟩);try dsimp only [List.set_cons_zero,List.set_cons_succ,cond_true,cond_false,Bool.not_true,Bool.not_false]))
 refine ⟨⟨by omega,by omega⟩,?_⟩
 intro a6 ha6
 have i6:=hx.sub (l:=g.s.toNat) (hh:=n) (m:=c) (by omega) (by omega) (by omega) ha6
 rw [List.take_of_length_le (by rw [List.length_drop];omega)] at i6
 have i6:Ints w0 .u8 a6 (n-g.s.toNat) (c-g.s.toNat) (endP g xs):=i6
 have bt:Byt (endP g xs):=bx.drop _
 have le:(endP g xs).length=88:=by unfold endP;rw [List.length_drop];omega
 refine (rRead_c (i6.ext (e0.trans S.ext)) bt (by omega)).mono ?_
 rintro ⟨⟨(k1:Int),(k2:Int),(k3:Int),(k4:Int),(k5:Int),(k6:Int),⟨⟩⟩,(o:Bool),⟨⟩⟩ w3 ⟨x3,hok,hno⟩
 dsimp only at hok hno ⊢
 have S:=S.stepE x3
 by_cases hO:okR (endP g xs)
 case neg=>
  obtain ⟨-,h2⟩:=hno hO
  subst h2
  (repeat ((first | refine S.newB λ_ _ S f _=>?_ | refine S.la0 rfl ?_ | refine S.la1 rfl ?_ | refine S.la2 rfl ?_ | refine S.la3 rfl ?_ | refine S.la4 rfl ?_ | refine S.la5 rfl ?_ | refine S.ld0 rfl rfl ?_ | refine S.ld1 rfl rfl ?_ | refine S.ld2 rfl rfl ?_ | refine S.ld3 rfl rfl ?_ | refine S.ld4 rfl rfl ?_ | refine S.ld5 rfl rfl ?_ | refine S.st0 (by rfl) λ_ S f=>?_ | refine S.st1 (by rfl) λ_ S f=>?_ | refine S.st2 (by rfl) λ_ S f=>?_ | refine S.st3 (by rfl) λ_ S f=>?_ | refine S.st4 (by rfl) λ_ S f=>?_ | refine S.st5 (by rfl) λ_ S f=>?_ | refine S.su0 (by rfl) λ_ S f=>?_ | refine S.su1 (by rfl) λ_ S f=>?_ | refine S.su2 (by rfl) λ_ S f=>?_ | refine S.su3 (by rfl) λ_ S f=>?_ | refine S.su4 (by rfl) λ_ S f=>?_ | refine S.su5 (by rfl) λ_ S f=>?_ | refine ⟨by decide,?_⟩);try dsimp only [List.set_cons_zero,List.set_cons_succ,cond_true,cond_false,Bool.not_true,Bool.not_false]))
  exact ⟨S.ext,λ_=>rfl,λh=>absurd h hO⟩
 obtain ⟨h1,h2⟩:=hok hO
 subst h2
 have h1:(k1,k2,k3,k4,k5,k6,())=(hdOf (endP g xs)).tup:=h1
 simp only [Prod.mk.injEq,and_true] at h1
 obtain ⟨rfl,rfl,rfl,rfl,rfl,rfl⟩:=h1
 (repeat ((first | refine S.newB λ_ _ S f _=>?_ | refine S.la0 rfl ?_ | refine S.la1 rfl ?_ | refine S.la2 rfl ?_ | refine S.la3 rfl ?_ | refine S.la4 rfl ?_ | refine S.la5 rfl ?_ | refine S.ld0 rfl rfl ?_ | refine S.ld1 rfl rfl ?_ | refine S.ld2 rfl rfl ?_ | refine S.ld3 rfl rfl ?_ | refine S.ld4 rfl rfl ?_ | refine S.ld5 rfl rfl ?_ | refine S.st0 (by rfl) λ_ S f=>?_ | refine S.st1 (by rfl) λ_ S f=>?_ | refine S.st2 (by rfl) λ_ S f=>?_ | refine S.st3 (by rfl) λ_ S f=>?_ | refine S.st4 (by rfl) λ_ S f=>?_ | refine S.st5 (by rfl) λ_ S f=>?_ | refine S.su0 (by rfl) λ_ S f=>?_ | refine S.su1 (by rfl) λ_ S f=>?_ | refine S.su2 (by rfl) λ_ S f=>?_ | refine S.su3 (by rfl) λ_ S f=>?_ | refine S.su4 (by rfl) λ_ S f=>?_ | refine S.su5 (by rfl) λ_ S f=>?_ | refine ⟨by decide,?_⟩);try dsimp only [List.set_cons_zero,List.set_cons_succ,cond_true,cond_false,Bool.not_true,Bool.not_false]))
 have hne0:=S.ne 0 1 (by omega) rfl rfl
 have hne1:=S.ne 1 2 (by omega) rfl rfl
 refine S.regX (λk=>k=b3) λD hD hkeep Sd T=>?_
 refine ⟨hD _ Sd.bl0 hne0,Sd.la0 rfl ⟨hD _ Sd.bl2 (λe=>hne1 e.symm),Sd.ld2 rfl rfl ⟨⟨by omega,by omega⟩,?_⟩⟩⟩
 intro a17 ha17
 refine ⟨⟨by omega,by omega,by omega⟩,?_⟩
 intro a18 ha18
 have i17:=hx.sub (l:=0) (hh:=g.s.toNat) (m:=c) (by omega) (by omega) (by omega) ha17
 rw [List.drop_zero,Nat.sub_zero] at i17
 have i18:=sub_part i6 (i:=48) (j:=80) (m:=c-g.s.toNat) (by omega) (by omega) (by omega) ha18
 refine (rCommitted_c (i6.ext (e0.trans Sd.ext)) (by omega)).mono ?_
 rintro ⟨(r9:Bool),⟨⟩⟩ w9 ⟨h9,x9⟩
 dsimp only at h9 ⊢
 subst h9
 have S:=Sd.stepE x9
 refine ⟨hkeep _ (Fr.of x9).any,?_⟩
 refine S.st1 (by rfl) λw10 S f10=>⟨hkeep _ ((Fr.of x9).any.trans f10),S.la1 rfl ?_⟩
 exact ⟨S.ext,λh=>absurd hO h,λ_=>⟨_,_,rfl,i17,i18⟩⟩
theorem mkL_byt {g:Geo} {h:Hd} {xs ts:List Int} (hg:h.rng) (hR:HRight h) (bx:Byt xs) (bt:Byt ts):Byt (mkL g h xs ts):=by
 unfold mkL payL
 refine Byt.append ?_ (endL_byt hg hR bt)
 split
 ·exact Byt.replicate (by omega) (by omega) _
 ·exact bx
theorem comL_byt (g:Geo):Byt (comL g):=by
 unfold comL
 intro x hx
 rcases List.mem_append.1 hx with h | h
 ·rw [(List.mem_replicate.1 h).2];decide
 ·rw [(List.mem_replicate.1 h).2];decide
theorem comL_len (g:Geo):(comL g).length=(g.s+80).toNat+8:=by unfold comL;rw [List.length_append,List.length_replicate,List.length_replicate]
theorem chL_len (b:Int) (n:Nat) (φ:Blk->Blk) (L:List Blk):(chL b n φ L).length=L.length:=by unfold chL;split <;> simp
def dstP (C:CD) (L:List Blk) (b:Int):CD×List Blk×Int:=
 if (eraC C (4+b)).2=5 then
  (if (scrC (eraC C (4+b)).1 (4+b)).2=4 then ((scrC (eraC C (4+b)).1 (4+b)).1,chL b L.length fB L,4)
   else ((scrC (eraC C (4+b)).1 (4+b)).1,chL b L.length (sB ((scrC (eraC C (4+b)).1 (4+b)).2 == 0)) (chL b L.length fB L),if (scrC (eraC C (4+b)).1 (4+b)).2=0 then 5 else 17))
 else ((eraC C (4+b)).1,if (eraC C (4+b)).2=0 then chL b L.length eB L else L,(eraC C (4+b)).2)
def prgP (C:CD) (bl pa:Int) (xs:List Int):CD×Int:=if (progC C bl pa xs).2=0 then progC (progC C bl pa xs).1 bl pa (comL C.g) else progC C bl pa xs
def selP (C:CD) (b:Int):CD×Int:=progC C (4+b) 0 (comL C.g)
def begH (L:List Blk) (b ns:Int) (o:Hd):Hd:=⟨3,ns,0,IntKind.u32.wrap (gx L b.toNat).er,o.e,o.t⟩
def fstP (C:CD) (b:Int) (h:Hd) (sl:Bool):CD×Int:=
 if (progC C (4+b) 0 (mkL C.g h [] [])).2=0/\sl=true then selP (progC C (4+b) 0 (mkL C.g h [] [])).1 b else progC C (4+b) 0 (mkL C.g h [] [])
def begP (C:CD) (L:List Blk) (O:List Hd) (b ns:Int) (o:Hd) (sl:Bool):CD×List Blk×List Hd×Int:=
 if (fstP C b (begH L b ns o) sl).2=0 then ((fstP C b (begH L b ns o) sl).1,chL b L.length (hB ns) L,O.set b.toNat (begH L b ns o),0)
 else ((fstP C b (begH L b ns o) sl).1,L,O,(fstP C b (begH L b ns o) sl).2)
def opnP (ns:Int) (o:Hd) (sl:Bool):Nat->CD->List Blk->List Hd->(CD×List Blk×List Hd)×Int×Int
 | 0,C,L,O=>((C,L,O),0,19)
 | k+1,C,L,O=>
  if pickT L L.length<0 then ((C,L,O),0,19) else
  let r:=if (gx L (pickT L L.length).toNat).cl=true then (C,L,0) else dstP C L (pickT L L.length)
  if r.2.2=0 then
   (let s:=begP r.1 r.2.1 O (pickT L L.length) ns o sl
    if s.2.2.2=0 then ((s.1,s.2.1,s.2.2.1),pickT L L.length,0) else
    if s.2.2.2=4 then ((s.1,s.2.1,s.2.2.1),0,4) else
    let d:=dstP s.1 (chL (pickT L L.length) L.length fB s.2.1) (pickT L L.length)
    if d.2.2=4 then ((d.1,d.2.1,s.2.2.1),0,4) else opnP ns o sl k d.1 d.2.1 s.2.2.1)
  else if r.2.2=4 then ((r.1,r.2.1,O),0,4) else opnP ns o sl k r.1 r.2.1 O
structure PI (g:Geo) (n:Nat) (C:CD) (L:List Blk) (O:List Hd):Prop where
 ok:COk C
 gg:C.g=g
 nn:(n:Int)=g.b-4
 ll:L.length=n
 ol:O.length=n
 er:∀ x∈L,0<=x.er/\x.er<=(C.ops:Int)
section
variable {g:Geo} {n:Nat} {C:CD} {L:List Blk} {O:List Hd}
theorem chL_er {b m:Int} {N:Nat} {φ:Blk->Blk} {L:List Blk} (hφ:∀ x,(φ x).er=x.er) (hL:∀ x∈L,0<=x.er/\x.er<=m) (hm:0<=m):∀ x∈chL b N φ L,0<=x.er/\x.er<=m:=by
 intro x hx
 unfold chL at hx
 split at hx
 ·rcases List.mem_or_eq_of_mem_set hx with k | k
  ·exact hL x k
  ·rw [k,hφ,List.getD_eq_getElem?_getD]
   cases he:L[b.toNat]? with
   | none=>exact ⟨Int.le_refl _,hm⟩
   | some y=>exact hL y (List.mem_of_getElem? he)
 ·exact hL x hx
theorem PI.dst (h:PI g n C L O) (b:Int) (ho:C.ops+2<=1000000000000):PI g n (dstP C L b).1 (dstP C L b).2.1 O/\(dstP C L b).1.ops<=C.ops+2/\C.ops<=(dstP C L b).1.ops:=by
 obtain ⟨a1,a2,a3⟩:=eraC_ok h.ok (4+b) (by omega)
 obtain ⟨b1,b2⟩:=eraC_k C (4+b)
 have up:∀ {C':CD} {L':List Blk},COk C'->C'.g=C.g->C.ops<=C'.ops->L'.length=L.length->(∀ x∈L',0<=x.er/\x.er<=(C'.ops:Int))->PI g n C' L' O:=λc1 c2 c3 c4 c5=>⟨c1,c2.trans h.gg,h.nn,c4.trans h.ll,h.ol,c5⟩
 have hL2:∀ {m:Int},(C.ops:Int)<=m->∀ x∈L,0<=x.er/\x.er<=m:=λhm x hx=>by have:=h.er x hx;omega
 unfold dstP
 split
 ·obtain ⟨d1,d2,d3⟩:=scrC_ok a1 (4+b) (by omega)
  obtain ⟨e1,e2⟩:=scrC_k (eraC C (4+b)).1 (4+b)
  split
  ·dsimp only
   exact ⟨up d1 (e1.trans b1) (by omega) (chL_len ..) (chL_er (λ_=>rfl) (hL2 (by show _<=((scrC (eraC C (4+b)).1 (4+b)).1.ops:Int);omega)) (by show (0:Int)<=((scrC (eraC C (4+b)).1 (4+b)).1.ops:Int);omega)),by omega,by omega⟩
  ·dsimp only
   exact ⟨up d1 (e1.trans b1) (by omega) ((chL_len ..).trans (chL_len ..)) (chL_er (λ_=>rfl) (chL_er (λ_=>rfl) (hL2 (by show _<=((scrC (eraC C (4+b)).1 (4+b)).1.ops:Int);omega)) (by show (0:Int)<=((scrC (eraC C (4+b)).1 (4+b)).1.ops:Int);omega)) (by show (0:Int)<=((scrC (eraC C (4+b)).1 (4+b)).1.ops:Int);omega)),by omega,by omega⟩
 ·dsimp only
  refine ⟨up a1 b1 a3 (by split;exact chL_len ..;rfl) ?_,by omega,a3⟩
  split
  ·rename_i h0
   have hops:(eraC C (4+b)).1.ops=C.ops+1:=by
    unfold eraC at h0 ⊢
    split
    ·rfl
    ·rename_i hm
     rw [if_neg hm] at h0
     exact absurd h0 hm
   intro x hx
   unfold chL at hx
   rw [hops]
   push_cast
   split at hx
   ·rcases List.mem_or_eq_of_mem_set hx with k | k
    ·have:=h.er x k;omega
    ·rw [k]
     show 0<=(L.getD b.toNat default).er+1/\(L.getD b.toNat default).er+1<=_
     rw [List.getD_eq_getElem?_getD]
     cases he:L[b.toNat]? with
     | none=>exact ⟨by show (0:Int)<=0+1;decide,by show (0:Int)+1<=_;omega⟩
     | some y=>have:=h.er y (List.mem_of_getElem? he);exact ⟨by show 0<=y.er+1;omega,by show y.er+1<=_;omega⟩
   ·have:=h.er x hx;omega
  ·exact hL2 (by show _<=((eraC C (4+b)).1.ops:Int);omega)
theorem PI.prog (h:PI g n C L O) (bl pa:Int) {xs:List Int} (bx:Byt xs) (ho:C.ops+1<=1000000000000):PI g n (progC C bl pa xs).1 L O/\(progC C bl pa xs).1.ops<=C.ops+1/\C.ops<=(progC C bl pa xs).1.ops:=by
 obtain ⟨a1,a2,a3⟩:=progC_ok h.ok bl pa bx (by omega)
 exact ⟨⟨a1,(progC_k C bl pa xs).1.trans h.gg,h.nn,h.ll,h.ol,λx hx=>by have:=h.er x hx;omega⟩,a2,a3⟩
theorem PI.prg (h:PI g n C L O) (bl pa:Int) {xs:List Int} (bx:Byt xs) (ho:C.ops+2<=1000000000000):PI g n (prgP C bl pa xs).1 L O/\(prgP C bl pa xs).1.ops<=C.ops+2/\C.ops<=(prgP C bl pa xs).1.ops:=by
 obtain ⟨a1,a2,a3⟩:=h.prog bl pa bx (by omega)
 unfold prgP
 split
 ·obtain ⟨b1,b2,b3⟩:=a1.prog bl pa (comL_byt C.g) (by omega)
  exact ⟨b1,by omega,by omega⟩
 ·exact ⟨a1,by omega,a3⟩
theorem PI.sel (h:PI g n C L O) (b:Int) (ho:C.ops+1<=1000000000000):PI g n (selP C b).1 L O/\(selP C b).1.ops<=C.ops+1/\C.ops<=(selP C b).1.ops:=h.prog _ _ (comL_byt C.g) ho
theorem PI.fst (h:PI g n C L O) (b:Int) {hd:Hd} (hr:hd.rng) (hR:HRight hd) (sl:Bool) (ho:C.ops+2<=1000000000000):PI g n (fstP C b hd sl).1 L O/\(fstP C b hd sl).1.ops<=C.ops+2/\C.ops<=(fstP C b hd sl).1.ops:=by
 obtain ⟨a1,a2,a3⟩:=h.prog (4+b) 0 (mkL_byt (g:=C.g) hr hR Byt.nil Byt.nil) (by omega)
 unfold fstP
 split
 ·obtain ⟨b1,b2,b3⟩:=a1.sel b (by omega)
  exact ⟨b1,by omega,by omega⟩
 ·exact ⟨a1,by omega,a3⟩
theorem begH_rng {ns:Int} {o:Hd} (L:List Blk) (b:Int) (hn:0<=ns/\ns<4) (ho:o.rng):(begH L b ns o).rng:=by
 have hw:IntKind.u32.wrap (gx L b.toNat).er=(gx L b.toNat).er % 4294967296:=u32_wrap _
 unfold Hd.rng begH at *
 dsimp only at *
 omega
theorem begH_right {ns:Int} {o:Hd} (L:List Blk) (b:Int) (hn:0<=ns/\ns<4):HRight (begH L b ns o):=by
 unfold HRight begH
 dsimp only
 omega
theorem PI.chL (h:PI g n C L O) (b:Int) {φ:Blk->Blk} (hφ:∀ x,(φ x).er=x.er):PI g n C (chL b L.length φ L) O:=
 ⟨h.ok,h.gg,h.nn,(chL_len ..).trans h.ll,h.ol,chL_er hφ h.er (Int.natCast_nonneg _)⟩
theorem PI.beg (h:PI g n C L O) (b:Int) {ns:Int} {o:Hd} (hn:0<=ns/\ns<4) (hr:o.rng) (sl:Bool) (ho:C.ops+2<=1000000000000) :
  PI g n (begP C L O b ns o sl).1 (begP C L O b ns o sl).2.1 (begP C L O b ns o sl).2.2.1/\(begP C L O b ns o sl).1.ops<=C.ops+2/\C.ops<=(begP C L O b ns o sl).1.ops:=by
 obtain ⟨a1,a2,a3⟩:=h.fst b (begH_rng L b hn hr) (begH_right L b (o:=o) hn) sl ho
 unfold begP
 split
 ·have k:=a1.chL b (φ:=hB ns) (λ_=>rfl)
  exact ⟨⟨k.ok,k.gg,k.nn,k.ll,(List.length_set ..).trans h.ol,k.er⟩,a2,a3⟩
 ·exact ⟨a1,a2,a3⟩
theorem PI.opn {ns:Int} {o:Hd} (hn:0<=ns/\ns<4) (hr:o.rng) (sl:Bool):∀ (k:Nat) {C:CD} {L:List Blk} {O:List Hd},PI g n C L O->C.ops+6*k<=1000000000000 ->
  PI g n (opnP ns o sl k C L O).1.1 (opnP ns o sl k C L O).1.2.1 (opnP ns o sl k C L O).1.2.2/\(opnP ns o sl k C L O).1.1.ops<=C.ops+6*k/\C.ops<=(opnP ns o sl k C L O).1.1.ops
 | 0,C,L,O,h,ho=>⟨h,Nat.le_refl _,Nat.le_refl _⟩
 | k+1,C,L,O,h,ho=>by
  unfold opnP
  split
  ·dsimp only
   exact ⟨h,by omega,Nat.le_refl _⟩
  ·have hd:∃ C1 L1 e1,(if (gx L (pickT L L.length).toNat).cl=true then (C,L,0) else dstP C L (pickT L L.length))=(C1,L1,e1)/\PI g n C1 L1 O/\C1.ops<=C.ops+2/\C.ops<=C1.ops:=by
    split
    ·exact ⟨C,L,0,rfl,h,by omega,Nat.le_refl _⟩
    ·obtain ⟨x1,x2,x3⟩:=h.dst (pickT L L.length) (by omega)
     exact ⟨_,_,_,rfl,x1,x2,x3⟩
   obtain ⟨C1,L1,e1,hq,h1,h2,h3⟩:=hd
   rw [hq]
   dsimp only
   split
   ·obtain ⟨s1,s2,s3⟩:=h1.beg (pickT L L.length) (o:=o) hn hr sl (by omega)
    split
    ·dsimp only
     exact ⟨s1,by omega,by omega⟩
    ·split
     ·dsimp only
      exact ⟨s1,by omega,by omega⟩
     ·have hk:=s1.chL (pickT L L.length) (φ:=fB) (λ_=>rfl)
      have hl:(begP C1 L1 O (pickT L L.length) ns o sl).2.1.length=L.length:=by rw [s1.ll,h.ll]
      rw [hl] at hk
      obtain ⟨d1,d2,d3⟩:=hk.dst (pickT L L.length) (by omega)
      split
      ·dsimp only
       exact ⟨d1,by omega,by omega⟩
      ·obtain ⟨e1,e2,e3⟩:=PI.opn hn hr sl k d1 (by omega)
       exact ⟨e1,by omega,by omega⟩
   ·split
    ·dsimp only
     exact ⟨h1,by omega,by omega⟩
    ·obtain ⟨e1,e2,e3⟩:=PI.opn hn hr sl k h1 (by omega)
     exact ⟨e1,by omega,by omega⟩
end
end Go.Proofs.YtbaojfchlhlaeaaGreat.Vc
namespace Go.Proofs.YtbaojfchlhlaeaaGreat.Vc
open Go Go.Eng
def pool_New.A:Ann:=.two .no (.two .no (.two .no (.two .no (.two (.draw (.take 0 (.take 1 (.take 2 (.take 4 (.eff 3 (.eff 5 (.take 6 (.eff 7 (.take 8 (.take 9 (.done)))))))))))) .no))))
def pool_New.P (p0 p1:Addr) (a2:Option Addr) (n2 c2:Nat) (w:World) (K:(Option Addr)×Int×Unit->World->Prop):Prop:=
 CallV Tryz.prog 100 #[.pointer (some p0)] w [.agg [.int .i64,.int .i64,.int .i64,.int .i64,.int .i64,.int .i64]] λ(r1:(Int×Int×Int×Int×Int×Int×Unit)×Unit) w2=>
 NewV #[.int .i64 0,.int .i64 0,.int .i64 0,.int .i64 0,.int .i64 0,.int .i64 0] 23 w2 λb3 w4=>
 StoreV w4 ⟨b3,0,none⟩ [.int .i64 r1.1.1,.int .i64 r1.1.2.1,.int .i64 r1.1.2.2.1,.int .i64 r1.1.2.2.2.1,.int .i64 r1.1.2.2.2.2.1,.int .i64 r1.1.2.2.2.2.2.1] λw5=>
 LoadA w5 ⟨b3,0,none⟩ [.int .i64,.int .i64,.int .i64,.int .i64,.int .i64,.int .i64] λ(x6:Int×Int×Int×Int×Int×Int×Unit)=>
 CallV Tryz.prog 80 #[.agg #[.int .i64 x6.1,.int .i64 x6.2.1,.int .i64 x6.2.2.1,.int .i64 x6.2.2.2.1,.int .i64 x6.2.2.2.2.1,.int .i64 x6.2.2.2.2.2.1]] w5 [.one (.int .i64)] λ(r7:Int×Unit) w8=>
 cond (r7.1 == 0)
 (K (none,(2:Int),()) w8)
 (CallV Tryz.prog 52 #[.pointer (some p1)] w8 [.one (.int .i64)] λ(r9:Int×Unit) w10=>
 cond (r9.1 != r7.1)
 (K (none,(2:Int),()) w10)
 (cond (((n2:Nat):Int) != r7.1)
 (K (none,(2:Int),()) w10)
 (DrawV λD11=>
 (D11 b3/\LoadA w10.drew ⟨b3,0,none⟩ [.int .i64,.int .i64,.int .i64,.int .i64,.int .i64,.int .i64] λ(x12:Int×Int×Int×Int×Int×Int×Unit)=>
 NewV #[] 62 w10.drew λb13 w14=>
 KeepOn D11 w10.drew w14 /\
 AppS w14 a2 n2 6 λns19=>
 AppV w14 62 6 48 (some ⟨b13,0,none⟩) 0 0 ns19 n2 λa15 n16 c17 w18=>
 KeepOn D11 w10.drew w18 /\
 NewV #[.pointer (some p0),.int .i64 x12.1,.int .i64 x12.2.1,.int .i64 x12.2.2.1,.int .i64 x12.2.2.2.1,.int .i64 x12.2.2.2.2.1,.int .i64 x12.2.2.2.2.2.1,.pointer (some p1),.slice a15 n16 c17] 155 w18 λb20 w21=>
 KeepOn D11 w10.drew w21 /\
 K ((some ⟨b20,0,none⟩),(0:Int),()) w21))))
theorem pool_New.vc (p0 p1:Addr) (a2:Option Addr) (n2 c2:Nat) (w:World) (K:(Option Addr)×Int×Unit->World->Prop) (h:pool_New.P p0 p1 a2 n2 c2 w K):CallV Tryz.prog 82 #[.pointer (some p0),.pointer (some p1),.slice a2 n2 c2] w [.one .ptr,.one (.int .i64)] K:=by
 refine vcFun.of (A:=pool_New.A) (wr:=false) okf_ok follows h Tryz.func82 ?_
 kernel_rfl
def pool_Pool_Ledger.A:Ann:=.no
def pool_Pool_Ledger.P (p0:Addr) (w:World) (K:(Option Addr)×Unit->World->Prop):Prop:=
 LoadS w (p0.add 7) .ptr λ(x1:Option Addr)=>
 K (x1,()) w
theorem pool_Pool_Ledger.vc (p0:Addr) (w:World) (K:(Option Addr)×Unit->World->Prop) (h:pool_Pool_Ledger.P p0 w K):CallV Tryz.prog 27 #[.pointer (some p0)] w [.one .ptr] K:=by
 refine vcFun.of (A:=pool_Pool_Ledger.A) (wr:=false) okf_ok follows h Tryz.func27 ?_
 kernel_rfl
def pool_Pool_has.A:Ann:=.no
def pool_Pool_has.P (p0:Addr) (p1:Int) (w:World) (K:Bool×Unit->World->Prop):Prop:=
 cond (decide (p1≥0))
 (LoadS w (p0.add 8) .sl λ(x1:SlV)=>
 K (decide (p1<((x1.n:Nat):Int)),()) w)
 (K (false,()) w)
theorem pool_Pool_has.vc (p0:Addr) (p1:Int) (w:World) (K:Bool×Unit->World->Prop) (h:pool_Pool_has.P p0 p1 w K):CallV Tryz.prog 167 #[.pointer (some p0),.int .i64 p1] w [.one .bool] K:=by
 refine vcFun.of (A:=pool_Pool_has.A) (wr:=false) okf_ok follows h Tryz.func167 ?_
 kernel_rfl
def pool_Pool_Order.A:Ann:=.no
def pool_Pool_Order.P (p0:Addr) (p1:Int) (w:World) (K:(Int×Int×Int×Int×Int×Int×Unit)×Unit->World->Prop):Prop:=
 NewV #[.int .i64 0,.int .i64 0,.int .i64 0,.int .u32 0,.int .u64 0,.int .u64 0] 62 w λb1 w2=>
 CallV Tryz.prog 167 #[.pointer (some p0),.int .i64 p1] w2 [.one .bool] λ(r3:Bool×Unit) w4=>
 cond (!r3.1)
 (StoreV w4 ⟨b1,0,none⟩ [.int .i64 0,.int .i64 0,.int .i64 0,.int .u32 0,.int .u64 0,.int .u64 0] λw5=>
 LoadA w5 ⟨b1,0,none⟩ [.int .i64,.int .i64,.int .i64,.int .u32,.int .u64,.int .u64] λ(x6:Int×Int×Int×Int×Int×Int×Unit)=>
 K ((x6.1,x6.2.1,x6.2.2.1,x6.2.2.2.1,x6.2.2.2.2.1,x6.2.2.2.2.2.1,()),()) w5)
 (LoadS w4 (p0.add 8) .sl λ(x7:SlV)=>
 (0<=p1/\p1<((x7.n:Nat):Int))/\∃ q8:Addr,x7.a=some q8 /\
 LoadA w4 (q8.add (p1.toNat*6)) [.int .i64,.int .i64,.int .i64,.int .u32,.int .u64,.int .u64] λ(x9:Int×Int×Int×Int×Int×Int×Unit)=>
 StoreV w4 ⟨b1,0,none⟩ [.int .i64 x9.1,.int .i64 x9.2.1,.int .i64 x9.2.2.1,.int .u32 x9.2.2.2.1,.int .u64 x9.2.2.2.2.1,.int .u64 x9.2.2.2.2.2.1] λw10=>
 LoadA w10 ⟨b1,0,none⟩ [.int .i64,.int .i64,.int .i64,.int .u32,.int .u64,.int .u64] λ(x11:Int×Int×Int×Int×Int×Int×Unit)=>
 K ((x11.1,x11.2.1,x11.2.2.1,x11.2.2.2.1,x11.2.2.2.2.1,x11.2.2.2.2.2.1,()),()) w10)
theorem pool_Pool_Order.vc (p0:Addr) (p1:Int) (w:World) (K:(Int×Int×Int×Int×Int×Int×Unit)×Unit->World->Prop) (h:pool_Pool_Order.P p0 p1 w K):CallV Tryz.prog 119 #[.pointer (some p0),.int .i64 p1] w [.agg [.int .i64,.int .i64,.int .i64,.int .u32,.int .u64,.int .u64]] K:=by
 refine vcFun.of (A:=pool_Pool_Order.A) (wr:=false) okf_ok follows h Tryz.func119 ?_
 kernel_rfl
def pool_Pool_Place.A:Ann:=.no
def pool_Pool_Place.P (p0:Addr) (p1 p2:Int) (w:World) (K:(Int×Int×Unit)×Unit->World->Prop):Prop:=
 NewV #[.int .i64 0,.int .i64 0] 81 w λb1 w2=>
 Rng .i64 ((4:Int)+p1) /\
 StoreV w2 ⟨b1,0,none⟩ [.int .i64 ((4:Int)+p1),.int .i64 p2] λw3=>
 LoadA w3 ⟨b1,0,none⟩ [.int .i64,.int .i64] λ(x4:Int×Int×Unit)=>
 K ((x4.1,x4.2.1,()),()) w3
theorem pool_Pool_Place.vc (p0:Addr) (p1 p2:Int) (w:World) (K:(Int×Int×Unit)×Unit->World->Prop) (h:pool_Pool_Place.P p0 p1 p2 w K):CallV Tryz.prog 165 #[.pointer (some p0),.int .i64 p1,.int .i64 p2] w [.agg [.int .i64,.int .i64]] K:=by
 refine vcFun.of (A:=pool_Pool_Place.A) (wr:=false) okf_ok follows h Tryz.func165 ?_
 kernel_rfl
def pool_Pool_Destroy.A:Ann:=.no
def pool_Pool_Destroy.P (p0:Addr) (p1:Int) (w:World) (K:Int×Unit->World->Prop):Prop:=
 CallV Tryz.prog 167 #[.pointer (some p0),.int .i64 p1] w [.one .bool] λ(r1:Bool×Unit) w2=>
 cond (!r1.1)
 (K ((2:Int),()) w2)
 (LoadS w2 p0 .ptr λ(x3:Option Addr)=>
 Rng .i64 ((4:Int)+p1) /\
 CallV Tryz.prog 180 #[.pointer x3,.int .i64 ((4:Int)+p1)] w2 [.one (.int .i64)] λ(r4:Int×Unit) w5=>
 cond (r4.1 == 0)
 (LoadS w5 (p0.add 7) .ptr λ(x6:Option Addr)=>
 CallV Tryz.prog 181 #[.pointer x6,.int .i64 p1] w5 [.one (.int .i64)] λ(r7:Int×Unit) w8=>
 cond (r4.1 != 5)
 (K (r4.1,()) w8)
 (LoadS w8 (p0.add 7) .ptr λ(x9:Option Addr)=>
 CallV Tryz.prog 182 #[.pointer x9,.int .i64 p1] w8 [.one (.int .i64)] λ(r10:Int×Unit) w11=>
 LoadS w11 p0 .ptr λ(x12:Option Addr)=>
 Rng .i64 ((4:Int)+p1) /\
 CallV Tryz.prog 183 #[.pointer x12,.int .i64 ((4:Int)+p1)] w11 [.one (.int .i64)] λ(r13:Int×Unit) w14=>
 cond (r13.1 == 4)
 (K (r13.1,()) w14)
 (LoadS w14 (p0.add 7) .ptr λ(x15:Option Addr)=>
 CallV Tryz.prog 184 #[.pointer x15,.int .i64 p1,.bool (r13.1 == 0)] w14 [.one (.int .i64)] λ(r16:Int×Unit) w17=>
 cond (r13.1 == 0)
 (K ((5:Int),()) w17)
 (K ((17:Int),()) w17))))
 (cond (r4.1 != 5)
 (K (r4.1,()) w5)
 (LoadS w5 (p0.add 7) .ptr λ(x18:Option Addr)=>
 CallV Tryz.prog 182 #[.pointer x18,.int .i64 p1] w5 [.one (.int .i64)] λ(r19:Int×Unit) w20=>
 LoadS w20 p0 .ptr λ(x21:Option Addr)=>
 Rng .i64 ((4:Int)+p1) /\
 CallV Tryz.prog 183 #[.pointer x21,.int .i64 ((4:Int)+p1)] w20 [.one (.int .i64)] λ(r22:Int×Unit) w23=>
 cond (r22.1 == 4)
 (K (r22.1,()) w23)
 (LoadS w23 (p0.add 7) .ptr λ(x24:Option Addr)=>
 CallV Tryz.prog 184 #[.pointer x24,.int .i64 p1,.bool (r22.1 == 0)] w23 [.one (.int .i64)] λ(r25:Int×Unit) w26=>
 cond (r22.1 == 0)
 (K ((5:Int),()) w26)
 (K ((17:Int),()) w26)))))
theorem pool_Pool_Destroy.vc (p0:Addr) (p1:Int) (w:World) (K:Int×Unit->World->Prop) (h:pool_Pool_Destroy.P p0 p1 w K):CallV Tryz.prog 125 #[.pointer (some p0),.int .i64 p1] w [.one (.int .i64)] K:=by
 refine vcFun.of (A:=pool_Pool_Destroy.A) (wr:=false) okf_ok follows h Tryz.func125 ?_
 kernel_rfl
def pool_Pool_programmed.A:Ann:=.two .no (.two (.two (.draw (.take 0 (.take 1 (.take 2 (.take 3 (.take 4 (.take 5 (.eff 6 (.take 7 (.done)))))))))) .no) (.two .no (.two .no (.two (.draw (.take 0 (.take 1 (.take 2 (.take 3 (.take 4 (.take 5 (.eff 6 (.take 7 (.done)))))))))) .no))))
def pool_Pool_programmed.P (p0:Addr) (p1_0 p1_1:Int) (a2:Option Addr) (n2 c2:Nat) (w:World) (K:Int×Unit->World->Prop):Prop:=
 NewV #[.int .i64 p1_0,.int .i64 p1_1] 81 w λb1 w2=>
 DrawV λD3=>
 (D3 p0.block/\LoadS w2.drew p0 .ptr λ(x4:Option Addr)=>
 (D3 b1/\LoadA w2.drew ⟨b1,0,none⟩ [.int .i64,.int .i64] λ(x5:Int×Int×Unit)=>
 CallV Tryz.prog 205 #[.pointer x4,.agg #[.int .i64 x5.1,.int .i64 x5.2.1],.slice a2 n2 c2] w2.drew [.one (.int .i64)] λ(r6:Int×Unit) w7=>
 KeepOn D3 w2.drew w7 /\
 cond (r6.1 != 0)
 (K (r6.1,()) w7)
 (LoadA w7 (p0.add 1) [.int .i64,.int .i64,.int .i64,.int .i64,.int .i64,.int .i64] λ(x8:Int×Int×Int×Int×Int×Int×Unit)=>
 CallV Tryz.prog 206 #[.agg #[.int .i64 x8.1,.int .i64 x8.2.1,.int .i64 x8.2.2.1,.int .i64 x8.2.2.2.1,.int .i64 x8.2.2.2.2.1,.int .i64 x8.2.2.2.2.2.1]] w7 [.one .sl,.one (.int .i64)] λ(r9:SlV×Int×Unit) w10=>
 cond (r9.2.1 != 0)
 (K (r9.2.1,()) w10)
 (DrawV λD11=>
 (D11 p0.block/\LoadS w10.drew p0 .ptr λ(x12:Option Addr)=>
 (D11 b1/\LoadA w10.drew ⟨b1,0,none⟩ [.int .i64,.int .i64] λ(x13:Int×Int×Unit)=>
 CallV Tryz.prog 205 #[.pointer x12,.agg #[.int .i64 x13.1,.int .i64 x13.2.1],.slice r9.1.a r9.1.n r9.1.c] w10.drew [.one (.int .i64)] λ(r14:Int×Unit) w15=>
 KeepOn D11 w10.drew w15 /\
 K (r14.1,()) w15))))))
theorem pool_Pool_programmed.vc (p0:Addr) (p1_0 p1_1:Int) (a2:Option Addr) (n2 c2:Nat) (w:World) (K:Int×Unit->World->Prop) (h:pool_Pool_programmed.P p0 p1_0 p1_1 a2 n2 c2 w K):CallV Tryz.prog 169 #[.pointer (some p0),.agg #[.int .i64 p1_0,.int .i64 p1_1],.slice a2 n2 c2] w [.one (.int .i64)] K:=by
 refine vcFun.of (A:=pool_Pool_programmed.A) (wr:=false) okf_ok follows h Tryz.func169 ?_
 kernel_rfl
def pool_Pool_Write.A:Ann:=.two .no (.two .no (.two (.draw (.take 0 (.take 1 (.take 2 (.take 3 (.take 4 (.take 5 (.take 6 (.eff 7 (.take 8 (.take 9 (.take 10 (.take 11 (.take 12 (.done))))))))))))))) .no))
def pool_Pool_Write.P (p0:Addr) (p1 p2 p3_0 p3_1 p3_2 p3_3 p3_4 p3_5:Int) (a4:Option Addr) (n4 c4:Nat) (a5:Option Addr) (n5 c5:Nat) (w:World) (K:Int×Unit->World->Prop):Prop:=
 NewV #[.int .i64 p3_0,.int .i64 p3_1,.int .i64 p3_2,.int .u32 p3_3,.int .u64 p3_4,.int .u64 p3_5] 62 w λb1 w2=>
 CallV Tryz.prog 167 #[.pointer (some p0),.int .i64 p1] w2 [.one .bool] λ(r3:Bool×Unit) w4=>
 cond (!r3.1)
 (K ((2:Int),()) w4)
 (DrawV λD5=>
 (D5 (p0.add 1).block/\LoadA w4.drew (p0.add 1) [.int .i64,.int .i64,.int .i64,.int .i64,.int .i64,.int .i64] λ(x6:Int×Int×Int×Int×Int×Int×Unit)=>
 (D5 b1/\LoadA w4.drew ⟨b1,0,none⟩ [.int .i64,.int .i64,.int .i64,.int .u32,.int .u64,.int .u64] λ(x7:Int×Int×Int×Int×Int×Int×Unit)=>
 CallV Tryz.prog 168 #[.agg #[.int .i64 x6.1,.int .i64 x6.2.1,.int .i64 x6.2.2.1,.int .i64 x6.2.2.2.1,.int .i64 x6.2.2.2.2.1,.int .i64 x6.2.2.2.2.2.1],.agg #[.int .i64 x7.1,.int .i64 x7.2.1,.int .i64 x7.2.2.1,.int .u32 x7.2.2.2.1,.int .u64 x7.2.2.2.2.1,.int .u64 x7.2.2.2.2.2.1],.slice a4 n4 c4,.slice a5 n5 c5] w4.drew [.one .sl,.one (.int .i64)] λ(r8:SlV×Int×Unit) w9=>
 KeepOn D5 w4.drew w9 /\
 cond (r8.2.1 != 0)
 (K (r8.2.1,()) w9)
 (CallV Tryz.prog 165 #[.pointer (some p0),.int .i64 p1,.int .i64 p2] w9 [.agg [.int .i64,.int .i64]] λ(r10:(Int×Int×Unit)×Unit) w11=>
 CallV Tryz.prog 169 #[.pointer (some p0),.agg #[.int .i64 r10.1.1,.int .i64 r10.1.2.1],.slice r8.1.a r8.1.n r8.1.c] w11 [.one (.int .i64)] λ(r12:Int×Unit) w13=>
 K (r12.1,()) w13))))
theorem pool_Pool_Write.vc (p0:Addr) (p1 p2 p3_0 p3_1 p3_2 p3_3 p3_4 p3_5:Int) (a4:Option Addr) (n4 c4:Nat) (a5:Option Addr) (n5 c5:Nat) (w:World) (K:Int×Unit->World->Prop) (h:pool_Pool_Write.P p0 p1 p2 p3_0 p3_1 p3_2 p3_3 p3_4 p3_5 a4 n4 c4 a5 n5 c5 w K):CallV Tryz.prog 117 #[.pointer (some p0),.int .i64 p1,.int .i64 p2,.agg #[.int .i64 p3_0,.int .i64 p3_1,.int .i64 p3_2,.int .u32 p3_3,.int .u64 p3_4,.int .u64 p3_5],.slice a4 n4 c4,.slice a5 n5 c5] w [.one (.int .i64)] K:=by
 refine vcFun.of (A:=pool_Pool_Write.A) (wr:=false) okf_ok follows h Tryz.func117 ?_
 kernel_rfl
def pool_Pool_Copy.A:Ann:=.two .no (.two .no (.two (.draw (.take 0 (.take 1 (.take 2 (.take 3 (.take 4 (.eff 5 (.take 6 (.take 7 (.take 8 (.take 9 (.take 10 (.done))))))))))))) (.two .no (.two (.two .no (.one (.loop [11,31,32,33,34,35,36,37,38,39] [(11,.one (.int .i64))] .no))) .no))))
def pool_Pool_Copy.P (p0:Addr) (p1 p2 p3_0 p3_1:Int) (w:World) (K:Int×Unit->World->Prop):Prop:=
 NewV #[.int .i64 p3_0,.int .i64 p3_1] 81 w λb1 w2=>
 CallV Tryz.prog 167 #[.pointer (some p0),.int .i64 p1] w2 [.one .bool] λ(r3:Bool×Unit) w4=>
 cond (!r3.1)
 (K ((2:Int),()) w4)
 (DrawV λD5=>
 (D5 p0.block/\LoadS w4.drew p0 .ptr λ(x6:Option Addr)=>
 (D5 b1/\LoadA w4.drew ⟨b1,0,none⟩ [.int .i64,.int .i64] λ(x7:Int×Int×Unit)=>
 CallV Tryz.prog 130 #[.pointer x6,.agg #[.int .i64 x7.1,.int .i64 x7.2.1]] w4.drew [.one .sl,.one (.int .i64)] λ(r8:SlV×Int×Unit) w9=>
 KeepOn D5 w4.drew w9 /\
 cond (r8.2.1 != 0)
 (K (r8.2.1,()) w9)
 (Rng .i64 (((r8.1.n:Nat):Int)-8) /\
 LoopV [.one (.int .i64)] (((r8.1.n:Nat):Int)-8,()) w9 λ(z10:Int×Unit) w11 (K12:Int×Unit->World->Prop)=>
 cond (decide (z10.1<((r8.1.n:Nat):Int)))
 ((0<=z10.1/\z10.1<((r8.1.n:Nat):Int))/\∃ q13:Addr,r8.1.a=some q13 /\
 StoreV w11 (q13.add (z10.1.toNat*1)) [.int .u8 255] λw14=>
 Rng .i64 (z10.1+1) /\
 K12 (z10.1+1,()) w14)
 (CallV Tryz.prog 165 #[.pointer (some p0),.int .i64 p1,.int .i64 p2] w11 [.agg [.int .i64,.int .i64]] λ(r15:(Int×Int×Unit)×Unit) w16=>
 CallV Tryz.prog 169 #[.pointer (some p0),.agg #[.int .i64 r15.1.1,.int .i64 r15.1.2.1],.slice r8.1.a r8.1.n r8.1.c] w16 [.one (.int .i64)] λ(r17:Int×Unit) w18=>
 K (r17.1,()) w18)))))
theorem pool_Pool_Copy.vc (p0:Addr) (p1 p2 p3_0 p3_1:Int) (w:World) (K:Int×Unit->World->Prop) (h:pool_Pool_Copy.P p0 p1 p2 p3_0 p3_1 w K):CallV Tryz.prog 209 #[.pointer (some p0),.int .i64 p1,.int .i64 p2,.agg #[.int .i64 p3_0,.int .i64 p3_1]] w [.one (.int .i64)] K:=by
 refine vcFun.of (A:=pool_Pool_Copy.A) (wr:=false) okf_ok follows h Tryz.func209 ?_
 kernel_rfl
def pool_Pool_Seal.A:Ann:=.two .no (.two .no (.two .no (.two .no (.two (.draw (.take 0 (.take 1 (.take 2 (.take 3 (.take 4 (.take 5 (.take 7 (.eff 6 (.eff 8 (.take 9 (.done)))))))))))) .no))))
def pool_Pool_Seal.P (p0:Addr) (p1:Int) (w:World) (K:Int×Unit->World->Prop):Prop:=
 CallV Tryz.prog 167 #[.pointer (some p0),.int .i64 p1] w [.one .bool] λ(r1:Bool×Unit) w2=>
 cond (!r1.1)
 (K ((2:Int),()) w2)
 (LoadA w2 (p0.add 1) [.int .i64,.int .i64,.int .i64,.int .i64,.int .i64,.int .i64] λ(x3:Int×Int×Int×Int×Int×Int×Unit)=>
 CallV Tryz.prog 206 #[.agg #[.int .i64 x3.1,.int .i64 x3.2.1,.int .i64 x3.2.2.1,.int .i64 x3.2.2.2.1,.int .i64 x3.2.2.2.2.1,.int .i64 x3.2.2.2.2.2.1]] w2 [.one .sl,.one (.int .i64)] λ(r4:SlV×Int×Unit) w5=>
 cond (r4.2.1 != 0)
 (K (r4.2.1,()) w5)
 (DrawV λD6=>
 (D6 p0.block/\LoadS w5.drew p0 .ptr λ(x7:Option Addr)=>
 CallV Tryz.prog 165 #[.pointer (some p0),.int .i64 p1,.int .i64 0] w5.drew [.agg [.int .i64,.int .i64]] λ(r8:(Int×Int×Unit)×Unit) w9=>
 KeepOn D6 w5.drew w9 /\
 CallV Tryz.prog 205 #[.pointer x7,.agg #[.int .i64 r8.1.1,.int .i64 r8.1.2.1],.slice r4.1.a r4.1.n r4.1.c] w9 [.one (.int .i64)] λ(r10:Int×Unit) w11=>
 KeepOn D6 w5.drew w11 /\
 K (r10.1,()) w11)))
theorem pool_Pool_Seal.vc (p0:Addr) (p1:Int) (w:World) (K:Int×Unit->World->Prop) (h:pool_Pool_Seal.P p0 p1 w K):CallV Tryz.prog 210 #[.pointer (some p0),.int .i64 p1] w [.one (.int .i64)] K:=by
 refine vcFun.of (A:=pool_Pool_Seal.A) (wr:=false) okf_ok follows h Tryz.func210 ?_
 kernel_rfl
def pool_Pool_begin.A:Ann:=.two .no (.join [11,14,15,16,17,18,19,20,21,22,23,24,25,26,27] [(11,.one .ptr)] (.draw (.take 0 (.take 1 (.take 2 (.take 3 (.take 4 (.take 5 (.take 9 (.take 10 (.take 11 (.take 12 (.both 6 (.take 7 (.take 8 (.take 13 (.eff 14 (.eff 15 (.done)))))) 14 (.eff 6 (.take 7 (.take 8 (.take 13 (.eff 15 (.done)))))))))))))))))) (.two (.draw (.take 0 (.take 1 (.take 2 (.take 3 (.take 4 (.eff 5 (.take 6 (.take 7 (.take 8 (.take 9 (.take 10 (.done))))))))))))) (.join [13,37,38,39,40,41,42,43,44,45,46,47] [(13,.one (.int .i64))] (.two .no (.two (.draw (.take 0 (.take 1 (.take 2 (.take 3 (.take 4 (.take 5 (.take 7 (.eff 6 (.eff 8 (.take 9 (.done)))))))))))) .no)) (.join [13,48,49,50,51,52,53,54,55] [(13,.one (.int .i64))] .no (.two (.two .no (.two (.two .no (.draw (.take 0 (.take 1 (.take 2 (.take 3 (.take 4 (.take 5 (.take 6 (.eff 7 (.done))))))))))) .no)) .no)))))
def pool_Pool_begin.P (p0:Addr) (p1 p2 p3_0 p3_1 p3_2 p3_3 p3_4 p3_5:Int) (p4:Bool) (w:World) (K:Int×Unit->World->Prop):Prop:=
 NewV #[.int .i64 p3_0,.int .i64 p3_1,.int .i64 p3_2,.int .u32 p3_3,.int .u64 p3_4,.int .u64 p3_5] 62 w λb1 w2=>
 JoinV [.one .ptr] (λ(v4:(Option Addr)×Unit) w5=>
 DrawV λD6=>
 (D6 (p0.add 1).block/\LoadA w5.drew (p0.add 1) [.int .i64,.int .i64,.int .i64,.int .i64,.int .i64,.int .i64] λ(x7:Int×Int×Int×Int×Int×Int×Unit)=>
 PtrK v4.1 λq8=>
 (D6 q8.block/\LoadA w5.drew q8 [.int .i64,.int .i64,.int .i64,.int .u32,.int .u64,.int .u64] λ(x9:Int×Int×Int×Int×Int×Int×Unit)=>
 CallV Tryz.prog 168 #[.agg #[.int .i64 x7.1,.int .i64 x7.2.1,.int .i64 x7.2.2.1,.int .i64 x7.2.2.2.1,.int .i64 x7.2.2.2.2.1,.int .i64 x7.2.2.2.2.2.1],.agg #[.int .i64 x9.1,.int .i64 x9.2.1,.int .i64 x9.2.2.1,.int .u32 x9.2.2.2.1,.int .u64 x9.2.2.2.2.1,.int .u64 x9.2.2.2.2.2.1],.slice none 0 0,.slice none 0 0] w5.drew [.one .sl,.one (.int .i64)] λ(r10:SlV×Int×Unit) w11=>
 KeepOn D6 w5.drew w11 /\
 JoinV [.one (.int .i64)] (λ(v13:Int×Unit) w14=>
 JoinV [.one (.int .i64)] (λ(v16:Int×Unit) w17=>
 cond (v16.1 == 0)
 (LoadS w17 (p0.add 7) .ptr λ(x18:Option Addr)=>
 CallV Tryz.prog 282 #[.pointer x18,.int .i64 p1,.int .i64 p2] w17 [.one (.int .i64)] λ(r19:Int×Unit) w20=>
 DrawV λD21=>
 (D21 (p0.add 8).block/\LoadS w20.drew (p0.add 8) .sl λ(x22:SlV)=>
 PtrK v4.1 λq23=>
 (D21 q23.block/\LoadA w20.drew q23 [.int .i64,.int .i64,.int .i64,.int .u32,.int .u64,.int .u64] λ(x24:Int×Int×Int×Int×Int×Int×Unit)=>
 (0<=p1/\p1<((x22.n:Nat):Int))/\∃ q25:Addr,x22.a=some q25 /\
 StoreV w20.drew (q25.add (p1.toNat*6)) [.int .i64 x24.1,.int .i64 x24.2.1,.int .i64 x24.2.2.1,.int .u32 x24.2.2.2.1,.int .u64 x24.2.2.2.2.1,.int .u64 x24.2.2.2.2.2.1] λw26=>
 KeepOn D21 w20.drew w26 /\
 K (v16.1,()) w26)))
 (K (v16.1,()) w17)) λ(J15:Int×Unit->World->Prop)=>
 cond (v13.1 == 0)
 (cond p4
 (CallV Tryz.prog 210 #[.pointer (some p0),.int .i64 p1] w14 [.one (.int .i64)] λ(r27:Int×Unit) w28=>
 J15 (r27.1,()) w28)
 (J15 (v13.1,()) w14))
 (J15 (v13.1,()) w14)) λ(J12:Int×Unit->World->Prop)=>
 cond (r10.2.1 == 0)
 (DrawV λD29=>
 (D29 p0.block/\LoadS w11.drew p0 .ptr λ(x30:Option Addr)=>
 CallV Tryz.prog 165 #[.pointer (some p0),.int .i64 p1,.int .i64 0] w11.drew [.agg [.int .i64,.int .i64]] λ(r31:(Int×Int×Unit)×Unit) w32=>
 KeepOn D29 w11.drew w32 /\
 CallV Tryz.prog 205 #[.pointer x30,.agg #[.int .i64 r31.1.1,.int .i64 r31.1.2.1],.slice r10.1.a r10.1.n r10.1.c] w32 [.one (.int .i64)] λ(r33:Int×Unit) w34=>
 KeepOn D29 w11.drew w34 /\
 J12 (r33.1,()) w34))
 (J12 (r10.2.1,()) w11)))) λ(J3:(Option Addr)×Unit->World->Prop)=>
 DrawV λD35=>
 (D35 (p0.add 7).block/\LoadS w2.drew (p0.add 7) .ptr λ(x36:Option Addr)=>
 (D35 b1/\LoadS w2.drew ⟨b1,4,none⟩ (.int .u64) λ(x37:Int)=>
 (D35 b1/\LoadS w2.drew ⟨b1,5,none⟩ (.int .u64) λ(x38:Int)=>
 ((CallV Tryz.prog 54 #[.pointer x36,.int .i64 p1] w2.drew [.agg [.int .i64,.int .i64,.int .i64,.int .i64,.bool,.bool,.bool,.bool,.bool]] λ(r39:(Int×Int×Int×Int×Bool×Bool×Bool×Bool×Bool×Unit)×Unit) w40=>
 KeepOn D35 w2.drew w40 /\
 NewV #[.int .i64 0,.int .i64 0,.int .i64 0,.int .u32 0,.int .u64 0,.int .u64 0] 62 w40 λb41 w42=>
 KeepOn D35 w2.drew w42 /\
 StoreV w42 ⟨b41,0,none⟩ [.int .i64 3,.int .i64 p2,.int .i64 0,.int .u32 (IntKind.u32.wrap r39.1.2.2.2.1),.int .u64 x37,.int .u64 x38] λw43=>
 KeepOn D35 w2.drew w43 /\
 J3 ((some ⟨b41,0,none⟩),()) w43) /\
 (NewV #[.int .i64 0,.int .i64 0,.int .i64 0,.int .u32 0,.int .u64 0,.int .u64 0] 62 w2.drew λb44 w45=>
 KeepOn D35 w2.drew w45 /\
 CallV Tryz.prog 54 #[.pointer x36,.int .i64 p1] w45 [.agg [.int .i64,.int .i64,.int .i64,.int .i64,.bool,.bool,.bool,.bool,.bool]] λ(r46:(Int×Int×Int×Int×Bool×Bool×Bool×Bool×Bool×Unit)×Unit) w47=>
 KeepOn D35 w2.drew w47 /\
 StoreV w47 ⟨b44,0,none⟩ [.int .i64 3,.int .i64 p2,.int .i64 0,.int .u32 (IntKind.u32.wrap r46.1.2.2.2.1),.int .u64 x37,.int .u64 x38] λw48=>
 KeepOn D35 w2.drew w48 /\
 J3 ((some ⟨b44,0,none⟩),()) w48)))))
theorem pool_Pool_begin.vc (p0:Addr) (p1 p2 p3_0 p3_1 p3_2 p3_3 p3_4 p3_5:Int) (p4:Bool) (w:World) (K:Int×Unit->World->Prop) (h:pool_Pool_begin.P p0 p1 p2 p3_0 p3_1 p3_2 p3_3 p3_4 p3_5 p4 w K):CallV Tryz.prog 256 #[.pointer (some p0),.int .i64 p1,.int .i64 p2,.agg #[.int .i64 p3_0,.int .i64 p3_1,.int .i64 p3_2,.int .u32 p3_3,.int .u64 p3_4,.int .u64 p3_5],.bool p4] w [.one (.int .i64)] K:=by
 refine vcFun.of (A:=pool_Pool_begin.A) (wr:=false) okf_ok follows h Tryz.func256 ?_
 kernel_rfl
def pool_Pool_Open.A:Ann:=.no
def pool_Pool_Open.P (p0:Addr) (p1 p2_0 p2_1 p2_2 p2_3 p2_4 p2_5:Int) (w:World) (K:Int×Int×Unit->World->Prop):Prop:=
 NewV #[.int .i64 p2_0,.int .i64 p2_1,.int .i64 p2_2,.int .u32 p2_3,.int .u64 p2_4,.int .u64 p2_5] 62 w λb1 w2=>
 LoadA w2 ⟨b1,0,none⟩ [.int .i64,.int .i64,.int .i64,.int .u32,.int .u64,.int .u64] λ(x3:Int×Int×Int×Int×Int×Int×Unit)=>
 CallV Tryz.prog 208 #[.pointer (some p0),.int .i64 p1,.agg #[.int .i64 x3.1,.int .i64 x3.2.1,.int .i64 x3.2.2.1,.int .u32 x3.2.2.2.1,.int .u64 x3.2.2.2.2.1,.int .u64 x3.2.2.2.2.2.1],.bool true] w2 [.one (.int .i64),.one (.int .i64)] λ(r4:Int×Int×Unit) w5=>
 K (r4.1,r4.2.1,()) w5
theorem pool_Pool_Open.vc (p0:Addr) (p1 p2_0 p2_1 p2_2 p2_3 p2_4 p2_5:Int) (w:World) (K:Int×Int×Unit->World->Prop) (h:pool_Pool_Open.P p0 p1 p2_0 p2_1 p2_2 p2_3 p2_4 p2_5 w K):CallV Tryz.prog 201 #[.pointer (some p0),.int .i64 p1,.agg #[.int .i64 p2_0,.int .i64 p2_1,.int .i64 p2_2,.int .u32 p2_3,.int .u64 p2_4,.int .u64 p2_5]] w [.one (.int .i64),.one (.int .i64)] K:=by
 refine vcFun.of (A:=pool_Pool_Open.A) (wr:=false) okf_ok follows h Tryz.func201 ?_
 kernel_rfl
def pool_Pool_Begin.A:Ann:=.no
def pool_Pool_Begin.P (p0:Addr) (p1 p2_0 p2_1 p2_2 p2_3 p2_4 p2_5:Int) (w:World) (K:Int×Int×Unit->World->Prop):Prop:=
 NewV #[.int .i64 p2_0,.int .i64 p2_1,.int .i64 p2_2,.int .u32 p2_3,.int .u64 p2_4,.int .u64 p2_5] 62 w λb1 w2=>
 LoadA w2 ⟨b1,0,none⟩ [.int .i64,.int .i64,.int .i64,.int .u32,.int .u64,.int .u64] λ(x3:Int×Int×Int×Int×Int×Int×Unit)=>
 CallV Tryz.prog 208 #[.pointer (some p0),.int .i64 p1,.agg #[.int .i64 x3.1,.int .i64 x3.2.1,.int .i64 x3.2.2.1,.int .u32 x3.2.2.2.1,.int .u64 x3.2.2.2.2.1,.int .u64 x3.2.2.2.2.2.1],.bool false] w2 [.one (.int .i64),.one (.int .i64)] λ(r4:Int×Int×Unit) w5=>
 K (r4.1,r4.2.1,()) w5
theorem pool_Pool_Begin.vc (p0:Addr) (p1 p2_0 p2_1 p2_2 p2_3 p2_4 p2_5:Int) (w:World) (K:Int×Int×Unit->World->Prop) (h:pool_Pool_Begin.P p0 p1 p2_0 p2_1 p2_2 p2_3 p2_4 p2_5 w K):CallV Tryz.prog 174 #[.pointer (some p0),.int .i64 p1,.agg #[.int .i64 p2_0,.int .i64 p2_1,.int .i64 p2_2,.int .u32 p2_3,.int .u64 p2_4,.int .u64 p2_5]] w [.one (.int .i64),.one (.int .i64)] K:=by
 refine vcFun.of (A:=pool_Pool_Begin.A) (wr:=false) okf_ok follows h Tryz.func174 ?_
 kernel_rfl
def pool_Pool_open.A:Ann:=.two .no (.one (.two .no (.two .no (.two (.two .no (.one (.loop [8,9,10,11,12,13,24,25,26,27,28,29,30,31,32,33,34,35,36,37,38,39,40,41,42,43,44,45,46,47,48,49,50,51,52,53,54,55,56,57,58,59,60,61,62,63,64,65,66,67,68,69,70,71,72,73,74,75,76] [(24,.one (.int .i64))] .no))) .no))))
def pool_Pool_open.P (p0:Addr) (p1 p2_0 p2_1 p2_2 p2_3 p2_4 p2_5:Int) (p3:Bool) (w:World) (K:Int×Int×Unit->World->Prop):Prop:=
 NewV #[.int .i64 p2_0,.int .i64 p2_1,.int .i64 p2_2,.int .u32 p2_3,.int .u64 p2_4,.int .u64 p2_5] 62 w λb1 w2=>
 cond (decide (p1<0))
 (K ((0:Int),(2:Int),()) w2)
 (cond (decide (p1≥4))
 (K ((0:Int),(2:Int),()) w2)
 (LoopV [.one (.int .i64)] ((0:Int),()) w2 λ(z3:Int×Unit) w4 (K5:Int×Unit->World->Prop)=>
 cond (decide (z3.1<128))
 (LoadS w4 (p0.add 7) .ptr λ(x6:Option Addr)=>
 CallV Tryz.prog 255 #[.pointer x6] w4 [.one (.int .i64)] λ(r7:Int×Unit) w8=>
 cond (decide (r7.1<0))
 (K ((0:Int),(19:Int),()) w8)
 (LoadS w8 (p0.add 7) .ptr λ(x9:Option Addr)=>
 CallV Tryz.prog 54 #[.pointer x9,.int .i64 r7.1] w8 [.agg [.int .i64,.int .i64,.int .i64,.int .i64,.bool,.bool,.bool,.bool,.bool]] λ(r10:(Int×Int×Int×Int×Bool×Bool×Bool×Bool×Bool×Unit)×Unit) w11=>
 cond (!r10.1.2.2.2.2.2.1)
 (CallV Tryz.prog 125 #[.pointer (some p0),.int .i64 r7.1] w11 [.one (.int .i64)] λ(r12:Int×Unit) w13=>
 cond (r12.1 == 0)
 (LoadA w13 ⟨b1,0,none⟩ [.int .i64,.int .i64,.int .i64,.int .u32,.int .u64,.int .u64] λ(x14:Int×Int×Int×Int×Int×Int×Unit)=>
 CallV Tryz.prog 256 #[.pointer (some p0),.int .i64 r7.1,.int .i64 p1,.agg #[.int .i64 x14.1,.int .i64 x14.2.1,.int .i64 x14.2.2.1,.int .u32 x14.2.2.2.1,.int .u64 x14.2.2.2.2.1,.int .u64 x14.2.2.2.2.2.1],.bool p3] w13 [.one (.int .i64)] λ(r15:Int×Unit) w16=>
 cond (r15.1 == 0)
 (K (r7.1,r15.1,()) w16)
 (cond (r15.1 == 4)
 (K ((0:Int),r15.1,()) w16)
 (LoadS w16 (p0.add 7) .ptr λ(x17:Option Addr)=>
 CallV Tryz.prog 182 #[.pointer x17,.int .i64 r7.1] w16 [.one (.int .i64)] λ(r18:Int×Unit) w19=>
 CallV Tryz.prog 125 #[.pointer (some p0),.int .i64 r7.1] w19 [.one (.int .i64)] λ(r20:Int×Unit) w21=>
 cond (r20.1 == 4)
 (K ((0:Int),r20.1,()) w21)
 (Rng .i64 (z3.1+1) /\
 K5 (z3.1+1,()) w21))))
 (cond (r12.1 == 4)
 (K ((0:Int),r12.1,()) w13)
 (Rng .i64 (z3.1+1) /\
 K5 (z3.1+1,()) w13)))
 (LoadA w11 ⟨b1,0,none⟩ [.int .i64,.int .i64,.int .i64,.int .u32,.int .u64,.int .u64] λ(x22:Int×Int×Int×Int×Int×Int×Unit)=>
 CallV Tryz.prog 256 #[.pointer (some p0),.int .i64 r7.1,.int .i64 p1,.agg #[.int .i64 x22.1,.int .i64 x22.2.1,.int .i64 x22.2.2.1,.int .u32 x22.2.2.2.1,.int .u64 x22.2.2.2.2.1,.int .u64 x22.2.2.2.2.2.1],.bool p3] w11 [.one (.int .i64)] λ(r23:Int×Unit) w24=>
 cond (r23.1 == 0)
 (K (r7.1,r23.1,()) w24)
 (cond (r23.1 == 4)
 (K ((0:Int),r23.1,()) w24)
 (LoadS w24 (p0.add 7) .ptr λ(x25:Option Addr)=>
 CallV Tryz.prog 182 #[.pointer x25,.int .i64 r7.1] w24 [.one (.int .i64)] λ(r26:Int×Unit) w27=>
 CallV Tryz.prog 125 #[.pointer (some p0),.int .i64 r7.1] w27 [.one (.int .i64)] λ(r28:Int×Unit) w29=>
 cond (r28.1 == 4)
 (K ((0:Int),r28.1,()) w29)
 (Rng .i64 (z3.1+1) /\
 K5 (z3.1+1,()) w29))))))
 (K ((0:Int),(19:Int),()) w4)))
theorem pool_Pool_open.vc (p0:Addr) (p1 p2_0 p2_1 p2_2 p2_3 p2_4 p2_5:Int) (p3:Bool) (w:World) (K:Int×Int×Unit->World->Prop) (h:pool_Pool_open.P p0 p1 p2_0 p2_1 p2_2 p2_3 p2_4 p2_5 p3 w K):CallV Tryz.prog 208 #[.pointer (some p0),.int .i64 p1,.agg #[.int .i64 p2_0,.int .i64 p2_1,.int .i64 p2_2,.int .u32 p2_3,.int .u64 p2_4,.int .u64 p2_5],.bool p3] w [.one (.int .i64),.one (.int .i64)] K:=by
 refine vcFun.of (A:=pool_Pool_open.A) (wr:=false) okf_ok follows h Tryz.func208 ?_
 kernel_rfl
end Go.Proofs.YtbaojfchlhlaeaaGreat.Vc
namespace Go.Eng
open Go Go.RowKit
section
variable {E:Nat->Prop} {w0 w:World} {Rs:List Asr} {α:Type} {f:α->List Value} {m:Nat} {e:TypeId} {a:Option Addr} {n c:Nat} {L:List α}
theorem Sep.stF (S:Sep E w0 w (OwnA e m a n c (L.flatMap f)::Rs)) (hm:∀ x,(f x).length=m) (h1:∀ x,oneAll (f x)) (hp:0<m) {j:Int} (hj:0<=j/\j<(n:Int)) (k:Nat) {news:List Value} {x y:α} (hx:L[j.toNat]? = some x) (hl:k+news.length<=m)
  (hy:f y=(f x).take k++(news++(f x).drop (k+news.length))) {K:World->Prop}
  (hk:∀ w',Sep E w0 w' (OwnA e m a n c ((L.set j.toNat y).flatMap f)::Rs)->Fr (λk=>∃ q:Addr,a=some q/\k=q.block) w w'->K w'):∃ q,a=some q/\StoreV w ((q.add (j.toNat*m)).add k) news K:=by
 have hL:=(S.own 0 rfl).len
 rw [flatF_len hm] at hL
 have hL:L.length=n:=Nat.eq_of_mul_eq_mul_right hp hL
 have hj':j.toNat<L.length:=by omega
 obtain ⟨m1,m2⟩:=flat_mid (f:=f) (z:=y) hx
 obtain ⟨b,tl,ha,q1,q2,q3,q4,q5,S1⟩:=S.focus (by
  intro h
  have:=congrArg List.length h
  rw [flatF_len hm,List.length_nil] at this
  rcases Nat.mul_eq_zero.1 this with h | h <;> omega)
 subst ha
 refine ⟨_,rfl,?_⟩
 rw [show (⟨b,0,none⟩:Addr).add (j.toNat*m)=⟨b,j.toNat*m,none⟩ by simp [Addr.add_lit]]
 rw [m1,List.append_assoc,List.append_assoc] at S1
 refine S1.stM 0 k rfl (by rw [flatF_len hm,List.length_take,Nat.min_eq_left (by omega)]) (by rw [hm];exact hl) λw' S2 f2=>hk w' ?_ (f2.mono λk hk=>⟨_,rfl,hk⟩)
 have S2:Sep E w0 w' (BoxA b e (((L.set j.toNat y).flatMap f)++tl)::Rs):=by
  rw [m2,List.append_assoc,List.append_assoc,hy]
  exact S2
 have hl2:((L.set j.toNat y).flatMap f).length=n*m:=by rw [flatF_len hm,List.length_set,hL]
 exact S2.unfocus (n:=n) (c:=c) (sz:=m) hl2 (by rw [List.length_append,hl2,<- q2,List.length_append,q1]) q3 q4 (flatF_one h1 _)
end
end Go.Eng
namespace Go.Eng
open Go
def frontL:List Asr->List Nat->Option (List Asr)
 | Rs,[]=>some Rs
 | Rs,i::is=>match Rs[i]? with | none=>none | some R=>(frontL (Rs.eraseIdx i) is).map (R::·)
theorem frontL_perm:∀ {is:List Nat} {Rs Ts:List Asr},frontL Rs is=some Ts->Rs.Perm Ts
 | [],Rs,Ts,h=>by simp [frontL] at h;subst h;exact List.Perm.refl _
 | i::is,Rs,Ts,h=>by
  simp only [frontL] at h
  split at h
  ·cases h
  ·rename_i R hR
   obtain ⟨Vs,hV,rfl⟩:=Option.map_eq_some_iff.1 h
   exact (perm_front hR).trans ((frontL_perm hV).cons R)
section
variable {E:Nat->Prop} {w0 w:World} {A B C D F:Asr} {Rs Ts:List Asr}
theorem Sep.fro (S:Sep E w0 w Rs) (is:List Nat) (h:frontL Rs is=some Ts):Sep E w0 w Ts:=S.perm (frontL_perm h)
theorem Sep.up2 (S:Sep E w0 w (A::B::C::Rs)):Sep E w0 w (C::A::B::Rs):=S.fro [2] rfl
theorem Sep.dn2 (S:Sep E w0 w (C::A::B::Rs)):Sep E w0 w (A::B::C::Rs):=S.fro [1,1] rfl
theorem Sep.up3 (S:Sep E w0 w (A::B::C::D::Rs)):Sep E w0 w (D::A::B::C::Rs):=S.fro [3] rfl
theorem Sep.dn3 (S:Sep E w0 w (D::A::B::C::Rs)):Sep E w0 w (A::B::C::D::Rs):=S.fro [1,1,1] rfl
end
end Go.Eng
namespace Go.Proofs.YtbaojfchlhlaeaaGreat.Vc
open Go Go.Eng Go.RowKit
theorem Hdv_len (h:Hd):h.vs.length=6:=rfl
theorem Hdv_one (h:Hd):oneAll h.vs:=λv hv=>by
 simp only [Hd.vs,List.mem_cons,List.not_mem_nil,or_false] at hv
 rcases hv with rfl | rfl | rfl | rfl | rfl | rfl <;> rfl
abbrev boxPl (pp p q:Nat) (g:Geo) (s:SlV):Asr:=BoxA pp 155 [.pointer (some ⟨p,0,none⟩),.int .i64 g.b,.int .i64 g.p,.int .i64 g.s,.int .i64 g.sp,.int .i64 g.wr,.int .i64 g.ro,.pointer (some ⟨q,0,none⟩),.slice s.a s.n s.c]
abbrev ordP (s:SlV) (O:List Hd):Asr:=OwnA 62 6 s.a s.n s.c (O.flatMap Hd.vs)
abbrev plS (pp p q:Nat) (g:Geo) (s:SlV) (O:List Hd) (C:CD) (L:List Blk) (Rs:List Asr):List Asr:=boxPl pp p q g s::ordP s O::ledE q L::chipE p C::Rs
def zHd:Hd:=⟨0,0,0,0,0,0⟩
def dsC (n:Nat) (C:CD) (L:List Blk) (b:Int):CD×List Blk×Int:=if 0<=b/\b<(n:Int) then dstP C L b else (C,L,2)
def slC (n:Nat) (C:CD) (b:Int):CD×Int:=if 0<=b/\b<(n:Int) then selP C b else (C,2)
section
variable {E:Nat->Prop} {w0 w:World} {pp p q n:Nat} {g:Geo} {s:SlV} {O:List Hd} {C:CD} {L:List Blk} {Rs:List Asr}
theorem plS_n (S:Sep E w0 w (plS pp p q g s O C L Rs)):s.n=O.length:=by
 have h:=(S.own 1 rfl).len
 rw [flatF_len Hdv_len] at h
 exact (Nat.eq_of_mul_eq_mul_right (by decide) h).symm
theorem PI.le (h:PI g n C L O):(n:Int)<=60:=by
 have:=h.nn
 have h2:=h.ok.g.1.1
 rw [h.gg] at h2
 omega
theorem PI.erL (h:PI g n C L O):∀ x∈L,0<=x.er/\x.er<=2000000000000:=λx hx=>by
 have:=h.er x hx
 have:=h.ok.ops
 omega
theorem has24_c {b:Int} (S:Sep E w0 w (plS pp p q g s O C L Rs)):CallV Tryz.prog 167 #[.pointer (some ⟨pp,0,none⟩),.int .i64 b] w [.one .bool] λr w'=>r.1=decide (0<=b/\b<(s.n:Int))/\w'=w:=by
 apply pool_Pool_has.vc
 unfold pool_Pool_has.P
 simp only [Addr.add_lit,Nat.zero_add]
 refine cond_d (λh0=>?_) (λh0=>?_)
 ·exact S.ld0 (j:=8) rfl rfl ⟨decide_eq_decide.2 ⟨λx=>⟨h0,x⟩,λx=>x.2⟩,trivial⟩
 ·exact ⟨(decide_eq_false λx=>h0 x.1).symm,trivial⟩
theorem Place24_c {b i:Int} (hb:-4<=b/\b<=1000000):CallV Tryz.prog 165 #[.pointer (some ⟨pp,0,none⟩),.int .i64 b,.int .i64 i] w [.agg [.int .i64,.int .i64]] λr w'=>r.1=(4+b,i,())/\Ext w w':=by
 apply pool_Pool_Place.vc
 unfold pool_Pool_Place.P
 have T:=Sep.start NoB w
 refine T.newB λb1 w1 T f1 _=>?_
 refine ⟨Rng.i64 (by omega) (by omega),T.st0 (by rfl) λw2 T f2=>T.la0 rfl ⟨rfl,T.ext⟩⟩
theorem Order24_c {b:Int} (S:Sep E w0 w (plS pp p q g s O C L Rs)):CallV Tryz.prog 119 #[.pointer (some ⟨pp,0,none⟩),.int .i64 b] w [.agg [.int .i64,.int .i64,.int .i64,.int .u32,.int .u64,.int .u64]] λr w'=>r.1=(if 0<=b/\b<(O.length:Int) then O.getD b.toNat zHd else zHd).tup/\Ext w w':=by
 apply pool_Pool_Order.vc
 unfold pool_Pool_Order.P
 simp only [Addr.add_lit,Nat.zero_add]
 have hn:=plS_n S
 have T:=Sep.start NoB w
 refine T.newB λb1 w1 T f1 _=>?_
 have S:=S.stepE T.ext
 refine (has24_c (b:=b) S).mono ?_
 rintro ⟨(r:Bool),⟨⟩⟩ w2 ⟨h2,rfl⟩
 dsimp only at h2 ⊢
 subst h2
 by_cases hb:0<=b/\b<(s.n:Int)
 ·refine cond_f (by rw [decide_eq_true hb];rfl) ?_
  obtain ⟨q,x,hq,hx,hc⟩:=S.nthF (f:=Hd.vs) (m:=6) 1 rfl Hdv_len (by decide) hb.1 hb.2
  refine S.ld0 (j:=8) rfl rfl ⟨hb,q,hq,x.tup,hc,?_⟩
  refine T.st0 (by rfl) λw3 T f3=>T.la0 rfl ⟨?_,T.ext⟩
  rw [if_pos (by omega),getD_some hx]
 ·refine cond_t (by rw [decide_eq_false hb];rfl) ?_
  refine T.st0 (by rfl) λw3 T f3=>T.la0 rfl ⟨?_,T.ext⟩
  rw [if_neg (by omega)]
  rfl
theorem Ledger24_c (S:Sep E w0 w (plS pp p q g s O C L Rs)):CallV Tryz.prog 27 #[.pointer (some ⟨pp,0,none⟩)] w [.one .ptr] λr w'=>r.1=some ⟨q,0,none⟩/\w'=w:=by
 apply pool_Pool_Ledger.vc
 unfold pool_Pool_Ledger.P
 simp only [Addr.add_lit,Nat.zero_add]
 exact S.ld0 (j:=7) rfl rfl ⟨rfl,trivial⟩
theorem Destroy24_c {b:Int} (h:PI g n C L O) (ho:C.ops+2<=1000000000000) (S:Sep E w0 w (plS pp p q g s O C L Rs)) :
  CallV Tryz.prog 125 #[.pointer (some ⟨pp,0,none⟩),.int .i64 b] w [.one (.int .i64)] λr w'=>r.1=(dsC n C L b).2.2/\Sep E w0 w' (plS pp p q g s O (dsC n C L b).1 (dsC n C L b).2.1 Rs):=by
 apply pool_Pool_Destroy.vc
 unfold pool_Pool_Destroy.P
 simp only [Addr.add_lit,Nat.zero_add]
 have hn:=plS_n S
 have hol:=h.ol
 have hle:=h.le
 refine (has24_c (b:=b) S).mono ?_
 rintro ⟨(r:Bool),⟨⟩⟩ w2 ⟨h2,rfl⟩
 dsimp only at h2 ⊢
 subst h2
 by_cases hb:0<=b/\b<(n:Int)
 case neg=>exact cond_t (by rw [decide_eq_false (by omega)];rfl) (by unfold dsC;rw [if_neg hb];exact ⟨rfl,S⟩)
 refine cond_f (by rw [decide_eq_true (by omega)];rfl) ?_
 have hd:dsC n C L b=dstP C L b:=if_pos hb
 rw [hd]
 have rg:Rng .i64 ((4:Int)+b):=Rng.i64 (by omega) (by omega)
 refine S.ld0 (j:=0) rfl rfl ⟨rg,?_⟩
 refine (Erase_e h.ok S.up3).mono ?_
 rintro ⟨e,⟨⟩⟩ w5 ⟨h5,S⟩
 dsimp only at h5 ⊢
 subst h5
 have S:=S.dn3
 obtain ⟨o1,o2,o3⟩:=eraC_ok h.ok (4+b) (by omega)
 refine cond_eq (λ(h0:(eraC C (4+b)).2=0)=>?_) (λ(h0:(eraC C (4+b)).2≠0)=>?_)
 ·refine S.ld0 (j:=7) rfl rfl ?_
  refine (Erased_e h.erL S.up2).mono ?_
  rintro ⟨(e2:Int),⟨⟩⟩ w8 ⟨-,S⟩
  have S:=S.dn2
  refine cond_ne (λ(hne:(eraC C (4+b)).2≠5)=>?_) (λ(hq:(eraC C (4+b)).2=5)=>?_)
  ·unfold dstP
   rw [if_neg hne,if_pos h0]
   exact ⟨rfl,S⟩
  ·omega
 ·refine cond_ne (λ(hne:(eraC C (4+b)).2≠5)=>?_) (λ(hq:(eraC C (4+b)).2=5)=>?_)
  ·unfold dstP
   rw [if_neg hne,if_neg h0]
   exact ⟨rfl,S⟩
  ·refine S.ld0 (j:=7) rfl rfl ?_
   refine (Failed_e S.up2).mono ?_
   rintro ⟨(e2:Int),⟨⟩⟩ w8 ⟨-,S⟩
   have S:=S.dn2
   refine S.ld0 (j:=0) rfl rfl ⟨rg,?_⟩
   refine (Scrub_e o1 S.up3).mono ?_
   rintro ⟨f,⟨⟩⟩ w9 ⟨h9,S⟩
   dsimp only at h9 ⊢
   subst h9
   have S:=S.dn3
   unfold dstP
   rw [if_pos hq]
   refine cond_eq (λ(h4:(scrC (eraC C (4+b)).1 (4+b)).2=4)=>?_) (λ(h4:(scrC (eraC C (4+b)).1 (4+b)).2≠4)=>?_)
   ·rw [if_pos h4]
    exact ⟨h4,S⟩
   ·rw [if_neg h4]
    refine S.ld0 (j:=7) rfl rfl ?_
    refine (Scrubbed_e S.up2).mono ?_
    rintro ⟨(e3:Int),⟨⟩⟩ w10 ⟨-,S⟩
    have S:=S.dn2
    rw [chL_len] at S
    refine cond_eq (λh6=>?_) (λh6=>?_)
    ·exact ⟨(if_pos h6).symm,S⟩
    ·exact ⟨(if_neg h6).symm,S⟩
theorem programmed_c {bl pa:Int} {dd:SlP Int} (h:PI g n C L O) (bx:Byt dd.l) (ho:C.ops+2<=1000000000000) (hdn:dd.n<=100000) (S:Sep E w0 w (plS pp p q g s O C L (RdL [dd]::Rs))) :
  CallV Tryz.prog 169 #[.pointer (some ⟨pp,0,none⟩),.agg #[.int .i64 bl,.int .i64 pa],.slice dd.a dd.n dd.c] w [.one (.int .i64)] λr w'=>r.1=(prgP C bl pa dd.l).2/\Sep E w0 w' (plS pp p q g s O (prgP C bl pa dd.l).1 L (RdL [dd]::Rs)):=by
 apply pool_Pool_programmed.vc
 unfold pool_Pool_programmed.P
 simp only [Addr.add_lit,Nat.zero_add]
 refine S.newB λb1 w1 S f1 _=>?_
 have hR:Right g:=by have:=h.ok.g;rwa [h.gg] at this
 have S:Sep E w0 w1 ([chipE p C,RdL [dd]]++(BoxA b1 _ _::boxPl pp p q g s::ordP s O::ledE q L::Rs)):=S.fro [4,4] rfl
 refine Sep.regC [chipE p C,RdL [dd]] S λG D hG T S hDt hDo hkeep back=>?_
 refine ⟨hDt 1 _ _ _ rfl,S.ld3 (j:=0) rfl rfl ⟨hDt 0 _ _ _ rfl,S.la2 rfl ?_⟩⟩
 refine (Program_e (bl:=bl) (pa:=pa) h.ok hdn T).mono ?_
 rintro ⟨e,⟨⟩⟩ w2 ⟨h2,T⟩
 dsimp only at h2 ⊢
 subst h2
 obtain ⟨h1,o1,o2⟩:=h.prog bl pa bx (by omega)
 have S:Sep E w0 w2 (BoxA b1 _ _::plS pp p q g s O _ L (RdL [dd]::Rs)):=(back _ _ T).fro [2,2,2,2] rfl
 refine ⟨hkeep _ T.fr,?_⟩
 refine cond_ne (λ(hne:(progC C bl pa dd.l).2≠0)=>?_) (λ(hq:(progC C bl pa dd.l).2=0)=>?_)
 ·unfold prgP
  rw [if_neg hne]
  exact ⟨rfl,S.tail⟩
 refine S.lb1 (o:=1) rfl ?_
 refine (PCommit_c (g:=g)).mono ?_
 rintro ⟨⟨va,vn,vc⟩,e,⟨⟩⟩ w3 ⟨x3,h3,-⟩
 dsimp only at h3 ⊢
 obtain ⟨r3,h3⟩:=h3 hR
 subst h3
 refine cond_f rfl ?_
 have S:=res_rdL S r3 (comL_byt g)
 have hvn:vn<=100000:=by have h8:=r3.own.ints.len;have h9:=comL_len g;have h7:=hR.sec;dsimp only at h8;omega
 have S:Sep E w0 w3 ([chipE p _,RdL [⟨va,vn,vc,comL g⟩]]++(BoxA b1 _ _::boxPl pp p q g s::ordP s O::ledE q L::RdL [dd]::Rs)):=S.fro [5,0] rfl
 refine Sep.regC [chipE p _,RdL [_]] S λG D hG T S hDt hDo hkeep back=>?_
 refine ⟨hDt 1 _ _ _ rfl,S.ld3 (j:=0) rfl rfl ⟨hDt 0 _ _ _ rfl,S.la2 rfl ?_⟩⟩
 refine (Program_e (bl:=bl) (pa:=pa) h1.ok hvn T).mono ?_
 rintro ⟨e,⟨⟩⟩ w4 ⟨h4,T⟩
 dsimp only at h4 ⊢
 subst h4
 refine ⟨hkeep _ T.fr,?_⟩
 unfold prgP
 rw [if_pos hq,h.gg]
 exact ⟨rfl,((back _ _ T).fro [1,1,1,1,1] rfl).tail.tail⟩
theorem Seal24_c {b:Int} (h:PI g n C L O) (ho:C.ops+1<=1000000000000) (S:Sep E w0 w (plS pp p q g s O C L Rs)) :
  CallV Tryz.prog 210 #[.pointer (some ⟨pp,0,none⟩),.int .i64 b] w [.one (.int .i64)] λr w'=>r.1=(slC n C b).2/\Sep E w0 w' (plS pp p q g s O (slC n C b).1 L Rs):=by
 apply pool_Pool_Seal.vc
 unfold pool_Pool_Seal.P
 simp only [Addr.add_lit,Nat.zero_add]
 have hn:=plS_n S
 have hol:=h.ol
 have hle:=h.le
 have hR:Right g:=by have:=h.ok.g;rwa [h.gg] at this
 refine (has24_c (b:=b) S).mono ?_
 rintro ⟨(r:Bool),⟨⟩⟩ w2 ⟨h2,rfl⟩
 dsimp only at h2 ⊢
 subst h2
 by_cases hb:0<=b/\b<(n:Int)
 case neg=>exact cond_t (by rw [decide_eq_false (by omega)];rfl) (by unfold slC;rw [if_neg hb];exact ⟨rfl,S⟩)
 refine cond_f (by rw [decide_eq_true (by omega)];rfl) ?_
 rw [show slC n C b=selP C b from if_pos hb]
 refine S.lb0 (o:=1) rfl ?_
 refine (PCommit_c (g:=g)).mono ?_
 rintro ⟨⟨va,vn,vc⟩,e,⟨⟩⟩ w3 ⟨x3,h3,-⟩
 dsimp only at h3 ⊢
 obtain ⟨r3,h3⟩:=h3 hR
 subst h3
 refine cond_f rfl ?_
 have S:=res_rdL S r3 (comL_byt g)
 have hvn:vn<=100000:=by have h8:=r3.own.ints.len;have h9:=comL_len g;have h7:=hR.sec;dsimp only at h8;omega
 have S:Sep E w0 w3 ([chipE p _,RdL [⟨va,vn,vc,comL g⟩]]++(boxPl pp p q g s::ordP s O::ledE q L::Rs)):=S.fro [4,0] rfl
 refine Sep.regC [chipE p _,RdL [_]] S λG D hG T S hDt hDo hkeep back=>?_
 refine ⟨hDt 0 _ _ _ rfl,S.ld2 (j:=0) rfl rfl ?_⟩
 refine (Place24_c (pp:=pp) (b:=b) (i:=0) (by omega)).mono ?_
 rintro ⟨x,⟨⟩⟩ w4 ⟨h4,x4⟩
 dsimp only at h4 ⊢
 subst h4
 have T:=T.stepE x4
 refine ⟨hkeep _ T.fr,?_⟩
 refine (Program_e (bl:=4+b) (pa:=0) h.ok hvn T).mono ?_
 rintro ⟨e,⟨⟩⟩ w5 ⟨h5,T⟩
 dsimp only at h5 ⊢
 subst h5
 refine ⟨hkeep _ T.fr,?_⟩
 unfold selP
 rw [h.gg]
 exact ⟨rfl,((back _ _ T).fro [1,1,1,1] rfl).tail⟩
end
def opC (ns:Int) (o:Hd) (sl:Bool) (C:CD) (L:List Blk) (O:List Hd):(CD×List Blk×List Hd)×Int×Int:=if 0<=ns/\ns<4 then opnP ns o sl 128 C L O else ((C,L,O),0,2)
theorem mkL_len13 (g:Geo) (h:Hd):(mkL g h [] []).length=g.s.toNat+88:=by
 unfold mkL payL
 rw [List.length_append,endL_length _ (.inl rfl),if_pos (by rfl),List.length_replicate]
section
variable {E:Nat->Prop} {w0 w:World} {pp p q n:Nat} {g:Geo} {s:SlV} {O:List Hd} {C:CD} {L:List Blk} {Rs:List Asr}
theorem begin24_c {b ns:Int} {o:Hd} {sl:Bool} (h:PI g n C L O) (hn:0<=ns/\ns<4) (hr:o.rng) (ho:C.ops+2<=1000000000000) (hb:0<=b/\b<(n:Int)) (S:Sep E w0 w (plS pp p q g s O C L Rs)) :
  CallV Tryz.prog 256 #[.pointer (some ⟨pp,0,none⟩),.int .i64 b,.int .i64 ns,o.val,.bool sl] w [.one (.int .i64)] λr w'=>r.1=(begP C L O b ns o sl).2.2.2/\Sep E w0 w' (plS pp p q g s (begP C L O b ns o sl).2.2.1 (begP C L O b ns o sl).1 (begP C L O b ns o sl).2.1 Rs):=by
 apply pool_Pool_begin.vc
 unfold pool_Pool_begin.P
 simp only [Addr.add_lit,Nat.zero_add]
 have hnn:=plS_n S
 have hol:=h.ol
 have hll:=h.ll
 have hle:=h.le
 have hg:=h.gg
 subst hg
 have hR:Right C.g:=h.ok.g
 refine S.newB λb1 w1 S f1 _=>?_
 have hh:=begH_rng L b hn hr
 have hhR:=begH_right L b (o:=o) hn
 refine ⟨λv w'=>∃ b2,v.1=some ⟨b2,0,none⟩/\Sep E w0 w' (BoxA b2 62 (begH L b ns o).vs::plS pp p q C.g s O C L Rs),?_,?_⟩
 case refine_2=>
  have cl:∀ {w':World},Sep E w0 w' (BoxA b1 62 o.vs::plS pp p q C.g s O C L Rs)->CallV Tryz.prog 54 #[.pointer (some ⟨q,0,none⟩),.int .i64 b] w' [.agg [.int .i64,.int .i64,.int .i64,.int .i64,.bool,.bool,.bool,.bool,.bool]] λr w2=>r.1=(gx L b.toNat).tup/\Ext w' w2:=λS=>At_e (S.fro [3] rfl) ⟨hb.1,by omega⟩
  refine S.reg λD hD hkeep S T=>?_
  refine ⟨hD _ S.bl1,S.ld1 (j:=7) rfl rfl ⟨hD _ S.bl0,S.ld0 (j:=4) rfl rfl ⟨hD _ S.bl0,S.ld0 (j:=5) rfl rfl ⟨?_,?_⟩⟩⟩⟩
  ·refine (cl S).mono ?_
   rintro ⟨x,⟨⟩⟩ w2 ⟨h2,x2⟩
   dsimp only at h2 ⊢
   subst h2
   have S:=S.stepE x2
   have T:=T.stepE x2
   refine ⟨hkeep _ T.fr,S.newB λb2 w3 S f3 hb3=>?_⟩
   have hz:w1.drew.heap.size<=b2:=Nat.le_trans T.fr.size hb3
   have T:=T.step0 f3
   refine ⟨hkeep _ T.fr,S.st0 (by rfl) λw4 S f4=>?_⟩
   exact ⟨hkeep _ (T.fr.trans' f4 λi hi=>.inr (by rw [hi];exact hz)),b2,rfl,(S.fro [1] rfl).tail⟩
  ·refine S.newB λb2 w3 S f3 hb3=>?_
   have T:=T.step0 f3
   refine ⟨hkeep _ T.fr,?_⟩
   refine (cl S.tail).mono ?_
   rintro ⟨x,⟨⟩⟩ w2 ⟨h2,x2⟩
   dsimp only at h2 ⊢
   subst h2
   have S:=S.stepE x2
   have T:=T.stepE x2
   refine ⟨hkeep _ T.fr,S.st0 (by rfl) λw4 S f4=>?_⟩
   exact ⟨hkeep _ (T.fr.trans' f4 λi hi=>.inr (by rw [hi];exact hb3)),b2,rfl,(S.fro [1] rfl).tail⟩
 clear S
 rintro ⟨v,⟨⟩⟩ w2 ⟨b2,hv,S⟩
 dsimp only at hv
 subst hv
 dsimp only
 refine S.reg λD hD hkeep S T=>?_
 refine ⟨hD _ S.bl1,S.lb1 (o:=1) rfl ?_⟩
 refine PtrK.of rfl ⟨hD _ S.bl0,S.la0 rfl ?_⟩
 refine (Make_c (g:=C.g) (h:=begH L b ns o) hh intsNil intsNil).mono ?_
 rintro ⟨⟨va,vn,vc⟩,e,⟨⟩⟩ w3 ⟨x3,h3,-⟩
 dsimp only at h3 ⊢
 have T:=T.stepE x3
 refine ⟨hkeep _ T.fr,?_⟩
 obtain ⟨r3,h3⟩:=h3 ⟨hR,⟨hhR,.inl rfl⟩,.inl rfl⟩
 subst h3
 have bm:Byt (mkL C.g (begH L b ns o) [] []):=mkL_byt hh hhR Byt.nil Byt.nil
 have S:=res_rdL S r3 bm
 have hvn:vn<=100000:=by
  have h8:=r3.own.ints.len
  have h9:(mkL C.g (begH L b ns o) [] []).length=C.g.s.toNat+88:=by
   exact mkL_len13 _ _
  have h7:=hR.sec
  dsimp only at h8
  omega
 obtain ⟨h1,o1,o2⟩:=h.prog (4+b) 0 bm (by omega)
 refine ⟨λv w'=>v.1=(progC C (4+b) 0 (mkL C.g (begH L b ns o) [] [])).2/\Sep E w0 w' (BoxA b2 62 (begH L b ns o).vs::plS pp p q C.g s O (progC C (4+b) 0 (mkL C.g (begH L b ns o) [] [])).1 L Rs),?_,?_⟩
 case refine_2=>
  refine cond_t rfl ?_
  have S:Sep E w0 w3 ([chipE p C,RdL [⟨va,vn,vc,mkL C.g (begH L b ns o) [] []⟩]]++(BoxA b2 62 (begH L b ns o).vs::boxPl pp p q C.g s::ordP s O::ledE q L::Rs)):=S.fro [5,0] rfl
  refine Sep.regC [chipE p _,RdL [_]] S λG D hG T S hDt hDo hkeep back=>?_
  refine ⟨hDt 1 _ _ _ rfl,S.ld3 (j:=0) rfl rfl ?_⟩
  refine (Place24_c (pp:=pp) (b:=b) (i:=0) (by omega)).mono ?_
  rintro ⟨x,⟨⟩⟩ w4 ⟨h4,x4⟩
  dsimp only at h4 ⊢
  subst h4
  have T:=T.stepE x4
  refine ⟨hkeep _ T.fr,?_⟩
  refine (Program_e (bl:=4+b) (pa:=0) h.ok hvn T).mono ?_
  rintro ⟨e,⟨⟩⟩ w5 ⟨h5,T⟩
  dsimp only at h5 ⊢
  subst h5
  exact ⟨hkeep _ T.fr,rfl,((back _ _ T).fro [1,1,1,1,1] rfl).tail⟩
 clear S T
 rintro ⟨v,⟨⟩⟩ w4 ⟨hv,S⟩
 dsimp only at hv
 subst hv
 dsimp only
 obtain ⟨k1,k2,k3⟩:=h.fst b hh hhR sl (by omega)
 refine ⟨λv w'=>v.1=(fstP C b (begH L b ns o) sl).2/\Sep E w0 w' (BoxA b2 62 (begH L b ns o).vs::plS pp p q C.g s O (fstP C b (begH L b ns o) sl).1 L Rs),?_,?_⟩
 case refine_2=>
  have nos:∀ {w':World},¬ ((progC C (4+b) 0 (mkL C.g (begH L b ns o) [] [])).2=0/\sl=true)->Sep E w0 w' (BoxA b2 62 (begH L b ns o).vs::plS pp p q C.g s O (progC C (4+b) 0 (mkL C.g (begH L b ns o) [] [])).1 L Rs) ->
    (progC C (4+b) 0 (mkL C.g (begH L b ns o) [] [])).2=(fstP C b (begH L b ns o) sl).2/\Sep E w0 w' (BoxA b2 62 (begH L b ns o).vs::plS pp p q C.g s O (fstP C b (begH L b ns o) sl).1 L Rs):=λhno S=>by
   unfold fstP
   rw [if_neg hno]
   exact ⟨rfl,S⟩
  refine cond_eq (λh0=>?_) (λh0=>nos (λx=>h0 x.1) S)
  refine cond_of (λhs=>?_) (λhs=>nos (λx=>by rw [hs] at x;cases x.2) S)
  refine (Seal24_c (b:=b) h1 (by omega) (S.fro [1,1,1,1] rfl)).mono ?_
  rintro ⟨e,⟨⟩⟩ w5 ⟨h5,S⟩
  dsimp only at h5 ⊢
  subst h5
  have hq:slC n (progC C (4+b) 0 (mkL C.g (begH L b ns o) [] [])).1 b=selP (progC C (4+b) 0 (mkL C.g (begH L b ns o) [] [])).1 b:=if_pos hb
  rw [hq] at S ⊢
  unfold fstP
  rw [if_pos ⟨h0,hs⟩]
  exact ⟨rfl,S.fro [4] rfl⟩
 clear S
 rintro ⟨v,⟨⟩⟩ w5 ⟨hv,S⟩
 dsimp only at hv
 subst hv
 dsimp only
 refine cond_eq (λ(h0:(fstP C b (begH L b ns o) sl).2=0)=>?_) (λ(h0:(fstP C b (begH L b ns o) sl).2≠0)=>?_)
 case refine_2=>
  unfold begP
  rw [if_neg h0]
  exact ⟨rfl,S.tail⟩
 refine S.ld1 (j:=7) rfl rfl ?_
 refine (Hold_e (b:=b) (ns:=ns) (S.fro [3] rfl)).mono ?_
 rintro ⟨(e:Int),⟨⟩⟩ w6 ⟨-,S⟩
 rw [if_pos hn] at S
 have S:Sep E w0 w6 ([ordP s O]++(ledE q (chL b L.length (hB ns) L)::BoxA b2 62 (begH L b ns o).vs::boxPl pp p q C.g s::chipE p (fstP C b (begH L b ns o) sl).1::Rs)):=S.fro [3] rfl
 refine Sep.regC [ordP s O] S λG D hG T S hDt hDo hkeep back=>?_
 refine ⟨hDt 2 _ _ _ rfl,S.ld3 (j:=8) rfl rfl ?_⟩
 refine PtrK.of rfl ⟨hDt 1 _ _ _ rfl,S.la2 rfl ?_⟩
 refine ⟨⟨hb.1,by dsimp only;omega⟩,T.putF Hdv_len Hdv_one (by decide) ⟨hb.1,by omega⟩ (begH L b ns o) λw7 T f7=>⟨hkeep _ T.fr,?_⟩⟩
 have S:=(back _ _ T).fro [2,2] rfl
 unfold begP
 rw [if_pos h0]
 exact ⟨h0,S.tail⟩
theorem open24_c {ns:Int} {o:Hd} {sl:Bool} (h:PI g n C L O) (hr:o.rng) (ho:C.ops+768<=1000000000000) (S:Sep E w0 w (plS pp p q g s O C L Rs)) :
  CallV Tryz.prog 208 #[.pointer (some ⟨pp,0,none⟩),.int .i64 ns,o.val,.bool sl] w [.one (.int .i64),.one (.int .i64)] λr w'=>
   r.1=(opC ns o sl C L O).2.1/\r.2.1=(opC ns o sl C L O).2.2/\Sep E w0 w' (plS pp p q g s (opC ns o sl C L O).1.2.2 (opC ns o sl C L O).1.1 (opC ns o sl C L O).1.2.1 Rs):=by
 apply pool_Pool_open.vc
 unfold pool_Pool_open.P
 simp only [Addr.add_lit,Nat.zero_add]
 refine S.newB λb1 w1 S f1 _=>?_
 have no:¬ (0<=ns/\ns<4)->opC ns o sl C L O=((C,L,O),0,2):=λhn=>if_neg hn
 refine cond_d (λh0=>by rw [no (by omega)];exact ⟨rfl,rfl,S.tail⟩) (λh0=>?_)
 refine cond_d (λh4=>by rw [no (by omega)];exact ⟨rfl,rfl,S.tail⟩) (λh4=>?_)
 have hn:0<=ns/\ns<4:=⟨by omega,by omega⟩
 rw [show opC ns o sl C L O=opnP ns o sl 128 C L O from if_pos hn]
 generalize hX:opnP ns o sl 128 C L O=X
 refine Loop1 (λ(v:Int×Unit) w'=>∃ (k:Nat) (C':CD) (L':List Blk) (O':List Hd),v.1=128-(k:Int)/\k<=128/\PI g n C' L' O'/\C'.ops+6*k<=1000000000000/\opnP ns o sl k C' L' O'=X/\Sep E w0 w' (BoxA b1 62 o.vs::plS pp p q g s O' C' L' Rs)) (λ(v:Int×Unit) _=>(128-v.1).toNat)
  ⟨128,C,L,O,rfl,by omega,h,by omega,hX,S⟩ ?_
 clear S h hX ho
 rintro ⟨(v:Int),⟨⟩⟩ w2 ⟨k,C,L,O,hv,hk,h,ho,hX,S⟩
 dsimp only at hv
 subst hv
 refine cond_d (λhlt=>?_) (λhge=>?_)
 case refine_2=>
  have:k=0:=by omega
  subst this
  rw [<-hX]
  exact ⟨rfl,rfl,S.tail⟩
 obtain ⟨k,rfl⟩:∃ m,k=m+1:=⟨k-1,by omega⟩
 have hll:=h.ll
 have hle:=h.le
 refine S.ld1 (j:=7) rfl rfl ?_
 refine (Pick_e (by omega) (S.fro [3] rfl)).mono ?_
 rintro ⟨(b:Int),⟨⟩⟩ w3 ⟨h3,x3⟩
 dsimp only at h3 ⊢
 have S:=S.stepE x3
 unfold opnP at hX
 have hbd:=bestT_bd (L:=L) (m:=λ_ x=>freeB x) (ah:=λx y=>decide (x.er<y.er)) L.length
 have hbd:-1<=pickT L L.length/\pickT L L.length<(L.length:Int):=hbd
 rw [<-h3] at hX hbd
 clear h3
 refine cond_d (λhneg=>?_) (λhneg=>?_)
 ·rw [if_pos hneg] at hX
  rw [<-hX]
  exact ⟨rfl,rfl,S.tail⟩
 rw [if_neg hneg] at hX
 have hb:0<=b/\b<(n:Int):=⟨by omega,by omega⟩
 refine S.ld1 (j:=7) rfl rfl ?_
 refine (At_e (b:=b) (S.fro [3] rfl) ⟨hb.1,by omega⟩).mono ?_
 rintro ⟨x,⟨⟩⟩ w4 ⟨h4,x4⟩
 dsimp only at h4 ⊢
 subst h4
 have S:=S.stepE x4
 dsimp only
 have nxt:∀ {w':World} {C':CD} {L':List Blk} {O':List Hd},PI g n C' L' O'->C'.ops<=C.ops+6->opnP ns o sl k C' L' O'=X->Sep E w0 w' (BoxA b1 62 o.vs::plS pp p q g s O' C' L' Rs) ->
   Rng .i64 (128-((k+1:Nat):Int)+1)/\(∃ (k2:Nat) (C':CD) (L':List Blk) (O':List Hd),128-((k+1:Nat):Int)+1=128-(k2:Int)/\k2<=128/\PI g n C' L' O'/\C'.ops+6*k2<=1000000000000/\opnP ns o sl k2 C' L' O'=X/\Sep E w0 w' (BoxA b1 62 o.vs::plS pp p q g s O' C' L' Rs))/\(128-(128-((k+1:Nat):Int)+1)).toNat<(128-(128-((k+1:Nat):Int))).toNat:=
  λh1 h2 h3 S=>⟨Rng.i64 (by omega) (by omega),⟨k,_,_,_,by push_cast;omega,by omega,h1,by omega,h3,S⟩,by omega⟩
 refine cond_of (λhcl=>?_) (λhcl=>?_)
 ·have hcl:(gx L b.toNat).cl=false:=by simpa using hcl
  have hcl':¬ (gx L b.toNat).cl=true:=by rw [hcl];simp
  rw [if_neg hcl'] at hX
  refine (Destroy24_c (b:=b) h (by omega) (S.fro [1,1,1,1] rfl)).mono ?_
  rintro ⟨e,⟨⟩⟩ w5 ⟨h5,S⟩
  dsimp only at h5 ⊢
  rw [show dsC n C L b=dstP C L b from if_pos hb] at h5 S
  obtain ⟨q1,q2,q3⟩:=h.dst b (by omega)
  generalize dstP C L b=R at hX h5 S q1 q2 q3
  obtain ⟨C1,L1,e1⟩:=R
  dsimp only at hX h5 S q1 q2 q3
  subst h5
  have S:=S.fro [4] rfl
  refine cond_eq (λh0=>?_) (λh0=>?_)
  case refine_2=>
   rw [if_neg h0] at hX
   refine cond_eq (λh4=>?_) (λh4=>?_)
   ·rw [if_pos h4] at hX
    rw [<-hX]
    exact ⟨rfl,h4,S.tail⟩
   ·rw [if_neg h4] at hX
    exact nxt q1 (by omega) hX S
  rw [if_pos h0] at hX
  clear h0
  refine S.la0 rfl ?_
  refine (begin24_c (b:=b) (sl:=sl) q1 hn hr (by omega) hb (S.fro [1,1,1,1] rfl)).mono ?_
  rintro ⟨e2,⟨⟩⟩ w6 ⟨h6,S⟩
  dsimp only at h6 ⊢
  have S:=S.fro [4] rfl
  obtain ⟨r1,r2,r3⟩:=q1.beg b hn hr sl (by omega)
  generalize begP C1 L1 O b ns o sl=Z at hX h6 S r1 r2 r3
  obtain ⟨C2,L2,O2,e3⟩:=Z
  dsimp only at hX h6 S r1 r2 r3
  subst h6
  refine cond_eq (λh0=>?_) (λh0=>?_)
  ·rw [if_pos h0] at hX
   rw [<-hX]
   exact ⟨rfl,h0,S.tail⟩
  rw [if_neg h0] at hX
  refine cond_eq (λh4=>?_) (λh4=>?_)
  ·rw [if_pos h4] at hX
   rw [<-hX]
   exact ⟨rfl,h4,S.tail⟩
  rw [if_neg h4] at hX
  refine S.ld1 (j:=7) rfl rfl ?_
  refine (Failed_e (b:=b) (S.fro [3] rfl)).mono ?_
  rintro ⟨(e4:Int),⟨⟩⟩ w7 ⟨-,S⟩
  have S:=S.fro [1,1,1] rfl
  have hl2:L2.length=L.length:=by rw [r1.ll,h.ll]
  have r1:=r1.chL b (φ:=fB) (λ_=>rfl)
  rw [hl2] at S r1
  refine (Destroy24_c (b:=b) r1 (by omega) (S.fro [1,1,1,1] rfl)).mono ?_
  rintro ⟨e5,⟨⟩⟩ w8 ⟨h8,S⟩
  dsimp only at h8 ⊢
  rw [show dsC n C2 (chL b L.length fB L2) b=dstP C2 (chL b L.length fB L2) b from if_pos hb] at h8 S
  obtain ⟨d1,d2,d3⟩:=r1.dst b (by omega)
  generalize dstP C2 (chL b L.length fB L2) b=Y at hX h8 S d1 d2 d3
  obtain ⟨C3,L3,e6⟩:=Y
  dsimp only at hX h8 S d1 d2 d3
  subst h8
  have S:=S.fro [4] rfl
  refine cond_eq (λh4=>?_) (λh4=>?_)
  ·rw [if_pos h4] at hX
   rw [<-hX]
   exact ⟨rfl,h4,S.tail⟩
  ·rw [if_neg h4] at hX
   exact nxt d1 (by omega) hX S
 ·have hcl:(gx L b.toNat).cl=true:=by simpa using hcl
  rw [if_pos hcl] at hX
  dsimp only at hX
  rw [if_pos rfl] at hX
  obtain ⟨C1,L1,q1,q2,q3,hX,S⟩:∃ C1 L1,PI g n C1 L1 O/\C1.ops<=C.ops+2/\C.ops<=C1.ops/\(let s:=begP C1 L1 O b ns o sl
    if s.2.2.2=0 then ((s.1,s.2.1,s.2.2.1),b,0) else
    if s.2.2.2=4 then ((s.1,s.2.1,s.2.2.1),0,4) else
    let d:=dstP s.1 (chL b L.length fB s.2.1) b
    if d.2.2=4 then ((d.1,d.2.1,s.2.2.1),0,4) else opnP ns o sl k d.1 d.2.1 s.2.2.1)=X/\Sep E w0 w4 (BoxA b1 62 o.vs::plS pp p q g s O C1 L1 Rs):=⟨C,L,h,by omega,by omega,hX,S⟩
  refine S.la0 rfl ?_
  refine (begin24_c (b:=b) (sl:=sl) q1 hn hr (by omega) hb (S.fro [1,1,1,1] rfl)).mono ?_
  rintro ⟨e2,⟨⟩⟩ w6 ⟨h6,S⟩
  dsimp only at h6 ⊢
  have S:=S.fro [4] rfl
  obtain ⟨r1,r2,r3⟩:=q1.beg b hn hr sl (by omega)
  generalize begP C1 L1 O b ns o sl=Z at hX h6 S r1 r2 r3
  obtain ⟨C2,L2,O2,e3⟩:=Z
  dsimp only at hX h6 S r1 r2 r3
  subst h6
  refine cond_eq (λh0=>?_) (λh0=>?_)
  ·rw [if_pos h0] at hX
   rw [<-hX]
   exact ⟨rfl,h0,S.tail⟩
  rw [if_neg h0] at hX
  refine cond_eq (λh4=>?_) (λh4=>?_)
  ·rw [if_pos h4] at hX
   rw [<-hX]
   exact ⟨rfl,h4,S.tail⟩
  rw [if_neg h4] at hX
  refine S.ld1 (j:=7) rfl rfl ?_
  refine (Failed_e (b:=b) (S.fro [3] rfl)).mono ?_
  rintro ⟨(e4:Int),⟨⟩⟩ w7 ⟨-,S⟩
  have S:=S.fro [1,1,1] rfl
  have hl2:L2.length=L.length:=by rw [r1.ll,h.ll]
  have r1:=r1.chL b (φ:=fB) (λ_=>rfl)
  rw [hl2] at S r1
  refine (Destroy24_c (b:=b) r1 (by omega) (S.fro [1,1,1,1] rfl)).mono ?_
  rintro ⟨e5,⟨⟩⟩ w8 ⟨h8,S⟩
  dsimp only at h8 ⊢
  rw [show dsC n C2 (chL b L.length fB L2) b=dstP C2 (chL b L.length fB L2) b from if_pos hb] at h8 S
  obtain ⟨d1,d2,d3⟩:=r1.dst b (by omega)
  generalize dstP C2 (chL b L.length fB L2) b=Y at hX h8 S d1 d2 d3
  obtain ⟨C3,L3,e6⟩:=Y
  dsimp only at hX h8 S d1 d2 d3
  subst h8
  have S:=S.fro [4] rfl
  refine cond_eq (λh4=>?_) (λh4=>?_)
  ·rw [if_pos h4] at hX
   rw [<-hX]
   exact ⟨rfl,h4,S.tail⟩
  ·rw [if_neg h4] at hX
   exact nxt d1 (by omega) hX S
end
end Go.Proofs.YtbaojfchlhlaeaaGreat.Vc
