/- Texts in one: The contracts of layer 12 (fault): bits, and what is there behind torn programs and erases. Values that are read, of any shape: where they lie (in which blocks), what data they are, and that they stay while their blocks stay. The contracts of layer 12 (fault): plans. The plans of functions as plain statements, printed by wip/tools/vcgen.py; the kernel holds each to the code. The contracts of layer 15 (page): pages that are made. Parts of plans, cut out by wip/tools/vccut.py. The contract of the document's Read (layer 14). The laws GeometryChecks, GeometryIndexes and GeometryQuotas of layer 11: each call gives true, and what it read stays. The contracts of layer 15 (page): what commits a page, and what a page tells. The contracts of layer 15 (page): what bytes tell. The contracts of layer 15 (page): the document's, and small ones. The plans of functions as plain statements, printed by wip/tools/vcgen.py; the kernel holds each to the code. The contracts of layer 12 (fault): bits turned. The contracts of layer 12 (fault): torn programs and erases, by the program and by the document. The contract of Copy of layer 12 (fault): a plan in new memory. Plain laws of layer 13 (nand): an array of pages, what each operation makes of it. Places are the same where all their numbers are. Maps from places to numbers, as parts. -/
import Derived.Test.YtcekmdehjnlkpaaGreatZScanBlocksb
set_option linter.unusedVariables false
set_option linter.unusedSimpArgs false
namespace Go.Proofs.YtcekmdehjnlkpaaGreat.Vc
open Go Go.Eng Go.RowKit
theorem appU {w:World} {a a2:Option Addr} {n c m c2:Nat} {xs ys:List Int} {B:Nat} {K:Option Addr->Nat->Nat->World->Prop} (ho:Own w B 5 1 a n c (xs.map (Value.int .u8))) (hy:Ints w .u8 a2 m c2 ys) (hB:B<=w.heap.size) (hn:n+m<=100000000)
  (hk:∀ a' c' w',Own w' B 5 1 a' (n+m) c' ((xs++ys).map (Value.int .u8))->Below B w w'->K a' (n+m) c' w') :
  AppS w a2 m 1 λns=>AppV w 5 1 1 a n c ns m K:=by
 refine AppS.of (news:=ys.map (Value.int .u8)) (by rw [List.length_map,hy.len];omega) hy.rd ?_
 refine AppV.own ho hB (by rw [List.length_map,hy.len];omega) (oneAll.ints _ _) (by omega) (by omega) λa' c' w' h1 h2 _ _=>?_
 refine hk a' c' w' ?_ h2
 rw [List.map_append]
 exact h1
theorem newU {w:World} {K:Nat->World->Prop} (h:∀ b w1,Ext w w1->Own w1 w.heap.size 5 1 (some ⟨b,0,none⟩) 0 0 []->K b w1):NewV #[] 5 w K:=by
 rintro b w1 rfl rfl
 exact h _ _ (Ext.alloc _ _) (Own.zeros (w:=w) (B:=w.heap.size) (e:=5) (n:=0) (c:=0) (z:=.int .u8 0) (Nat.le_refl _) (Nat.zero_le _) (by omega) rfl)
theorem tdiv8 (i:Nat):Int.tdiv (i:Int) 8=((i / 8:Nat):Int):=by rw [Int.tdiv_eq_ediv_of_nonneg (by omega)];omega
theorem tmod8 (i:Nat):Int.tmod (i:Int) 8=((i % 8:Nat):Int):=by rw [Int.tmod_eq_emod_of_nonneg (by omega)];omega
theorem mod8 (i:Nat):i % 8<8:=Nat.mod_lt _ (by omega)
theorem power_c {w:World} {j:Nat} (hj:j<8):CallV Tryz.prog 121 #[.int .i64 (j:Int)] w [.one (.int .i64)] λr w'=>r.1=(2:Int) ^ j/\w'=w:=by
 refine ref12_power.vc _ _ _ ?_
 unfold ref12_power.P
 refine Loop1 (λ(y:Int×Int×Unit) w'=>∃ k:Nat,y.2.1=(k:Int)/\k<=j/\y.1=(2:Int) ^ k/\w'=w) (λ(y:Int×Int×Unit) _=>((j:Int)-y.2.1).toNat) ⟨0,rfl,by omega,rfl,rfl⟩ ?_
 rintro ⟨(p:Int),(y:Int),⟨⟩⟩ w' ⟨k,hy,hk,hp,rfl⟩
 dsimp only at hy hp ⊢
 subst hy;subst hp
 refine cond_d (λhlt=>?_) (λhge=>?_)
 ·have hb:=pow_byt0 ⟨k,by omega⟩
  dsimp only at hb
  refine ⟨Rng.i64 (by omega) (by omega),Rng.i64 (by omega) (by omega),⟨k+1,by push_cast;rfl,by omega,?_,rfl⟩,by omega⟩
  show (2:Int) ^ k*2=2 ^ (k+1)
  rw [Int.pow_succ]
 ·have:k=j:=by omega
  subst this
  exact ⟨rfl,rfl⟩
theorem Has_c {w:World} {a:Option Addr} {n c:Nat} {xs:List Int} (hx:Ints w .u8 a n c xs) (bx:Byt xs) {i:Nat} (hi:i<8*n) (hn:n<=100000) :
  CallV Tryz.prog 119 #[.slice a n c,.int .i64 (i:Int)] w [.one .bool] λr w'=>r.1=hasL xs i/\Ext w w':=by
 refine ref12_Has.vc _ _ _ _ _ _ ?_
 unfold ref12_Has.P
 refine DrawV.old w λD hD hkeep=>?_
 rw [tdiv8,tmod8]
 have hb:=bx.getD (i / 8)
 have hm:=mod8 i
 have hp:=pow_byt0 ⟨i % 8,hm⟩
 have hp1:(1:Int)<=2 ^ (i % 8):=by have:(0:Int)<2 ^ (i % 8):=Int.pow_pos (by omega);omega
 refine ⟨by omega,Rng.i64 (by omega) (by omega),?_⟩
 refine hx.idxD (Ext.drew w) (by omega) (by omega) hD ?_
 rw [Int.toNat_natCast]
 refine ⟨by omega,(power_c hm).mono ?_⟩
 rintro ⟨(p:Int),⟨⟩⟩ w' ⟨hp',rfl⟩
 dsimp only at hp' hp ⊢
 subst hp'
 refine ⟨hkeep _ (Ext.drew w),by omega,?_,by omega,f6 hb _,Ext.drew w⟩
 rw [i64_id (by omega) (by omega),Int.tdiv_eq_ediv_of_nonneg hb.1]
 have h0:=Int.ediv_nonneg hb.1 (by omega:(0:Int)<=2 ^ (i % 8))
 have h1:=Int.ediv_le_self (2 ^ (i % 8)) hb.1
 exact Rng.i64 (by omega) (by omega)
def mBitZ (ms:List Int) (i:Int):Bool:=if i<0 then false else mBit ms i.toNat
theorem mBitZ_nat (ms:List Int) (i:Nat):mBitZ ms (i:Int)=mBit ms i:=by unfold mBitZ;rw [if_neg (by omega),Int.toNat_natCast]
theorem mask_at {i n:Nat}:Int.tmod ((i / 8:Nat):Int) ((n:Nat):Int)=((i / 8 % n:Nat):Int):=by rw [Int.tmod_eq_emod_of_nonneg (by omega)];rfl
theorem Bit_c {w:World} {a:Option Addr} {n c:Nat} {xs:List Int} (hx:Ints w .u8 a n c xs) (bx:Byt xs) {i:Int} (hi:i<=9223372036854775807) :
  CallV Tryz.prog 141 #[.slice a n c,.int .i64 i] w [.one .bool] λr w'=>r.1=mBitZ xs i/\w'=w:=by
 refine fault_Bit.vc _ _ _ _ _ _ ?_
 unfold fault_Bit.P
 have ln:=hx.len
 refine cond_d (λh=>⟨by unfold mBitZ;rw [if_pos h],rfl⟩) (λh=>?_)
 obtain ⟨i,rfl⟩:∃ k:Nat,i=(k:Int):=⟨i.toNat,by omega⟩
 rw [mBitZ_nat]
 refine cond_eq (λh0=>⟨by unfold mBit;rw [if_pos (by omega)],rfl⟩) (λh0=>?_)
 rw [tdiv8,tmod8,mask_at]
 have hlt:i / 8 % n<n:=Nat.mod_lt _ (by omega)
 refine ⟨by omega,Rng.i64 (by omega) (by omega),h0,?_⟩
 refine hx.idx (by omega) (by omega) ?_
 rw [Int.toNat_natCast,Int.toNat_natCast]
 refine ⟨by omega,by omega,?_,rfl⟩
 rw [f1 (bx.getD _) (mod8 i)]
 unfold mBit
 rw [if_neg (by omega),ln]
theorem rBit_c {w:World} {a:Option Addr} {n c:Nat} {xs:List Int} (hx:Ints w .u8 a n c xs) (bx:Byt xs) {i:Int} (hi:i<=9223372036854775807) :
  CallV Tryz.prog 120 #[.slice a n c,.int .i64 i] w [.one .bool] λr w'=>r.1=mBitZ xs i/\Ext w w':=by
 refine ref12_Bit.vc _ _ _ _ _ _ ?_
 unfold ref12_Bit.P
 have ln:=hx.len
 refine cond_d (λh=>⟨by unfold mBitZ;rw [if_pos h],Ext.refl _⟩) (λh=>?_)
 obtain ⟨i,rfl⟩:∃ k:Nat,i=(k:Int):=⟨i.toNat,by omega⟩
 rw [mBitZ_nat]
 refine DrawV.old w λD hD hkeep=>?_
 refine cond_eq (λh0=>⟨by unfold mBit;rw [if_pos (by omega)],Ext.drew w⟩) (λh0=>?_)
 rw [tdiv8,tmod8,mask_at]
 have hlt:i / 8 % n<n:=Nat.mod_lt _ (by omega)
 have hm:=mod8 i
 refine ⟨by omega,Rng.i64 (by omega) (by omega),h0,?_⟩
 refine hx.idxD (Ext.drew w) (by omega) (by omega) hD ?_
 rw [Int.toNat_natCast]
 have hb:=bx.getD (i / 8 % n)
 have hp1:(1:Int)<=2 ^ (i % 8):=by have:(0:Int)<2 ^ (i % 8):=Int.pow_pos (by omega);omega
 refine ⟨by omega,(power_c hm).mono ?_⟩
 rintro ⟨(p:Int),⟨⟩⟩ w' ⟨hp',rfl⟩
 dsimp only at hp' ⊢
 subst hp'
 refine ⟨hkeep _ (Ext.drew w),by omega,?_,by omega,?_,Ext.drew w⟩
 ·rw [i64_id (by omega) (by omega),Int.tdiv_eq_ediv_of_nonneg hb.1]
  have h0:=Int.ediv_nonneg hb.1 (by omega:(0:Int)<=2 ^ (i % 8))
  have h1:=Int.ediv_le_self (2 ^ (i % 8)) hb.1
  exact Rng.i64 (by omega) (by omega)
 ·rw [f6 hb]
  unfold mBit
  rw [if_neg (by omega),ln]
theorem And_c {w:World} {a a2:Option Addr} {n c m c2:Nat} {xs ys:List Int} (hx:Ints w .u8 a n c xs) (hy:Ints w .u8 a2 m c2 ys) (hnm:n<=m) (hn:n<=100000) :
  CallV Tryz.prog 90 #[.slice a n c,.slice a2 m c2] w [.one .sl] λr w'=>Res w w' r.1 (andL xs ys):=by
 refine ref12_And.vc _ _ _ _ _ _ _ _ ?_
 unfold ref12_And.P
 have lx:=hx.len
 have ly:=hy.len
 refine newU λb1 w1 e1 o1=>?_
 refine Loop1 (λ(y:SlV×Int×Unit) w'=>∃ i:Nat,y.2.1=(i:Int)/\i<=n/\y.1.n=i/\Ext w w'/\Own w' w.heap.size 5 1 y.1.a y.1.n y.1.c (((andL xs ys).take i).map (Value.int .u8)))
  (λ(y:SlV×Int×Unit) _=>((n:Int)-y.2.1).toNat) ⟨0,rfl,by omega,rfl,e1,o1⟩ ?_
 rintro ⟨(s:SlV),(y:Int),⟨⟩⟩ w2 ⟨i,hy',hi,hsn,e2,o2⟩
 dsimp only at hy' hsn o2 ⊢
 subst hy'
 refine cond_d (λhlt=>?_) (λhge=>?_)
 ·refine DrawV.base w.heap.size w2 λD hD hkeep=>?_
  have e2':=e2.trans (Ext.drew w2)
  refine hx.idxD e2' (by omega) hlt hD ?_
  refine hy.idxD e2' (by omega) (by omega) hD ?_
  rw [Int.toNat_natCast]
  rintro b3 w3 hb3 hw3
  have x3:Ext w2.drew w3:=by rw [hw3];exact Ext.alloc _ _
  refine ⟨hkeep _ (Below.mono ((Ext.drew w2).trans x3) e2.size),?_⟩
  refine app1 (o2.ext (Ext.drew w2)) e2'.size (by omega) hb3 hw3 λa' c' w4 o4 b4=>?_
  refine ⟨hkeep _ (Below.trans (Below.mono (Ext.drew w2) e2.size) b4),Rng.i64 (by omega) (by omega),⟨i+1,by push_cast;rfl,by omega,by show s.n+1=_;omega,Below.trans e2' b4,?_⟩,by omega⟩
  rw [List.take_succ_eq_append_getElem (by rw [andL_length];omega),show (andL xs ys)[i]'(by rw [andL_length];omega)=Go.bits .and .u8 (xs.getD i 0) (ys.getD i 0) by simp [andL]]
  exact o4
 ·have:i=n:=by omega
  subst this
  rw [List.take_of_length_le (by rw [andL_length];omega)] at o2
  exact ⟨e2,o2⟩
theorem cleared_c {w:World} {a a2:Option Addr} {n c c2:Nat} {xs ys:List Int} (hx:Ints w .u8 a n c xs) (hy:Ints w .u8 a2 n c2 ys) (hn:n<=100000) :
  CallV Tryz.prog 123 #[.slice a n c,.slice a2 n c2] w [.one .sl] λr w'=>Res w w' r.1 (clrL xs ys):=by
 refine fault_cleared.vc _ _ _ _ _ _ _ _ ?_
 unfold fault_cleared.P
 have lx:=hx.len
 have ly:=hy.len
 refine ⟨by omega,?_⟩
 rintro b1 w1 rfl rfl
 rw [Int.toNat_natCast]
 have hnew:=Own.zeros (w:=w) (B:=w.heap.size) (e:=5) (n:=n) (c:=n) (z:=.int .u8 0) (Nat.le_refl _) (Nat.le_refl _) (by omega) rfl
 refine Loop1 (λ(y:Int×Unit) w'=>∃ i:Nat,y.1=(i:Int)/\i<=n/\Ext w w'/\Own w' w.heap.size 5 1 (some ⟨w.heap.size,0,none⟩) n n (((clrL xs ys).map (Value.int .u8)).take i++List.replicate (n-i) (.int .u8 0)))
  (λ(y:Int×Unit) _=>((n:Int)-y.1).toNat) ⟨0,rfl,by omega,Ext.alloc _ _,by simpa using hnew⟩ ?_
 rintro ⟨(y:Int),⟨⟩⟩ w2 ⟨i,hy',hi,e2,o2⟩
 dsimp only at hy' ⊢
 subst hy'
 refine cond_d (λhlt=>?_) (λhge=>?_)
 ·refine DrawV.base w.heap.size w2 λD hD hkeep=>?_
  have e2':=e2.trans (Ext.drew w2)
  refine hx.idxD e2' (by omega) hlt hD ?_
  refine hy.idxD e2' (by omega) (by omega) hD ?_
  rw [Int.toNat_natCast]
  refine fill_round (w0:=w) (S:=clrL xs ys) (by rw [clrL_length];exact lx) (by omega) (by simp [clrL]) (o2.ext (Ext.drew w2)) λw3 o3 b3=>?_
  exact ⟨hkeep _ (Below.trans (Below.mono (Ext.drew w2) e2.size) b3),Rng.i64 (by omega) (by omega),⟨i+1,by push_cast;rfl,by omega,Below.trans e2' b3,o3⟩,by omega⟩
 ·have:i=n:=by omega
  subst this
  rw [List.take_of_length_le (by rw [List.length_map,clrL_length];omega),Nat.sub_self,List.replicate_zero,List.append_nil] at o2
  exact ⟨e2,o2⟩
def Kp (G:Nat->Prop) (w w':World):Prop:=∀ k,G k->k<w.heap.size->w'.heap[k]? = w.heap[k]?
abbrev All:Nat->Prop:=λ_=>True
theorem Ext_kp {w w':World} (e:Ext w w') (G:Nat->Prop):Kp G w w':=λk _ hk=>e.block k hk
theorem cells_kp {w w':World} {p:Addr} {vs:List Value} (hc:CellsAt w p vs) (h:vs≠[]->w'.heap[p.block]? = w.heap[p.block]?):CellsAt w' p vs:=by
 cases vs with
 | nil=>exact CellsAt.nil
 | cons v vs=>exact cells_same (h (by simp)) hc
def RdG (w:World) (G:Nat->Prop) (a:Option Addr) (vs:List Value):Prop:=(a=none/\vs=[])\/∃ p,a=some p/\CellsAt w p vs/\(vs≠[]->G p.block)
theorem RdG.rdc {w:World} {G:Nat->Prop} {a:Option Addr} {vs:List Value} (h:RdG w G a vs):RdC w a vs:=h.imp id λ⟨p,h1,h2,_⟩=>⟨p,h1,h2⟩
theorem RdG.of {w:World} {a:Option Addr} {vs:List Value} (h:RdC w a vs):RdG w All a vs:=h.imp id λ⟨p,h1,h2⟩=>⟨p,h1,h2,λ_=>trivial⟩
theorem RdG.kp {w w':World} {G:Nat->Prop} {a:Option Addr} {vs:List Value} (h:RdG w G a vs) (k:Kp G w w'):RdG w' G a vs:=by
 rcases h with h | ⟨p,h1,h2,h3⟩
 ·exact .inl h
 ·refine .inr ⟨p,h1,cells_kp h2 λhne=>?_,h3⟩
  cases vs with
  | nil=>exact absurd rfl hne
  | cons v vs=>exact k _ (h3 hne) (cells_lt h2)
theorem RdG.mono {w:World} {G G':Nat->Prop} {a:Option Addr} {vs:List Value} (h:RdG w G a vs) (hg:∀ k,G k->k<w.heap.size->G' k):RdG w G' a vs:=by
 rcases h with h | ⟨p,h1,h2,h3⟩
 ·exact .inl h
 ·refine .inr ⟨p,h1,h2,λhne=>?_⟩
  cases vs with
  | nil=>exact absurd rfl hne
  | cons v vs=>exact hg _ (h3 hne) (cells_lt h2)
def Ty.rd (w:World) (G:Nat->Prop):(t:Ty)->t.T->Prop
 | .int k,(x:Int)=>Rng k x
 | .bool,_=>True
 | .str,(x:ByteArray)=>x.size<=maxLen
 | .sl e,(x:SlP e.T)=>x.l.length=x.n/\x.n<=x.c/\x.n<=maxLen/\RdG w G x.a (x.l.flatMap e.vs)/\∀ y∈x.l,e.rd w G y
 | .nil,_=>True
 | .cons a r,(x:a.T×r.T)=>a.rd w G x.1/\r.rd w G x.2
@[reducible] def Ty.D:Ty->Type
 | .int _=>Int
 | .bool=>Bool
 | .str=>ByteArray
 | .sl e=>List e.D
 | .nil=>Unit
 | .cons a r=>a.D×r.D
def Ty.dat:(t:Ty)->t.T->t.D
 | .int _,(x:Int)=>x
 | .bool,(x:Bool)=>x
 | .str,(x:ByteArray)=>x
 | .sl e,(x:SlP e.T)=>x.l.map e.dat
 | .nil,_=>()
 | .cons a r,(x:a.T×r.T)=>(a.dat x.1,r.dat x.2)
theorem Ty.rd_of {w:World}:∀ (t:Ty) {x:t.T},t.ok w x->t.rd w All x
 | .int _,_,h=>h
 | .bool,_,_=>trivial
 | .str,_,h=>h
 | .sl e,x,h=>⟨h.1,h.2.1,Nat.le_trans h.2.1 h.2.2.1,.of h.2.2.2.1,λy hy=>e.rd_of (h.2.2.2.2 y hy)⟩
 | .nil,_,_=>trivial
 | .cons a r,x,h=>⟨a.rd_of h.1,r.rd_of h.2⟩
theorem Ty.rd_kp {w w':World} {G:Nat->Prop} (k:Kp G w w'):∀ (t:Ty) {x:t.T},t.rd w G x->t.rd w' G x
 | .int _,_,h=>h
 | .bool,_,_=>trivial
 | .str,_,h=>h
 | .sl e,x,h=>⟨h.1,h.2.1,h.2.2.1,h.2.2.2.1.kp k,λy hy=>e.rd_kp k (h.2.2.2.2 y hy)⟩
 | .nil,_,_=>trivial
 | .cons a r,x,h=>⟨a.rd_kp k h.1,r.rd_kp k h.2⟩
theorem Ty.rd_mono {w:World} {G G':Nat->Prop} (hg:∀ k,G k->k<w.heap.size->G' k):∀ (t:Ty) {x:t.T},t.rd w G x->t.rd w G' x
 | .int _,_,h=>h
 | .bool,_,_=>trivial
 | .str,_,h=>h
 | .sl e,x,h=>⟨h.1,h.2.1,h.2.2.1,h.2.2.2.1.mono hg,λy hy=>e.rd_mono hg (h.2.2.2.2 y hy)⟩
 | .nil,_,_=>trivial
 | .cons a r,x,h=>⟨a.rd_mono hg h.1,r.rd_mono hg h.2⟩
theorem Ty.rd_ext {w w':World} {G:Nat->Prop} (e:Ext w w') (t:Ty) {x:t.T} (h:t.rd w G x):t.rd w' G x:=t.rd_kp (Ext_kp e G) h
theorem flat_len {α:Type} {f:α->List Value} {m:Nat} (hm:∀ x,(f x).length=m):∀ (l:List α),(l.flatMap f).length=l.length*m
 | []=>by simp
 | x::l=>by rw [List.flatMap_cons,List.length_append,hm,flat_len hm l,List.length_cons,Nat.add_mul];omega
theorem flat_get {α:Type} {f:α->List Value} {m:Nat} (hm:∀ x,(f x).length=m):∀ {l:List α} {i:Nat} {y:α},l[i]? = some y->∀ {j:Nat} {v:Value},(f y)[j]? = some v->(l.flatMap f)[i*m+j]? = some v
 | [],i,y,h,j,v,hv=>by simp at h
 | x::l,0,y,h,j,v,hv=>by
  simp at h;subst h
  rw [List.flatMap_cons,Nat.zero_mul,Nat.zero_add,List.getElem?_append_left (List.getElem?_eq_some_iff.1 hv).1]
  exact hv
 | x::l,i+1,y,h,j,v,hv=>by
  rw [List.getElem?_cons_succ] at h
  rw [List.flatMap_cons,List.getElem?_append_right (by rw [hm,Nat.add_mul];omega),hm,show (i+1)*m+j-m=i*m+j by rw [Nat.add_mul];omega]
  exact flat_get hm h hv
theorem CellsAt.nth {w:World} {p:Addr} {α:Type} {f:α->List Value} {m:Nat} (hm:∀ x,(f x).length=m) {l:List α} (h:CellsAt w p (l.flatMap f)) {i:Nat} {y:α} (hy:l[i]? = some y):CellsAt w (p.add (i*m)) (f y):=by
 intro j v hv
 rw [add_add]
 exact h _ _ (flat_get hm hy hv)
theorem Ty.nth {w:World} {G:Nat->Prop} {e:Ty} {x:SlP e.T} (h:(Ty.sl e).rd w G x) {i:Int} (h0:0<=i) (h1:i<(x.n:Int)) (he:0<e.n) :
  ∃ q y,x.a=some q/\x.l[i.toNat]? = some y/\CellsAt w (q.add (i.toNat*e.n)) (e.vs y)/\e.rd w G y/\G q.block/\q.block<w.heap.size:=by
 obtain ⟨hl,_,_,hr,hy⟩:=h
 have hi:i.toNat<x.l.length:=by omega
 have hget:x.l[i.toNat]? = some x.l[i.toNat]:=List.getElem?_eq_getElem hi
 rcases hr with ⟨_,h2⟩ | ⟨q,hq,hc,hG⟩
 ·have:=flat_len (λz=>e.vs_length z) x.l
  have h3:=Nat.mul_pos (show 0<x.l.length by omega) he
  rw [h2,List.length_nil] at this
  omega
 ·have hne:x.l.flatMap e.vs≠[]:=by
   intro hh
   have:=flat_len (λz=>e.vs_length z) x.l
   have h3:=Nat.mul_pos (show 0<x.l.length by omega) he
   rw [hh,List.length_nil] at this
   omega
  refine ⟨q,x.l[i.toNat],hq,hget,CellsAt.nth (λz=>e.vs_length z) hc hget,hy _ (List.getElem_mem hi),hG hne,?_⟩
  cases hf:x.l.flatMap e.vs with
  | nil=>exact absurd hf hne
  | cons v vs=>rw [hf] at hc;exact cells_lt hc
theorem flat_ints (k:IntKind) (l:List Int):l.flatMap (Ty.int k).vs=l.map (Value.int k):=by
 induction l with
 | nil=>rfl
 | cons x l ih=>rw [List.flatMap_cons,ih];rfl
theorem Ty.ints {w:World} {G:Nat->Prop} {k:IntKind} {x:SlP Int} (h:(Ty.sl (.int k)).rd w G x):Ints w k x.a x.n x.c x.l:=by
 obtain ⟨hl,hc,hm,hr,_⟩:=h
 have hml:maxLen=9223372036854775807:=by decide
 refine ⟨hl,hc,by omega,?_⟩
 have:=hr.rdc
 rw [show x.l.flatMap (Ty.int k).vs=x.l.map (Value.int k) from flat_ints k x.l] at this
 exact this
theorem Ty.byt {w:World} {G:Nat->Prop} {x:SlP Int} (h:(Ty.sl (.int .u8)).rd w G x):Byt x.l:=λy hy=>rng_u8 (h.2.2.2.2 y hy)
theorem dat_ints {k:IntKind} (l:List Int):l.map (Ty.int k).dat=l:=by
 induction l with
 | nil=>rfl
 | cons x l ih=>rw [List.map_cons,ih];rfl
abbrev TF:Ty:=.cons (.int .i64) (.cons .bool (.cons (.sl (.int .u8)) .nil))
abbrev LF:Ty:=.sl TF
abbrev FD:Type:=Int×Bool×List Int×Unit
def FRight (l:List FD):Prop:=(∀ f∈l,0<=f.1/\f.2.2.1.length<=64)/\l.length<=64
instance (l:List FD):Decidable (FRight l):=by unfold FRight;infer_instance
def atF (l:List FD) (n:Int):Option FD:=l.find? λf=>f.1 == n
def atI (l:List FD) (n:Int):Option Nat:=l.findIdx? λf=>f.1 == n
theorem TF_dat (f:TF.T):TF.dat f=(f.1,f.2.1,f.2.2.1.l,()):=by
 show (f.1,f.2.1,f.2.2.1.l.map _,())=_
 rw [show f.2.2.1.l.map (Ty.int .u8).dat=f.2.2.1.l from dat_ints f.2.2.1.l]
theorem ldF {w:World} {p:Addr} {f:TF.T} (hc:CellsAt w p (TF.vs f)) {K:Int×Bool×SlV×Unit->Prop} (hk:K (f.1,f.2.1,⟨f.2.2.1.a,f.2.2.1.n,f.2.2.1.c⟩,())):LoadA w p [.int .i64,.bool,.sl] K:=
 ldaC (l:=[.int .i64,.bool,.sl]) hc (f.1,f.2.1,⟨f.2.2.1.a,f.2.2.1.n,f.2.2.1.c⟩,()) rfl hk
theorem LF_nth {w:World} {G:Nat->Prop} {x:SlP TF.T} (h:LF.rd w G x) {i:Int} (h0:0<=i) (h1:i<(x.n:Int)) :
  ∃ q y,x.a=some q/\x.l[i.toNat]? = some y/\CellsAt w (q.add (i.toNat*3)) (TF.vs y)/\TF.rd w G y/\G q.block/\q.block<w.heap.size:=Ty.nth (e:=TF) h h0 h1 (by decide)
theorem TF_len {w:World} {G:Nat->Prop} {y:TF.T} (h:TF.rd w G y):y.2.2.1.l.length=y.2.2.1.n:=h.2.2.1.1
def fds (x:SlP TF.T):List FD:=LF.dat x
theorem LF_len {w:World} {G:Nat->Prop} {x:SlP TF.T} (h:LF.rd w G x):(fds x).length=x.n:=by show (x.l.map TF.dat).length=_;rw [List.length_map];exact h.1
theorem LF_lim {w:World} {G:Nat->Prop} {x:SlP TF.T} (h:LF.rd w G x):x.n<=9223372036854775807:=by have h1:=h.2.2.1;have h2:maxLen=9223372036854775807:=(by decide);omega
theorem LF_get {x:SlP TF.T} {i:Nat} {y:TF.T} (h:x.l[i]? = some y):(fds x)[i]? = some (y.1,y.2.1,y.2.2.1.l,()):=by rw [<-TF_dat];show (x.l.map TF.dat)[i]? = _;rw [List.getElem?_map,h];rfl
theorem find_step {l:List FD} {n:Int} {i:Nat} (h:∀ (j:Nat) (f:FD),j<i->l[j]? = some f->f.1≠n) {f:FD} (hf:l[i]? = some f) (hn:f.1=n):atF l n=some f/\atI l n=some i:=by
 induction i generalizing l with
 | zero=>
  cases l with
  | nil=>simp at hf
  | cons x l=>simp at hf;subst hf;subst hn;simp [atF,atI,List.findIdx?_cons]
 | succ i ih=>
  cases l with
  | nil=>simp at hf
  | cons x l=>
   have h0:=h 0 x (by omega) rfl
   have hb:(x.1 == n)=false:=by simpa using h0
   obtain ⟨h1,h2⟩:=ih (l:=l) (λj f hj hf=>h (j+1) f (by omega) (by simpa using hf)) (by simpa using hf)
   unfold atF atI at *
   simp only [List.find?_cons,List.findIdx?_cons,hb,h1,h2,Bool.false_eq_true,if_false,Option.map_some]
   exact ⟨trivial,trivial⟩
theorem find_none {l:List FD} {n:Int} (h:∀ (j:Nat) (f:FD),l[j]? = some f->f.1≠n):atF l n=none/\atI l n=none:=by
 have h1:∀ f∈l,¬ (f.1 == n)=true:=λf hf=>by
  obtain ⟨j,hj,rfl⟩:=List.mem_iff_getElem.1 hf
  simpa using h j _ (List.getElem?_eq_getElem hj)
 exact ⟨List.find?_eq_none.2 h1,List.findIdx?_eq_none_iff.2 λf hf=>by simpa using h1 f hf⟩
theorem FRight_iff {l:List FD}:FRight l↔(∀ (j:Nat) (f:FD),l[j]? = some f->0<=f.1/\f.2.2.1.length<=64)/\l.length<=64:=by
 unfold FRight
 refine and_congr_left λ_=>⟨λh j f hf=>h f (List.mem_of_getElem? hf),λh f hf=>?_⟩
 obtain ⟨j,hj,rfl⟩:=List.mem_iff_getElem.1 hf
 exact h j _ (List.getElem?_eq_getElem hj)
abbrev zF:List Value:=[.int .i64 0,.bool false,.slice none 0 0]
theorem newF {w:World} {K:Nat->World->Prop} (h:∀ b w1,Ext w w1->Box w1 w.heap.size b 187 zF->K b w1):NewV #[.int .i64 0,.bool false,.slice none 0 0] 187 w K:=newBox h
theorem FCheck_c {w:World} {G:Nat->Prop} {x:SlP TF.T} (hx:LF.rd w G x):CallV Tryz.prog 53 #[.slice x.a x.n x.c] w [.one (.int .i64)] λr w'=>r.1=(if FRight (fds x) then (0:Int) else 2)/\Ext w w':=by
 refine fault_Check.vc _ _ _ _ _ ?_
 unfold fault_Check.P
 have hl:=LF_len hx
 have no:∀ {w':World},Ext w w'->¬ FRight (fds x)->((2:Int)=(if FRight (fds x) then (0:Int) else 2)/\Ext w w'):=λe h=>⟨by rw [if_neg h],e⟩
 refine cond_d (λh=>no (Ext.refl _) (λhr=>by have:=hr.2;omega)) (λh64=>?_)
 refine Loop1 (λ(y:Int×Unit) w'=>∃ i:Nat,y.1=(i:Int)/\i<=x.n/\(∀ (j:Nat) (f:FD),j<i->(fds x)[j]? = some f->0<=f.1/\f.2.2.1.length<=64)/\Ext w w') (λ(y:Int×Unit) _=>((x.n:Int)-y.1).toNat) ⟨0,rfl,by omega,λj f h=>by omega,Ext.refl _⟩ ?_
 rintro ⟨(z:Int),⟨⟩⟩ w2 ⟨i,hz,hi,hall,e2⟩
 dsimp only at hz ⊢
 subst hz
 refine cond_d (λhlt=>?_) (λhge=>?_)
 ·obtain ⟨q,y,hq,hy,hc,hr,-⟩:=LF_nth (Ty.rd_ext e2 _ hx) (Int.natCast_nonneg i) hlt
  have hly:=TF_len hr
  have hdy:=LF_get hy
  rw [Int.toNat_natCast] at hdy
  refine ⟨⟨by omega,hlt⟩,q,hq,ldF hc ?_⟩
  refine newF λb6 w7 e7 hb=>?_
  refine hb.store 0 (by simp) λw8 hb8 bel8 _ _=>?_
  have e8:Ext w w8:=e2.trans (Below.trans e7 bel8)
  have bad:¬ ((0:Int)<=y.1/\y.2.2.1.l.length<=64)->¬ FRight (fds x):=λh hr=>h ((FRight_iff.1 hr).1 _ _ hdy)
  refine hb8.ld (i:=0) (h:=.int .i64) (x:=y.1) rfl (cond_d (λc=>no e8 (bad (by omega))) (λc1=>?_))
  refine hb8.ld (i:=2) (h:=.sl) (x:=⟨y.2.2.1.a,y.2.2.1.n,y.2.2.1.c⟩) rfl (cond_d (λc=>no e8 (bad (by dsimp only at c;omega))) (λc2=>?_))
  refine ⟨Rng.i64 (by omega) (by have hlim:=LF_lim hx;omega),⟨i+1,by push_cast;rfl,by omega,λj f hj hf=>?_,e8⟩,by omega⟩
  by_cases hji:j=i
  ·subst hji
   rw [hdy] at hf
   have:=Option.some.inj hf
   subst this
   dsimp only at c2 ⊢
   omega
  ·exact hall j f (by omega) hf
 ·have hR:FRight (fds x):=FRight_iff.2 ⟨λj f hf=>hall j f (by have:=(List.getElem?_eq_some_iff.1 hf).1;omega) hf,by omega⟩
  exact ⟨by rw [if_pos hR],e2⟩
theorem rAt_c {w:World} {G:Nat->Prop} {x:SlP TF.T} {n:Int} (hx:LF.rd w G x):CallV Tryz.prog 118 #[.slice x.a x.n x.c,.int .i64 n] w [.one (.int .i64)] λr w'=>r.1=(match atI (fds x) n with | some i=>(i:Int) | none=>(-1:Int))/\w'=w:=by
 refine ref12_At.vc _ _ _ _ _ _ ?_
 unfold ref12_At.P
 have hl:=LF_len hx
 refine Loop1 (λ(y:Int×Unit) w'=>∃ i:Nat,y.1=(i:Int)/\i<=x.n/\(∀ (j:Nat) (f:FD),j<i->(fds x)[j]? = some f->f.1≠n)/\w'=w) (λ(y:Int×Unit) _=>((x.n:Int)-y.1).toNat) ⟨0,rfl,by omega,λj f h=>by omega,rfl⟩ ?_
 rintro ⟨(z:Int),⟨⟩⟩ w2 ⟨i,hz,hi,hall,rfl⟩
 dsimp only at hz ⊢
 subst hz
 refine cond_d (λhlt=>?_) (λhge=>?_)
 ·obtain ⟨q,y,hq,hy,hc,hr,-⟩:=LF_nth hx (Int.natCast_nonneg i) hlt
  have hdy:=LF_get hy
  rw [Int.toNat_natCast] at hdy
  refine ⟨⟨by omega,hlt⟩,q,hq,ldp0 hc (h:=.int .i64) (x:=y.1) rfl (cond_eq (λc=>?_) (λc1=>?_))⟩
  ·obtain ⟨_,h2⟩:=find_step hall hdy c
   rw [h2]
   exact ⟨rfl,rfl⟩
  ·refine ⟨Rng.i64 (by omega) (by have hlim:=LF_lim hx;omega),⟨i+1,by push_cast;rfl,by omega,λj f hj hf=>?_,rfl⟩,by omega⟩
   by_cases hji:j=i
   ·subst hji
    rw [hdy] at hf
    have:=Option.some.inj hf
    subst this
    exact c1
   ·exact hall j f (by omega) hf
 ·obtain ⟨_,h2⟩:=find_none (l:=fds x) (n:=n) λj f hf=>hall j f (by have:=(List.getElem?_eq_some_iff.1 hf).1;omega) hf
  rw [h2]
  exact ⟨rfl,rfl⟩
theorem appM {w:World} {a a2:Option Addr} {n c m c2:Nat} {xs ys:List Int} {B:Nat} {K:Option Addr->Nat->Nat->World->Prop} (ho:Own w B 5 1 a n c (xs.map (Value.int .u8))) (hy:Ints w .u8 a2 m c2 ys) (hB:B<=w.heap.size) (hn:n+m<=140737488351232)
  (hk:∀ a' c' w',Own w' B 5 1 a' (n+m) c' ((xs++ys).map (Value.int .u8))->Below B w w'->Mov w a a'->But a w w'->K a' (n+m) c' w') :
  AppS w a2 m 1 λns=>AppV w 5 1 1 a n c ns m K:=by
 refine AppS.of (news:=ys.map (Value.int .u8)) (by rw [List.length_map,hy.len];omega) hy.rd ?_
 refine AppV.own ho hB (by rw [List.length_map,hy.len];omega) (oneAll.ints _ _) (by omega) (by omega) λa' c' w' h1 h2 h4 h3=>?_
 refine hk a' c' w' ?_ h2 h3 h4
 rw [List.map_append]
 exact h1
def mFit (l:List FD):Prop:=∀ f∈l,f.2.2.1.length<=140737488351232
theorem mFit.at {l:List FD} (h:mFit l) {i:Nat} {f:FD} (hf:l[i]? = some f):f.2.2.1.length<=140737488351232:=h _ (List.mem_of_getElem? hf)
theorem At_c {w:World} {G:Nat->Prop} {x:SlP TF.T} {n:Int} (hx:LF.rd w G x) (hm:mFit (fds x)):CallV Tryz.prog 124 #[.slice x.a x.n x.c,.int .i64 n] w [.agg [.int .i64,.bool,.sl],.one .bool] λr w'=>
  Ext w w'/\match atF (fds x) n with
   | some f=>r.2.1=true/\r.1.1=f.1/\r.1.2.1=f.2.1/\Res w w' r.1.2.2.1 f.2.2.1
   | none=>r.2.1=false/\r.1=((0:Int),false,(⟨none,0,0⟩:SlV),()):=by
 refine fault_At.vc _ _ _ _ _ _ ?_
 unfold fault_At.P
 have hl:=LF_len hx
 refine newF λb1 w1 e1 hb1=>?_
 refine Loop1 (λ(y:Int×Unit) w'=>∃ i:Nat,y.1=(i:Int)/\i<=x.n/\(∀ (j:Nat) (f:FD),j<i->(fds x)[j]? = some f->f.1≠n)/\Ext w1 w') (λ(y:Int×Unit) _=>((x.n:Int)-y.1).toNat) ⟨0,rfl,by omega,λj f h=>by omega,Ext.refl _⟩ ?_
 rintro ⟨(z:Int),⟨⟩⟩ w2 ⟨i,hz,hi,hall,e2⟩
 dsimp only at hz ⊢
 subst hz
 refine cond_d (λhlt=>?_) (λhge=>?_)
 ·obtain ⟨q,y,hq,hy,hc,hr,-⟩:=LF_nth (Ty.rd_ext (e1.trans e2) _ hx) (Int.natCast_nonneg i) hlt
  have hdy:=LF_get hy
  rw [Int.toNat_natCast] at hdy
  refine ⟨⟨by omega,hlt⟩,q,hq,ldF hc ?_⟩
  refine newF λb6 w7 e7 hb=>?_
  refine hb.store 0 (by simp) λw8 hb8 bel8 _ _=>?_
  have x8:Ext w2 w8:=Below.trans e7 bel8
  have e8:Ext w1 w8:=e2.trans x8
  refine hb8.ld (i:=0) (h:=.int .i64) (x:=y.1) rfl (cond_eq (λc=>?_) (λc1=>?_))
  ·obtain ⟨h1,-⟩:=find_step hall hdy c
   have hmy:=hm.at hdy
   have hly:=TF_len hr
   dsimp only at hmy
   refine newU λb9 w9 e9 o9=>?_
   refine (hb8.ext e9).ld (i:=2) (h:=.sl) (x:=⟨y.2.2.1.a,y.2.2.1.n,y.2.2.1.c⟩) rfl ?_
   dsimp only
   refine appM (xs:=[]) o9 (Ty.ints (Ty.rd_ext (x8.trans e9) _ hr.2.2.1)) e9.size (by omega) λa' c' w10 o10 b10 m10 _=>?_
   have x10:Ext w8 w10:=Below.trans e9 b10
   have hb10:=hb8.ext x10
   have hlt8:b6<w8.heap.size:=hb8.lt
   have hne:∀ p,a'=some p->p.block≠b6:=by
    intro p hp
    rcases o10.at_ with ⟨h1,_⟩ | ⟨b,cs,h1,h2,_⟩
    ·rw [h1] at hp;cases hp
    ·rw [h1] at hp;cases hp;show b≠b6;omega
   refine hb10.store 2 (by simp) λw11 hb11 bel11 but11 _=>?_
   have o11:=o10.other (w':=w11) (λp hp=>but11 _ (hne p hp))
   refine ldF (f:=(y.1,y.2.1,⟨a',0+y.2.2.1.n,c',y.2.2.1.l⟩,())) hb11.cells ?_
   have X11:Ext w1 w11:=Below.trans (Ext.trans e8 x10) (Below.mono bel11 e2.size)
   have hb1':=hb1.ext X11
   have hlt1:b1<w1.heap.size:=hb1.lt
   refine hb1'.store 0 (by simp) λw12 hb12 bel12 but12 _=>?_
   refine ldF (f:=(y.1,y.2.1,⟨a',0+y.2.2.1.n,c',y.2.2.1.l⟩,())) hb12.cells ?_
   have o12:=o11.other (w':=w12) (λp hp=>but12 _ (by
    rcases o10.at_ with ⟨h1,_⟩ | ⟨b,cs,h1,h2,_⟩
    ·rw [h1] at hp;cases hp
    ·rw [h1] at hp;cases hp;show b≠b1
     have:=e8.size
     omega))
   have E12:Ext w w12:=Below.trans (e1.trans X11) bel12
   rw [h1]
   exact ⟨E12,rfl,rfl,rfl,⟨E12,o12.mono (Nat.le_trans e1.size e8.size)⟩⟩
  ·refine ⟨Rng.i64 (by omega) (by have hlim:=LF_lim hx;omega),⟨i+1,by push_cast;rfl,by omega,λj f hj hf=>?_,e8⟩,by omega⟩
   by_cases hji:j=i
   ·subst hji
    rw [hdy] at hf
    have:=Option.some.inj hf
    subst this
    exact c1
   ·exact hall j f (by omega) hf
 ·obtain ⟨h1,_⟩:=find_none (l:=fds x) (n:=n) λj f hf=>hall j f (by have:=(List.getElem?_eq_some_iff.1 hf).1;omega) hf
  have hb2:=hb1.ext e2
  refine hb2.store 0 (by simp) λw3 hb3 bel3 _ _=>?_
  refine ldF (f:=((0:Int),false,⟨none,0,0,[]⟩,())) hb3.cells ?_
  rw [h1]
  exact ⟨Below.trans (e1.trans e2) bel3,rfl,rfl⟩
end Go.Proofs.YtcekmdehjnlkpaaGreat.Vc
namespace Go.Proofs.YtcekmdehjnlkpaaGreat.Vc
open Go Go.Eng
def page_cut.A:Ann:=.two .no (.two (.draw (.take 0 (.take 1 (.take 2 (.take 3 (.take 4 (.take 5 (.take 6 (.take 7 (.take 8 (.eff 9 (.done)))))))))))) .no)
def page_cut.P (p0_0 p0_1 p0_2 p0_3 p0_4 p0_5:Int) (a1:Option Addr) (n1 c1:Nat) (w:World) (K:(SlV×SlV×Unit)×Unit->World->Prop):Prop:=
 NewV #[.int .i64 p0_0,.int .i64 p0_1,.int .i64 p0_2,.int .i64 p0_3,.int .i64 p0_4,.int .i64 p0_5] 23 w λb1 w2=>
 NewV #[.slice none 0 0,.slice none 0 0] 182 w2 λb3 w4=>
 DrawV λD5=>
 (D5 b1/\LoadS w4.drew ⟨b1,2,none⟩ (.int .i64) λ(x6:Int)=>
 ((0:Int)<=x6/\x6<=((c1:Nat):Int)) /\
 SubK a1 0 c1 1 λa7=>
 (D5 b1/\LoadS w4.drew ⟨b1,2,none⟩ (.int .i64) λ(x8:Int)=>
 ((0:Int)<=x8/\x8<=((n1:Nat):Int)) /\
 SubK a1 x8.toNat c1 1 λa9=>
 StoreV w4.drew ⟨b3,0,none⟩ [.slice a7 (x6.toNat-0) (c1-0),.slice a9 (n1-x8.toNat) (c1-x8.toNat)] λw10=>
 KeepOn D5 w4.drew w10 /\
 LoadA w10 ⟨b3,0,none⟩ [.sl,.sl] λ(x11:SlV×SlV×Unit)=>
 K ((x11.1,x11.2.1,()),()) w10))
theorem page_cut.vc (p0_0 p0_1 p0_2 p0_3 p0_4 p0_5:Int) (a1:Option Addr) (n1 c1:Nat) (w:World) (K:(SlV×SlV×Unit)×Unit->World->Prop) (h:page_cut.P p0_0 p0_1 p0_2 p0_3 p0_4 p0_5 a1 n1 c1 w K):CallV Tryz.prog 82 #[.agg #[.int .i64 p0_0,.int .i64 p0_1,.int .i64 p0_2,.int .i64 p0_3,.int .i64 p0_4,.int .i64 p0_5],.slice a1 n1 c1] w [.agg [.sl,.sl]] K:=by
 refine vcFun.of (A:=page_cut.A) (wr:=false) okf_ok follows h Tryz.func82 ?_
 kernel_rfl
def page_Read.A:Ann:=.two .no (.two .no (.two .no (.two .no (.two .no (.two (.draw (.take 0 (.take 2 (.take 3 (.take 5 (.take 6 (.take 7 (.eff 1 (.eff 4 (.eff 8 (.take 9 (.eff 10 (.take 11 (.done)))))))))))))) .no)))))
def page_Read.P (p0_0 p0_1 p0_2 p0_3 p0_4 p0_5:Int) (a1:Option Addr) (n1 c1:Nat) (w:World) (K:(Int×Int×Int×Int×Int×Int×SlV×SlV×Bool×Unit)×Int×Unit->World->Prop):Prop:=
 NewV #[.int .i64 p0_0,.int .i64 p0_1,.int .i64 p0_2,.int .i64 p0_3,.int .i64 p0_4,.int .i64 p0_5] 23 w λb1 w2=>
 NewV #[.int .i64 0,.int .i64 0,.int .i64 0,.int .u32 0,.int .u64 0,.int .u64 0,.slice none 0 0,.slice none 0 0,.bool false] 90 w2 λb3 w4=>
 LoadA w4 ⟨b1,0,none⟩ [.int .i64,.int .i64,.int .i64,.int .i64,.int .i64,.int .i64] λ(x5:Int×Int×Int×Int×Int×Int×Unit)=>
 CallV Tryz.prog 18 #[.agg #[.int .i64 x5.1,.int .i64 x5.2.1,.int .i64 x5.2.2.1,.int .i64 x5.2.2.2.1,.int .i64 x5.2.2.2.2.1,.int .i64 x5.2.2.2.2.2.1]] w4 [.one (.int .i64)] λ(r6:Int×Unit) w7=>
 cond (r6.1 != 0)
 (StoreV w7 ⟨b3,0,none⟩ [.int .i64 0,.int .i64 0,.int .i64 0,.int .u32 0,.int .u64 0,.int .u64 0,.slice none 0 0,.slice none 0 0,.bool false] λw8=>
 LoadA w8 ⟨b3,0,none⟩ [.int .i64,.int .i64,.int .i64,.int .u32,.int .u64,.int .u64,.sl,.sl,.bool] λ(x9:Int×Int×Int×Int×Int×Int×SlV×SlV×Bool×Unit)=>
 K ((x9.1,x9.2.1,x9.2.2.1,x9.2.2.2.1,x9.2.2.2.2.1,x9.2.2.2.2.2.1,x9.2.2.2.2.2.2.1,x9.2.2.2.2.2.2.2.1,x9.2.2.2.2.2.2.2.2.1,()),(2:Int),()) w8)
 (LoadA w7 ⟨b1,0,none⟩ [.int .i64,.int .i64,.int .i64,.int .i64,.int .i64,.int .i64] λ(x10:Int×Int×Int×Int×Int×Int×Unit)=>
 CallV Tryz.prog 54 #[.agg #[.int .i64 x10.1,.int .i64 x10.2.1,.int .i64 x10.2.2.1,.int .i64 x10.2.2.2.1,.int .i64 x10.2.2.2.2.1,.int .i64 x10.2.2.2.2.2.1]] w7 [.one (.int .i64)] λ(r11:Int×Unit) w12=>
 cond (((n1:Nat):Int) != r11.1)
 (StoreV w12 ⟨b3,0,none⟩ [.int .i64 0,.int .i64 0,.int .i64 0,.int .u32 0,.int .u64 0,.int .u64 0,.slice none 0 0,.slice none 0 0,.bool false] λw13=>
 LoadA w13 ⟨b3,0,none⟩ [.int .i64,.int .i64,.int .i64,.int .u32,.int .u64,.int .u64,.sl,.sl,.bool] λ(x14:Int×Int×Int×Int×Int×Int×SlV×SlV×Bool×Unit)=>
 K ((x14.1,x14.2.1,x14.2.2.1,x14.2.2.2.1,x14.2.2.2.2.1,x14.2.2.2.2.2.1,x14.2.2.2.2.2.2.1,x14.2.2.2.2.2.2.2.1,x14.2.2.2.2.2.2.2.2.1,()),(2:Int),()) w13)
 (LoadA w12 ⟨b1,0,none⟩ [.int .i64,.int .i64,.int .i64,.int .i64,.int .i64,.int .i64] λ(x15:Int×Int×Int×Int×Int×Int×Unit)=>
 CallV Tryz.prog 82 #[.agg #[.int .i64 x15.1,.int .i64 x15.2.1,.int .i64 x15.2.2.1,.int .i64 x15.2.2.2.1,.int .i64 x15.2.2.2.2.1,.int .i64 x15.2.2.2.2.2.1],.slice a1 n1 c1] w12 [.agg [.sl,.sl]] λ(r16:(SlV×SlV×Unit)×Unit) w17=>
 NewV #[.slice none 0 0,.slice none 0 0] 182 w17 λb18 w19=>
 StoreV w19 ⟨b18,0,none⟩ [.slice r16.1.1.a r16.1.1.n r16.1.1.c,.slice r16.1.2.1.a r16.1.2.1.n r16.1.2.1.c] λw20=>
 (0<=(1:Int)/\1<(2:Int)) /\
 LoadS w20 ⟨b18,1,none⟩ .sl λ(x21:SlV)=>
 CallV Tryz.prog 83 #[.slice x21.a x21.n x21.c] w20 [.agg [.int .i64,.int .i64,.int .i64,.int .u32,.int .u64,.int .u64],.one .sl,.one (.int .i64)] λ(r22:(Int×Int×Int×Int×Int×Int×Unit)×SlV×Int×Unit) w23=>
 NewV #[.int .i64 0,.int .i64 0,.int .i64 0,.int .u32 0,.int .u64 0,.int .u64 0] 35 w23 λb24 w25=>
 StoreV w25 ⟨b24,0,none⟩ [.int .i64 r22.1.1,.int .i64 r22.1.2.1,.int .i64 r22.1.2.2.1,.int .u32 r22.1.2.2.2.1,.int .u64 r22.1.2.2.2.2.1,.int .u64 r22.1.2.2.2.2.2.1] λw26=>
 cond (r22.2.2.1 != 0)
 (StoreV w26 ⟨b3,0,none⟩ [.int .i64 0,.int .i64 0,.int .i64 0,.int .u32 0,.int .u64 0,.int .u64 0,.slice none 0 0,.slice none 0 0,.bool false] λw27=>
 LoadA w27 ⟨b3,0,none⟩ [.int .i64,.int .i64,.int .i64,.int .u32,.int .u64,.int .u64,.sl,.sl,.bool] λ(x28:Int×Int×Int×Int×Int×Int×SlV×SlV×Bool×Unit)=>
 K ((x28.1,x28.2.1,x28.2.2.1,x28.2.2.2.1,x28.2.2.2.2.1,x28.2.2.2.2.2.1,x28.2.2.2.2.2.2.1,x28.2.2.2.2.2.2.2.1,x28.2.2.2.2.2.2.2.2.1,()),r22.2.2.1,()) w27)
 (DrawV λD29=>
 (D29 b24/\LoadA w26.drew ⟨b24,0,none⟩ [.int .i64,.int .i64,.int .i64,.int .u32,.int .u64,.int .u64] λ(x30:Int×Int×Int×Int×Int×Int×Unit)=>
 (0<=(0:Int)/\0<(2:Int)) /\
 (D29 b18/\LoadS w26.drew ⟨b18,0,none⟩ .sl λ(x31:SlV)=>
 (0<=(1:Int)/\1<(2:Int)) /\
 (D29 b18/\LoadS w26.drew ⟨b18,1,none⟩ .sl λ(x32:SlV)=>
 NewV #[] 5 w26.drew λb33 w34=>
 KeepOn D29 w26.drew w34 /\
 AppS w34 x31.a x31.n 1 λns39=>
 AppV w34 5 1 1 (some ⟨b33,0,none⟩) 0 0 ns39 x31.n λa35 n36 c37 w38=>
 KeepOn D29 w26.drew w38 /\
 CallV Tryz.prog 84 #[.slice x32.a x32.n x32.c] w38 [.one .bool] λ(r40:Bool×Unit) w41=>
 KeepOn D29 w26.drew w41 /\
 StoreV w41 ⟨b3,0,none⟩ [.int .i64 x30.1,.int .i64 x30.2.1,.int .i64 x30.2.2.1,.int .u32 x30.2.2.2.1,.int .u64 x30.2.2.2.2.1,.int .u64 x30.2.2.2.2.2.1,.slice a35 n36 c37,.slice r22.2.1.a r22.2.1.n r22.2.1.c,.bool r40.1] λw42=>
 KeepOn D29 w26.drew w42 /\
 LoadA w42 ⟨b3,0,none⟩ [.int .i64,.int .i64,.int .i64,.int .u32,.int .u64,.int .u64,.sl,.sl,.bool] λ(x43:Int×Int×Int×Int×Int×Int×SlV×SlV×Bool×Unit)=>
 K ((x43.1,x43.2.1,x43.2.2.1,x43.2.2.2.1,x43.2.2.2.2.1,x43.2.2.2.2.2.1,x43.2.2.2.2.2.2.1,x43.2.2.2.2.2.2.2.1,x43.2.2.2.2.2.2.2.2.1,()),(0:Int),()) w42))))))
theorem page_Read.vc (p0_0 p0_1 p0_2 p0_3 p0_4 p0_5:Int) (a1:Option Addr) (n1 c1:Nat) (w:World) (K:(Int×Int×Int×Int×Int×Int×SlV×SlV×Bool×Unit)×Int×Unit->World->Prop) (h:page_Read.P p0_0 p0_1 p0_2 p0_3 p0_4 p0_5 a1 n1 c1 w K):CallV Tryz.prog 52 #[.agg #[.int .i64 p0_0,.int .i64 p0_1,.int .i64 p0_2,.int .i64 p0_3,.int .i64 p0_4,.int .i64 p0_5],.slice a1 n1 c1] w [.agg [.int .i64,.int .i64,.int .i64,.int .u32,.int .u64,.int .u64,.sl,.sl,.bool],.one (.int .i64)] K:=by
 refine vcFun.of (A:=page_Read.A) (wr:=false) okf_ok follows h Tryz.func52 ?_
 kernel_rfl
def page_Done.A:Ann:=.no
def page_Done.P (p0_0 p0_1 p0_2 p0_3 p0_4 p0_5:Int) (a1:Option Addr) (n1 c1:Nat) (p2:Int) (w:World) (K:(Int×Int×Int×Int×Int×Int×SlV×SlV×Bool×Unit)×Bool×Unit->World->Prop):Prop:=
 NewV #[.int .i64 p0_0,.int .i64 p0_1,.int .i64 p0_2,.int .i64 p0_3,.int .i64 p0_4,.int .i64 p0_5] 23 w λb1 w2=>
 NewV #[.int .i64 0,.int .i64 0,.int .i64 0,.int .u32 0,.int .u64 0,.int .u64 0,.slice none 0 0,.slice none 0 0,.bool false] 90 w2 λb3 w4=>
 LoadA w4 ⟨b1,0,none⟩ [.int .i64,.int .i64,.int .i64,.int .i64,.int .i64,.int .i64] λ(x5:Int×Int×Int×Int×Int×Int×Unit)=>
 CallV Tryz.prog 52 #[.agg #[.int .i64 x5.1,.int .i64 x5.2.1,.int .i64 x5.2.2.1,.int .i64 x5.2.2.2.1,.int .i64 x5.2.2.2.2.1,.int .i64 x5.2.2.2.2.2.1],.slice a1 n1 c1] w4 [.agg [.int .i64,.int .i64,.int .i64,.int .u32,.int .u64,.int .u64,.sl,.sl,.bool],.one (.int .i64)] λ(r6:(Int×Int×Int×Int×Int×Int×SlV×SlV×Bool×Unit)×Int×Unit) w7=>
 NewV #[.int .i64 0,.int .i64 0,.int .i64 0,.int .u32 0,.int .u64 0,.int .u64 0,.slice none 0 0,.slice none 0 0,.bool false] 90 w7 λb8 w9=>
 StoreV w9 ⟨b8,0,none⟩ [.int .i64 r6.1.1,.int .i64 r6.1.2.1,.int .i64 r6.1.2.2.1,.int .u32 r6.1.2.2.2.1,.int .u64 r6.1.2.2.2.2.1,.int .u64 r6.1.2.2.2.2.2.1,.slice r6.1.2.2.2.2.2.2.1.a r6.1.2.2.2.2.2.2.1.n r6.1.2.2.2.2.2.2.1.c,.slice r6.1.2.2.2.2.2.2.2.1.a r6.1.2.2.2.2.2.2.2.1.n r6.1.2.2.2.2.2.2.2.1.c,.bool r6.1.2.2.2.2.2.2.2.2.1] λw10=>
 cond (r6.2.1 != 0)
 (StoreV w10 ⟨b3,0,none⟩ [.int .i64 0,.int .i64 0,.int .i64 0,.int .u32 0,.int .u64 0,.int .u64 0,.slice none 0 0,.slice none 0 0,.bool false] λw11=>
 LoadA w11 ⟨b3,0,none⟩ [.int .i64,.int .i64,.int .i64,.int .u32,.int .u64,.int .u64,.sl,.sl,.bool] λ(x12:Int×Int×Int×Int×Int×Int×SlV×SlV×Bool×Unit)=>
 K ((x12.1,x12.2.1,x12.2.2.1,x12.2.2.2.1,x12.2.2.2.2.1,x12.2.2.2.2.2.1,x12.2.2.2.2.2.2.1,x12.2.2.2.2.2.2.2.1,x12.2.2.2.2.2.2.2.2.1,()),false,()) w11)
 (LoadS w10 ⟨b8,8,none⟩ .bool λ(x13:Bool)=>
 cond (!x13)
 (StoreV w10 ⟨b3,0,none⟩ [.int .i64 0,.int .i64 0,.int .i64 0,.int .u32 0,.int .u64 0,.int .u64 0,.slice none 0 0,.slice none 0 0,.bool false] λw14=>
 LoadA w14 ⟨b3,0,none⟩ [.int .i64,.int .i64,.int .i64,.int .u32,.int .u64,.int .u64,.sl,.sl,.bool] λ(x15:Int×Int×Int×Int×Int×Int×SlV×SlV×Bool×Unit)=>
 K ((x15.1,x15.2.1,x15.2.2.1,x15.2.2.2.1,x15.2.2.2.2.1,x15.2.2.2.2.2.1,x15.2.2.2.2.2.2.1,x15.2.2.2.2.2.2.2.1,x15.2.2.2.2.2.2.2.2.1,()),false,()) w14)
 (LoadS w10 ⟨b8,0,none⟩ (.int .i64) λ(x16:Int)=>
 cond (x16 != p2)
 (StoreV w10 ⟨b3,0,none⟩ [.int .i64 0,.int .i64 0,.int .i64 0,.int .u32 0,.int .u64 0,.int .u64 0,.slice none 0 0,.slice none 0 0,.bool false] λw17=>
 LoadA w17 ⟨b3,0,none⟩ [.int .i64,.int .i64,.int .i64,.int .u32,.int .u64,.int .u64,.sl,.sl,.bool] λ(x18:Int×Int×Int×Int×Int×Int×SlV×SlV×Bool×Unit)=>
 K ((x18.1,x18.2.1,x18.2.2.1,x18.2.2.2.1,x18.2.2.2.2.1,x18.2.2.2.2.2.1,x18.2.2.2.2.2.2.1,x18.2.2.2.2.2.2.2.1,x18.2.2.2.2.2.2.2.2.1,()),false,()) w17)
 (LoadA w10 ⟨b8,0,none⟩ [.int .i64,.int .i64,.int .i64,.int .u32,.int .u64,.int .u64,.sl,.sl,.bool] λ(x19:Int×Int×Int×Int×Int×Int×SlV×SlV×Bool×Unit)=>
 StoreV w10 ⟨b3,0,none⟩ [.int .i64 x19.1,.int .i64 x19.2.1,.int .i64 x19.2.2.1,.int .u32 x19.2.2.2.1,.int .u64 x19.2.2.2.2.1,.int .u64 x19.2.2.2.2.2.1,.slice x19.2.2.2.2.2.2.1.a x19.2.2.2.2.2.2.1.n x19.2.2.2.2.2.2.1.c,.slice x19.2.2.2.2.2.2.2.1.a x19.2.2.2.2.2.2.2.1.n x19.2.2.2.2.2.2.2.1.c,.bool x19.2.2.2.2.2.2.2.2.1] λw20=>
 LoadA w20 ⟨b3,0,none⟩ [.int .i64,.int .i64,.int .i64,.int .u32,.int .u64,.int .u64,.sl,.sl,.bool] λ(x21:Int×Int×Int×Int×Int×Int×SlV×SlV×Bool×Unit)=>
 K ((x21.1,x21.2.1,x21.2.2.1,x21.2.2.2.1,x21.2.2.2.2.1,x21.2.2.2.2.2.1,x21.2.2.2.2.2.2.1,x21.2.2.2.2.2.2.2.1,x21.2.2.2.2.2.2.2.2.1,()),true,()) w20)))
theorem page_Done.vc (p0_0 p0_1 p0_2 p0_3 p0_4 p0_5:Int) (a1:Option Addr) (n1 c1:Nat) (p2:Int) (w:World) (K:(Int×Int×Int×Int×Int×Int×SlV×SlV×Bool×Unit)×Bool×Unit->World->Prop) (h:page_Done.P p0_0 p0_1 p0_2 p0_3 p0_4 p0_5 a1 n1 c1 p2 w K):CallV Tryz.prog 19 #[.agg #[.int .i64 p0_0,.int .i64 p0_1,.int .i64 p0_2,.int .i64 p0_3,.int .i64 p0_4,.int .i64 p0_5],.slice a1 n1 c1,.int .i64 p2] w [.agg [.int .i64,.int .i64,.int .i64,.int .u32,.int .u64,.int .u64,.sl,.sl,.bool],.one .bool] K:=by
 refine vcFun.of (A:=page_Done.A) (wr:=false) okf_ok follows h Tryz.func19 ?_
 kernel_rfl
def ref15_Make.A:Ann:=.two .no (.two .no (.two (.draw (.take 1 (.take 3 (.take 4 (.eff 0 (.eff 2 (.eff 5 (.eff 6 (.take 7 (.done)))))))))) .no))
def ref15_Make.P (p0_0 p0_1 p0_2 p0_3 p0_4 p0_5 p1_0 p1_1 p1_2 p1_3 p1_4 p1_5:Int) (a2:Option Addr) (n2 c2:Nat) (a3:Option Addr) (n3 c3:Nat) (w:World) (K:SlV×Unit->World->Prop):Prop:=
 NewV #[.int .i64 p0_0,.int .i64 p0_1,.int .i64 p0_2,.int .i64 p0_3,.int .i64 p0_4,.int .i64 p0_5] 23 w λb1 w2=>
 NewV #[.int .i64 p1_0,.int .i64 p1_1,.int .i64 p1_2,.int .u32 p1_3,.int .u64 p1_4,.int .u64 p1_5] 35 w2 λb3 w4=>
 cond (((n2:Nat):Int) == 0)
 (LoadS w4 ⟨b1,2,none⟩ (.int .i64) λ(x5:Int)=>
 CallV Tryz.prog 86 #[.int .u8 255,.int .i64 x5] w4 [.one .sl] λ(r6:SlV×Unit) w7=>
 DrawV λD8=>
 (D8 b3/\LoadA w7.drew ⟨b3,0,none⟩ [.int .i64,.int .i64,.int .i64,.int .u32,.int .u64,.int .u64] λ(x9:Int×Int×Int×Int×Int×Int×Unit)=>
 NewV #[] 5 w7.drew λb10 w11=>
 KeepOn D8 w7.drew w11 /\
 AppS w11 r6.1.a r6.1.n 1 λns16=>
 AppV w11 5 1 1 (some ⟨b10,0,none⟩) 0 0 ns16 r6.1.n λa12 n13 c14 w15=>
 KeepOn D8 w7.drew w15 /\
 CallV Tryz.prog 87 #[.agg #[.int .i64 x9.1,.int .i64 x9.2.1,.int .i64 x9.2.2.1,.int .u32 x9.2.2.2.1,.int .u64 x9.2.2.2.2.1,.int .u64 x9.2.2.2.2.2.1],.slice a3 n3 c3] w15 [.one .sl] λ(r17:SlV×Unit) w18=>
 KeepOn D8 w7.drew w18 /\
 AppS w18 r17.1.a r17.1.n 1 λns23=>
 AppV w18 5 1 1 a12 n13 c14 ns23 r17.1.n λa19 n20 c21 w22=>
 KeepOn D8 w7.drew w22 /\
 K ((⟨a19,n20,c21⟩:SlV),()) w22))
 (DrawV λD24=>
 (D24 b3/\LoadA w4.drew ⟨b3,0,none⟩ [.int .i64,.int .i64,.int .i64,.int .u32,.int .u64,.int .u64] λ(x25:Int×Int×Int×Int×Int×Int×Unit)=>
 NewV #[] 5 w4.drew λb26 w27=>
 KeepOn D24 w4.drew w27 /\
 AppS w27 a2 n2 1 λns32=>
 AppV w27 5 1 1 (some ⟨b26,0,none⟩) 0 0 ns32 n2 λa28 n29 c30 w31=>
 KeepOn D24 w4.drew w31 /\
 CallV Tryz.prog 87 #[.agg #[.int .i64 x25.1,.int .i64 x25.2.1,.int .i64 x25.2.2.1,.int .u32 x25.2.2.2.1,.int .u64 x25.2.2.2.2.1,.int .u64 x25.2.2.2.2.2.1],.slice a3 n3 c3] w31 [.one .sl] λ(r33:SlV×Unit) w34=>
 KeepOn D24 w4.drew w34 /\
 AppS w34 r33.1.a r33.1.n 1 λns39=>
 AppV w34 5 1 1 a28 n29 c30 ns39 r33.1.n λa35 n36 c37 w38=>
 KeepOn D24 w4.drew w38 /\
 K ((⟨a35,n36,c37⟩:SlV),()) w38))
theorem ref15_Make.vc (p0_0 p0_1 p0_2 p0_3 p0_4 p0_5 p1_0 p1_1 p1_2 p1_3 p1_4 p1_5:Int) (a2:Option Addr) (n2 c2:Nat) (a3:Option Addr) (n3 c3:Nat) (w:World) (K:SlV×Unit->World->Prop) (h:ref15_Make.P p0_0 p0_1 p0_2 p0_3 p0_4 p0_5 p1_0 p1_1 p1_2 p1_3 p1_4 p1_5 a2 n2 c2 a3 n3 c3 w K):CallV Tryz.prog 58 #[.agg #[.int .i64 p0_0,.int .i64 p0_1,.int .i64 p0_2,.int .i64 p0_3,.int .i64 p0_4,.int .i64 p0_5],.agg #[.int .i64 p1_0,.int .i64 p1_1,.int .i64 p1_2,.int .u32 p1_3,.int .u64 p1_4,.int .u64 p1_5],.slice a2 n2 c2,.slice a3 n3 c3] w [.one .sl] K:=by
 refine vcFun.of (A:=ref15_Make.A) (wr:=false) okf_ok follows h Tryz.func58 ?_
 kernel_rfl
def ref15_Commit.A:Ann:=.no
def ref15_Commit.P (p0_0 p0_1 p0_2 p0_3 p0_4 p0_5:Int) (w:World) (K:SlV×Unit->World->Prop):Prop:=
 NewV #[.int .i64 p0_0,.int .i64 p0_1,.int .i64 p0_2,.int .i64 p0_3,.int .i64 p0_4,.int .i64 p0_5] 23 w λb1 w2=>
 LoadS w2 ⟨b1,2,none⟩ (.int .i64) λ(x3:Int)=>
 Rng .i64 (x3+80) /\
 CallV Tryz.prog 86 #[.int .u8 255,.int .i64 (x3+80)] w2 [.one .sl] λ(r4:SlV×Unit) w5=>
 CallV Tryz.prog 86 #[.int .u8 0,.int .i64 8] w5 [.one .sl] λ(r6:SlV×Unit) w7=>
 AppS w7 r6.1.a r6.1.n 1 λns12=>
 AppV w7 5 1 1 r4.1.a r4.1.n r4.1.c ns12 r6.1.n λa8 n9 c10 w11=>
 K ((⟨a8,n9,c10⟩:SlV),()) w11
theorem ref15_Commit.vc (p0_0 p0_1 p0_2 p0_3 p0_4 p0_5:Int) (w:World) (K:SlV×Unit->World->Prop) (h:ref15_Commit.P p0_0 p0_1 p0_2 p0_3 p0_4 p0_5 w K):CallV Tryz.prog 62 #[.agg #[.int .i64 p0_0,.int .i64 p0_1,.int .i64 p0_2,.int .i64 p0_3,.int .i64 p0_4,.int .i64 p0_5]] w [.one .sl] K:=by
 refine vcFun.of (A:=ref15_Commit.A) (wr:=false) okf_ok follows h Tryz.func62 ?_
 kernel_rfl
def ref15_Read.A:Ann:=.two .no (.two .no (.two .no (.two .no (.two (.draw (.take 0 (.take 1 (.take 2 (.take 3 (.take 4 (.take 5 (.take 6 (.take 7 (.eff 8 (.take 9 (.eff 10 (.done))))))))))))) .no))))
def ref15_Read.P (p0_0 p0_1 p0_2 p0_3 p0_4 p0_5:Int) (a1:Option Addr) (n1 c1:Nat) (w:World) (K:(Int×Int×Int×Int×Int×Int×SlV×SlV×Bool×Bool×Unit)×Unit->World->Prop):Prop:=
 NewV #[.int .i64 p0_0,.int .i64 p0_1,.int .i64 p0_2,.int .i64 p0_3,.int .i64 p0_4,.int .i64 p0_5] 23 w λb1 w2=>
 NewV #[.int .i64 0,.int .i64 0,.int .i64 0,.int .u32 0,.int .u64 0,.int .u64 0,.slice none 0 0,.slice none 0 0,.bool false,.bool false] 103 w2 λb3 w4=>
 LoadS w4 ⟨b1,2,none⟩ (.int .i64) λ(x5:Int)=>
 ((0:Int)<=x5/\x5<=((n1:Nat):Int)) /\
 SubK a1 x5.toNat c1 1 λa6=>
 CallV Tryz.prog 63 #[.slice a6 (n1-x5.toNat) (c1-x5.toNat)] w4 [.agg [.int .i64,.int .i64,.int .i64,.int .u32,.int .u64,.int .u64],.one .bool] λ(r7:(Int×Int×Int×Int×Int×Int×Unit)×Bool×Unit) w8=>
 NewV #[.int .i64 0,.int .i64 0,.int .i64 0,.int .u32 0,.int .u64 0,.int .u64 0] 35 w8 λb9 w10=>
 StoreV w10 ⟨b9,0,none⟩ [.int .i64 r7.1.1,.int .i64 r7.1.2.1,.int .i64 r7.1.2.2.1,.int .u32 r7.1.2.2.2.1,.int .u64 r7.1.2.2.2.2.1,.int .u64 r7.1.2.2.2.2.2.1] λw11=>
 cond (!r7.2.1)
 (StoreV w11 ⟨b3,0,none⟩ [.int .i64 0,.int .i64 0,.int .i64 0,.int .u32 0,.int .u64 0,.int .u64 0,.slice none 0 0,.slice none 0 0,.bool false,.bool false] λw12=>
 LoadA w12 ⟨b3,0,none⟩ [.int .i64,.int .i64,.int .i64,.int .u32,.int .u64,.int .u64,.sl,.sl,.bool,.bool] λ(x13:Int×Int×Int×Int×Int×Int×SlV×SlV×Bool×Bool×Unit)=>
 K ((x13.1,x13.2.1,x13.2.2.1,x13.2.2.2.1,x13.2.2.2.2.1,x13.2.2.2.2.2.1,x13.2.2.2.2.2.2.1,x13.2.2.2.2.2.2.2.1,x13.2.2.2.2.2.2.2.2.1,x13.2.2.2.2.2.2.2.2.2.1,()),()) w12)
 (DrawV λD14=>
 (D14 b9/\LoadA w11.drew ⟨b9,0,none⟩ [.int .i64,.int .i64,.int .i64,.int .u32,.int .u64,.int .u64] λ(x15:Int×Int×Int×Int×Int×Int×Unit)=>
 (D14 b1/\LoadS w11.drew ⟨b1,2,none⟩ (.int .i64) λ(x16:Int)=>
 ((0:Int)<=x16/\x16<=((c1:Nat):Int)) /\
 SubK a1 0 c1 1 λa17=>
 ((0:Int)<=(48:Int)/\(48:Int)<=(80:Int)/\(80:Int)<=((c1-x5.toNat:Nat):Int)) /\
 SubK a6 48 (c1-x5.toNat) 1 λa18=>
 CallV Tryz.prog 64 #[.slice a6 (n1-x5.toNat) (c1-x5.toNat)] w11.drew [.one .bool] λ(r19:Bool×Unit) w20=>
 KeepOn D14 w11.drew w20 /\
 StoreV w20 ⟨b3,0,none⟩ [.int .i64 x15.1,.int .i64 x15.2.1,.int .i64 x15.2.2.1,.int .u32 x15.2.2.2.1,.int .u64 x15.2.2.2.2.1,.int .u64 x15.2.2.2.2.2.1,.slice a17 (x16.toNat-0) (c1-0),.slice a18 (80-48) ((c1-x5.toNat)-48),.bool r19.1,.bool true] λw21=>
 KeepOn D14 w11.drew w21 /\
 LoadA w21 ⟨b3,0,none⟩ [.int .i64,.int .i64,.int .i64,.int .u32,.int .u64,.int .u64,.sl,.sl,.bool,.bool] λ(x22:Int×Int×Int×Int×Int×Int×SlV×SlV×Bool×Bool×Unit)=>
 K ((x22.1,x22.2.1,x22.2.2.1,x22.2.2.2.1,x22.2.2.2.2.1,x22.2.2.2.2.2.1,x22.2.2.2.2.2.2.1,x22.2.2.2.2.2.2.2.1,x22.2.2.2.2.2.2.2.2.1,x22.2.2.2.2.2.2.2.2.2.1,()),()) w21)))
theorem ref15_Read.vc (p0_0 p0_1 p0_2 p0_3 p0_4 p0_5:Int) (a1:Option Addr) (n1 c1:Nat) (w:World) (K:(Int×Int×Int×Int×Int×Int×SlV×SlV×Bool×Bool×Unit)×Unit->World->Prop) (h:ref15_Read.P p0_0 p0_1 p0_2 p0_3 p0_4 p0_5 a1 n1 c1 w K):CallV Tryz.prog 27 #[.agg #[.int .i64 p0_0,.int .i64 p0_1,.int .i64 p0_2,.int .i64 p0_3,.int .i64 p0_4,.int .i64 p0_5],.slice a1 n1 c1] w [.agg [.int .i64,.int .i64,.int .i64,.int .u32,.int .u64,.int .u64,.sl,.sl,.bool,.bool]] K:=by
 refine vcFun.of (A:=ref15_Read.A) (wr:=false) okf_ok follows h Tryz.func27 ?_
 kernel_rfl
def ref15_Done.A:Ann:=.no
def ref15_Done.P (p0_0 p0_1 p0_2 p0_3 p0_4 p0_5:Int) (a1:Option Addr) (n1 c1:Nat) (p2:Int) (w:World) (K:(Int×Int×Int×Int×Int×Int×SlV×SlV×Bool×Bool×Unit)×Unit->World->Prop):Prop:=
 NewV #[.int .i64 p0_0,.int .i64 p0_1,.int .i64 p0_2,.int .i64 p0_3,.int .i64 p0_4,.int .i64 p0_5] 23 w λb1 w2=>
 NewV #[.int .i64 0,.int .i64 0,.int .i64 0,.int .u32 0,.int .u64 0,.int .u64 0,.slice none 0 0,.slice none 0 0,.bool false,.bool false] 103 w2 λb3 w4=>
 LoadA w4 ⟨b1,0,none⟩ [.int .i64,.int .i64,.int .i64,.int .i64,.int .i64,.int .i64] λ(x5:Int×Int×Int×Int×Int×Int×Unit)=>
 CallV Tryz.prog 27 #[.agg #[.int .i64 x5.1,.int .i64 x5.2.1,.int .i64 x5.2.2.1,.int .i64 x5.2.2.2.1,.int .i64 x5.2.2.2.2.1,.int .i64 x5.2.2.2.2.2.1],.slice a1 n1 c1] w4 [.agg [.int .i64,.int .i64,.int .i64,.int .u32,.int .u64,.int .u64,.sl,.sl,.bool,.bool]] λ(r6:(Int×Int×Int×Int×Int×Int×SlV×SlV×Bool×Bool×Unit)×Unit) w7=>
 NewV #[.int .i64 0,.int .i64 0,.int .i64 0,.int .u32 0,.int .u64 0,.int .u64 0,.slice none 0 0,.slice none 0 0,.bool false,.bool false] 103 w7 λb8 w9=>
 StoreV w9 ⟨b8,0,none⟩ [.int .i64 r6.1.1,.int .i64 r6.1.2.1,.int .i64 r6.1.2.2.1,.int .u32 r6.1.2.2.2.1,.int .u64 r6.1.2.2.2.2.1,.int .u64 r6.1.2.2.2.2.2.1,.slice r6.1.2.2.2.2.2.2.1.a r6.1.2.2.2.2.2.2.1.n r6.1.2.2.2.2.2.2.1.c,.slice r6.1.2.2.2.2.2.2.2.1.a r6.1.2.2.2.2.2.2.2.1.n r6.1.2.2.2.2.2.2.2.1.c,.bool r6.1.2.2.2.2.2.2.2.2.1,.bool r6.1.2.2.2.2.2.2.2.2.2.1] λw10=>
 LoadS w10 ⟨b8,9,none⟩ .bool λ(x11:Bool)=>
 cond (!x11)
 (StoreV w10 ⟨b3,0,none⟩ [.int .i64 0,.int .i64 0,.int .i64 0,.int .u32 0,.int .u64 0,.int .u64 0,.slice none 0 0,.slice none 0 0,.bool false,.bool false] λw12=>
 LoadA w12 ⟨b3,0,none⟩ [.int .i64,.int .i64,.int .i64,.int .u32,.int .u64,.int .u64,.sl,.sl,.bool,.bool] λ(x13:Int×Int×Int×Int×Int×Int×SlV×SlV×Bool×Bool×Unit)=>
 K ((x13.1,x13.2.1,x13.2.2.1,x13.2.2.2.1,x13.2.2.2.2.1,x13.2.2.2.2.2.1,x13.2.2.2.2.2.2.1,x13.2.2.2.2.2.2.2.1,x13.2.2.2.2.2.2.2.2.1,x13.2.2.2.2.2.2.2.2.2.1,()),()) w12)
 (LoadS w10 ⟨b8,8,none⟩ .bool λ(x14:Bool)=>
 cond (!x14)
 (StoreV w10 ⟨b3,0,none⟩ [.int .i64 0,.int .i64 0,.int .i64 0,.int .u32 0,.int .u64 0,.int .u64 0,.slice none 0 0,.slice none 0 0,.bool false,.bool false] λw15=>
 LoadA w15 ⟨b3,0,none⟩ [.int .i64,.int .i64,.int .i64,.int .u32,.int .u64,.int .u64,.sl,.sl,.bool,.bool] λ(x16:Int×Int×Int×Int×Int×Int×SlV×SlV×Bool×Bool×Unit)=>
 K ((x16.1,x16.2.1,x16.2.2.1,x16.2.2.2.1,x16.2.2.2.2.1,x16.2.2.2.2.2.1,x16.2.2.2.2.2.2.1,x16.2.2.2.2.2.2.2.1,x16.2.2.2.2.2.2.2.2.1,x16.2.2.2.2.2.2.2.2.2.1,()),()) w15)
 (LoadS w10 ⟨b8,0,none⟩ (.int .i64) λ(x17:Int)=>
 cond (x17 != p2)
 (StoreV w10 ⟨b3,0,none⟩ [.int .i64 0,.int .i64 0,.int .i64 0,.int .u32 0,.int .u64 0,.int .u64 0,.slice none 0 0,.slice none 0 0,.bool false,.bool false] λw18=>
 LoadA w18 ⟨b3,0,none⟩ [.int .i64,.int .i64,.int .i64,.int .u32,.int .u64,.int .u64,.sl,.sl,.bool,.bool] λ(x19:Int×Int×Int×Int×Int×Int×SlV×SlV×Bool×Bool×Unit)=>
 K ((x19.1,x19.2.1,x19.2.2.1,x19.2.2.2.1,x19.2.2.2.2.1,x19.2.2.2.2.2.1,x19.2.2.2.2.2.2.1,x19.2.2.2.2.2.2.2.1,x19.2.2.2.2.2.2.2.2.1,x19.2.2.2.2.2.2.2.2.2.1,()),()) w18)
 (LoadA w10 ⟨b8,0,none⟩ [.int .i64,.int .i64,.int .i64,.int .u32,.int .u64,.int .u64,.sl,.sl,.bool,.bool] λ(x20:Int×Int×Int×Int×Int×Int×SlV×SlV×Bool×Bool×Unit)=>
 StoreV w10 ⟨b3,0,none⟩ [.int .i64 x20.1,.int .i64 x20.2.1,.int .i64 x20.2.2.1,.int .u32 x20.2.2.2.1,.int .u64 x20.2.2.2.2.1,.int .u64 x20.2.2.2.2.2.1,.slice x20.2.2.2.2.2.2.1.a x20.2.2.2.2.2.2.1.n x20.2.2.2.2.2.2.1.c,.slice x20.2.2.2.2.2.2.2.1.a x20.2.2.2.2.2.2.2.1.n x20.2.2.2.2.2.2.2.1.c,.bool x20.2.2.2.2.2.2.2.2.1,.bool x20.2.2.2.2.2.2.2.2.2.1] λw21=>
 LoadA w21 ⟨b3,0,none⟩ [.int .i64,.int .i64,.int .i64,.int .u32,.int .u64,.int .u64,.sl,.sl,.bool,.bool] λ(x22:Int×Int×Int×Int×Int×Int×SlV×SlV×Bool×Bool×Unit)=>
 K ((x22.1,x22.2.1,x22.2.2.1,x22.2.2.2.1,x22.2.2.2.2.1,x22.2.2.2.2.2.1,x22.2.2.2.2.2.2.1,x22.2.2.2.2.2.2.2.1,x22.2.2.2.2.2.2.2.2.1,x22.2.2.2.2.2.2.2.2.2.1,()),()) w21)))
theorem ref15_Done.vc (p0_0 p0_1 p0_2 p0_3 p0_4 p0_5:Int) (a1:Option Addr) (n1 c1:Nat) (p2:Int) (w:World) (K:(Int×Int×Int×Int×Int×Int×SlV×SlV×Bool×Bool×Unit)×Unit->World->Prop) (h:ref15_Done.P p0_0 p0_1 p0_2 p0_3 p0_4 p0_5 a1 n1 c1 p2 w K):CallV Tryz.prog 26 #[.agg #[.int .i64 p0_0,.int .i64 p0_1,.int .i64 p0_2,.int .i64 p0_3,.int .i64 p0_4,.int .i64 p0_5],.slice a1 n1 c1,.int .i64 p2] w [.agg [.int .i64,.int .i64,.int .i64,.int .u32,.int .u64,.int .u64,.sl,.sl,.bool,.bool]] K:=by
 refine vcFun.of (A:=ref15_Done.A) (wr:=false) okf_ok follows h Tryz.func26 ?_
 kernel_rfl
end Go.Proofs.YtcekmdehjnlkpaaGreat.Vc
namespace Go.Proofs.YtcekmdehjnlkpaaGreat.Vc
open Go Go.Eng Go.RowKit
def payL (g:Geo) (pl:List Int):List Int:=if pl.length=0 then List.replicate g.s.toNat 255 else pl
def mkL (g:Geo) (h:Hd) (pl tg:List Int):List Int:=payL g pl++endL h tg
def comL (g:Geo):List Int:=List.replicate (g.s+80).toNat 255++List.replicate 8 0
def PRight (g:Geo) (h:Hd) (n m:Nat):Prop:=Right g/\ERight h m/\(n=0\/(n:Int)=g.s)
instance (g:Geo) (h:Hd) (n m:Nat):Decidable (PRight g h n m):=by unfold PRight;infer_instance
end Go.Proofs.YtcekmdehjnlkpaaGreat.Vc
namespace Go.Proofs.YtcekmdehjnlkpaaGreat.Vc
open Go Go.Eng
def ref14_Read.T (w21:World) (b19:Nat) (b1:Nat) (K:(Int×Int×Int×Int×Int×Int×Unit)×Bool×Unit->World->Prop) (c0:Nat) (a0:Option Addr):Prop:=
LoadA w21 ⟨b19,0,none⟩ [.int .i64,.int .i64,.int .i64,.int .u32,.int .u64,.int .u64] λ(x22:Int×Int×Int×Int×Int×Int×Unit)=>
 CallV Tryz.prog 11 #[.agg #[.int .i64 x22.1,.int .i64 x22.2.1,.int .i64 x22.2.2.1,.int .u32 x22.2.2.2.1,.int .u64 x22.2.2.2.2.1,.int .u64 x22.2.2.2.2.2.1]] w21 [.one .bool] λ(r23:Bool×Unit) w24=>
 cond (!r23.1)
 (StoreV w24 ⟨b1,0,none⟩ [.int .i64 0,.int .i64 0,.int .i64 0,.int .u32 0,.int .u64 0,.int .u64 0] λw25=>
 LoadA w25 ⟨b1,0,none⟩ [.int .i64,.int .i64,.int .i64,.int .u32,.int .u64,.int .u64] λ(x26:Int×Int×Int×Int×Int×Int×Unit)=>
 K ((x26.1,x26.2.1,x26.2.2.1,x26.2.2.2.1,x26.2.2.2.2.1,x26.2.2.2.2.2.1,()),false,()) w25)
 (DrawV λD27=>
 (D27 b19/\LoadA w24.drew ⟨b19,0,none⟩ [.int .i64,.int .i64,.int .i64,.int .u32,.int .u64,.int .u64] λ(x28:Int×Int×Int×Int×Int×Int×Unit)=>
 (D27 b19/\LoadA w24.drew ⟨b19,0,none⟩ [.int .i64,.int .i64,.int .i64,.int .u32,.int .u64,.int .u64] λ(x29:Int×Int×Int×Int×Int×Int×Unit)=>
 ((0:Int)<=(48:Int)/\(48:Int)<=((c0:Nat):Int)) /\
 SubK a0 0 c0 1 λa30=>
 CallV Tryz.prog 103 #[.agg #[.int .i64 x28.1,.int .i64 x28.2.1,.int .i64 x28.2.2.1,.int .u32 x28.2.2.2.1,.int .u64 x28.2.2.2.2.1,.int .u64 x28.2.2.2.2.2.1]] w24.drew [.one .sl] λ(r31:SlV×Unit) w32=>
 KeepOn D27 w24.drew w32 /\
 CallV Tryz.prog 103 #[.agg #[.int .i64 x29.1,.int .i64 x29.2.1,.int .i64 x29.2.2.1,.int .u32 x29.2.2.2.1,.int .u64 x29.2.2.2.2.1,.int .u64 x29.2.2.2.2.2.1]] w32 [.one .sl] λ(r33:SlV×Unit) w34=>
 KeepOn D27 w24.drew w34 /\
 CallV Tryz.prog 104 #[.slice r33.1.a r33.1.n r33.1.c] w34 [.one .sl] λ(r35:SlV×Unit) w36=>
 KeepOn D27 w24.drew w36 /\
 AppS w36 r35.1.a r35.1.n 1 λns41=>
 AppV w36 5 1 1 r31.1.a r31.1.n r31.1.c ns41 r35.1.n λa37 n38 c39 w40=>
 KeepOn D27 w24.drew w40 /\
 CallV Tryz.prog 102 #[.slice a37 n38 c39,.slice a30 (48-0) (c0-0)] w40 [.one .bool] λ(r42:Bool×Unit) w43=>
 KeepOn D27 w24.drew w43 /\
 cond (!r42.1)
 (StoreV w43 ⟨b1,0,none⟩ [.int .i64 0,.int .i64 0,.int .i64 0,.int .u32 0,.int .u64 0,.int .u64 0] λw44=>
 LoadA w44 ⟨b1,0,none⟩ [.int .i64,.int .i64,.int .i64,.int .u32,.int .u64,.int .u64] λ(x45:Int×Int×Int×Int×Int×Int×Unit)=>
 K ((x45.1,x45.2.1,x45.2.2.1,x45.2.2.2.1,x45.2.2.2.2.1,x45.2.2.2.2.2.1,()),false,()) w44)
 (LoadA w43 ⟨b19,0,none⟩ [.int .i64,.int .i64,.int .i64,.int .u32,.int .u64,.int .u64] λ(x46:Int×Int×Int×Int×Int×Int×Unit)=>
 StoreV w43 ⟨b1,0,none⟩ [.int .i64 x46.1,.int .i64 x46.2.1,.int .i64 x46.2.2.1,.int .u32 x46.2.2.2.1,.int .u64 x46.2.2.2.2.1,.int .u64 x46.2.2.2.2.2.1] λw47=>
 LoadA w47 ⟨b1,0,none⟩ [.int .i64,.int .i64,.int .i64,.int .u32,.int .u64,.int .u64] λ(x48:Int×Int×Int×Int×Int×Int×Unit)=>
 K ((x48.1,x48.2.1,x48.2.2.1,x48.2.2.2.1,x48.2.2.2.2.1,x48.2.2.2.2.2.1,()),true,()) w47))))
end Go.Proofs.YtcekmdehjnlkpaaGreat.Vc
namespace Go.Proofs.YtcekmdehjnlkpaaGreat.Vc
open Go Go.Eng Go.RowKit
def rRPost (w:World) (xs:List Int) (r:(Int×Int×Int×Int×Int×Int×Unit)×Bool×Unit) (w':World):Prop:=
 Ext w w'/\(okR xs->r.1=(hdOf xs).tup/\r.2.1=true)/\(¬ okR xs->r.1=zeroH.tup/\r.2.1=false)
theorem rReadTail {w w21:World} {xs:List Int} {a0:Option Addr} {c0 b1 b19:Nat} (x21:Ext w w21) (hb1:Box w21 w.heap.size b1 35 zeroH.vs) (hb19:Box w21 w.heap.size b19 35 (hdOf xs).vs) (hne:b1≠b19)
  (hx:Ints w .u8 a0 88 c0 xs) (bx:Byt xs):ref14_Read.T w21 b19 b1 (rRPost w xs) c0 a0:=by
 have hl:=hx.len
 have hcap:=hx.cap
 have hg:=hdOf_rng bx (by omega)
 unfold ref14_Read.T
 refine ldH (h:=hdOf xs) hb19 ?_
 refine (HRight_c (h:=hdOf xs)).mono ?_
 rintro ⟨(r1:Bool),⟨⟩⟩ w1 ⟨h1,x1⟩
 dsimp only at h1 ⊢
 subst h1
 have fail:∀ {w':World},Ext w21 w'->¬ okR xs->StoreV w' ⟨b1,0,none⟩ [.int .i64 0,.int .i64 0,.int .i64 0,.int .u32 0,.int .u64 0,.int .u64 0] λw33=>
   LoadA w33 ⟨b1,0,none⟩ [.int .i64,.int .i64,.int .i64,.int .u32,.int .u64,.int .u64] λ(x34:Int×Int×Int×Int×Int×Int×Unit)=>
   rRPost w xs ((x34.1,x34.2.1,x34.2.2.1,x34.2.2.2.1,x34.2.2.2.2.1,x34.2.2.2.2.2.1,()),false,()) w33:=λe hno=>by
  refine (hb1.ext e).store 0 (by simp) λw3 hb3 bel3 _ _=>?_
  refine ldH (h:=zeroH) hb3 ?_
  exact ⟨Below.trans (x21.trans e) bel3,λh=>absurd h hno,λ_=>⟨rfl,rfl⟩⟩
 have iff:=okR_iff bx hl
 by_cases hR:¬ HRight (hdOf xs)
 ·exact cond_t (by rw [decide_eq_false hR];rfl) (fail x1 (λh=>hR (iff.1 h).1))
 have hR:=Decidable.not_not.1 hR
 refine cond_f (by rw [decide_eq_true hR];rfl) ?_
 refine DrawV.old w1 λD hD hkeep=>?_
 have b19':=hb19.ext x1
 have hD1:=hD _ b19'.lt
 have xd:=Ext.drew w1
 have X1:=x21.trans x1
 refine ⟨hD1,ldH (h:=hdOf xs) (b19'.ext xd) ⟨hD1,ldH (h:=hdOf xs) (b19'.ext xd) ⟨by omega,?_⟩⟩⟩
 intro a30 ha30
 have i30:=sub_part (hx.ext X1) (i:=0) (j:=48) (m:=c0) (by omega) (by omega) (by omega) ha30
 refine (rBytes_c (h:=hdOf xs) hg hR).mono ?_
 rintro ⟨⟨sa,sn,sc⟩,⟨⟩⟩ w2 h2
 dsimp only at h2 ⊢
 have x2:=xd.trans h2.ext
 refine ⟨hkeep _ x2,?_⟩
 refine (rBytes_c (h:=hdOf xs) hg hR).mono ?_
 rintro ⟨(s3:SlV),⟨⟩⟩ w3 h3
 dsimp only at h3 ⊢
 have x3:=x2.trans h3.ext
 refine ⟨hkeep _ x3,?_⟩
 have l2:=h2.ints.len
 rw [hdL_length] at l2
 dsimp only at l2
 subst l2
 have l3:=h3.ints.len
 rw [hdL_length] at l3
 refine (rInvert_c h3.ints (by omega)).mono ?_
 rintro ⟨⟨va,vn,vc⟩,⟨⟩⟩ w4 h4
 dsimp only at h4 ⊢
 have l4:=h4.ints.len
 rw [show (invL (hdL (hdOf xs))).length=24 by simp [invL,hdL_length]] at l4
 dsimp only at l4
 subst l4
 have x4:=x3.trans h4.ext
 refine ⟨hkeep _ x4,?_⟩
 have o4:=(h2.own.ext (h3.ext.trans h4.ext)).mono xd.size
 refine appL o4 h4.ints x4.size (by omega) λa5 c5 w5 o5 b5=>?_
 have x5:Ext w1 w5:=Below.trans x4 b5
 refine ⟨hkeep _ x5,?_⟩
 refine (SameBytes_c o5.ints (i30.ext x5)).mono ?_
 rintro ⟨(r6:Bool),⟨⟩⟩ w6 ⟨h6,x6⟩
 dsimp only at h6 ⊢
 have X6:=x5.trans x6
 refine ⟨hkeep _ X6,?_⟩
 refine cond_of (λhc=>fail (x1.trans X6) (λhok=>by
  rw [h6,decide_eq_true (iff.1 hok).2] at hc
  cases hc)) (λhc=>?_)
 have hok:okR xs:=iff.2 ⟨hR,by
  rw [h6] at hc
  simpa using hc⟩
 refine ldH (h:=hdOf xs) (b19'.ext X6) ?_
 refine (hb1.ext (x1.trans X6)).store 0 (by simp) λw7 hb7 bel7 _ _=>?_
 refine ldH (h:=hdOf xs) hb7 ?_
 exact ⟨Below.trans (X1.trans X6) bel7,λ_=>⟨rfl,rfl⟩,λh=>absurd hok h⟩
theorem rRead_c {w:World} {a0:Option Addr} {n0 c0:Nat} {xs:List Int} (hx:Ints w .u8 a0 n0 c0 xs) (bx:Byt xs) (h88:n0=88) :
  CallV Tryz.prog 63 #[.slice a0 n0 c0] w [.agg [.int .i64,.int .i64,.int .i64,.int .u32,.int .u64,.int .u64],.one .bool] λr w'=>rRPost w xs r w':=by
 subst h88
 refine ref14_Read.vc _ _ _ _ _ ?_
 unfold ref14_Read.P
 have lx:=hx.len
 have hcap:=hx.cap
 refine newH (h:=zeroH) λb1 w2 e2 hb1=>?_
 refine DrawV.old w2 λD hD hkeep=>?_
 have b0:=bx.getD 0
 have b1':=bx.getD 1
 have b2:=bx.getD 2
 have x2:=Ext.drew w2
 have y2:=e2.trans x2
 refine (hx.ext e2).idxD x2 (i:=0) (by omega) (by omega) hD ?_
 refine (hx.ext e2).idxD x2 (i:=1) (by omega) (by omega) hD ?_
 refine (hx.ext e2).idxD x2 (i:=2) (by omega) (by omega) hD ?_
 rw [show (0:Int).toNat=0 from rfl,show (1:Int).toNat=1 from rfl,show (2:Int).toNat=2 from rfl]
 rw [i64_id (by omega:-9223372036854775808<=xs.getD 0 0) (by omega),i64_id (by omega:-9223372036854775808<=xs.getD 1 0) (by omega),i64_id (by omega:-9223372036854775808<=xs.getD 2 0) (by omega)]
 refine ⟨by omega,?_⟩
 intro a10 ha10
 refine ⟨by omega,?_⟩
 intro a11 ha11
 refine ⟨by omega,?_⟩
 intro a12 ha12
 have h10:=sub_part hx (i:=4) (j:=8) (m:=c0) (by omega) (by omega) (by omega) ha10
 have h11:=sub_part hx (i:=8) (j:=16) (m:=c0) (by omega) (by omega) (by omega) ha11
 have h12:=sub_part hx (i:=16) (j:=24) (m:=c0) (by omega) (by omega) (by omega) ha12
 generalize hW:w2.drew=W at *
 have nbl:=numB_bd (part_byt bx 4 8) (part_length (by omega) (by omega)) (by omega)
 have hu:IntKind.u32.wrap (numB (part xs 4 8))=numB (part xs 4 8):=by rw [u32_wrap];exact Int.emod_eq_of_lt nbl.1 (by have:=nbl.2;simpa using this)
 have keepW:∀ {w':World},Ext W w'->KeepOn D W w':=λe=>hkeep _ (x2.trans e)
 have hb1W:=hb1.ext x2
 have done:∀ {w25:World} {b24:Nat},Ext W w25->Box w25 W.heap.size b24 35 zeroH.vs->StoreV w25 ⟨b24,0,none⟩ (hdOf xs).vs λw26=>KeepOn D W w26/\ref14_Read.T w26 b24 b1 (rRPost w xs) c0 a0:=λ{w25 b24} e25 hb24=>by
  refine hb24.store 0 (by simp) λw26 hb26 bel26 _ _=>?_
  have X26:Ext W w26:=Below.trans e25 bel26
  refine ⟨keepW X26,?_⟩
  refine rReadTail (y2.trans X26) (hb1W.ext X26) ⟨Nat.le_trans y2.size hb26.base,hb26.heap⟩ (λh=>?_) hx bx
  have:=hb1W.lt
  have:=hb24.base
  omega
 have N10:∀ {w':World},Ext W w'->CallV Tryz.prog 101 #[.slice a10 (8-4) (c0-4)] w' [.one (.int .u64)] λr w2=>r.1=numB (part xs 4 8)/\Ext w' w2:=λe=>rNum_c (h10.ext (y2.trans e)) (part_byt bx 4 8) (by omega)
 have N11:∀ {w':World},Ext W w'->CallV Tryz.prog 101 #[.slice a11 (16-8) (c0-8)] w' [.one (.int .u64)] λr w2=>r.1=numB (part xs 8 16)/\Ext w' w2:=λe=>rNum_c (h11.ext (y2.trans e)) (part_byt bx 8 16) (by omega)
 have N12:∀ {w':World},Ext W w'->CallV Tryz.prog 101 #[.slice a12 (24-16) (c0-16)] w' [.one (.int .u64)] λr w2=>r.1=numB (part xs 16 24)/\Ext w' w2:=λe=>rNum_c (h12.ext (y2.trans e)) (part_byt bx 16 24) (by omega)
 have newZ:∀ {w':World} {K:Nat->World->Prop},Ext W w'->(∀ b w1,Ext w' w1->Ext W w1->Box w1 W.heap.size b 35 zeroH.vs->K b w1)->NewV #[.int .i64 0,.int .i64 0,.int .i64 0,.int .u32 0,.int .u64 0,.int .u64 0] 35 w' K:=λe hk=>newH (h:=zeroH) λb w1 e1 hb=>hk b w1 e1 (e.trans e1) ⟨Nat.le_trans e.size hb.base,hb.heap⟩
 refine ⟨?_,?_⟩
 ·refine (N10 (Ext.refl _)).mono ?_
  rintro ⟨(r1:Int),⟨⟩⟩ w3 ⟨q1,e3⟩
  dsimp only at q1 ⊢
  subst q1
  rw [hu]
  refine ⟨keepW e3,?_,?_⟩
  ·refine (N11 e3).mono ?_
   rintro ⟨(r2:Int),⟨⟩⟩ w4 ⟨q2,e4⟩
   dsimp only at q2 ⊢
   subst q2
   have X4:=e3.trans e4
   refine ⟨keepW X4,?_,?_⟩
   ·refine (N12 X4).mono ?_
    rintro ⟨(r3:Int),⟨⟩⟩ w5 ⟨q3,e5⟩
    dsimp only at q3 ⊢
    subst q3
    exact ⟨keepW (X4.trans e5),newZ (X4.trans e5) λb24 w25 _ e25 hb24=>⟨keepW e25,done e25 hb24⟩⟩
   ·refine newZ X4 λb24 w25 _ e25 hb24=>⟨keepW e25,?_⟩
    refine (N12 e25).mono ?_
    rintro ⟨(r3:Int),⟨⟩⟩ w5 ⟨q3,e5⟩
    dsimp only at q3 ⊢
    subst q3
    exact ⟨keepW (e25.trans e5),done (e25.trans e5) (hb24.ext e5)⟩
  ·refine newZ e3 λb24 w25 _ e25 hb24=>⟨keepW e25,?_⟩
   refine (N11 e25).mono ?_
   rintro ⟨(r2:Int),⟨⟩⟩ w4 ⟨q2,e4⟩
   dsimp only at q2 ⊢
   subst q2
   have X4:=e25.trans e4
   refine ⟨keepW X4,?_⟩
   refine (N12 X4).mono ?_
   rintro ⟨(r3:Int),⟨⟩⟩ w5 ⟨q3,e5⟩
   dsimp only at q3 ⊢
   subst q3
   exact ⟨keepW (X4.trans e5),done (X4.trans e5) (hb24.ext (e4.trans e5))⟩
 ·refine newZ (Ext.refl _) λb24 w25 _ e25 hb24=>⟨keepW e25,?_⟩
  refine (N10 e25).mono ?_
  rintro ⟨(r1:Int),⟨⟩⟩ w3 ⟨q1,e3⟩
  dsimp only at q1 ⊢
  subst q1
  rw [hu]
  have X3:=e25.trans e3
  refine ⟨keepW X3,?_⟩
  refine (N11 X3).mono ?_
  rintro ⟨(r2:Int),⟨⟩⟩ w4 ⟨q2,e4⟩
  dsimp only at q2 ⊢
  subst q2
  have X4:=X3.trans e4
  refine ⟨keepW X4,?_⟩
  refine (N12 X4).mono ?_
  rintro ⟨(r3:Int),⟨⟩⟩ w5 ⟨q3,e5⟩
  dsimp only at q3 ⊢
  subst q3
  exact ⟨keepW (X4.trans e5),done (X4.trans e5) (hb24.ext (e3.trans (e4.trans e5)))⟩
theorem Right_c {w:World} {g:Geo}:CallV Tryz.prog 17 #[g.val] w [.one .bool] λr w'=>r.1=decide (Right g)/\Ext w w':=by
 refine ref11_Right.vc _ _ _ _ _ _ _ _ ?_
 unfold ref11_Right.P
 refine newG λb1 w1 e1 hb=>?_
 have no:∀ {w':World},¬ Right g->Ext w w'->(false=decide (Right g)/\Ext w w'):=λhr he=>⟨(decide_eq_false hr).symm,he⟩
 refine hb.ld (i:=0) (h:=.int .i64) (x:=g.b) rfl ?_
 refine in11_c.mono ?_
 rintro ⟨(r1:Bool),⟨⟩⟩ w' ⟨h1,rfl⟩
 dsimp only at h1 ⊢
 subst h1
 refine cond_of (λhc=>no (λhr=>by unfold Right Kept at hr;simp at hc;omega) e1) (λc1=>?_)
 simp at c1
 refine hb.ld (i:=1) (h:=.int .i64) (x:=g.p) rfl ?_
 refine in11_c.mono ?_
 rintro ⟨(r1:Bool),⟨⟩⟩ w' ⟨h1,rfl⟩
 dsimp only at h1 ⊢
 subst h1
 refine cond_of (λhc=>no (λhr=>by unfold Right Kept at hr;simp at hc;omega) e1) (λc2=>?_)
 simp at c2
 refine hb.ld (i:=2) (h:=.int .i64) (x:=g.s) rfl ?_
 refine in11_c.mono ?_
 rintro ⟨(r1:Bool),⟨⟩⟩ w' ⟨h1,rfl⟩
 dsimp only at h1 ⊢
 subst h1
 refine cond_of (λhc=>no (λhr=>by unfold Right Kept at hr;simp at hc;omega) e1) (λc3=>?_)
 simp at c3
 refine hb.ld (i:=3) (h:=.int .i64) (x:=g.sp) rfl ?_
 refine in11_c.mono ?_
 rintro ⟨(r1:Bool),⟨⟩⟩ w' ⟨h1,rfl⟩
 dsimp only at h1 ⊢
 subst h1
 refine cond_of (λhc=>no (λhr=>by unfold Right Kept at hr;simp at hc;omega) e1) (λc4=>?_)
 simp at c4
 refine hb.ld (i:=4) (h:=.int .i64) (x:=g.wr) rfl ?_
 refine in11_c.mono ?_
 rintro ⟨(r1:Bool),⟨⟩⟩ w' ⟨h1,rfl⟩
 dsimp only at h1 ⊢
 subst h1
 refine cond_of (λhc=>no (λhr=>by unfold Right Kept at hr;simp at hc;omega) e1) (λc5=>?_)
 simp at c5
 refine hb.ld (i:=5) (h:=.int .i64) (x:=g.ro) rfl ?_
 refine in11_c.mono ?_
 rintro ⟨(r1:Bool),⟨⟩⟩ w' ⟨h1,rfl⟩
 dsimp only at h1 ⊢
 subst h1
 refine cond_of (λhc=>no (λhr=>by unfold Right Kept at hr;simp at hc;omega) e1) (λc6=>?_)
 simp at c6
 refine DrawV.old w' λD hD hkeep=>?_
 have hD1:=hD _ hb.lt
 have hd:=hb.ext (Ext.drew _)
 have e1':=e1.trans (Ext.drew w')
 refine ⟨hD1,hd.ld (i:=2) (h:=.int .i64) (x:=g.s) rfl ?_⟩
 have hm:Int.tmod g.s 16=g.s % 16:=Int.tmod_eq_emod_of_nonneg (by omega)
 rw [hm]
 refine ⟨by omega,cond_eq (λh16=>?_) (λh16=>no (λhr=>by unfold Right Kept at hr;omega) e1')⟩
 refine ⟨hD1,ldG hd ?_⟩
 refine ⟨hD1,hd.ld (i:=1) (h:=.int .i64) (x:=g.p) rfl ?_⟩
 refine (rChunks_c (g:=g) (by omega)).mono ?_
 rintro ⟨(r2:Int),⟨⟩⟩ w2 ⟨h2,e2⟩
 have E2:=(Ext.drew w').trans e2
 refine ⟨hkeep _ E2,?_⟩
 dsimp only at h2 ⊢
 subst h2
 have F2:=e1.trans E2
 refine cond_d (λhle=>?_) (λhle=>no (λhr=>by unfold Right at hr;omega) F2)
 refine ⟨hD1,hd.ld (i:=0) (h:=.int .i64) (x:=g.b) rfl ?_⟩
 refine ⟨Rng.i64 (by omega) (by omega),?_⟩
 refine ⟨hD1,hd.ld (i:=3) (h:=.int .i64) (x:=g.sp) rfl ?_⟩
 refine ⟨Rng.i64 (by omega) (by omega),?_,F2⟩
 apply decide_eq_decide.2
 unfold Right Kept
 omega
theorem rCommit15_c {w:World} {g:Geo} (hR:Right g):CallV Tryz.prog 62 #[g.val] w [.one .sl] λr w'=>Res w w' r.1 (comL g):=by
 apply ref15_Commit.vc
 unfold ref15_Commit.P
 have hs:=hR.sec
 have S:=Sep.start NoB w
 (repeat ((first | refine S.newB λ_ _ S f _=>?_ | refine S.la0 rfl ?_ | refine S.la1 rfl ?_ | refine S.la2 rfl ?_ | refine S.la3 rfl ?_ | refine S.la4 rfl ?_ | refine S.la5 rfl ?_ | refine S.ld0 rfl rfl ?_ | refine S.ld1 rfl rfl ?_ | refine S.ld2 rfl rfl ?_ | refine S.ld3 rfl rfl ?_ | refine S.ld4 rfl rfl ?_ | refine S.ld5 rfl rfl ?_ | refine S.st0 (by rfl) λ_ S f=>?_ | refine S.st1 (by rfl) λ_ S f=>?_ | refine S.st2 (by rfl) λ_ S f=>?_ | refine S.st3 (by rfl) λ_ S f=>?_ | refine S.st4 (by rfl) λ_ S f=>?_ | refine S.st5 (by rfl) λ_ S f=>?_ | refine S.su0 (by rfl) λ_ S f=>?_ | refine S.su1 (by rfl) λ_ S f=>?_ | refine S.su2 (by rfl) λ_ S f=>?_ | refine S.su3 (by rfl) λ_ S f=>?_ | refine S.su4 (by rfl) λ_ S f=>?_ | refine S.su5 (by rfl) λ_ S f=>?_ | refine ⟨by decide,?_⟩);try dsimp only [List.set_cons_zero,List.set_cons_succ,cond_true,cond_false,Bool.not_true,Bool.not_false]))
 refine ⟨Rng.i64 (by omega) (by omega),?_⟩
 refine rFill_c.mono ?_
 rintro ⟨⟨sa,sn,sc⟩,⟨⟩⟩ w3 h3
 dsimp only at h3 ⊢
 have l3:=h3.ints.len
 have hf:(max 0 (min (65536:Int) (g.s+80))).toNat=(g.s+80).toNat:=by generalize hL:(65536:Int)=L;omega
 rw [List.length_replicate,hf] at l3
 have S:=S.res h3
 rw [hf] at S
 dsimp only at l3 S
 subst l3
 refine rFill_c.mono ?_
 rintro ⟨⟨ua,un,uc⟩,⟨⟩⟩ w4 h4
 dsimp only at h4 ⊢
 have l4:=h4.ints.len
 rw [List.length_replicate,fill8] at l4
 have S:=S.res h4
 rw [fill8] at S
 dsimp only at l4 S
 subst l4
 refine S.ab1 S.in0 (by omega) λa6 c6 w6 S f6=>?_
 have S:=S.tail
 exact S.out
theorem rMake_c {w:World} {g:Geo} {h:Hd} {a a2:Option Addr} {n c m c2:Nat} {xs ts:List Int} (hg:h.rng) (hx:Ints w .u8 a n c xs) (ht:Ints w .u8 a2 m c2 ts) (hp:PRight g h n m) :
  CallV Tryz.prog 58 #[g.val,h.val,.slice a n c,.slice a2 m c2] w [.one .sl] λr w'=>Res w w' r.1 (mkL g h xs ts):=by
 apply ref15_Make.vc
 unfold ref15_Make.P
 obtain ⟨hR,hE,hn⟩:=hp
 have S:=Sep.start NoB w
 have hs:=hR.sec
 have lx:=hx.len
 have lt:=ht.len
 have l4':(endL h ts).length=88:=endL_length h (by have:=hE.2;omega)
 (repeat ((first | refine S.newB λ_ _ S f _=>?_ | refine S.la0 rfl ?_ | refine S.la1 rfl ?_ | refine S.la2 rfl ?_ | refine S.la3 rfl ?_ | refine S.la4 rfl ?_ | refine S.la5 rfl ?_ | refine S.ld0 rfl rfl ?_ | refine S.ld1 rfl rfl ?_ | refine S.ld2 rfl rfl ?_ | refine S.ld3 rfl rfl ?_ | refine S.ld4 rfl rfl ?_ | refine S.ld5 rfl rfl ?_ | refine S.st0 (by rfl) λ_ S f=>?_ | refine S.st1 (by rfl) λ_ S f=>?_ | refine S.st2 (by rfl) λ_ S f=>?_ | refine S.st3 (by rfl) λ_ S f=>?_ | refine S.st4 (by rfl) λ_ S f=>?_ | refine S.st5 (by rfl) λ_ S f=>?_ | refine S.su0 (by rfl) λ_ S f=>?_ | refine S.su1 (by rfl) λ_ S f=>?_ | refine S.su2 (by rfl) λ_ S f=>?_ | refine S.su3 (by rfl) λ_ S f=>?_ | refine S.su4 (by rfl) λ_ S f=>?_ | refine S.su5 (by rfl) λ_ S f=>?_ | refine ⟨by decide,?_⟩);try dsimp only [List.set_cons_zero,List.set_cons_succ,cond_true,cond_false,Bool.not_true,Bool.not_false]))
 refine cond_eq (λh0=>?_) (λh0=>?_)
 ·(repeat ((first | refine S.newB λ_ _ S f _=>?_ | refine S.la0 rfl ?_ | refine S.la1 rfl ?_ | refine S.la2 rfl ?_ | refine S.la3 rfl ?_ | refine S.la4 rfl ?_ | refine S.la5 rfl ?_ | refine S.ld0 rfl rfl ?_ | refine S.ld1 rfl rfl ?_ | refine S.ld2 rfl rfl ?_ | refine S.ld3 rfl rfl ?_ | refine S.ld4 rfl rfl ?_ | refine S.ld5 rfl rfl ?_ | refine S.st0 (by rfl) λ_ S f=>?_ | refine S.st1 (by rfl) λ_ S f=>?_ | refine S.st2 (by rfl) λ_ S f=>?_ | refine S.st3 (by rfl) λ_ S f=>?_ | refine S.st4 (by rfl) λ_ S f=>?_ | refine S.st5 (by rfl) λ_ S f=>?_ | refine S.su0 (by rfl) λ_ S f=>?_ | refine S.su1 (by rfl) λ_ S f=>?_ | refine S.su2 (by rfl) λ_ S f=>?_ | refine S.su3 (by rfl) λ_ S f=>?_ | refine S.su4 (by rfl) λ_ S f=>?_ | refine S.su5 (by rfl) λ_ S f=>?_ | refine ⟨by decide,?_⟩);try dsimp only [List.set_cons_zero,List.set_cons_succ,cond_true,cond_false,Bool.not_true,Bool.not_false]))
  refine rFill_c.mono ?_
  rintro ⟨⟨sa,sn,sc⟩,⟨⟩⟩ w3 h3
  dsimp only at h3 ⊢
  have l3:=h3.ints.len
  rw [List.length_replicate,fill_sec hs] at l3
  have S:=S.res h3
  rw [fill_sec hs] at S
  dsimp only at l3 S
  subst l3
  refine S.reg λD hD hkeep Sd T=>?_
  (repeat ((first | refine ⟨hD _ (by first | exact Sd.bl0 | exact Sd.bl1 | exact Sd.bl2 | exact Sd.bl3 | exact Sd.bl4 | exact Sd.bl5 | exact Sd.bl6 | exact Sd.bl7),?_⟩ | refine (Sd.step0 T.fr).la0 rfl ?_ | refine (Sd.step0 T.fr).la1 rfl ?_ | refine (Sd.step0 T.fr).la2 rfl ?_ | refine (Sd.step0 T.fr).la3 rfl ?_ | refine (Sd.step0 T.fr).la4 rfl ?_ | refine (Sd.step0 T.fr).la5 rfl ?_ | refine (Sd.step0 T.fr).la6 rfl ?_ | refine (Sd.step0 T.fr).la7 rfl ?_ | refine (Sd.step0 T.fr).ld0 rfl rfl ?_ | refine (Sd.step0 T.fr).ld1 rfl rfl ?_ | refine (Sd.step0 T.fr).ld2 rfl rfl ?_ | refine (Sd.step0 T.fr).ld3 rfl rfl ?_ | refine (Sd.step0 T.fr).ld4 rfl rfl ?_ | refine (Sd.step0 T.fr).ld5 rfl rfl ?_ | refine (Sd.step0 T.fr).ld6 rfl rfl ?_ | refine (Sd.step0 T.fr).ld7 rfl rfl ?_ | refine ⟨by decide,?_⟩ | refine ⟨hkeep _ T.fr,?_⟩);try dsimp only))
  refine T.newB λb5 w5 T f _=>?_
  (repeat ((first | refine ⟨hD _ (by first | exact Sd.bl0 | exact Sd.bl1 | exact Sd.bl2 | exact Sd.bl3 | exact Sd.bl4 | exact Sd.bl5 | exact Sd.bl6 | exact Sd.bl7),?_⟩ | refine (Sd.step0 T.fr).la0 rfl ?_ | refine (Sd.step0 T.fr).la1 rfl ?_ | refine (Sd.step0 T.fr).la2 rfl ?_ | refine (Sd.step0 T.fr).la3 rfl ?_ | refine (Sd.step0 T.fr).la4 rfl ?_ | refine (Sd.step0 T.fr).la5 rfl ?_ | refine (Sd.step0 T.fr).la6 rfl ?_ | refine (Sd.step0 T.fr).la7 rfl ?_ | refine (Sd.step0 T.fr).ld0 rfl rfl ?_ | refine (Sd.step0 T.fr).ld1 rfl rfl ?_ | refine (Sd.step0 T.fr).ld2 rfl rfl ?_ | refine (Sd.step0 T.fr).ld3 rfl rfl ?_ | refine (Sd.step0 T.fr).ld4 rfl rfl ?_ | refine (Sd.step0 T.fr).ld5 rfl rfl ?_ | refine (Sd.step0 T.fr).ld6 rfl rfl ?_ | refine (Sd.step0 T.fr).ld7 rfl rfl ?_ | refine ⟨by decide,?_⟩ | refine ⟨hkeep _ T.fr,?_⟩);try dsimp only))
  have T:=T.asOwn (sz:=1) (n:=0) rfl (by omega) oneAll.nil
  refine T.ab0 (xs:=[]) (Sd.step0 T.fr).in0 (by omega) λa5 c5 w5 T f5=>?_
  (repeat ((first | refine ⟨hD _ (by first | exact Sd.bl0 | exact Sd.bl1 | exact Sd.bl2 | exact Sd.bl3 | exact Sd.bl4 | exact Sd.bl5 | exact Sd.bl6 | exact Sd.bl7),?_⟩ | refine (Sd.step0 T.fr).la0 rfl ?_ | refine (Sd.step0 T.fr).la1 rfl ?_ | refine (Sd.step0 T.fr).la2 rfl ?_ | refine (Sd.step0 T.fr).la3 rfl ?_ | refine (Sd.step0 T.fr).la4 rfl ?_ | refine (Sd.step0 T.fr).la5 rfl ?_ | refine (Sd.step0 T.fr).la6 rfl ?_ | refine (Sd.step0 T.fr).la7 rfl ?_ | refine (Sd.step0 T.fr).ld0 rfl rfl ?_ | refine (Sd.step0 T.fr).ld1 rfl rfl ?_ | refine (Sd.step0 T.fr).ld2 rfl rfl ?_ | refine (Sd.step0 T.fr).ld3 rfl rfl ?_ | refine (Sd.step0 T.fr).ld4 rfl rfl ?_ | refine (Sd.step0 T.fr).ld5 rfl rfl ?_ | refine (Sd.step0 T.fr).ld6 rfl rfl ?_ | refine (Sd.step0 T.fr).ld7 rfl rfl ?_ | refine ⟨by decide,?_⟩ | refine ⟨hkeep _ T.fr,?_⟩);try dsimp only))
  refine (rEnd_c hg (ht.ext (Sd.ext.trans T.ext)) hE).mono ?_
  rintro ⟨⟨ea,en,ec⟩,⟨⟩⟩ w6 h6
  have l4:=h6.ints.len
  dsimp only at h6 l4 ⊢
  have T:=T.res h6
  dsimp only at T
  (repeat ((first | refine ⟨hD _ (by first | exact Sd.bl0 | exact Sd.bl1 | exact Sd.bl2 | exact Sd.bl3 | exact Sd.bl4 | exact Sd.bl5 | exact Sd.bl6 | exact Sd.bl7),?_⟩ | refine (Sd.step0 T.fr).la0 rfl ?_ | refine (Sd.step0 T.fr).la1 rfl ?_ | refine (Sd.step0 T.fr).la2 rfl ?_ | refine (Sd.step0 T.fr).la3 rfl ?_ | refine (Sd.step0 T.fr).la4 rfl ?_ | refine (Sd.step0 T.fr).la5 rfl ?_ | refine (Sd.step0 T.fr).la6 rfl ?_ | refine (Sd.step0 T.fr).la7 rfl ?_ | refine (Sd.step0 T.fr).ld0 rfl rfl ?_ | refine (Sd.step0 T.fr).ld1 rfl rfl ?_ | refine (Sd.step0 T.fr).ld2 rfl rfl ?_ | refine (Sd.step0 T.fr).ld3 rfl rfl ?_ | refine (Sd.step0 T.fr).ld4 rfl rfl ?_ | refine (Sd.step0 T.fr).ld5 rfl rfl ?_ | refine (Sd.step0 T.fr).ld6 rfl rfl ?_ | refine (Sd.step0 T.fr).ld7 rfl rfl ?_ | refine ⟨by decide,?_⟩ | refine ⟨hkeep _ T.fr,?_⟩);try dsimp only))
  refine T.ab1 T.in0 (by omega) λa7 c7 w7 T f7=>?_
  (repeat ((first | refine ⟨hD _ (by first | exact Sd.bl0 | exact Sd.bl1 | exact Sd.bl2 | exact Sd.bl3 | exact Sd.bl4 | exact Sd.bl5 | exact Sd.bl6 | exact Sd.bl7),?_⟩ | refine (Sd.step0 T.fr).la0 rfl ?_ | refine (Sd.step0 T.fr).la1 rfl ?_ | refine (Sd.step0 T.fr).la2 rfl ?_ | refine (Sd.step0 T.fr).la3 rfl ?_ | refine (Sd.step0 T.fr).la4 rfl ?_ | refine (Sd.step0 T.fr).la5 rfl ?_ | refine (Sd.step0 T.fr).la6 rfl ?_ | refine (Sd.step0 T.fr).la7 rfl ?_ | refine (Sd.step0 T.fr).ld0 rfl rfl ?_ | refine (Sd.step0 T.fr).ld1 rfl rfl ?_ | refine (Sd.step0 T.fr).ld2 rfl rfl ?_ | refine (Sd.step0 T.fr).ld3 rfl rfl ?_ | refine (Sd.step0 T.fr).ld4 rfl rfl ?_ | refine (Sd.step0 T.fr).ld5 rfl rfl ?_ | refine (Sd.step0 T.fr).ld6 rfl rfl ?_ | refine (Sd.step0 T.fr).ld7 rfl rfl ?_ | refine ⟨by decide,?_⟩ | refine ⟨hkeep _ T.fr,?_⟩);try dsimp only))
  have R:=(T.tail).out
  have hq:[]++List.replicate g.s.toNat 255++endL h ts=mkL g h xs ts:=by unfold mkL payL;rw [if_pos (by omega)];rfl
  rw [hq] at R
  exact R.after Sd.ext
 ·refine S.reg λD hD hkeep Sd T=>?_
  (repeat ((first | refine ⟨hD _ (by first | exact Sd.bl0 | exact Sd.bl1 | exact Sd.bl2 | exact Sd.bl3 | exact Sd.bl4 | exact Sd.bl5 | exact Sd.bl6 | exact Sd.bl7),?_⟩ | refine (Sd.step0 T.fr).la0 rfl ?_ | refine (Sd.step0 T.fr).la1 rfl ?_ | refine (Sd.step0 T.fr).la2 rfl ?_ | refine (Sd.step0 T.fr).la3 rfl ?_ | refine (Sd.step0 T.fr).la4 rfl ?_ | refine (Sd.step0 T.fr).la5 rfl ?_ | refine (Sd.step0 T.fr).la6 rfl ?_ | refine (Sd.step0 T.fr).la7 rfl ?_ | refine (Sd.step0 T.fr).ld0 rfl rfl ?_ | refine (Sd.step0 T.fr).ld1 rfl rfl ?_ | refine (Sd.step0 T.fr).ld2 rfl rfl ?_ | refine (Sd.step0 T.fr).ld3 rfl rfl ?_ | refine (Sd.step0 T.fr).ld4 rfl rfl ?_ | refine (Sd.step0 T.fr).ld5 rfl rfl ?_ | refine (Sd.step0 T.fr).ld6 rfl rfl ?_ | refine (Sd.step0 T.fr).ld7 rfl rfl ?_ | refine ⟨by decide,?_⟩ | refine ⟨hkeep _ T.fr,?_⟩);try dsimp only))
  refine T.newB λb5 w5 T f _=>?_
  (repeat ((first | refine ⟨hD _ (by first | exact Sd.bl0 | exact Sd.bl1 | exact Sd.bl2 | exact Sd.bl3 | exact Sd.bl4 | exact Sd.bl5 | exact Sd.bl6 | exact Sd.bl7),?_⟩ | refine (Sd.step0 T.fr).la0 rfl ?_ | refine (Sd.step0 T.fr).la1 rfl ?_ | refine (Sd.step0 T.fr).la2 rfl ?_ | refine (Sd.step0 T.fr).la3 rfl ?_ | refine (Sd.step0 T.fr).la4 rfl ?_ | refine (Sd.step0 T.fr).la5 rfl ?_ | refine (Sd.step0 T.fr).la6 rfl ?_ | refine (Sd.step0 T.fr).la7 rfl ?_ | refine (Sd.step0 T.fr).ld0 rfl rfl ?_ | refine (Sd.step0 T.fr).ld1 rfl rfl ?_ | refine (Sd.step0 T.fr).ld2 rfl rfl ?_ | refine (Sd.step0 T.fr).ld3 rfl rfl ?_ | refine (Sd.step0 T.fr).ld4 rfl rfl ?_ | refine (Sd.step0 T.fr).ld5 rfl rfl ?_ | refine (Sd.step0 T.fr).ld6 rfl rfl ?_ | refine (Sd.step0 T.fr).ld7 rfl rfl ?_ | refine ⟨by decide,?_⟩ | refine ⟨hkeep _ T.fr,?_⟩);try dsimp only))
  have T:=T.asOwn (sz:=1) (n:=0) rfl (by omega) oneAll.nil
  refine T.ab0 (xs:=[]) (hx.ext (Sd.ext.trans T.ext)) (by omega) λa5 c5 w5 T f5=>?_
  (repeat ((first | refine ⟨hD _ (by first | exact Sd.bl0 | exact Sd.bl1 | exact Sd.bl2 | exact Sd.bl3 | exact Sd.bl4 | exact Sd.bl5 | exact Sd.bl6 | exact Sd.bl7),?_⟩ | refine (Sd.step0 T.fr).la0 rfl ?_ | refine (Sd.step0 T.fr).la1 rfl ?_ | refine (Sd.step0 T.fr).la2 rfl ?_ | refine (Sd.step0 T.fr).la3 rfl ?_ | refine (Sd.step0 T.fr).la4 rfl ?_ | refine (Sd.step0 T.fr).la5 rfl ?_ | refine (Sd.step0 T.fr).la6 rfl ?_ | refine (Sd.step0 T.fr).la7 rfl ?_ | refine (Sd.step0 T.fr).ld0 rfl rfl ?_ | refine (Sd.step0 T.fr).ld1 rfl rfl ?_ | refine (Sd.step0 T.fr).ld2 rfl rfl ?_ | refine (Sd.step0 T.fr).ld3 rfl rfl ?_ | refine (Sd.step0 T.fr).ld4 rfl rfl ?_ | refine (Sd.step0 T.fr).ld5 rfl rfl ?_ | refine (Sd.step0 T.fr).ld6 rfl rfl ?_ | refine (Sd.step0 T.fr).ld7 rfl rfl ?_ | refine ⟨by decide,?_⟩ | refine ⟨hkeep _ T.fr,?_⟩);try dsimp only))
  refine (rEnd_c hg (ht.ext (Sd.ext.trans T.ext)) hE).mono ?_
  rintro ⟨⟨ea,en,ec⟩,⟨⟩⟩ w6 h6
  have l4:=h6.ints.len
  dsimp only at h6 l4 ⊢
  have T:=T.res h6
  dsimp only at T
  (repeat ((first | refine ⟨hD _ (by first | exact Sd.bl0 | exact Sd.bl1 | exact Sd.bl2 | exact Sd.bl3 | exact Sd.bl4 | exact Sd.bl5 | exact Sd.bl6 | exact Sd.bl7),?_⟩ | refine (Sd.step0 T.fr).la0 rfl ?_ | refine (Sd.step0 T.fr).la1 rfl ?_ | refine (Sd.step0 T.fr).la2 rfl ?_ | refine (Sd.step0 T.fr).la3 rfl ?_ | refine (Sd.step0 T.fr).la4 rfl ?_ | refine (Sd.step0 T.fr).la5 rfl ?_ | refine (Sd.step0 T.fr).la6 rfl ?_ | refine (Sd.step0 T.fr).la7 rfl ?_ | refine (Sd.step0 T.fr).ld0 rfl rfl ?_ | refine (Sd.step0 T.fr).ld1 rfl rfl ?_ | refine (Sd.step0 T.fr).ld2 rfl rfl ?_ | refine (Sd.step0 T.fr).ld3 rfl rfl ?_ | refine (Sd.step0 T.fr).ld4 rfl rfl ?_ | refine (Sd.step0 T.fr).ld5 rfl rfl ?_ | refine (Sd.step0 T.fr).ld6 rfl rfl ?_ | refine (Sd.step0 T.fr).ld7 rfl rfl ?_ | refine ⟨by decide,?_⟩ | refine ⟨hkeep _ T.fr,?_⟩);try dsimp only))
  refine T.ab1 T.in0 (by omega) λa7 c7 w7 T f7=>?_
  (repeat ((first | refine ⟨hD _ (by first | exact Sd.bl0 | exact Sd.bl1 | exact Sd.bl2 | exact Sd.bl3 | exact Sd.bl4 | exact Sd.bl5 | exact Sd.bl6 | exact Sd.bl7),?_⟩ | refine (Sd.step0 T.fr).la0 rfl ?_ | refine (Sd.step0 T.fr).la1 rfl ?_ | refine (Sd.step0 T.fr).la2 rfl ?_ | refine (Sd.step0 T.fr).la3 rfl ?_ | refine (Sd.step0 T.fr).la4 rfl ?_ | refine (Sd.step0 T.fr).la5 rfl ?_ | refine (Sd.step0 T.fr).la6 rfl ?_ | refine (Sd.step0 T.fr).la7 rfl ?_ | refine (Sd.step0 T.fr).ld0 rfl rfl ?_ | refine (Sd.step0 T.fr).ld1 rfl rfl ?_ | refine (Sd.step0 T.fr).ld2 rfl rfl ?_ | refine (Sd.step0 T.fr).ld3 rfl rfl ?_ | refine (Sd.step0 T.fr).ld4 rfl rfl ?_ | refine (Sd.step0 T.fr).ld5 rfl rfl ?_ | refine (Sd.step0 T.fr).ld6 rfl rfl ?_ | refine (Sd.step0 T.fr).ld7 rfl rfl ?_ | refine ⟨by decide,?_⟩ | refine ⟨hkeep _ T.fr,?_⟩);try dsimp only))
  have R:=(T.tail).out
  have hq:[]++xs++endL h ts=mkL g h xs ts:=by unfold mkL payL;rw [if_neg (by omega)];rfl
  rw [hq] at R
  exact R.after Sd.ext
abbrev PgT:Type:=Int×Int×Int×Int×Int×Int×SlV×SlV×Bool×Unit
abbrev zPg:PgT:=((0:Int),(0:Int),(0:Int),(0:Int),(0:Int),(0:Int),(⟨none,0,0⟩:SlV),(⟨none,0,0⟩:SlV),false,())
abbrev pgT (h:Hd) (s t:SlV) (d:Bool):PgT:=(h.k,h.n,h.c,h.l,h.e,h.t,s,t,d,())
def endP (g:Geo) (xs:List Int):List Int:=xs.drop g.s.toNat
def lenP (g:Geo) (xs:List Int):Prop:=Right g/\(xs.length:Int)=g.s+88
instance (g:Geo) (xs:List Int):Decidable (lenP g xs):=by unfold lenP;infer_instance
abbrev pays (g:Geo) (xs:List Int):List Int:=xs.take g.s.toNat
abbrev tags (g:Geo) (xs:List Int):List Int:=part (endP g xs) 48 80
def PgIs (w w':World) (g:Geo) (xs:List Int) (q:PgT):Prop:=∃ s t:SlV,q=pgT (hdOf (endP g xs)) s t (comm (endP g xs))/\s.n=g.s.toNat/\t.n=32/\Sep NoB w w' [OwnA 5 1 s.a s.n s.c ((pays g xs).map (Value.int .u8)),OwnA 5 1 t.a t.n t.c ((tags g xs).map (Value.int .u8))]
theorem cut_c {w0 w:World} {g:Geo} {a:Option Addr} {n c:Nat} {xs:List Int} (hx:Ints w0 .u8 a n c xs) (hl:lenP g xs) :
  CallV Tryz.prog 82 #[g.val,.slice a n c] w [.agg [.sl,.sl]] λr w'=>Ext w w'/\Ints w0 .u8 r.1.1.a r.1.1.n r.1.1.c (pays g xs)/\Ints w0 .u8 r.1.2.1.a r.1.2.1.n r.1.2.1.c (endP g xs):=by
 apply page_cut.vc
 unfold page_cut.P
 have hs:=hl.1.sec
 have hn:=hl.2
 have lx:=hx.len
 have hc:=hx.cap
 have S:=Sep.start NoB w
 refine S.newB λb1 w1 S f _=>?_
 refine S.newB λb3 w2 S f _=>?_
 have hb:=S.ne 0 1 (by omega) rfl rfl
 refine S.regX (λk=>k=b3) λD hD hkeep S _=>?_
 have D1:=hD b1 S.bl1 (λe=>hb e.symm)
 refine ⟨D1,S.ld1 rfl rfl ⟨⟨by omega,by omega⟩,?_⟩⟩
 intro a7 ha7
 refine ⟨D1,S.ld1 rfl rfl ⟨⟨by omega,by omega⟩,?_⟩⟩
 intro a9 ha9
 dsimp only
 refine S.st0 (by rfl) λw3 S f3=>⟨hkeep _ f3,S.la0 rfl ?_⟩
 have i7:=hx.sub (l:=0) (hh:=g.s.toNat) (m:=c) (by omega) (by omega) (by omega) ha7
 have i9:=hx.sub (l:=g.s.toNat) (hh:=n) (m:=c) (by omega) (by omega) (by omega) ha9
 rw [List.drop_zero,Nat.sub_zero] at i7
 rw [List.take_of_length_le (by rw [List.length_drop];omega)] at i9
 exact ⟨S.ext,i7,i9⟩
theorem PRead_c {w:World} {g:Geo} {a:Option Addr} {n c:Nat} {xs:List Int} (hx:Ints w .u8 a n c xs) (bx:Byt xs) :
  CallV Tryz.prog 52 #[g.val,.slice a n c] w [.agg [.int .i64,.int .i64,.int .i64,.int .u32,.int .u64,.int .u64,.sl,.sl,.bool],.one (.int .i64)] λr w'=>
   Ext w w'/\(¬ lenP g xs->r.1=zPg/\r.2.1=(2:Int))/\(lenP g xs->¬ okR (endP g xs)->r.1=zPg/\r.2.1=(1:Int))/\(lenP g xs->okR (endP g xs)->r.2.1=(0:Int)/\PgIs w w' g xs r.1):=by
 apply page_Read.vc
 unfold page_Read.P
 have lx:=hx.len
 have S:=Sep.start NoB w
 refine S.newB λb1 w1 S f _=>?_
 refine S.newB λb3 w2 S f _=>?_
 (repeat ((first | refine S.newB λ_ _ S f _=>?_ | refine S.la0 rfl ?_ | refine S.la1 rfl ?_ | refine S.la2 rfl ?_ | refine S.la3 rfl ?_ | refine S.la4 rfl ?_ | refine S.la5 rfl ?_ | refine S.ld0 rfl rfl ?_ | refine S.ld1 rfl rfl ?_ | refine S.ld2 rfl rfl ?_ | refine S.ld3 rfl rfl ?_ | refine S.ld4 rfl rfl ?_ | refine S.ld5 rfl rfl ?_ | refine S.st0 (by rfl) λ_ S f=>?_ | refine S.st1 (by rfl) λ_ S f=>?_ | refine S.st2 (by rfl) λ_ S f=>?_ | refine S.st3 (by rfl) λ_ S f=>?_ | refine S.st4 (by rfl) λ_ S f=>?_ | refine S.st5 (by rfl) λ_ S f=>?_ | refine S.su0 (by rfl) λ_ S f=>?_ | refine S.su1 (by rfl) λ_ S f=>?_ | refine S.su2 (by rfl) λ_ S f=>?_ | refine S.su3 (by rfl) λ_ S f=>?_ | refine S.su4 (by rfl) λ_ S f=>?_ | refine S.su5 (by rfl) λ_ S f=>?_ | refine ⟨by decide,?_⟩);try dsimp only [List.set_cons_zero,List.set_cons_succ,cond_true,cond_false,Bool.not_true,Bool.not_false]))
 refine (Check_c (g:=g)).mono ?_
 rintro ⟨(r:Int),⟨⟩⟩ w2 ⟨h2,e2⟩
 dsimp only at h2 ⊢
 have S:=S.stepE e2
 subst h2
 by_cases hR:Right g
 case neg=>
  refine cond_t (by unfold chkE;rw [if_neg hR];rfl) ?_
  (repeat ((first | refine S.newB λ_ _ S f _=>?_ | refine S.la0 rfl ?_ | refine S.la1 rfl ?_ | refine S.la2 rfl ?_ | refine S.la3 rfl ?_ | refine S.la4 rfl ?_ | refine S.la5 rfl ?_ | refine S.ld0 rfl rfl ?_ | refine S.ld1 rfl rfl ?_ | refine S.ld2 rfl rfl ?_ | refine S.ld3 rfl rfl ?_ | refine S.ld4 rfl rfl ?_ | refine S.ld5 rfl rfl ?_ | refine S.st0 (by rfl) λ_ S f=>?_ | refine S.st1 (by rfl) λ_ S f=>?_ | refine S.st2 (by rfl) λ_ S f=>?_ | refine S.st3 (by rfl) λ_ S f=>?_ | refine S.st4 (by rfl) λ_ S f=>?_ | refine S.st5 (by rfl) λ_ S f=>?_ | refine S.su0 (by rfl) λ_ S f=>?_ | refine S.su1 (by rfl) λ_ S f=>?_ | refine S.su2 (by rfl) λ_ S f=>?_ | refine S.su3 (by rfl) λ_ S f=>?_ | refine S.su4 (by rfl) λ_ S f=>?_ | refine S.su5 (by rfl) λ_ S f=>?_ | refine ⟨by decide,?_⟩);try dsimp only [List.set_cons_zero,List.set_cons_succ,cond_true,cond_false,Bool.not_true,Bool.not_false]))
  exact ⟨S.ext,λ_=>⟨rfl,rfl⟩,λh=>absurd h.1 hR,λh=>absurd h.1 hR⟩
 refine cond_f (by unfold chkE;rw [if_pos hR];rfl) ?_
 have hs:=hR.sec
 (repeat ((first | refine S.newB λ_ _ S f _=>?_ | refine S.la0 rfl ?_ | refine S.la1 rfl ?_ | refine S.la2 rfl ?_ | refine S.la3 rfl ?_ | refine S.la4 rfl ?_ | refine S.la5 rfl ?_ | refine S.ld0 rfl rfl ?_ | refine S.ld1 rfl rfl ?_ | refine S.ld2 rfl rfl ?_ | refine S.ld3 rfl rfl ?_ | refine S.ld4 rfl rfl ?_ | refine S.ld5 rfl rfl ?_ | refine S.st0 (by rfl) λ_ S f=>?_ | refine S.st1 (by rfl) λ_ S f=>?_ | refine S.st2 (by rfl) λ_ S f=>?_ | refine S.st3 (by rfl) λ_ S f=>?_ | refine S.st4 (by rfl) λ_ S f=>?_ | refine S.st5 (by rfl) λ_ S f=>?_ | refine S.su0 (by rfl) λ_ S f=>?_ | refine S.su1 (by rfl) λ_ S f=>?_ | refine S.su2 (by rfl) λ_ S f=>?_ | refine S.su3 (by rfl) λ_ S f=>?_ | refine S.su4 (by rfl) λ_ S f=>?_ | refine S.su5 (by rfl) λ_ S f=>?_ | refine ⟨by decide,?_⟩);try dsimp only [List.set_cons_zero,List.set_cons_succ,cond_true,cond_false,Bool.not_true,Bool.not_false]))
 refine (PageSize_c (g:=g)).mono ?_
 rintro ⟨(r3:Int),⟨⟩⟩ w3 ⟨h3,e3⟩
 dsimp only at h3 ⊢
 have S:=S.stepE e3
 rw [if_pos hR] at h3
 subst h3
 refine cond_ne (λhne=>?_) (λheq=>?_)
 ·have hn:¬ lenP g xs:=λh=>hne (by have:=h.2;omega)
  (repeat ((first | refine S.newB λ_ _ S f _=>?_ | refine S.la0 rfl ?_ | refine S.la1 rfl ?_ | refine S.la2 rfl ?_ | refine S.la3 rfl ?_ | refine S.la4 rfl ?_ | refine S.la5 rfl ?_ | refine S.ld0 rfl rfl ?_ | refine S.ld1 rfl rfl ?_ | refine S.ld2 rfl rfl ?_ | refine S.ld3 rfl rfl ?_ | refine S.ld4 rfl rfl ?_ | refine S.ld5 rfl rfl ?_ | refine S.st0 (by rfl) λ_ S f=>?_ | refine S.st1 (by rfl) λ_ S f=>?_ | refine S.st2 (by rfl) λ_ S f=>?_ | refine S.st3 (by rfl) λ_ S f=>?_ | refine S.st4 (by rfl) λ_ S f=>?_ | refine S.st5 (by rfl) λ_ S f=>?_ | refine S.su0 (by rfl) λ_ S f=>?_ | refine S.su1 (by rfl) λ_ S f=>?_ | refine S.su2 (by rfl) λ_ S f=>?_ | refine S.su3 (by rfl) λ_ S f=>?_ | refine S.su4 (by rfl) λ_ S f=>?_ | refine S.su5 (by rfl) λ_ S f=>?_ | refine ⟨by decide,?_⟩);try dsimp only [List.set_cons_zero,List.set_cons_succ,cond_true,cond_false,Bool.not_true,Bool.not_false]))
  exact ⟨S.ext,λ_=>⟨rfl,rfl⟩,λh=>absurd h hn,λh=>absurd h hn⟩
 have hL:lenP g xs:=⟨hR,by omega⟩
 (repeat ((first | refine S.newB λ_ _ S f _=>?_ | refine S.la0 rfl ?_ | refine S.la1 rfl ?_ | refine S.la2 rfl ?_ | refine S.la3 rfl ?_ | refine S.la4 rfl ?_ | refine S.la5 rfl ?_ | refine S.ld0 rfl rfl ?_ | refine S.ld1 rfl rfl ?_ | refine S.ld2 rfl rfl ?_ | refine S.ld3 rfl rfl ?_ | refine S.ld4 rfl rfl ?_ | refine S.ld5 rfl rfl ?_ | refine S.st0 (by rfl) λ_ S f=>?_ | refine S.st1 (by rfl) λ_ S f=>?_ | refine S.st2 (by rfl) λ_ S f=>?_ | refine S.st3 (by rfl) λ_ S f=>?_ | refine S.st4 (by rfl) λ_ S f=>?_ | refine S.st5 (by rfl) λ_ S f=>?_ | refine S.su0 (by rfl) λ_ S f=>?_ | refine S.su1 (by rfl) λ_ S f=>?_ | refine S.su2 (by rfl) λ_ S f=>?_ | refine S.su3 (by rfl) λ_ S f=>?_ | refine S.su4 (by rfl) λ_ S f=>?_ | refine S.su5 (by rfl) λ_ S f=>?_ | refine ⟨by decide,?_⟩);try dsimp only [List.set_cons_zero,List.set_cons_succ,cond_true,cond_false,Bool.not_true,Bool.not_false]))
 refine (cut_c hx hL).mono ?_
 rintro ⟨⟨⟨pa,pn,pc⟩,⟨ta,tn,tc⟩,⟨⟩⟩,⟨⟩⟩ w4 ⟨e4,ip,it⟩
 dsimp only at ip it ⊢
 have S:=S.stepE e4
 have e4w:=S.ext
 refine S.newB λb5 w5 S f _=>?_
 (repeat ((first | refine S.newB λ_ _ S f _=>?_ | refine S.la0 rfl ?_ | refine S.la1 rfl ?_ | refine S.la2 rfl ?_ | refine S.la3 rfl ?_ | refine S.la4 rfl ?_ | refine S.la5 rfl ?_ | refine S.ld0 rfl rfl ?_ | refine S.ld1 rfl rfl ?_ | refine S.ld2 rfl rfl ?_ | refine S.ld3 rfl rfl ?_ | refine S.ld4 rfl rfl ?_ | refine S.ld5 rfl rfl ?_ | refine S.st0 (by rfl) λ_ S f=>?_ | refine S.st1 (by rfl) λ_ S f=>?_ | refine S.st2 (by rfl) λ_ S f=>?_ | refine S.st3 (by rfl) λ_ S f=>?_ | refine S.st4 (by rfl) λ_ S f=>?_ | refine S.st5 (by rfl) λ_ S f=>?_ | refine S.su0 (by rfl) λ_ S f=>?_ | refine S.su1 (by rfl) λ_ S f=>?_ | refine S.su2 (by rfl) λ_ S f=>?_ | refine S.su3 (by rfl) λ_ S f=>?_ | refine S.su4 (by rfl) λ_ S f=>?_ | refine S.su5 (by rfl) λ_ S f=>?_ | refine ⟨by decide,?_⟩);try dsimp only [List.set_cons_zero,List.set_cons_succ,cond_true,cond_false,Bool.not_true,Bool.not_false]))
 have bt:Byt (endP g xs):=bx.drop _
 have le:(endP g xs).length=88:=by unfold endP;rw [List.length_drop];omega
 refine (Read_c (it.ext S.ext) bt).mono ?_
 rintro ⟨⟨(k1:Int),(k2:Int),(k3:Int),(k4:Int),(k5:Int),(k6:Int),⟨⟩⟩,⟨sa,sn,sc⟩,(e6:Int),⟨⟩⟩ w6 ⟨x6,-,hok,hno⟩
 dsimp only at hok hno ⊢
 by_cases hO:okR (endP g xs)
 case neg=>
  obtain ⟨h1,-,h3⟩:=hno le hO
  have S:=S.stepE x6
  subst h3
  (repeat ((first | refine S.newB λ_ _ S f _=>?_ | refine S.la0 rfl ?_ | refine S.la1 rfl ?_ | refine S.la2 rfl ?_ | refine S.la3 rfl ?_ | refine S.la4 rfl ?_ | refine S.la5 rfl ?_ | refine S.ld0 rfl rfl ?_ | refine S.ld1 rfl rfl ?_ | refine S.ld2 rfl rfl ?_ | refine S.ld3 rfl rfl ?_ | refine S.ld4 rfl rfl ?_ | refine S.ld5 rfl rfl ?_ | refine S.st0 (by rfl) λ_ S f=>?_ | refine S.st1 (by rfl) λ_ S f=>?_ | refine S.st2 (by rfl) λ_ S f=>?_ | refine S.st3 (by rfl) λ_ S f=>?_ | refine S.st4 (by rfl) λ_ S f=>?_ | refine S.st5 (by rfl) λ_ S f=>?_ | refine S.su0 (by rfl) λ_ S f=>?_ | refine S.su1 (by rfl) λ_ S f=>?_ | refine S.su2 (by rfl) λ_ S f=>?_ | refine S.su3 (by rfl) λ_ S f=>?_ | refine S.su4 (by rfl) λ_ S f=>?_ | refine S.su5 (by rfl) λ_ S f=>?_ | refine ⟨by decide,?_⟩);try dsimp only [List.set_cons_zero,List.set_cons_succ,cond_true,cond_false,Bool.not_true,Bool.not_false]))
  exact ⟨S.ext,λh=>absurd hL h,λ_ _=>⟨rfl,rfl⟩,λ_ h=>absurd h hO⟩
 obtain ⟨h1,h2,h3⟩:=hok le hO
 subst h3
 have h1:(k1,k2,k3,k4,k5,k6,())=(hdOf (endP g xs)).tup:=h1
 simp only [Prod.mk.injEq,and_true] at h1
 obtain ⟨rfl,rfl,rfl,rfl,rfl,rfl⟩:=h1
 have l2:=h2.ints.len
 rw [part_length (by omega) (by omega)] at l2
 have S:=S.res h2
 dsimp only at S l2
 subst l2
 (repeat ((first | refine S.newB λ_ _ S f _=>?_ | refine S.la0 rfl ?_ | refine S.la1 rfl ?_ | refine S.la2 rfl ?_ | refine S.la3 rfl ?_ | refine S.la4 rfl ?_ | refine S.la5 rfl ?_ | refine S.ld0 rfl rfl ?_ | refine S.ld1 rfl rfl ?_ | refine S.ld2 rfl rfl ?_ | refine S.ld3 rfl rfl ?_ | refine S.ld4 rfl rfl ?_ | refine S.ld5 rfl rfl ?_ | refine S.st0 (by rfl) λ_ S f=>?_ | refine S.st1 (by rfl) λ_ S f=>?_ | refine S.st2 (by rfl) λ_ S f=>?_ | refine S.st3 (by rfl) λ_ S f=>?_ | refine S.st4 (by rfl) λ_ S f=>?_ | refine S.st5 (by rfl) λ_ S f=>?_ | refine S.su0 (by rfl) λ_ S f=>?_ | refine S.su1 (by rfl) λ_ S f=>?_ | refine S.su2 (by rfl) λ_ S f=>?_ | refine S.su3 (by rfl) λ_ S f=>?_ | refine S.su4 (by rfl) λ_ S f=>?_ | refine S.su5 (by rfl) λ_ S f=>?_ | refine ⟨by decide,?_⟩);try dsimp only [List.set_cons_zero,List.set_cons_succ,cond_true,cond_false,Bool.not_true,Bool.not_false]))
 have hne1:=S.ne 0 3 (by omega) rfl rfl
 have hne2:=S.ne 2 3 (by omega) rfl rfl
 refine S.regX (λk=>k=b3) λD hD hkeep Sd T=>?_
 refine ⟨hD _ Sd.bl0 hne1,Sd.la0 rfl ⟨by decide,hD _ Sd.bl2 hne2,Sd.ld2 rfl rfl ⟨by decide,hD _ Sd.bl2 hne2,Sd.ld2 rfl rfl ?_⟩⟩⟩
 dsimp only
 refine T.newB λb7 w7 T f _=>⟨hkeep _ T.fr.any,?_⟩
 have T:=T.asOwn (sz:=1) (n:=0) rfl (by omega) oneAll.nil
 have lp:=ip.len
 have lp':(pays g xs).length=g.s.toNat:=by rw [List.length_take];have:=hL.2;omega
 refine T.ab0 (xs:=[]) (ip.ext (Sd.ext.trans T.ext)) (by omega) λa8 c8 w8 T f8=>⟨hkeep _ T.fr.any,?_⟩
 refine (Committed_c (it.ext (Sd.ext.trans T.ext)) bt).mono ?_
 rintro ⟨(r9:Bool),⟨⟩⟩ w9 ⟨h9,x9⟩
 dsimp only at h9 ⊢
 subst h9
 have T:=T.stepE x9
 refine ⟨hkeep _ T.fr.any,?_⟩
 have S:=Sd.frame0 T
 dsimp only [List.cons_append,List.nil_append] at S
 refine S.st4 (by rfl) λw10 S f10=>⟨hkeep _ (T.fr.any.trans f10),S.la4 rfl ?_⟩
 refine ⟨S.ext,λh=>absurd hL h,λ_ h=>absurd hO h,λ_ _=>⟨rfl,⟨a8,0+pn,c8⟩,⟨sa,80-48,sc⟩,rfl,by show 0+pn=_;omega,rfl,?_⟩⟩
 exact S.sel2 0 1 rfl rfl
theorem PDone_c {w:World} {g:Geo} {a:Option Addr} {n c:Nat} {kind:Int} {xs:List Int} (hx:Ints w .u8 a n c xs) (bx:Byt xs) :
  CallV Tryz.prog 19 #[g.val,.slice a n c,.int .i64 kind] w [.agg [.int .i64,.int .i64,.int .i64,.int .u32,.int .u64,.int .u64,.sl,.sl,.bool],.one .bool] λr w'=>
   Ext w w'/\(¬ (lenP g xs/\okR (endP g xs)/\comm (endP g xs)=true/\(hdOf (endP g xs)).k=kind)->r.1=zPg/\r.2.1=false)/\((lenP g xs/\okR (endP g xs)/\comm (endP g xs)=true/\(hdOf (endP g xs)).k=kind)->r.2.1=true/\PgIs w w' g xs r.1):=by
 apply page_Done.vc
 unfold page_Done.P
 have S:=Sep.start NoB w
 (repeat ((first | refine S.newB λ_ _ S f _=>?_ | refine S.la0 rfl ?_ | refine S.la1 rfl ?_ | refine S.la2 rfl ?_ | refine S.la3 rfl ?_ | refine S.la4 rfl ?_ | refine S.la5 rfl ?_ | refine S.ld0 rfl rfl ?_ | refine S.ld1 rfl rfl ?_ | refine S.ld2 rfl rfl ?_ | refine S.ld3 rfl rfl ?_ | refine S.ld4 rfl rfl ?_ | refine S.ld5 rfl rfl ?_ | refine S.st0 (by rfl) λ_ S f=>?_ | refine S.st1 (by rfl) λ_ S f=>?_ | refine S.st2 (by rfl) λ_ S f=>?_ | refine S.st3 (by rfl) λ_ S f=>?_ | refine S.st4 (by rfl) λ_ S f=>?_ | refine S.st5 (by rfl) λ_ S f=>?_ | refine S.su0 (by rfl) λ_ S f=>?_ | refine S.su1 (by rfl) λ_ S f=>?_ | refine S.su2 (by rfl) λ_ S f=>?_ | refine S.su3 (by rfl) λ_ S f=>?_ | refine S.su4 (by rfl) λ_ S f=>?_ | refine S.su5 (by rfl) λ_ S f=>?_ | refine ⟨by decide,?_⟩);try dsimp only [List.set_cons_zero,List.set_cons_succ,cond_true,cond_false,Bool.not_true,Bool.not_false]))
 refine (PRead_c (g:=g) (hx.ext S.ext) bx).mono ?_
 rintro ⟨⟨(k1:Int),(k2:Int),(k3:Int),(k4:Int),(k5:Int),(k6:Int),⟨sa,sn,sc⟩,⟨ta,tn,tc⟩,(d:Bool),⟨⟩⟩,(e2:Int),⟨⟩⟩ w2 ⟨x2,h1,h2,h3⟩
 dsimp only at h1 h2 h3 ⊢
 by_cases hL:lenP g xs
 case neg=>
  obtain ⟨q1,q2⟩:=h1 hL
  have S:=S.stepE x2
  subst q2
  (repeat ((first | refine S.newB λ_ _ S f _=>?_ | refine S.la0 rfl ?_ | refine S.la1 rfl ?_ | refine S.la2 rfl ?_ | refine S.la3 rfl ?_ | refine S.la4 rfl ?_ | refine S.la5 rfl ?_ | refine S.ld0 rfl rfl ?_ | refine S.ld1 rfl rfl ?_ | refine S.ld2 rfl rfl ?_ | refine S.ld3 rfl rfl ?_ | refine S.ld4 rfl rfl ?_ | refine S.ld5 rfl rfl ?_ | refine S.st0 (by rfl) λ_ S f=>?_ | refine S.st1 (by rfl) λ_ S f=>?_ | refine S.st2 (by rfl) λ_ S f=>?_ | refine S.st3 (by rfl) λ_ S f=>?_ | refine S.st4 (by rfl) λ_ S f=>?_ | refine S.st5 (by rfl) λ_ S f=>?_ | refine S.su0 (by rfl) λ_ S f=>?_ | refine S.su1 (by rfl) λ_ S f=>?_ | refine S.su2 (by rfl) λ_ S f=>?_ | refine S.su3 (by rfl) λ_ S f=>?_ | refine S.su4 (by rfl) λ_ S f=>?_ | refine S.su5 (by rfl) λ_ S f=>?_ | refine ⟨by decide,?_⟩);try dsimp only [List.set_cons_zero,List.set_cons_succ,cond_true,cond_false,Bool.not_true,Bool.not_false]))
  exact ⟨S.ext,λ_=>⟨rfl,rfl⟩,λh=>absurd h.1 hL⟩
 by_cases hO:okR (endP g xs)
 case neg=>
  obtain ⟨q1,q2⟩:=h2 hL hO
  have S:=S.stepE x2
  subst q2
  (repeat ((first | refine S.newB λ_ _ S f _=>?_ | refine S.la0 rfl ?_ | refine S.la1 rfl ?_ | refine S.la2 rfl ?_ | refine S.la3 rfl ?_ | refine S.la4 rfl ?_ | refine S.la5 rfl ?_ | refine S.ld0 rfl rfl ?_ | refine S.ld1 rfl rfl ?_ | refine S.ld2 rfl rfl ?_ | refine S.ld3 rfl rfl ?_ | refine S.ld4 rfl rfl ?_ | refine S.ld5 rfl rfl ?_ | refine S.st0 (by rfl) λ_ S f=>?_ | refine S.st1 (by rfl) λ_ S f=>?_ | refine S.st2 (by rfl) λ_ S f=>?_ | refine S.st3 (by rfl) λ_ S f=>?_ | refine S.st4 (by rfl) λ_ S f=>?_ | refine S.st5 (by rfl) λ_ S f=>?_ | refine S.su0 (by rfl) λ_ S f=>?_ | refine S.su1 (by rfl) λ_ S f=>?_ | refine S.su2 (by rfl) λ_ S f=>?_ | refine S.su3 (by rfl) λ_ S f=>?_ | refine S.su4 (by rfl) λ_ S f=>?_ | refine S.su5 (by rfl) λ_ S f=>?_ | refine ⟨by decide,?_⟩);try dsimp only [List.set_cons_zero,List.set_cons_succ,cond_true,cond_false,Bool.not_true,Bool.not_false]))
  exact ⟨S.ext,λ_=>⟨rfl,rfl⟩,λh=>absurd h.2.1 hO⟩
 obtain ⟨q1,s,t,q2,ln,lt,T⟩:=h3 hL hO
 have S:=S.frame0 T
 dsimp only [List.cons_append,List.nil_append] at S
 obtain ⟨s1,s2,s3⟩:=s
 obtain ⟨t1,t2,t3⟩:=t
 cases q2
 dsimp only at S
 subst q1
 (repeat ((first | refine S.newB λ_ _ S f _=>?_ | refine S.la0 rfl ?_ | refine S.la1 rfl ?_ | refine S.la2 rfl ?_ | refine S.la3 rfl ?_ | refine S.la4 rfl ?_ | refine S.la5 rfl ?_ | refine S.ld0 rfl rfl ?_ | refine S.ld1 rfl rfl ?_ | refine S.ld2 rfl rfl ?_ | refine S.ld3 rfl rfl ?_ | refine S.ld4 rfl rfl ?_ | refine S.ld5 rfl rfl ?_ | refine S.st0 (by rfl) λ_ S f=>?_ | refine S.st1 (by rfl) λ_ S f=>?_ | refine S.st2 (by rfl) λ_ S f=>?_ | refine S.st3 (by rfl) λ_ S f=>?_ | refine S.st4 (by rfl) λ_ S f=>?_ | refine S.st5 (by rfl) λ_ S f=>?_ | refine S.su0 (by rfl) λ_ S f=>?_ | refine S.su1 (by rfl) λ_ S f=>?_ | refine S.su2 (by rfl) λ_ S f=>?_ | refine S.su3 (by rfl) λ_ S f=>?_ | refine S.su4 (by rfl) λ_ S f=>?_ | refine S.su5 (by rfl) λ_ S f=>?_ | refine ⟨by decide,?_⟩);try dsimp only [List.set_cons_zero,List.set_cons_succ,cond_true,cond_false,Bool.not_true,Bool.not_false]))
 refine cond_of (λhc=>?_) (λhc=>?_)
 ·(repeat ((first | refine S.newB λ_ _ S f _=>?_ | refine S.la0 rfl ?_ | refine S.la1 rfl ?_ | refine S.la2 rfl ?_ | refine S.la3 rfl ?_ | refine S.la4 rfl ?_ | refine S.la5 rfl ?_ | refine S.ld0 rfl rfl ?_ | refine S.ld1 rfl rfl ?_ | refine S.ld2 rfl rfl ?_ | refine S.ld3 rfl rfl ?_ | refine S.ld4 rfl rfl ?_ | refine S.ld5 rfl rfl ?_ | refine S.st0 (by rfl) λ_ S f=>?_ | refine S.st1 (by rfl) λ_ S f=>?_ | refine S.st2 (by rfl) λ_ S f=>?_ | refine S.st3 (by rfl) λ_ S f=>?_ | refine S.st4 (by rfl) λ_ S f=>?_ | refine S.st5 (by rfl) λ_ S f=>?_ | refine S.su0 (by rfl) λ_ S f=>?_ | refine S.su1 (by rfl) λ_ S f=>?_ | refine S.su2 (by rfl) λ_ S f=>?_ | refine S.su3 (by rfl) λ_ S f=>?_ | refine S.su4 (by rfl) λ_ S f=>?_ | refine S.su5 (by rfl) λ_ S f=>?_ | refine ⟨by decide,?_⟩);try dsimp only [List.set_cons_zero,List.set_cons_succ,cond_true,cond_false,Bool.not_true,Bool.not_false]))
  exact ⟨S.ext,λ_=>⟨rfl,rfl⟩,λh=>by rw [h.2.2.1] at hc;cases hc⟩
 (repeat ((first | refine S.newB λ_ _ S f _=>?_ | refine S.la0 rfl ?_ | refine S.la1 rfl ?_ | refine S.la2 rfl ?_ | refine S.la3 rfl ?_ | refine S.la4 rfl ?_ | refine S.la5 rfl ?_ | refine S.ld0 rfl rfl ?_ | refine S.ld1 rfl rfl ?_ | refine S.ld2 rfl rfl ?_ | refine S.ld3 rfl rfl ?_ | refine S.ld4 rfl rfl ?_ | refine S.ld5 rfl rfl ?_ | refine S.st0 (by rfl) λ_ S f=>?_ | refine S.st1 (by rfl) λ_ S f=>?_ | refine S.st2 (by rfl) λ_ S f=>?_ | refine S.st3 (by rfl) λ_ S f=>?_ | refine S.st4 (by rfl) λ_ S f=>?_ | refine S.st5 (by rfl) λ_ S f=>?_ | refine S.su0 (by rfl) λ_ S f=>?_ | refine S.su1 (by rfl) λ_ S f=>?_ | refine S.su2 (by rfl) λ_ S f=>?_ | refine S.su3 (by rfl) λ_ S f=>?_ | refine S.su4 (by rfl) λ_ S f=>?_ | refine S.su5 (by rfl) λ_ S f=>?_ | refine ⟨by decide,?_⟩);try dsimp only [List.set_cons_zero,List.set_cons_succ,cond_true,cond_false,Bool.not_true,Bool.not_false]))
 refine cond_ne (λhk=>?_) (λhk=>?_)
 ·(repeat ((first | refine S.newB λ_ _ S f _=>?_ | refine S.la0 rfl ?_ | refine S.la1 rfl ?_ | refine S.la2 rfl ?_ | refine S.la3 rfl ?_ | refine S.la4 rfl ?_ | refine S.la5 rfl ?_ | refine S.ld0 rfl rfl ?_ | refine S.ld1 rfl rfl ?_ | refine S.ld2 rfl rfl ?_ | refine S.ld3 rfl rfl ?_ | refine S.ld4 rfl rfl ?_ | refine S.ld5 rfl rfl ?_ | refine S.st0 (by rfl) λ_ S f=>?_ | refine S.st1 (by rfl) λ_ S f=>?_ | refine S.st2 (by rfl) λ_ S f=>?_ | refine S.st3 (by rfl) λ_ S f=>?_ | refine S.st4 (by rfl) λ_ S f=>?_ | refine S.st5 (by rfl) λ_ S f=>?_ | refine S.su0 (by rfl) λ_ S f=>?_ | refine S.su1 (by rfl) λ_ S f=>?_ | refine S.su2 (by rfl) λ_ S f=>?_ | refine S.su3 (by rfl) λ_ S f=>?_ | refine S.su4 (by rfl) λ_ S f=>?_ | refine S.su5 (by rfl) λ_ S f=>?_ | refine ⟨by decide,?_⟩);try dsimp only [List.set_cons_zero,List.set_cons_succ,cond_true,cond_false,Bool.not_true,Bool.not_false]))
  exact ⟨S.ext,λ_=>⟨rfl,rfl⟩,λh=>absurd h.2.2.2 hk⟩
 (repeat ((first | refine S.newB λ_ _ S f _=>?_ | refine S.la0 rfl ?_ | refine S.la1 rfl ?_ | refine S.la2 rfl ?_ | refine S.la3 rfl ?_ | refine S.la4 rfl ?_ | refine S.la5 rfl ?_ | refine S.ld0 rfl rfl ?_ | refine S.ld1 rfl rfl ?_ | refine S.ld2 rfl rfl ?_ | refine S.ld3 rfl rfl ?_ | refine S.ld4 rfl rfl ?_ | refine S.ld5 rfl rfl ?_ | refine S.st0 (by rfl) λ_ S f=>?_ | refine S.st1 (by rfl) λ_ S f=>?_ | refine S.st2 (by rfl) λ_ S f=>?_ | refine S.st3 (by rfl) λ_ S f=>?_ | refine S.st4 (by rfl) λ_ S f=>?_ | refine S.st5 (by rfl) λ_ S f=>?_ | refine S.su0 (by rfl) λ_ S f=>?_ | refine S.su1 (by rfl) λ_ S f=>?_ | refine S.su2 (by rfl) λ_ S f=>?_ | refine S.su3 (by rfl) λ_ S f=>?_ | refine S.su4 (by rfl) λ_ S f=>?_ | refine S.su5 (by rfl) λ_ S f=>?_ | refine ⟨by decide,?_⟩);try dsimp only [List.set_cons_zero,List.set_cons_succ,cond_true,cond_false,Bool.not_true,Bool.not_false]))
 refine ⟨S.ext,λh=>absurd ⟨hL,hO,by simpa using hc,hk⟩ h,λh=>⟨rfl,⟨_,_,_⟩,⟨_,_,_⟩,rfl,ln,lt,S.sel2 1 1 rfl rfl⟩⟩
abbrev PgU:Type:=Int×Int×Int×Int×Int×Int×SlV×SlV×Bool×Bool×Unit
abbrev zPu:PgU:=((0:Int),(0:Int),(0:Int),(0:Int),(0:Int),(0:Int),(⟨none,0,0⟩:SlV),(⟨none,0,0⟩:SlV),false,false,())
abbrev pgU (h:Hd) (s t:SlV) (d:Bool):PgU:=(h.k,h.n,h.c,h.l,h.e,h.t,s,t,d,true,())
theorem rPRead_c {w0 w:World} {g:Geo} {a:Option Addr} {n c:Nat} {xs:List Int} (hx:Ints w0 .u8 a n c xs) (e0:Ext w0 w) (bx:Byt xs) (hL:lenP g xs) :
  CallV Tryz.prog 27 #[g.val,.slice a n c] w [.agg [.int .i64,.int .i64,.int .i64,.int .u32,.int .u64,.int .u64,.sl,.sl,.bool,.bool]] λr w'=>
   Ext w w'/\(¬ okR (endP g xs)->r.1=zPu)/\(okR (endP g xs)->∃ s t:SlV,r.1=pgU (hdOf (endP g xs)) s t (comm (endP g xs))/\Ints w0 .u8 s.a s.n s.c (pays g xs)/\Ints w0 .u8 t.a t.n t.c (tags g xs)):=by
 apply ref15_Read.vc
 unfold ref15_Read.P
 have lx:=hx.len
 have hc:=hx.cap
 have hs:=hL.1.sec
 have hl:=hL.2
 have S:=Sep.start NoB w
 refine S.newB λb1 w1 S f _=>?_
 refine S.newB λb3 w2 S f _=>?_
 (repeat ((first | refine S.newB λ_ _ S f _=>?_ | refine S.la0 rfl ?_ | refine S.la1 rfl ?_ | refine S.la2 rfl ?_ | refine S.la3 rfl ?_ | refine S.la4 rfl ?_ | refine S.la5 rfl ?_ | refine S.ld0 rfl rfl ?_ | refine S.ld1 rfl rfl ?_ | refine S.ld2 rfl rfl ?_ | refine S.ld3 rfl rfl ?_ | refine S.ld4 rfl rfl ?_ | refine S.ld5 rfl rfl ?_ | refine S.st0 (by rfl) λ_ S f=>?_ | refine S.st1 (by rfl) λ_ S f=>?_ | refine S.st2 (by rfl) λ_ S f=>?_ | refine S.st3 (by rfl) λ_ S f=>?_ | refine S.st4 (by rfl) λ_ S f=>?_ | refine S.st5 (by rfl) λ_ S f=>?_ | refine S.su0 (by rfl) λ_ S f=>?_ | refine S.su1 (by rfl) λ_ S f=>?_ | refine S.su2 (by rfl) λ_ S f=>?_ | refine S.su3 (by rfl) λ_ S f=>?_ | refine S.su4 (by rfl) λ_ S f=>?_ | refine S.su5 (by rfl) λ_ S f=>?_ | refine ⟨by decide,?_⟩);try dsimp only [List.set_cons_zero,List.set_cons_succ,cond_true,cond_false,Bool.not_true,Bool.not_false]))
 refine ⟨⟨by omega,by omega⟩,?_⟩
 intro a6 ha6
 have i6:=hx.sub (l:=g.s.toNat) (hh:=n) (m:=c) (by omega) (by omega) (by omega) ha6
 rw [List.take_of_length_le (by rw [List.length_drop];omega)] at i6
 have i6:Ints w0 .u8 a6 (n-g.s.toNat) (c-g.s.toNat) (endP g xs):=i6
 have bt:Byt (endP g xs):=bx.drop _
 have le:(endP g xs).length=88:=by unfold endP;rw [List.length_drop];omega
 refine (rRead_c (i6.ext (e0.trans S.ext)) bt (by omega)).mono ?_
 rintro ⟨⟨(k1:Int),(k2:Int),(k3:Int),(k4:Int),(k5:Int),(k6:Int),⟨⟩⟩,(o:Bool),⟨⟩⟩ w3 ⟨x3,hok,hno⟩
 dsimp only at hok hno ⊢
 have S:=S.stepE x3
 by_cases hO:okR (endP g xs)
 case neg=>
  obtain ⟨-,h2⟩:=hno hO
  subst h2
  (repeat ((first | refine S.newB λ_ _ S f _=>?_ | refine S.la0 rfl ?_ | refine S.la1 rfl ?_ | refine S.la2 rfl ?_ | refine S.la3 rfl ?_ | refine S.la4 rfl ?_ | refine S.la5 rfl ?_ | refine S.ld0 rfl rfl ?_ | refine S.ld1 rfl rfl ?_ | refine S.ld2 rfl rfl ?_ | refine S.ld3 rfl rfl ?_ | refine S.ld4 rfl rfl ?_ | refine S.ld5 rfl rfl ?_ | refine S.st0 (by rfl) λ_ S f=>?_ | refine S.st1 (by rfl) λ_ S f=>?_ | refine S.st2 (by rfl) λ_ S f=>?_ | refine S.st3 (by rfl) λ_ S f=>?_ | refine S.st4 (by rfl) λ_ S f=>?_ | refine S.st5 (by rfl) λ_ S f=>?_ | refine S.su0 (by rfl) λ_ S f=>?_ | refine S.su1 (by rfl) λ_ S f=>?_ | refine S.su2 (by rfl) λ_ S f=>?_ | refine S.su3 (by rfl) λ_ S f=>?_ | refine S.su4 (by rfl) λ_ S f=>?_ | refine S.su5 (by rfl) λ_ S f=>?_ | refine ⟨by decide,?_⟩);try dsimp only [List.set_cons_zero,List.set_cons_succ,cond_true,cond_false,Bool.not_true,Bool.not_false]))
  exact ⟨S.ext,λ_=>rfl,λh=>absurd h hO⟩
 obtain ⟨h1,h2⟩:=hok hO
 subst h2
 have h1:(k1,k2,k3,k4,k5,k6,())=(hdOf (endP g xs)).tup:=h1
 simp only [Prod.mk.injEq,and_true] at h1
 obtain ⟨rfl,rfl,rfl,rfl,rfl,rfl⟩:=h1
 (repeat ((first | refine S.newB λ_ _ S f _=>?_ | refine S.la0 rfl ?_ | refine S.la1 rfl ?_ | refine S.la2 rfl ?_ | refine S.la3 rfl ?_ | refine S.la4 rfl ?_ | refine S.la5 rfl ?_ | refine S.ld0 rfl rfl ?_ | refine S.ld1 rfl rfl ?_ | refine S.ld2 rfl rfl ?_ | refine S.ld3 rfl rfl ?_ | refine S.ld4 rfl rfl ?_ | refine S.ld5 rfl rfl ?_ | refine S.st0 (by rfl) λ_ S f=>?_ | refine S.st1 (by rfl) λ_ S f=>?_ | refine S.st2 (by rfl) λ_ S f=>?_ | refine S.st3 (by rfl) λ_ S f=>?_ | refine S.st4 (by rfl) λ_ S f=>?_ | refine S.st5 (by rfl) λ_ S f=>?_ | refine S.su0 (by rfl) λ_ S f=>?_ | refine S.su1 (by rfl) λ_ S f=>?_ | refine S.su2 (by rfl) λ_ S f=>?_ | refine S.su3 (by rfl) λ_ S f=>?_ | refine S.su4 (by rfl) λ_ S f=>?_ | refine S.su5 (by rfl) λ_ S f=>?_ | refine ⟨by decide,?_⟩);try dsimp only [List.set_cons_zero,List.set_cons_succ,cond_true,cond_false,Bool.not_true,Bool.not_false]))
 have hne0:=S.ne 0 1 (by omega) rfl rfl
 have hne1:=S.ne 1 2 (by omega) rfl rfl
 refine S.regX (λk=>k=b3) λD hD hkeep Sd T=>?_
 refine ⟨hD _ Sd.bl0 hne0,Sd.la0 rfl ⟨hD _ Sd.bl2 (λe=>hne1 e.symm),Sd.ld2 rfl rfl ⟨⟨by omega,by omega⟩,?_⟩⟩⟩
 intro a17 ha17
 refine ⟨⟨by omega,by omega,by omega⟩,?_⟩
 intro a18 ha18
 have i17:=hx.sub (l:=0) (hh:=g.s.toNat) (m:=c) (by omega) (by omega) (by omega) ha17
 rw [List.drop_zero,Nat.sub_zero] at i17
 have i18:=sub_part i6 (i:=48) (j:=80) (m:=c-g.s.toNat) (by omega) (by omega) (by omega) ha18
 refine (rCommitted_c (i6.ext (e0.trans Sd.ext)) (by omega)).mono ?_
 rintro ⟨(r9:Bool),⟨⟩⟩ w9 ⟨h9,x9⟩
 dsimp only at h9 ⊢
 subst h9
 have S:=Sd.stepE x9
 refine ⟨hkeep _ (Fr.of x9).any,?_⟩
 refine S.st1 (by rfl) λw10 S f10=>⟨hkeep _ ((Fr.of x9).any.trans f10),S.la1 rfl ?_⟩
 exact ⟨S.ext,λh=>absurd hO h,λ_=>⟨_,_,rfl,i17,i18⟩⟩
theorem rPDone_c {w0 w:World} {g:Geo} {a:Option Addr} {n c:Nat} {kind:Int} {xs:List Int} (hx:Ints w0 .u8 a n c xs) (e0:Ext w0 w) (bx:Byt xs) (hL:lenP g xs) :
  CallV Tryz.prog 26 #[g.val,.slice a n c,.int .i64 kind] w [.agg [.int .i64,.int .i64,.int .i64,.int .u32,.int .u64,.int .u64,.sl,.sl,.bool,.bool]] λr w'=>
   Ext w w'/\(¬ (okR (endP g xs)/\comm (endP g xs)=true/\(hdOf (endP g xs)).k=kind)->r.1=zPu) /\
   ((okR (endP g xs)/\comm (endP g xs)=true/\(hdOf (endP g xs)).k=kind)->∃ s t:SlV,r.1=pgU (hdOf (endP g xs)) s t (comm (endP g xs))/\Ints w0 .u8 s.a s.n s.c (pays g xs)/\Ints w0 .u8 t.a t.n t.c (tags g xs)):=by
 apply ref15_Done.vc
 unfold ref15_Done.P
 have S:=Sep.start NoB w
 (repeat ((first | refine S.newB λ_ _ S f _=>?_ | refine S.la0 rfl ?_ | refine S.la1 rfl ?_ | refine S.la2 rfl ?_ | refine S.la3 rfl ?_ | refine S.la4 rfl ?_ | refine S.la5 rfl ?_ | refine S.ld0 rfl rfl ?_ | refine S.ld1 rfl rfl ?_ | refine S.ld2 rfl rfl ?_ | refine S.ld3 rfl rfl ?_ | refine S.ld4 rfl rfl ?_ | refine S.ld5 rfl rfl ?_ | refine S.st0 (by rfl) λ_ S f=>?_ | refine S.st1 (by rfl) λ_ S f=>?_ | refine S.st2 (by rfl) λ_ S f=>?_ | refine S.st3 (by rfl) λ_ S f=>?_ | refine S.st4 (by rfl) λ_ S f=>?_ | refine S.st5 (by rfl) λ_ S f=>?_ | refine S.su0 (by rfl) λ_ S f=>?_ | refine S.su1 (by rfl) λ_ S f=>?_ | refine S.su2 (by rfl) λ_ S f=>?_ | refine S.su3 (by rfl) λ_ S f=>?_ | refine S.su4 (by rfl) λ_ S f=>?_ | refine S.su5 (by rfl) λ_ S f=>?_ | refine ⟨by decide,?_⟩);try dsimp only [List.set_cons_zero,List.set_cons_succ,cond_true,cond_false,Bool.not_true,Bool.not_false]))
 refine (rPRead_c (g:=g) hx (e0.trans S.ext) bx hL).mono ?_
 rintro ⟨⟨(k1:Int),(k2:Int),(k3:Int),(k4:Int),(k5:Int),(k6:Int),⟨sa,sn,sc⟩,⟨ta,tn,tc⟩,(d:Bool),(o:Bool),⟨⟩⟩,⟨⟩⟩ w2 ⟨x2,h2,h3⟩
 dsimp only at h2 h3 ⊢
 have S:=S.stepE x2
 by_cases hO:okR (endP g xs)
 case neg=>
  have q1:=h2 hO
  cases q1
  (repeat ((first | refine S.newB λ_ _ S f _=>?_ | refine S.la0 rfl ?_ | refine S.la1 rfl ?_ | refine S.la2 rfl ?_ | refine S.la3 rfl ?_ | refine S.la4 rfl ?_ | refine S.la5 rfl ?_ | refine S.ld0 rfl rfl ?_ | refine S.ld1 rfl rfl ?_ | refine S.ld2 rfl rfl ?_ | refine S.ld3 rfl rfl ?_ | refine S.ld4 rfl rfl ?_ | refine S.ld5 rfl rfl ?_ | refine S.st0 (by rfl) λ_ S f=>?_ | refine S.st1 (by rfl) λ_ S f=>?_ | refine S.st2 (by rfl) λ_ S f=>?_ | refine S.st3 (by rfl) λ_ S f=>?_ | refine S.st4 (by rfl) λ_ S f=>?_ | refine S.st5 (by rfl) λ_ S f=>?_ | refine S.su0 (by rfl) λ_ S f=>?_ | refine S.su1 (by rfl) λ_ S f=>?_ | refine S.su2 (by rfl) λ_ S f=>?_ | refine S.su3 (by rfl) λ_ S f=>?_ | refine S.su4 (by rfl) λ_ S f=>?_ | refine S.su5 (by rfl) λ_ S f=>?_ | refine ⟨by decide,?_⟩);try dsimp only [List.set_cons_zero,List.set_cons_succ,cond_true,cond_false,Bool.not_true,Bool.not_false]))
  exact ⟨S.ext,λ_=>rfl,λh=>absurd h.1 hO⟩
 obtain ⟨s,t,q2,is,it⟩:=h3 hO
 cases q2
 (repeat ((first | refine S.newB λ_ _ S f _=>?_ | refine S.la0 rfl ?_ | refine S.la1 rfl ?_ | refine S.la2 rfl ?_ | refine S.la3 rfl ?_ | refine S.la4 rfl ?_ | refine S.la5 rfl ?_ | refine S.ld0 rfl rfl ?_ | refine S.ld1 rfl rfl ?_ | refine S.ld2 rfl rfl ?_ | refine S.ld3 rfl rfl ?_ | refine S.ld4 rfl rfl ?_ | refine S.ld5 rfl rfl ?_ | refine S.st0 (by rfl) λ_ S f=>?_ | refine S.st1 (by rfl) λ_ S f=>?_ | refine S.st2 (by rfl) λ_ S f=>?_ | refine S.st3 (by rfl) λ_ S f=>?_ | refine S.st4 (by rfl) λ_ S f=>?_ | refine S.st5 (by rfl) λ_ S f=>?_ | refine S.su0 (by rfl) λ_ S f=>?_ | refine S.su1 (by rfl) λ_ S f=>?_ | refine S.su2 (by rfl) λ_ S f=>?_ | refine S.su3 (by rfl) λ_ S f=>?_ | refine S.su4 (by rfl) λ_ S f=>?_ | refine S.su5 (by rfl) λ_ S f=>?_ | refine ⟨by decide,?_⟩);try dsimp only [List.set_cons_zero,List.set_cons_succ,cond_true,cond_false,Bool.not_true,Bool.not_false]))
 refine cond_of (λhc=>?_) (λhc=>?_)
 ·(repeat ((first | refine S.newB λ_ _ S f _=>?_ | refine S.la0 rfl ?_ | refine S.la1 rfl ?_ | refine S.la2 rfl ?_ | refine S.la3 rfl ?_ | refine S.la4 rfl ?_ | refine S.la5 rfl ?_ | refine S.ld0 rfl rfl ?_ | refine S.ld1 rfl rfl ?_ | refine S.ld2 rfl rfl ?_ | refine S.ld3 rfl rfl ?_ | refine S.ld4 rfl rfl ?_ | refine S.ld5 rfl rfl ?_ | refine S.st0 (by rfl) λ_ S f=>?_ | refine S.st1 (by rfl) λ_ S f=>?_ | refine S.st2 (by rfl) λ_ S f=>?_ | refine S.st3 (by rfl) λ_ S f=>?_ | refine S.st4 (by rfl) λ_ S f=>?_ | refine S.st5 (by rfl) λ_ S f=>?_ | refine S.su0 (by rfl) λ_ S f=>?_ | refine S.su1 (by rfl) λ_ S f=>?_ | refine S.su2 (by rfl) λ_ S f=>?_ | refine S.su3 (by rfl) λ_ S f=>?_ | refine S.su4 (by rfl) λ_ S f=>?_ | refine S.su5 (by rfl) λ_ S f=>?_ | refine ⟨by decide,?_⟩);try dsimp only [List.set_cons_zero,List.set_cons_succ,cond_true,cond_false,Bool.not_true,Bool.not_false]))
  exact ⟨S.ext,λ_=>rfl,λh=>by rw [h.2.1] at hc;cases hc⟩
 (repeat ((first | refine S.newB λ_ _ S f _=>?_ | refine S.la0 rfl ?_ | refine S.la1 rfl ?_ | refine S.la2 rfl ?_ | refine S.la3 rfl ?_ | refine S.la4 rfl ?_ | refine S.la5 rfl ?_ | refine S.ld0 rfl rfl ?_ | refine S.ld1 rfl rfl ?_ | refine S.ld2 rfl rfl ?_ | refine S.ld3 rfl rfl ?_ | refine S.ld4 rfl rfl ?_ | refine S.ld5 rfl rfl ?_ | refine S.st0 (by rfl) λ_ S f=>?_ | refine S.st1 (by rfl) λ_ S f=>?_ | refine S.st2 (by rfl) λ_ S f=>?_ | refine S.st3 (by rfl) λ_ S f=>?_ | refine S.st4 (by rfl) λ_ S f=>?_ | refine S.st5 (by rfl) λ_ S f=>?_ | refine S.su0 (by rfl) λ_ S f=>?_ | refine S.su1 (by rfl) λ_ S f=>?_ | refine S.su2 (by rfl) λ_ S f=>?_ | refine S.su3 (by rfl) λ_ S f=>?_ | refine S.su4 (by rfl) λ_ S f=>?_ | refine S.su5 (by rfl) λ_ S f=>?_ | refine ⟨by decide,?_⟩);try dsimp only [List.set_cons_zero,List.set_cons_succ,cond_true,cond_false,Bool.not_true,Bool.not_false]))
 refine cond_ne (λhk=>?_) (λhk=>?_)
 ·(repeat ((first | refine S.newB λ_ _ S f _=>?_ | refine S.la0 rfl ?_ | refine S.la1 rfl ?_ | refine S.la2 rfl ?_ | refine S.la3 rfl ?_ | refine S.la4 rfl ?_ | refine S.la5 rfl ?_ | refine S.ld0 rfl rfl ?_ | refine S.ld1 rfl rfl ?_ | refine S.ld2 rfl rfl ?_ | refine S.ld3 rfl rfl ?_ | refine S.ld4 rfl rfl ?_ | refine S.ld5 rfl rfl ?_ | refine S.st0 (by rfl) λ_ S f=>?_ | refine S.st1 (by rfl) λ_ S f=>?_ | refine S.st2 (by rfl) λ_ S f=>?_ | refine S.st3 (by rfl) λ_ S f=>?_ | refine S.st4 (by rfl) λ_ S f=>?_ | refine S.st5 (by rfl) λ_ S f=>?_ | refine S.su0 (by rfl) λ_ S f=>?_ | refine S.su1 (by rfl) λ_ S f=>?_ | refine S.su2 (by rfl) λ_ S f=>?_ | refine S.su3 (by rfl) λ_ S f=>?_ | refine S.su4 (by rfl) λ_ S f=>?_ | refine S.su5 (by rfl) λ_ S f=>?_ | refine ⟨by decide,?_⟩);try dsimp only [List.set_cons_zero,List.set_cons_succ,cond_true,cond_false,Bool.not_true,Bool.not_false]))
  exact ⟨S.ext,λ_=>rfl,λh=>absurd h.2.2 hk⟩
 (repeat ((first | refine S.newB λ_ _ S f _=>?_ | refine S.la0 rfl ?_ | refine S.la1 rfl ?_ | refine S.la2 rfl ?_ | refine S.la3 rfl ?_ | refine S.la4 rfl ?_ | refine S.la5 rfl ?_ | refine S.ld0 rfl rfl ?_ | refine S.ld1 rfl rfl ?_ | refine S.ld2 rfl rfl ?_ | refine S.ld3 rfl rfl ?_ | refine S.ld4 rfl rfl ?_ | refine S.ld5 rfl rfl ?_ | refine S.st0 (by rfl) λ_ S f=>?_ | refine S.st1 (by rfl) λ_ S f=>?_ | refine S.st2 (by rfl) λ_ S f=>?_ | refine S.st3 (by rfl) λ_ S f=>?_ | refine S.st4 (by rfl) λ_ S f=>?_ | refine S.st5 (by rfl) λ_ S f=>?_ | refine S.su0 (by rfl) λ_ S f=>?_ | refine S.su1 (by rfl) λ_ S f=>?_ | refine S.su2 (by rfl) λ_ S f=>?_ | refine S.su3 (by rfl) λ_ S f=>?_ | refine S.su4 (by rfl) λ_ S f=>?_ | refine S.su5 (by rfl) λ_ S f=>?_ | refine ⟨by decide,?_⟩);try dsimp only [List.set_cons_zero,List.set_cons_succ,cond_true,cond_false,Bool.not_true,Bool.not_false]))
 exact ⟨S.ext,λh=>absurd ⟨hO,by simpa using hc,hk⟩ h,λh=>⟨_,_,rfl,is,it⟩⟩
theorem mkL_byt {g:Geo} {h:Hd} {xs ts:List Int} (hg:h.rng) (hR:HRight h) (bx:Byt xs) (bt:Byt ts):Byt (mkL g h xs ts):=by
 unfold mkL payL
 refine Byt.append ?_ (endL_byt hg hR bt)
 split
 ·exact Byt.replicate (by omega) (by omega) _
 ·exact bx
end Go.Proofs.YtcekmdehjnlkpaaGreat.Vc
namespace Go.Proofs.YtcekmdehjnlkpaaGreat.Vc
open Go Go.Eng
def fault_turned.A:Ann:=.two .no (.two .no (.two (.two .no (.two (.two .no (.one (.loop [10,18,19,20,21,22,23,24,25,26,27,28,29,30,31,32] [(18,.one (.int .i64))] .no))) .no)) (.two .no (.two .no (.two (.two .no (.one (.loop [13,40,41,42,43,44,45,46,47,48,49,50,51,52,53,54,55,56] [(40,.one (.int .i64))] (.two .no (.two .no (.two (.one (.two .no (.two .no (.two (.draw (.take 0 (.take 1 (.take 2 (.take 3 (.take 5 (.take 6 (.take 7 (.eff 4 (.take 8 (.take 9 (.eff 10 (.done))))))))))))) .no)))) .no)))))) .no)))))
def fault_turned.P (a0:Option Addr) (n0 c0:Nat) (a1:Option Addr) (n1 c1:Nat) (a2:Option Addr) (n2 c2:Nat) (p3:Bool) (w:World) (K:SlV×Unit->World->Prop):Prop:=
 NewV #[.slice a1 n1 c1] 26 w λb1 w2=>
 NewV #[.slice a2 n2 c2] 26 w2 λb3 w4=>
 NewV #[.int .i64 0] 3 w4 λb5 w6=>
 StoreV w6 ⟨b5,0,none⟩ [.int .i64 (-1)] λw7=>
 cond p3
 (LoadS w7 ⟨b1,0,none⟩ .sl λ(x8:SlV)=>
 Rng .i64 ((8:Int)*((x8.n:Nat):Int)) /\
 LoopV [.one (.int .i64)] ((0:Int),()) w7 λ(z9:Int×Unit) w10 (K11:Int×Unit->World->Prop)=>
 cond (decide (z9.1<((8:Int)*((x8.n:Nat):Int))))
 (LoadS w10 ⟨b1,0,none⟩ .sl λ(x12:SlV)=>
 8≠(0:Int)/\Rng .i64 (Int.tdiv z9.1 8) /\
 (0<=(Int.tdiv z9.1 8)/\(Int.tdiv z9.1 8)<((x12.n:Nat):Int))/\∃ q13:Addr,x12.a=some q13 /\
 LoadS w10 (q13.add ((Int.tdiv z9.1 8).toNat*1)) (.int .u8) λ(x14:Int)=>
 8≠(0:Int) /\
 (0:Int)<=(Int.tmod z9.1 8) /\
 cond ((Go.bits .and .u8 (Int.fdiv x14 (2 ^ (Nat.min ((Int.tmod z9.1 8)).toNat 8))) 1) == 1)
 (StoreV w10 ⟨b5,0,none⟩ [.int .i64 z9.1] λw15=>
 Rng .i64 (z9.1+1) /\
 K11 (z9.1+1,()) w15)
 (Rng .i64 (z9.1+1) /\
 K11 (z9.1+1,()) w10))
 (NewV #[] 5 w10 λb16 w17=>
 AppS w17 a0 n0 1 λns22=>
 AppV w17 5 1 1 (some ⟨b16,0,none⟩) 0 0 ns22 n0 λa18 n19 c20 w21=>
 Rng .i64 ((8:Int)*((n19:Nat):Int)) /\
 LoopV [.one (.int .i64)] ((0:Int),()) w21 λ(z23:Int×Unit) w24 (K25:Int×Unit->World->Prop)=>
 cond (decide (z23.1<((8:Int)*((n19:Nat):Int))))
 (CallV Tryz.prog 140 #[.int .i64 z23.1,.pointer (some ⟨b5,0,none⟩),.pointer (some ⟨b1,0,none⟩),.pointer (some ⟨b3,0,none⟩)] w24 [.one .bool] λ(r26:Bool×Unit) w27=>
 cond r26.1
 (DrawV λD28=>
 8≠(0:Int)/\Rng .i64 (Int.tdiv z23.1 8) /\
 (0<=(Int.tdiv z23.1 8)/\(Int.tdiv z23.1 8)<((n19:Nat):Int))/\∃ q29:Addr,a18=some q29 /\
 8≠(0:Int) /\
 (0:Int)<=(Int.tmod z23.1 8) /\
 LoadS w27.drew (q29.add ((Int.tdiv z23.1 8).toNat*1)) (.int .u8) λ(x30:Int)=>
 KeepOn D28 w27.drew w27.drew /\
 (0<=(Int.tdiv z23.1 8)/\(Int.tdiv z23.1 8)<((n19:Nat):Int))/\∃ q31:Addr,a18=some q31 /\
 StoreV w27.drew (q31.add ((Int.tdiv z23.1 8).toNat*1)) [.int .u8 (Go.bits .xor .u8 x30 (IntKind.u8.wrap ((1:Int)*(2 ^ (Nat.min ((Int.tmod z23.1 8)).toNat 8)))))] λw32=>
 KeepOn D28 w27.drew w32 /\
 Rng .i64 (z23.1+1) /\
 K25 (z23.1+1,()) w32)
 (Rng .i64 (z23.1+1) /\
 K25 (z23.1+1,()) w27))
 (K ((⟨a18,n19,c20⟩:SlV),()) w24)))
 (NewV #[] 5 w7 λb33 w34=>
 AppS w34 a0 n0 1 λns39=>
 AppV w34 5 1 1 (some ⟨b33,0,none⟩) 0 0 ns39 n0 λa35 n36 c37 w38=>
 Rng .i64 ((8:Int)*((n36:Nat):Int)) /\
 LoopV [.one (.int .i64)] ((0:Int),()) w38 λ(z40:Int×Unit) w41 (K42:Int×Unit->World->Prop)=>
 cond (decide (z40.1<((8:Int)*((n36:Nat):Int))))
 (CallV Tryz.prog 140 #[.int .i64 z40.1,.pointer (some ⟨b5,0,none⟩),.pointer (some ⟨b1,0,none⟩),.pointer (some ⟨b3,0,none⟩)] w41 [.one .bool] λ(r43:Bool×Unit) w44=>
 cond r43.1
 (DrawV λD45=>
 8≠(0:Int)/\Rng .i64 (Int.tdiv z40.1 8) /\
 (0<=(Int.tdiv z40.1 8)/\(Int.tdiv z40.1 8)<((n36:Nat):Int))/\∃ q46:Addr,a35=some q46 /\
 8≠(0:Int) /\
 (0:Int)<=(Int.tmod z40.1 8) /\
 LoadS w44.drew (q46.add ((Int.tdiv z40.1 8).toNat*1)) (.int .u8) λ(x47:Int)=>
 KeepOn D45 w44.drew w44.drew /\
 (0<=(Int.tdiv z40.1 8)/\(Int.tdiv z40.1 8)<((n36:Nat):Int))/\∃ q48:Addr,a35=some q48 /\
 StoreV w44.drew (q48.add ((Int.tdiv z40.1 8).toNat*1)) [.int .u8 (Go.bits .xor .u8 x47 (IntKind.u8.wrap ((1:Int)*(2 ^ (Nat.min ((Int.tmod z40.1 8)).toNat 8)))))] λw49=>
 KeepOn D45 w44.drew w49 /\
 Rng .i64 (z40.1+1) /\
 K42 (z40.1+1,()) w49)
 (Rng .i64 (z40.1+1) /\
 K42 (z40.1+1,()) w44))
 (K ((⟨a35,n36,c37⟩:SlV),()) w41))
theorem fault_turned.vc (a0:Option Addr) (n0 c0:Nat) (a1:Option Addr) (n1 c1:Nat) (a2:Option Addr) (n2 c2:Nat) (p3:Bool) (w:World) (K:SlV×Unit->World->Prop) (h:fault_turned.P a0 n0 c0 a1 n1 c1 a2 n2 c2 p3 w K):CallV Tryz.prog 122 #[.slice a0 n0 c0,.slice a1 n1 c1,.slice a2 n2 c2,.bool p3] w [.one .sl] K:=by
 refine vcFun.of (A:=fault_turned.A) (wr:=false) okf_ok follows h Tryz.func122 ?_
 kernel_rfl
def ref12_Program.A:Ann:=.two .no (.two .no (.two .no (.two (.two .no (.one (.loop [10,11,16,17,18,19,20,21,22,23,24,25,26,27,28,29,30,31,32] [(10,.one (.int .i64)),(11,.one (.int .i64))] .no))) (.two (.two .no (.one (.loop [12,33,34,35,36,37,38,39,40,41,42,43,44,45,46,47,48,49,50,51,52,53,54,55,56,57,58,59,60,61,62,63,64,65,66,67,68,69,70,71,72,73,74,75,76] [(12,.one (.int .i64))] (.two .no (.two (.one (.two .no (.two (.draw (.take 0 (.take 1 (.take 2 (.take 3 (.take 4 (.take 5 (.take 6 (.take 8 (.take 9 (.both 7 (.eff 10 (.take 11 (.take 12 (.take 13 (.eff 14 (.done)))))) 10 (.take 11 (.eff 7 (.take 12 (.take 13 (.eff 14 (.done))))))))))))))))) .no))) .no))))) .no))))
def ref12_Program.P (a0:Option Addr) (n0 c0:Nat) (a1:Option Addr) (n1 c1:Nat) (a2:Option Addr) (n2 c2:Nat) (p3:Bool) (w:World) (K:SlV×Unit->World->Prop):Prop:=
 NewV #[] 5 w λb1 w2=>
 AppS w2 a0 n0 1 λns7=>
 AppV w2 5 1 1 (some ⟨b1,0,none⟩) 0 0 ns7 n0 λa3 n4 c5 w6=>
 LoopV [.one (.int .i64),.one (.int .i64)] (((-1):Int),(0:Int),()) w6 λ(z8:Int×Int×Unit) w9 (K10:Int×Int×Unit->World->Prop)=>
 Rng .i64 ((8:Int)*((n0:Nat):Int)) /\
 cond (decide (z8.2.1<((8:Int)*((n0:Nat):Int))))
 (CallV Tryz.prog 119 #[.slice a0 n0 c0,.int .i64 z8.2.1] w9 [.one .bool] λ(r11:Bool×Unit) w12=>
 cond r11.1
 (CallV Tryz.prog 119 #[.slice a1 n1 c1,.int .i64 z8.2.1] w12 [.one .bool] λ(r13:Bool×Unit) w14=>
 cond (!r13.1)
 (Rng .i64 (z8.2.1+1) /\
 K10 (z8.2.1,z8.2.1+1,()) w14)
 (Rng .i64 (z8.2.1+1) /\
 K10 (z8.1,z8.2.1+1,()) w14))
 (Rng .i64 (z8.2.1+1) /\
 K10 (z8.1,z8.2.1+1,()) w12))
 (LoopV [.one (.int .i64)] ((0:Int),()) w9 λ(z15:Int×Unit) w16 (K17:Int×Unit->World->Prop)=>
 Rng .i64 ((8:Int)*((n0:Nat):Int)) /\
 cond (decide (z15.1<((8:Int)*((n0:Nat):Int))))
 (CallV Tryz.prog 119 #[.slice a0 n0 c0,.int .i64 z15.1] w16 [.one .bool] λ(r18:Bool×Unit) w19=>
 cond r18.1
 (CallV Tryz.prog 119 #[.slice a1 n1 c1,.int .i64 z15.1] w19 [.one .bool] λ(r20:Bool×Unit) w21=>
 cond (!r20.1)
 (CallV Tryz.prog 120 #[.slice a2 n2 c2,.int .i64 z15.1] w21 [.one .bool] λ(r22:Bool×Unit) w23=>
 cond r22.1
 (cond p3
 (cond (!(z15.1 == z8.1))
 (DrawV λD24=>
 8≠(0:Int)/\Rng .i64 (Int.tdiv z15.1 8) /\
 8≠(0:Int)/\Rng .i64 (Int.tdiv z15.1 8) /\
 (0<=(Int.tdiv z15.1 8)/\(Int.tdiv z15.1 8)<((n4:Nat):Int))/\∃ q25:Addr,a3=some q25 /\
 8≠(0:Int) /\
 ((LoadS w23.drew (q25.add ((Int.tdiv z15.1 8).toNat*1)) (.int .u8) λ(x26:Int)=>
 KeepOn D24 w23.drew w23.drew /\
 CallV Tryz.prog 121 #[.int .i64 (Int.tmod z15.1 8)] w23.drew [.one (.int .i64)] λ(r27:Int×Unit) w28=>
 KeepOn D24 w23.drew w28 /\
 (0<=(Int.tdiv z15.1 8)/\(Int.tdiv z15.1 8)<((n4:Nat):Int))/\∃ q29:Addr,a3=some q29 /\
 StoreV w28 (q29.add ((Int.tdiv z15.1 8).toNat*1)) [.int .u8 (IntKind.u8.wrap (x26-(IntKind.u8.wrap r27.1)))] λw30=>
 KeepOn D24 w23.drew w30 /\
 Rng .i64 (z15.1+1) /\
 K17 (z15.1+1,()) w30) /\
 (CallV Tryz.prog 121 #[.int .i64 (Int.tmod z15.1 8)] w23.drew [.one (.int .i64)] λ(r31:Int×Unit) w32=>
 KeepOn D24 w23.drew w32 /\
 LoadS w32 (q25.add ((Int.tdiv z15.1 8).toNat*1)) (.int .u8) λ(x33:Int)=>
 KeepOn D24 w23.drew w32 /\
 (0<=(Int.tdiv z15.1 8)/\(Int.tdiv z15.1 8)<((n4:Nat):Int))/\∃ q34:Addr,a3=some q34 /\
 StoreV w32 (q34.add ((Int.tdiv z15.1 8).toNat*1)) [.int .u8 (IntKind.u8.wrap (x33-(IntKind.u8.wrap r31.1)))] λw35=>
 KeepOn D24 w23.drew w35 /\
 Rng .i64 (z15.1+1) /\
 K17 (z15.1+1,()) w35)))
 (Rng .i64 (z15.1+1) /\
 K17 (z15.1+1,()) w23))
 (DrawV λD36=>
 8≠(0:Int)/\Rng .i64 (Int.tdiv z15.1 8) /\
 8≠(0:Int)/\Rng .i64 (Int.tdiv z15.1 8) /\
 (0<=(Int.tdiv z15.1 8)/\(Int.tdiv z15.1 8)<((n4:Nat):Int))/\∃ q37:Addr,a3=some q37 /\
 8≠(0:Int) /\
 ((LoadS w23.drew (q37.add ((Int.tdiv z15.1 8).toNat*1)) (.int .u8) λ(x38:Int)=>
 KeepOn D36 w23.drew w23.drew /\
 CallV Tryz.prog 121 #[.int .i64 (Int.tmod z15.1 8)] w23.drew [.one (.int .i64)] λ(r39:Int×Unit) w40=>
 KeepOn D36 w23.drew w40 /\
 (0<=(Int.tdiv z15.1 8)/\(Int.tdiv z15.1 8)<((n4:Nat):Int))/\∃ q41:Addr,a3=some q41 /\
 StoreV w40 (q41.add ((Int.tdiv z15.1 8).toNat*1)) [.int .u8 (IntKind.u8.wrap (x38-(IntKind.u8.wrap r39.1)))] λw42=>
 KeepOn D36 w23.drew w42 /\
 Rng .i64 (z15.1+1) /\
 K17 (z15.1+1,()) w42) /\
 (CallV Tryz.prog 121 #[.int .i64 (Int.tmod z15.1 8)] w23.drew [.one (.int .i64)] λ(r43:Int×Unit) w44=>
 KeepOn D36 w23.drew w44 /\
 LoadS w44 (q37.add ((Int.tdiv z15.1 8).toNat*1)) (.int .u8) λ(x45:Int)=>
 KeepOn D36 w23.drew w44 /\
 (0<=(Int.tdiv z15.1 8)/\(Int.tdiv z15.1 8)<((n4:Nat):Int))/\∃ q46:Addr,a3=some q46 /\
 StoreV w44 (q46.add ((Int.tdiv z15.1 8).toNat*1)) [.int .u8 (IntKind.u8.wrap (x45-(IntKind.u8.wrap r43.1)))] λw47=>
 KeepOn D36 w23.drew w47 /\
 Rng .i64 (z15.1+1) /\
 K17 (z15.1+1,()) w47))))
 (Rng .i64 (z15.1+1) /\
 K17 (z15.1+1,()) w23))
 (Rng .i64 (z15.1+1) /\
 K17 (z15.1+1,()) w21))
 (Rng .i64 (z15.1+1) /\
 K17 (z15.1+1,()) w19))
 (K ((⟨a3,n4,c5⟩:SlV),()) w16))
theorem ref12_Program.vc (a0:Option Addr) (n0 c0:Nat) (a1:Option Addr) (n1 c1:Nat) (a2:Option Addr) (n2 c2:Nat) (p3:Bool) (w:World) (K:SlV×Unit->World->Prop) (h:ref12_Program.P a0 n0 c0 a1 n1 c1 a2 n2 c2 p3 w K):CallV Tryz.prog 91 #[.slice a0 n0 c0,.slice a1 n1 c1,.slice a2 n2 c2,.bool p3] w [.one .sl] K:=by
 refine vcFun.of (A:=ref12_Program.A) (wr:=false) okf_ok follows h Tryz.func91 ?_
 kernel_rfl
end Go.Proofs.YtcekmdehjnlkpaaGreat.Vc
namespace Go.Proofs.YtcekmdehjnlkpaaGreat.Vc
open Go Go.Eng Go.RowKit
theorem DrawV.none' {body:(Nat->Prop)->Prop} (h:∀ D:Nat->Prop,(∀ w w',KeepOn D w w')->body D):DrawV body:=⟨λ_=>False,h _ λ_ _ _ hk=>hk.elim⟩
theorem flip_at {w:World} {B:Nat} {a:Option Addr} {n c:Nat} {xs:List Int} {i:Nat} {X:Int} {K:World->Prop} (ho:Own w B 5 1 a n c (xs.map (Value.int .u8))) (hi:i<8*n) (hX:X=xor8 (xs.getD (i / 8) 0) (2 ^ (i % 8)))
  (hk:∀ w',Own w' B 5 1 a n c ((flip1 xs i).map (Value.int .u8))->Below B w w'->K w') :
  (0<=((i / 8:Nat):Int)/\((i / 8:Nat):Int)<((n:Nat):Int))/\∃ q,a=some q/\StoreV w (q.add ((((i / 8:Nat):Int)).toNat*1)) [.int .u8 X] K:=by
 refine ho.store (by omega) (by omega) rfl λw2 ho2 hb2 _ _=>hk w2 ?_ hb2
 rw [Int.toNat_natCast] at ho2
 unfold flip1
 rw [List.map_set,<- hX]
 exact ho2
theorem load_at {w:World} {B:Nat} {a:Option Addr} {n c:Nat} {xs:List Int} {i:Nat} (ho:Own w B 5 1 a n c (xs.map (Value.int .u8))) (hi:i<8*n) :
  ∃ q,a=some q/\∀ {K:Int->Prop},K (xs.getD (i / 8) 0)->LoadS w (q.add ((((i / 8:Nat):Int)).toNat*1)) (.int .u8) K:=by
 obtain ⟨q,h1,_,h3⟩:=ho.ints.at (i:=((i / 8:Nat):Int)) (by omega) (by omega)
 rw [Int.toNat_natCast (i / 8)] at h3
 refine ⟨q,h1,λ{K} hk=>⟨_,?_,hk⟩⟩
 rw [Int.toNat_natCast]
 exact h3
theorem tflip {x:Int} (hx:0<=x/\x<256) {j:Nat} (hj:j<8):Go.bits .xor .u8 x (IntKind.u8.wrap ((1:Int)*(2 ^ (Nat.min j 8))))=xor8 x (2 ^ j):=by
 have:=f2_0 ⟨j,hj⟩
 dsimp only at this
 rw [this]
 rfl
theorem turned2 {w7:World} {a0:Option Addr} {n0 c0 b1 b3 b5:Nat} {xs:List Int} {F:Nat->Bool} {K:SlV×Unit->World->Prop} (hx:Ints w7 .u8 a0 n0 c0 xs) (bx:Byt xs) (hn:n0<=100000)
  (hcall:∀ (w':World) (i:Nat),Ext w7 w'->i<8*n0->CallV Tryz.prog 140 #[.int .i64 (i:Int),.pointer (some ⟨b5,0,none⟩),.pointer (some ⟨b1,0,none⟩),.pointer (some ⟨b3,0,none⟩)] w' [.one .bool] λr w2=>r.1=F i/\w2=w')
  (hK:∀ (s:SlV) (w':World),Ext w7 w'->Own w' w7.heap.size 5 1 s.a s.n s.c ((turn xs F (8*n0)).map (Value.int .u8))->K (s,()) w') :
 NewV #[] 5 w7 λb33 w34=>
 AppS w34 a0 n0 1 λns39=>
 AppV w34 5 1 1 (some ⟨b33,0,none⟩) 0 0 ns39 n0 λa35 n36 c37 w38=>
 Rng .i64 ((8:Int)*((n36:Nat):Int)) /\
 LoopV [.one (.int .i64)] ((0:Int),()) w38 λ(z40:Int×Unit) w41 (K42:Int×Unit->World->Prop)=>
 cond (decide (z40.1<((8:Int)*((n36:Nat):Int))))
 (CallV Tryz.prog 140 #[.int .i64 z40.1,.pointer (some ⟨b5,0,none⟩),.pointer (some ⟨b1,0,none⟩),.pointer (some ⟨b3,0,none⟩)] w41 [.one .bool] λ(r43:Bool×Unit) w44=>
 cond r43.1
 (DrawV λD45=>
 8≠(0:Int)/\Rng .i64 (Int.tdiv z40.1 8) /\
 (0<=(Int.tdiv z40.1 8)/\(Int.tdiv z40.1 8)<((n36:Nat):Int))/\∃ q46:Addr,a35=some q46 /\
 8≠(0:Int) /\
 (0:Int)<=(Int.tmod z40.1 8) /\
 LoadS w44.drew (q46.add ((Int.tdiv z40.1 8).toNat*1)) (.int .u8) λ(x47:Int)=>
 KeepOn D45 w44.drew w44.drew /\
 (0<=(Int.tdiv z40.1 8)/\(Int.tdiv z40.1 8)<((n36:Nat):Int))/\∃ q48:Addr,a35=some q48 /\
 StoreV w44.drew (q48.add ((Int.tdiv z40.1 8).toNat*1)) [.int .u8 (Go.bits .xor .u8 x47 (IntKind.u8.wrap ((1:Int)*(2 ^ (Nat.min ((Int.tmod z40.1 8)).toNat 8)))))] λw49=>
 KeepOn D45 w44.drew w49 /\
 Rng .i64 (z40.1+1) /\
 K42 (z40.1+1,()) w49)
 (Rng .i64 (z40.1+1) /\
 K42 (z40.1+1,()) w44))
 (K ((⟨a35,n36,c37⟩:SlV),()) w41):=by
 have lx:=hx.len
 refine newU λb1 w1 e1 o1=>?_
 refine appU (xs:=[]) o1 (hx.ext e1) e1.size (by omega) λa2 c2 w2 o2 b2=>?_
 have e2:Ext w7 w2:=Below.trans e1 b2
 rw [Nat.zero_add] at o2 ⊢
 rw [List.nil_append] at o2
 refine ⟨Rng.i64 (by omega) (by omega),?_⟩
 refine Loop1 (λ(y:Int×Unit) w'=>∃ i:Nat,y.1=(i:Int)/\i<=8*n0/\Ext w7 w'/\Own w' w7.heap.size 5 1 a2 n0 c2 ((turn xs F i).map (Value.int .u8)))
  (λ(y:Int×Unit) _=>(8*(n0:Int)-y.1).toNat) ⟨0,rfl,by omega,e2,o2⟩ ?_
 rintro ⟨(y:Int),⟨⟩⟩ w3 ⟨i,hy,hi,e3,o3⟩
 dsimp only at hy ⊢
 subst hy
 refine cond_d (λhlt=>?_) (λhge=>?_)
 ·have hlt':i<8*n0:=by omega
  refine (hcall w3 i e3 hlt').mono ?_
  rintro ⟨(r4:Bool),⟨⟩⟩ w4 ⟨h4,rfl⟩
  dsimp only at h4 ⊢
  subst h4
  refine cond_of (λhF=>?_) (λhF=>?_)
  ·refine DrawV.none' λD hkeep=>?_
   rw [tdiv8,tmod8]
   have o4:=o3.ext (Ext.drew w4)
   obtain ⟨q,hq,hload⟩:=load_at o4 hlt'
   refine ⟨by omega,Rng.i64 (by omega) (by omega),by omega,q,hq,by omega,by omega,hload ⟨hkeep _ _,?_⟩⟩
   rw [Int.toNat_natCast (i % 8)]
   refine flip_at o4 hlt' (tflip ((turn_byt bx F i).getD _) (mod8 i)) λw5 o5 b5=>?_
   refine ⟨hkeep _ _,Rng.i64 (by omega) (by omega),⟨i+1,by push_cast;rfl,by omega,Below.trans (e3.trans (Ext.drew w4)) b5,?_⟩,by omega⟩
   unfold turn
   rw [if_pos hF]
   exact o5
  ·refine ⟨Rng.i64 (by omega) (by omega),⟨i+1,by push_cast;rfl,by omega,e3,?_⟩,by omega⟩
   unfold turn
   rw [if_neg (by rw [hF];simp)]
   exact o3
 ·have:i=8*n0:=by omega
  subst this
  exact hK _ _ e3 o3
def neZ (i:Nat) (z:Int):Bool:=!decide ((i:Int)=z)
def turnF (ys ms:List Int) (last:Int) (i:Nat):Bool:=neZ i last && (hasL ys i && mBit ms i)
theorem turned1_c {w:World} {b1 b3 b5 B1 B3 B5:Nat} {t1 t3 t5:TypeId} {a1 a2:Option Addr} {n1 c1 n2 c2:Nat} {ys ms:List Int} {last:Int} (h5:Box w B5 b5 t5 [.int .i64 last]) (h1:Box w B1 b1 t1 [.slice a1 n1 c1]) (h3:Box w B3 b3 t3 [.slice a2 n2 c2])
  (hy:Ints w .u8 a1 n1 c1 ys) (by':Byt ys) (hm:Ints w .u8 a2 n2 c2 ms) (bm:Byt ms) {i:Nat} (hi:i<8*n1) (hn:n1<=100000) :
  CallV Tryz.prog 140 #[.int .i64 (i:Int),.pointer (some ⟨b5,0,none⟩),.pointer (some ⟨b1,0,none⟩),.pointer (some ⟨b3,0,none⟩)] w [.one .bool] λr w2=>r.1=turnF ys ms last i/\w2=w:=by
 refine fault_turned_1.vc _ _ _ _ _ _ ?_
 unfold fault_turned_1.P
 refine h5.ld (i:=0) (h:=.int .i64) (x:=last) rfl ?_
 unfold turnF neZ
 refine cond_ne (λhne=>?_) (λheq=>⟨by rw [decide_eq_true heq];rfl,rfl⟩)
 rw [decide_eq_false hne]
 refine h1.ld (i:=0) (h:=.sl) (x:=(⟨a1,n1,c1⟩:SlV)) rfl ?_
 rw [tdiv8,tmod8]
 refine ⟨by omega,Rng.i64 (by omega) (by omega),?_⟩
 refine hy.idx (by omega) (by omega) ?_
 rw [Int.toNat_natCast,Int.toNat_natCast]
 refine ⟨by omega,by omega,?_⟩
 rw [f1 (by'.getD _) (mod8 i)]
 refine cond_of (λhb=>?_) (λhb=>⟨?_,rfl⟩)
 ·refine h3.ld (i:=0) (h:=.sl) (x:=(⟨a2,n2,c2⟩:SlV)) rfl ?_
  refine (Bit_c hm bm (by omega)).mono ?_
  rintro ⟨(r4:Bool),⟨⟩⟩ w4 ⟨h4,rfl⟩
  refine ⟨?_,rfl⟩
  dsimp only at h4 ⊢
  rw [h4,mBitZ_nat]
  unfold hasL
  rw [hb]
  rfl
 ·show false=_
  unfold hasL
  rw [hb]
  rfl
theorem turned_c {w:World} {a0 a1 a2:Option Addr} {n c0 c1 n2 c2:Nat} {xs ys ms:List Int} {keep:Bool} (hx:Ints w .u8 a0 n c0 xs) (bx:Byt xs) (hy:Ints w .u8 a1 n c1 ys) (by':Byt ys) (hm:Ints w .u8 a2 n2 c2 ms) (bm:Byt ms) (hn:n<=100000) :
  CallV Tryz.prog 122 #[.slice a0 n c0,.slice a1 n c1,.slice a2 n2 c2,.bool keep] w [.one .sl] λr w'=>Res w w' r.1 (turn xs (turnF ys ms (if keep then lastOf (hasL ys) (8*n) else -1)) (8*n)):=by
 refine fault_turned.vc _ _ _ _ _ _ _ _ _ _ _ _ ?_
 unfold fault_turned.P
 refine newBox (vs:=[.slice a1 n c1]) λb1 w1 e1 hb1=>?_
 refine newBox (vs:=[.slice a2 n2 c2]) λb3 w2 e2 hb3=>?_
 refine newBox (vs:=[.int .i64 0]) λb5 w3 e3 hb5=>?_
 refine hb5.store 0 (by simp) λw4 hb5' bel4 _ _=>?_
 have i1:=hb1.ext e2
 have e4:Ext w2 w4:=Below.trans e3 bel4
 have E2:=e1.trans e2
 have fin:∀ (w7:World) (last:Int),Ext w2 w7->Box w7 w2.heap.size b5 3 [.int .i64 last]->(last=if keep then lastOf (hasL ys) (8*n) else -1) ->
   ∀ (w':World) (i:Nat),Ext w7 w'->i<8*n->CallV Tryz.prog 140 #[.int .i64 (i:Int),.pointer (some ⟨b5,0,none⟩),.pointer (some ⟨b1,0,none⟩),.pointer (some ⟨b3,0,none⟩)] w' [.one .bool] λr w2=>r.1=turnF ys ms (if keep then lastOf (hasL ys) (8*n) else -1) i/\w2=w':=by
  intro w7 last e7 h7 hlast w' i e8 hi
  rw [<-hlast]
  exact turned1_c (h7.ext e8) (i1.ext (e7.trans e8)) (hb3.ext (e7.trans e8)) (hy.ext (E2.trans (e7.trans e8))) by' (hm.ext (E2.trans (e7.trans e8))) bm hi hn
 refine cond_of (λhk=>?_) (λhk=>?_)
 ·refine (i1.ext e4).ld (i:=0) (h:=.sl) (x:=(⟨a1,n,c1⟩:SlV)) rfl ?_
  dsimp only
  refine ⟨Rng.i64 (by omega) (by omega),?_⟩
  refine Loop1 (λ(y:Int×Unit) w'=>∃ i:Nat,y.1=(i:Int)/\i<=8*n/\Ext w2 w'/\Box w' w2.heap.size b5 3 [.int .i64 (lastOf (hasL ys) i)])
   (λ(y:Int×Unit) _=>(8*(n:Int)-y.1).toNat) ⟨0,rfl,by omega,e4,hb5'⟩ ?_
  rintro ⟨(y:Int),⟨⟩⟩ w5 ⟨i,hy',hi,e5,h5⟩
  dsimp only at hy' ⊢
  subst hy'
  refine cond_d (λhlt=>?_) (λhge=>?_)
  ·refine (i1.ext e5).ld (i:=0) (h:=.sl) (x:=(⟨a1,n,c1⟩:SlV)) rfl ?_
   rw [tdiv8,tmod8]
   refine ⟨by omega,Rng.i64 (by omega) (by omega),?_⟩
   refine (hy.ext (E2.trans e5)).idx (by omega) (by omega) ?_
   rw [Int.toNat_natCast,Int.toNat_natCast]
   refine ⟨by omega,by omega,?_⟩
   rw [f1 (by'.getD _) (mod8 i)]
   refine cond_of (λhb=>?_) (λhb=>?_)
   ·refine h5.store 0 (by simp) λw6 h6 bel6 _ _=>?_
    refine ⟨Rng.i64 (by omega) (by omega),⟨i+1,by push_cast;rfl,by omega,Below.trans e5 bel6,?_⟩,by omega⟩
    have:lastOf (hasL ys) (i+1)=(i:Int):=by unfold lastOf;rw [if_pos (show hasL ys i=true from hb)]
    rw [this]
    exact h6
   ·refine ⟨Rng.i64 (by omega) (by omega),⟨i+1,by push_cast;rfl,by omega,e5,?_⟩,by omega⟩
    have:lastOf (hasL ys) (i+1)=lastOf (hasL ys) i:=by
     show (if hasL ys i=true then (i:Int) else lastOf (hasL ys) i)=_
     rw [if_neg (by rw [show hasL ys i=false from hb];simp)]
    rw [this]
    exact h5
  ·have:i=8*n:=by omega
   subst this
   refine turned2 (K:=λs w'=>Res w w' s.1 (turn xs (turnF ys ms (if keep then lastOf (hasL ys) (8*n) else -1)) (8*n))) (F:=turnF ys ms (if keep then lastOf (hasL ys) (8*n) else -1)) (hx.ext (E2.trans e5)) bx hn (fin w5 _ e5 h5 (by rw [if_pos hk])) λs w' e o=>?_
   exact ⟨E2.trans (e5.trans e),o.mono (E2.trans e5).size⟩
 ·refine turned2 (K:=λs w'=>Res w w' s.1 (turn xs (turnF ys ms (if keep then lastOf (hasL ys) (8*n) else -1)) (8*n))) (F:=turnF ys ms (if keep then lastOf (hasL ys) (8*n) else -1)) (hx.ext (E2.trans e4)) bx hn (fin w4 _ e4 hb5' (by rw [hk];rfl)) λs w' e o=>?_
  exact ⟨E2.trans (e4.trans e),o.mono (E2.trans e4).size⟩
theorem round12 {w:World} {B:Nat} {a:Option Addr} {n c:Nat} {xs:List Int} {i:Nat} (G:Int->Int->Int) (Q:World->Prop) (ho:Own w B 5 1 a n c (xs.map (Value.int .u8))) (hi:i<8*n) (hn:n<=100000)
  (hG:G (xs.getD (i / 8) 0) (2 ^ (i % 8))=xor8 (xs.getD (i / 8) 0) (2 ^ (i % 8)))
  (hk:∀ w',Own w' B 5 1 a n c ((flip1 xs i).map (Value.int .u8))->Below B w w'->Q w') (hB:B<=w.heap.size) :
 DrawV λD15=>
 8≠(0:Int)/\Rng .i64 (Int.tdiv (i:Int) 8) /\
 8≠(0:Int)/\Rng .i64 (Int.tdiv (i:Int) 8) /\
 (0<=(Int.tdiv (i:Int) 8)/\(Int.tdiv (i:Int) 8)<((n:Nat):Int))/\∃ q16:Addr,a=some q16 /\
 8≠(0:Int) /\
 ((LoadS w.drew (q16.add ((Int.tdiv (i:Int) 8).toNat*1)) (.int .u8) λ(x17:Int)=>
 KeepOn D15 w.drew w.drew /\
 CallV Tryz.prog 121 #[.int .i64 (Int.tmod (i:Int) 8)] w.drew [.one (.int .i64)] λ(r18:Int×Unit) w19=>
 KeepOn D15 w.drew w19 /\
 (0<=(Int.tdiv (i:Int) 8)/\(Int.tdiv (i:Int) 8)<((n:Nat):Int))/\∃ q20:Addr,a=some q20 /\
 StoreV w19 (q20.add ((Int.tdiv (i:Int) 8).toNat*1)) [.int .u8 (G x17 r18.1)] λw21=>
 KeepOn D15 w.drew w21 /\
 Q w21) /\
 (CallV Tryz.prog 121 #[.int .i64 (Int.tmod (i:Int) 8)] w.drew [.one (.int .i64)] λ(r22:Int×Unit) w23=>
 KeepOn D15 w.drew w23 /\
 LoadS w23 (q16.add ((Int.tdiv (i:Int) 8).toNat*1)) (.int .u8) λ(x24:Int)=>
 KeepOn D15 w.drew w23 /\
 (0<=(Int.tdiv (i:Int) 8)/\(Int.tdiv (i:Int) 8)<((n:Nat):Int))/\∃ q25:Addr,a=some q25 /\
 StoreV w23 (q25.add ((Int.tdiv (i:Int) 8).toNat*1)) [.int .u8 (G x24 r22.1)] λw26=>
 KeepOn D15 w.drew w26 /\
 Q w26)):=by
 refine DrawV.none' λD hkeep=>?_
 rw [tdiv8,tmod8]
 have o4:=ho.ext (Ext.drew w)
 obtain ⟨q,hq,hload⟩:=load_at o4 hi
 have dB:Below B w w.drew:=Below.drew (Below.refl _ _)
 refine ⟨by omega,Rng.i64 (by omega) (by omega),by omega,Rng.i64 (by omega) (by omega),by omega,q,hq,by omega,?_,?_⟩
 ·refine hload ⟨hkeep _ _,?_⟩
  refine (power_c (mod8 i)).mono ?_
  rintro ⟨(p:Int),⟨⟩⟩ w' ⟨hp,rfl⟩
  dsimp only at hp ⊢
  subst hp
  refine ⟨hkeep _ _,?_⟩
  rw [hG]
  exact flip_at o4 hi rfl λw5 o5 b5=>⟨hkeep _ _,hk _ o5 (Below.trans dB b5)⟩
 ·refine (power_c (mod8 i)).mono ?_
  rintro ⟨(p:Int),⟨⟩⟩ w' ⟨hp,rfl⟩
  dsimp only at hp ⊢
  subst hp
  refine ⟨hkeep _ _,hload ⟨hkeep _ _,?_⟩⟩
  rw [hG]
  exact flip_at o4 hi rfl λw5 o5 b5=>⟨hkeep _ _,hk _ o5 (Below.trans dB b5)⟩
def erF (xs ms:List Int) (i:Nat):Bool:=!hasL xs i && mBit ms i
def prC (xs ys:List Int) (i:Nat):Bool:=hasL xs i && !hasL ys i
def prF (xs ys ms:List Int) (fails:Bool) (n:Nat) (i:Nat):Bool:=prC xs ys i && (mBit ms i && !(fails && decide ((i:Int)=lastOf (prC xs ys) (8*n))))
theorem Program_c {w:World} {a0 a1 a2:Option Addr} {n c0 c1 n2 c2:Nat} {xs ys ms:List Int} {fails:Bool} (hx:Ints w .u8 a0 n c0 xs) (bx:Byt xs) (hy:Ints w .u8 a1 n c1 ys) (by':Byt ys) (hm:Ints w .u8 a2 n2 c2 ms) (bm:Byt ms) (hn:n<=100000) :
  CallV Tryz.prog 91 #[.slice a0 n c0,.slice a1 n c1,.slice a2 n2 c2,.bool fails] w [.one .sl] λr w'=>Res w w' r.1 (turn xs (prF xs ys ms fails n) (8*n)):=by
 refine ref12_Program.vc _ _ _ _ _ _ _ _ _ _ _ _ ?_
 unfold ref12_Program.P
 have lx:=hx.len
 refine newU λb1 w1 e1 o1=>?_
 refine appU (xs:=[]) o1 (hx.ext e1) e1.size (by omega) λa3 c3 w2 o2 b2=>?_
 have e2:Ext w w2:=Below.trans e1 b2
 rw [Nat.zero_add] at o2 ⊢
 rw [List.nil_append] at o2
 refine Loop1 (λ(y:Int×Int×Unit) w'=>∃ i:Nat,y.2.1=(i:Int)/\i<=8*n/\y.1=lastOf (prC xs ys) i/\Ext w2 w') (λ(y:Int×Int×Unit) _=>(8*(n:Int)-y.2.1).toNat) ⟨0,rfl,by omega,rfl,Ext.refl _⟩ ?_
 rintro ⟨(lst:Int),(y:Int),⟨⟩⟩ w3 ⟨i,hyi,hi,hl,e3⟩
 dsimp only at hyi hl ⊢
 subst hyi
 refine ⟨Rng.i64 (by omega) (by omega),cond_d (λhlt=>?_) (λhge=>?_)⟩
 ·have hlt':i<8*n:=by omega
  have next:∀ {w':World} {z:Int},Ext w3 w'->z=(if prC xs ys i=true then (i:Int) else lastOf (prC xs ys) i)->(∃ j:Nat,(i:Int)+1=(j:Int)/\j<=8*n/\z=lastOf (prC xs ys) j/\Ext w2 w'):=λe hz=>
   ⟨i+1,by push_cast;rfl,by omega,hz,e3.trans e⟩
  refine (Has_c (hx.ext (e2.trans e3)) bx hlt' hn).mono ?_
  rintro ⟨(r4:Bool),⟨⟩⟩ w4 ⟨h4,e4⟩
  dsimp only at h4 ⊢
  refine cond_of (λhh=>?_) (λhh=>⟨Rng.i64 (by omega) (by omega),next e4 (by unfold prC;rw [<-h4,hh,hl];rfl),by omega⟩)
  refine (Has_c (hy.ext (e2.trans (e3.trans e4))) by' hlt' hn).mono ?_
  rintro ⟨(r5:Bool),⟨⟩⟩ w5 ⟨h5,e5⟩
  dsimp only at h5 ⊢
  refine cond_of (λh6=>⟨Rng.i64 (by omega) (by omega),next (e4.trans e5) (by unfold prC;rw [<-h4,<- h5,hh,h6];rfl),by omega⟩) (λh6=>⟨Rng.i64 (by omega) (by omega),next (e4.trans e5) (by unfold prC;rw [<-h4,<- h5,hh,h6,hl];rfl),by omega⟩)
 have hi8:i=8*n:=by omega
 subst hi8
 refine Loop1 (λ(y:Int×Unit) w'=>∃ i:Nat,y.1=(i:Int)/\i<=8*n/\Ext w w'/\Own w' w.heap.size 5 1 a3 n c3 ((turn xs (prF xs ys ms fails n) i).map (Value.int .u8)))
  (λ(y:Int×Unit) _=>(8*(n:Int)-y.1).toNat) ⟨0,rfl,by omega,e2.trans e3,o2.ext e3⟩ ?_
 rintro ⟨(y:Int),⟨⟩⟩ w4 ⟨i,hyi,hi,e4,o4⟩
 dsimp only at hyi ⊢
 subst hyi
 refine ⟨Rng.i64 (by omega) (by omega),cond_d (λhlt=>?_) (λhge=>?_)⟩
 ·have hlt':i<8*n:=by omega
  have skip:∀ {w':World},Ext w4 w'->prF xs ys ms fails n i=false->(∃ j:Nat,(i:Int)+1=(j:Int)/\j<=8*n/\Ext w w'/\Own w' w.heap.size 5 1 a3 n c3 ((turn xs (prF xs ys ms fails n) j).map (Value.int .u8))):=λe hF=>by
   refine ⟨i+1,by push_cast;rfl,by omega,e4.trans e,?_⟩
   unfold turn
   rw [if_neg (by rw [hF];simp)]
   exact o4.ext e
  refine (Has_c (hx.ext e4) bx hlt' hn).mono ?_
  rintro ⟨(r5:Bool),⟨⟩⟩ w5 ⟨h5,e5⟩
  dsimp only at h5 ⊢
  refine cond_of (λh5t=>?_) (λh5t=>⟨Rng.i64 (by omega) (by omega),skip e5 (by unfold prF prC;rw [<-h5,h5t];rfl),by omega⟩)
  refine (Has_c (hy.ext (e4.trans e5)) by' hlt' hn).mono ?_
  rintro ⟨(r6:Bool),⟨⟩⟩ w6 ⟨h6,e6⟩
  dsimp only at h6 ⊢
  refine cond_of (λh6t=>?_) (λh6t=>⟨Rng.i64 (by omega) (by omega),skip (e5.trans e6) (by unfold prF prC;rw [<-h6,h6t];simp),by omega⟩)
  have hC:prC xs ys i=true:=by unfold prC;rw [<-h5,<- h6,h5t,h6t];rfl
  refine (rBit_c (hm.ext (e4.trans (e5.trans e6))) bm (by omega)).mono ?_
  rintro ⟨(r7:Bool),⟨⟩⟩ w7 ⟨h7,e7⟩
  dsimp only at h7 ⊢
  rw [mBitZ_nat] at h7
  have E7:=e5.trans (e6.trans e7)
  refine cond_of (λh7t=>?_) (λh7t=>⟨Rng.i64 (by omega) (by omega),skip E7 (by unfold prF;rw [<-h7,h7t,hC];rfl),by omega⟩)
  have tl:=turn_length xs (prF xs ys ms fails n) i
  have hbit:bitB ((turn xs (prF xs ys ms fails n) i).getD (i / 8) 0) (i % 8)=true:=by
   have:=hasL_turn bx (prF xs ys ms fails n) (i:=i) (by omega) i (by omega)
   rw [if_neg (by omega),<- h5,h5t] at this
   exact this
  have go:prF xs ys ms fails n i=true->∀ (Q:World->Prop),(∀ w',(∃ j:Nat,(i:Int)+1=(j:Int)/\j<=8*n/\Ext w w'/\Own w' w.heap.size 5 1 a3 n c3 ((turn xs (prF xs ys ms fails n) j).map (Value.int .u8)))->Q w')->_:=λhF Q hQ=>
   round12 (λx r=>IntKind.u8.wrap (x-(IntKind.u8.wrap r))) Q (o4.ext E7) hlt' hn (f3 ((turn_byt bx _ i).getD _) (mod8 i) hbit) (λw8 o8 b8=>hQ _ (by
    refine ⟨i+1,by push_cast;rfl,by omega,Below.trans (e4.trans E7) b8,?_⟩
    unfold turn
    rw [if_pos hF]
    exact o8)) (e4.trans E7).size
  refine cond_of (λhf=>?_) (λhf=>?_)
  ·by_cases hlast:(i:Int)=lst
   ·refine cond_f (by rw [hlast];simp) ⟨Rng.i64 (by omega) (by omega),skip E7 (by unfold prF;rw [<-hl,decide_eq_true hlast,hf];simp),by omega⟩
   ·refine cond_t (by simpa using hlast) ?_
    exact go (by unfold prF;rw [hC,<- h7,h7t,<- hl,decide_eq_false hlast];simp) _ λw' h=>⟨Rng.i64 (by omega) (by omega),h,by omega⟩
  ·exact go (by unfold prF;rw [hC,<- h7,h7t,hf];simp) _ λw' h=>⟨Rng.i64 (by omega) (by omega),h,by omega⟩
 ·have:i=8*n:=by omega
  subst this
  exact ⟨e4,o4⟩
theorem turnF_clr {xs ys ms:List Int} (bx:Byt xs) (by':Byt ys) {n:Nat} (hl:xs.length=n) (keep:Bool) {i:Nat} (hi:i<8*n) :
  turnF (clrL xs ys) ms (if keep then lastOf (hasL (clrL xs ys)) (8*n) else -1) i=prF xs ys ms keep n i:=by
 have hc:∀ j,j<8*n->hasL (clrL xs ys) j=prC xs ys j:=λj hj=>hasL_clr bx by' (by omega)
 have hlast:lastOf (hasL (clrL xs ys)) (8*n)=lastOf (prC xs ys) (8*n):=lastOf_congr hc
 unfold turnF prF neZ
 rw [hc i hi,hlast]
 cases keep
 ·rw [if_neg (by simp),decide_eq_false (by omega:¬ ((i:Int)=-1))]
  cases prC xs ys i <;> cases mBit ms i <;> rfl
 ·rw [if_pos rfl]
  cases prC xs ys i <;> cases mBit ms i <;> cases decide ((i:Int)=lastOf (prC xs ys) (8*n)) <;> rfl
theorem Clear_c {w:World} {a0 a1 a2:Option Addr} {n c0 c1 n2 c2:Nat} {xs ys ms:List Int} (hx:Ints w .u8 a0 n c0 xs) (bx:Byt xs) (hy:Ints w .u8 a1 n c1 ys) (by':Byt ys) (hm:Ints w .u8 a2 n2 c2 ms) (bm:Byt ms) (hn:n<=100000) :
  CallV Tryz.prog 97 #[.slice a0 n c0,.slice a1 n c1,.slice a2 n2 c2] w [.one .sl,.one (.int .i64)] λr w'=>Res w w' r.1 (turn xs (prF xs ys ms false n) (8*n))/\r.2.1=(0:Int):=by
 refine fault_Clear.vc _ _ _ _ _ _ _ _ _ _ _ ?_
 unfold fault_Clear.P
 refine cond_ne (λh=>absurd rfl h) (λ_=>?_)
 refine (cleared_c hx hy hn).mono ?_
 rintro ⟨⟨sa,sn,sc⟩,⟨⟩⟩ w1 h1
 have l1:=h1.ints.len
 rw [clrL_length,hx.len] at l1
 dsimp only at l1 ⊢
 subst l1
 refine (turned_c (keep:=false) (hx.ext h1.ext) bx h1.ints (clrL_byt xs ys) (hm.ext h1.ext) bm hn).mono ?_
 rintro ⟨(s2:SlV),⟨⟩⟩ w2 h2
 dsimp only at h2 ⊢
 rw [turn_congr (λi hi=>turnF_clr bx by' hx.len false hi)] at h2
 exact ⟨h2.after h1.ext,rfl⟩
theorem Fail_c {w:World} {a0 a1 a2:Option Addr} {n c0 c1 n2 c2:Nat} {xs ys ms:List Int} (hx:Ints w .u8 a0 n c0 xs) (bx:Byt xs) (hy:Ints w .u8 a1 n c1 ys) (by':Byt ys) (hm:Ints w .u8 a2 n2 c2 ms) (bm:Byt ms) (hn:n<=100000) :
  CallV Tryz.prog 99 #[.slice a0 n c0,.slice a1 n c1,.slice a2 n2 c2] w [.one .sl,.one (.int .i64)] λr w'=>Res w w' r.1 (turn xs (prF xs ys ms true n) (8*n))/\r.2.1=(0:Int):=by
 refine fault_Fail.vc _ _ _ _ _ _ _ _ _ _ _ ?_
 unfold fault_Fail.P
 refine cond_ne (λh=>absurd rfl h) (λ_=>?_)
 refine (cleared_c hx hy hn).mono ?_
 rintro ⟨⟨sa,sn,sc⟩,⟨⟩⟩ w1 h1
 have l1:=h1.ints.len
 rw [clrL_length,hx.len] at l1
 dsimp only at l1 ⊢
 subst l1
 refine (turned_c (keep:=true) (hx.ext h1.ext) bx h1.ints (clrL_byt xs ys) (hm.ext h1.ext) bm hn).mono ?_
 rintro ⟨(s2:SlV),⟨⟩⟩ w2 h2
 dsimp only at h2 ⊢
 rw [turn_congr (λi hi=>turnF_clr bx by' hx.len true hi)] at h2
 exact ⟨h2.after h1.ext,rfl⟩
structure MaskOk (w:World) (B:Nat) (a:Option Addr) (f:TF.T):Prop where
 own:Own w B 5 1 f.2.2.1.a f.2.2.1.n f.2.2.1.c (f.2.2.1.l.map (Value.int .u8))
 byt:Byt f.2.2.1.l
 ne:∀ p q,a=some p->f.2.2.1.a=some q->p.block≠q.block
 at_:Rng .i64 f.1
structure CopyR (w w':World) (y:SlP TF.T) (l:List FD):Prop where
 ext:Ext w w'
 own:Own w' w.heap.size 187 3 y.a y.n y.c (y.l.flatMap TF.vs)
 len:y.l.length=y.n
 dat:fds y=l
 msk:∀ f∈y.l,MaskOk w' w.heap.size y.a f
theorem rngU8 {x:Int} (h:0<=x/\x<256):Rng .u8 x:=Rng.u8 h.1 (by omega)
theorem Own_in {w:World} {B:Nat} {e:TypeId} {sz:Nat} {a:Option Addr} {n c:Nat} {vs:List Value} (h:Own w B e sz a n c vs):RdG w (λk=>B<=k) a vs:=by
 rcases h.at_ with ⟨h1,_,h2⟩ | ⟨b,cs,h1,h2,_⟩
 ·exact .inl ⟨h1,h2⟩
 ·rcases h.rd with ⟨h3,_⟩ | ⟨p,h3,h4⟩
  ·rw [h1] at h3;cases h3
  ·refine .inr ⟨p,h3,h4,λ_=>?_⟩
   rw [h1] at h3;cases h3;exact h2
theorem CopyR.rd {w w':World} {y:SlP TF.T} {l:List FD} (h:CopyR w w' y l):LF.rd w' (λk=>w.heap.size<=k) y:=by
 have hml:maxLen=9223372036854775807:=by decide
 refine ⟨h.len,h.own.cap,by have:=h.own.lim;omega,Own_in h.own,λf hf=>?_⟩
 have m:=h.msk f hf
 refine ⟨m.at_,trivial,⟨by have:=m.own.len;simpa using this,m.own.cap,by have:=m.own.lim;omega,?_,λz hz=>rngU8 (m.byt z hz)⟩,trivial⟩
 rw [show f.2.2.1.l.flatMap (Ty.int .u8).vs=f.2.2.1.l.map (Value.int .u8) from flat_ints .u8 _]
 exact Own_in m.own
theorem oneF (f:TF.T):oneAll (TF.vs f):=λu hu=>by
 have hu:u∈[Value.int .i64 f.1,.bool f.2.1,.slice f.2.2.1.a f.2.2.1.n f.2.2.1.c]:=hu
 simp only [List.mem_cons,List.not_mem_nil,or_false] at hu
 rcases hu with rfl | rfl | rfl <;> rfl
theorem Copy_c {w:World} {G:Nat->Prop} {x:SlP TF.T} (hx:LF.rd w G x) (hm:mFit (fds x)) (hn:x.n<=1000):CallV Tryz.prog 55 #[.slice x.a x.n x.c] w [.one .sl] λr w'=>∃ y:SlP TF.T,r.1=(⟨y.a,y.n,y.c⟩:SlV)/\CopyR w w' y (fds x):=by
 refine fault_Copy.vc _ _ _ _ _ ?_
 unfold fault_Copy.P
 have hl:=LF_len hx
 refine Loop1 (λ(y:SlV×Int×Unit) w'=>∃ (i:Nat) (L:List TF.T),y.2.1=(i:Int)/\i<=x.n/\CopyR w w' ⟨y.1.a,y.1.n,y.1.c,L⟩ ((fds x).take i)/\y.1.n=i) (λ(y:SlV×Int×Unit) _=>((x.n:Int)-y.2.1).toNat)
  ⟨0,[],rfl,by omega,⟨Ext.refl _,Own.nil _ _ _ _,rfl,rfl,λf hf=>(List.not_mem_nil hf).elim⟩,rfl⟩ ?_
 rintro ⟨⟨sa,sn,sc⟩,(z:Int),⟨⟩⟩ w2 ⟨i,L,hz,hi,hC,hsn⟩
 dsimp only at hz hC hsn ⊢
 subst hz
 subst hsn
 have e2:=hC.ext
 refine cond_d (λhlt=>?_) (λhge=>?_)
 ·obtain ⟨q,y,hq,hy,hc,hr,-⟩:=LF_nth (Ty.rd_ext e2 _ hx) (Int.natCast_nonneg sn) hlt
  have hdy:=LF_get hy
  rw [Int.toNat_natCast] at hdy
  have hmy:=hm.at hdy
  have hly:=TF_len hr
  dsimp only at hmy
  refine ⟨⟨by omega,hlt⟩,q,hq,ldF hc ?_⟩
  refine newF λb6 w7 e7 hb=>?_
  refine hb.store 0 (by simp) λw8 hb8 bel8 _ _=>?_
  have x8:Ext w2 w8:=Below.trans e7 bel8
  refine newU λb9 w9 e9 o9=>?_
  refine (hb8.ext e9).ld (i:=2) (h:=.sl) (x:=⟨y.2.2.1.a,y.2.2.1.n,y.2.2.1.c⟩) rfl ?_
  dsimp only
  refine appM (xs:=[]) o9 (Ty.ints (Ty.rd_ext (x8.trans e9) _ hr.2.2.1)) e9.size (by omega) λa' c' w10 o10 b10 m10 _=>?_
  have x10:Ext w8 w10:=Below.trans e9 b10
  have hb10:=hb8.ext x10
  have hlt8:b6<w8.heap.size:=hb8.lt
  have hblk:∀ p,a'=some p->w8.heap.size<=p.block:=o10.ge
  refine hb10.store 2 (by simp) λw11 hb11 bel11 but11 _=>?_
  have o11:=o10.other (w':=w11) (λp hp=>but11 _ (by have:=hblk p hp;omega))
  have X11:Ext w2 w11:=Below.trans (Ext.trans x8 x10) bel11
  generalize hf':((y.1,y.2.1,⟨a',0+y.2.2.1.n,c',y.2.2.1.l⟩,()):TF.T)=f'
  have hvs:TF.vs f'=[.int .i64 y.1,.bool y.2.1,.slice a' (0+y.2.2.1.n) c']:=by rw [<-hf'];rfl
  refine ldF (f:=f') (by rw [hvs];exact hb11.cells) ?_
  subst hf'
  dsimp only
  refine newBox (vs:=[.int .i64 y.1,.bool y.2.1,.slice a' (0+y.2.2.1.n) c']) λb12 w12 e12 hb12=>?_
  have X12:Ext w2 w12:=X11.trans e12
  have o12:=hC.own.ext X12
  generalize hf':((y.1,y.2.1,⟨a',0+y.2.2.1.n,c',y.2.2.1.l⟩,()):TF.T)=f' at hvs
  refine AppS.of (news:=TF.vs f') (by rw [hvs];rfl) (.inr ⟨_,rfl,by rw [hvs];exact hb12.cells⟩) ?_
  refine AppV.own o12 (Nat.le_trans e2.size X12.size) (by rw [hvs];rfl) (oneF f') (by omega) (by omega) λa13 c13 w13 o13 b13 but13 m13=>?_
  have hsa:∀ p,sa=some p->p.block<w2.heap.size:=hC.own.lt
  have hmlt:∀ f∈L,∀ p,f.2.2.1.a=some p->p.block<w2.heap.size:=λf hf=>(hC.msk f hf).own.lt
  refine ⟨Rng.i64 (by omega) (by have hlim:=LF_lim hx;omega),⟨sn+1,L++[f'],by push_cast;rfl,by omega,⟨Below.trans (Ext.trans e2 X12) b13,?_,?_,?_,?_⟩,rfl⟩,by omega⟩
  ·show Own w13 _ _ 3 a13 (sn+1) c13 ((L++[f']).flatMap TF.vs)
   rw [List.flatMap_append,List.flatMap_singleton]
   exact o13
  ·have:=hC.len
   simp only at this
   rw [List.length_append,this];rfl
  ·have hd:=hC.dat
   show (L++[f']).map TF.dat=_
   have hd':L.map TF.dat=(fds x).take sn:=hd
   rw [List.map_append,hd',List.take_add_one,hdy,List.map_singleton,TF_dat,<- hf']
   rfl
  ·intro f hf
   have hnew:=m13.ne
   rcases List.mem_append.1 hf with h | h
   ·have m:=hC.msk f h
    refine ⟨but13.own (m.own.ext X12) (m.ne),m.byt,λp q hp hq=>?_,m.at_⟩
    have:=hmlt f h q hq
    exact hnew p q hp (Nat.lt_of_lt_of_le this X12.size) λp' hp'=>m.ne p' q hp' hq
   ·rw [List.mem_singleton.1 h,<- hf']
    have hq':∀ q:Addr,a'=some q->w2.heap.size<=q.block/\q.block<w12.heap.size:=by
     intro q hq
     have h1:=hblk q hq
     have h2:=x8.size
     have h3:=o11.lt q hq
     have h4:=e12.size
     omega
    have hne:∀ p q,sa=some p->a'=some q->p.block≠q.block:=by
     intro p q hp hq
     have h1:=hsa p hp
     have h2:=hq' q hq
     omega
    refine ⟨?_,show Byt y.2.2.1.l from Ty.byt hr.2.2.1,λp q hp hq=>hnew p q hp (hq' q hq).2 λp' hp'=>hne p' q hp' hq,hr.1⟩
    have:=but13.own (o11.ext e12) hne
    rw [List.nil_append] at this
    exact this.mono (by have:=e2.size;have:=x8.size;omega)
 ·have:sn=x.n:=by omega
  refine ⟨⟨sa,sn,sc,L⟩,rfl,?_⟩
  rw [List.take_of_length_le (by omega)] at hC
  exact hC
section
variable {α β:Type} {f:α->List β} {m:Nat}
theorem fl_len:∀ {l:List α},(∀ x∈l,(f x).length=m)->(l.flatMap f).length=l.length*m
 | [],_=>by simp
 | x::l,h=>by rw [List.flatMap_cons,List.length_append,h x List.mem_cons_self,fl_len λy hy=>h y (List.mem_cons_of_mem _ hy),List.length_cons,Nat.add_mul];omega
theorem fl_split {l:List α} {i:Nat} {x:α} (hi:l[i]? = some x):l.flatMap f=(l.take i).flatMap f++(f x++(l.drop (i+1)).flatMap f):=(flat_mid (z:=x) hi).1
theorem fl_set {l:List α} {i:Nat} {x y:α} (hi:l[i]? = some x):(l.set i y).flatMap f=(l.take i).flatMap f++(f y++(l.drop (i+1)).flatMap f):=(flat_mid (z:=y) hi).2
theorem fl_take {l:List α} (h:∀ x∈l,(f x).length=m) {i:Nat} (hi:i<=l.length):((l.take i).flatMap f).length=i*m:=by
 rw [fl_len λx hx=>h x (List.mem_of_mem_take hx),List.length_take,Nat.min_eq_left hi]
theorem fl_get {l:List α} (h:∀ x∈l,(f x).length=m) {i j:Nat} {x:α} (hi:l[i]? = some x) (hj:j<m):(l.flatMap f)[i*m+j]? = (f x)[j]?:=by
 have hl:i<l.length:=(List.getElem?_eq_some_iff.1 hi).1
 have hx:=h x (List.mem_of_getElem? hi)
 rw [fl_split hi,List.getElem?_append_right (by rw [fl_take h (by omega)];omega),fl_take h (by omega),List.getElem?_append_left (by omega)]
 congr 1
 omega
theorem fl_put {l:List α} (h:∀ x∈l,(f x).length=m) {i j:Nat} {x y:α} {v:β} (hi:l[i]? = some x) (hj:j<m) (hy:f y=(f x).set j v):(l.set i y).flatMap f=(l.flatMap f).set (i*m+j) v:=by
 have hl:i<l.length:=(List.getElem?_eq_some_iff.1 hi).1
 have hx:=h x (List.mem_of_getElem? hi)
 rw [fl_set hi,fl_split hi,List.set_append_right _ _ (by rw [fl_take h (by omega)];omega),fl_take h (by omega),List.set_append_left _ _ (by omega),hy]
 congr 3
 omega
end
theorem getD_some {α:Type} {l:List α} {i:Nat} {d x:α} (h:l[i]? = some x):l.getD i d=x:=by rw [List.getD_eq_getElem?_getD,h];rfl
theorem some_getD {α:Type} {l:List α} {i:Nat} {d:α} (h:i<l.length):l[i]? = some (l.getD i d):=by rw [List.getD_eq_getElem?_getD,List.getElem?_eq_getElem h];rfl
structure BD where
 pg:List (List Int)
 us:List Int
 la:Int
 sc:Bool
 er:Int
instance:Inhabited BD:=⟨⟨[],[],0,false,0⟩⟩
structure CD where
 g:Geo
 bs:List BD
 pl:List FD
 off:Bool
 ops:Nat
 tr:List (Int×Int)
abbrev szP (g:Geo):Nat:=(g.s+88).toNat
def LG (g:Geo):Prop:=g.b<=16/\g.p<=20/\g.s<=128
instance (g:Geo):Decidable (LG g):=by unfold LG;infer_instance
structure BOk (g:Geo) (m:Nat) (x:BD):Prop where
 pl:x.pg.length=g.p.toNat
 pb:∀ q∈x.pg,q.length=szP g/\Byt q
 ul:x.us.length=g.p.toNat
 ub:∀ u∈x.us,0<=u/\u<=2
 la:-1<=x.la/\x.la<g.p
 er:0<=x.er/\x.er<=m
structure COk (C:CD):Prop where
 g:Right C.g
 lg:LG C.g
 bl:C.bs.length=C.g.b.toNat
 bo:∀ x∈C.bs,BOk C.g C.ops x
 pm:∀ f∈C.pl,Byt f.2.2.1/\f.2.2.1.length<=140737488351232
 ops:C.ops<=1000000000000
def blankB (g:Geo):BD:=⟨List.replicate g.p.toNat (List.replicate (szP g) 255),List.replicate g.p.toNat 0,-1,false,0⟩
def newC (g:Geo) (pl:List FD):CD:=⟨g,List.replicate g.b.toNat (blankB g),pl,false,0,[]⟩
theorem blankB_ok (g:Geo) (h:Right g) (m:Nat):BOk g m (blankB g):=by
 have h1:=h.1.2.1
 refine ⟨by simp [blankB],λq hq=>?_,by simp [blankB],λu hu=>?_,⟨by show (-1:Int)<=-1;omega,by show (-1:Int)<g.p;omega⟩,⟨by show (0:Int)<=0;omega,by show (0:Int)<=_;omega⟩⟩
 ·rw [(List.mem_replicate.1 hq).2]
  exact ⟨by simp,Byt.replicate (by decide) (by decide) _⟩
 ·rw [(List.mem_replicate.1 hu).2];decide
theorem newC_ok {g:Geo} {pl:List FD} (h:Right g) (hl:LG g) (hp:∀ f∈pl,Byt f.2.2.1/\f.2.2.1.length<=140737488351232):COk (newC g pl):=
 ⟨h,hl,by simp [newC],λx hx=>by rw [(List.mem_replicate.1 hx).2];exact blankB_ok g h _,hp,by show 0<=1000000000000;omega⟩
def codeC (C:CD):Int×List Int×Bool:=match atF C.pl (C.ops:Int) with | none=>(0,[],false) | some f=>(if f.2.1 then 4 else 5,f.2.2.1,f.2.1)
def progL (was b ms:List Int) (fails:Bool):List Int:=turn was (prF was b ms fails was.length) (8*was.length)
def eraL (xs ms:List Int):List Int:=turn xs (erF xs ms) (8*xs.length)
def cutL (all:List Int) (p:Nat):List (List Int):=(List.range p).map λi=>(all.drop (i*(all.length / p))).take (all.length / p)
def inC (C:CD) (bl pa:Int):Prop:=(0<=bl/\bl<C.g.b)/\(0<=pa/\pa<C.g.p)
instance (C:CD) (bl pa:Int):Decidable (inC C bl pa):=by unfold inC;infer_instance
abbrev blkC (C:CD) (bl:Int):BD:=C.bs.getD bl.toNat default
abbrev usC (C:CD) (bl pa:Int):Int:=(blkC C bl).us.getD pa.toNat 0
abbrev pgC13 (C:CD) (bl pa:Int):List Int:=(blkC C bl).pg.getD pa.toNat []
def refC (C:CD) (bl pa:Int) (n:Nat):Int:=
 if C.off=true then 4 else if ¬ (inC C bl pa/\n=szP C.g) then 2 else if (blkC C bl).sc=true\/2<=usC C bl pa then 7 else if usC C bl pa=0/\pa<=(blkC C bl).la then 6 else 0
def progX (C:CD) (bl pa:Int) (b:List Int):CD:=
 {C with bs:=C.bs.set bl.toNat {blkC C bl with pg:=(blkC C bl).pg.set pa.toNat (if (codeC C).1=0 then andL (pgC13 C bl pa) b else progL (pgC13 C bl pa) b (codeC C).2.1 (!(codeC C).2.2)),us:=(blkC C bl).us.set pa.toNat (usC C bl pa+1),la:=max (blkC C bl).la pa},off:=(codeC C).2.2,ops:=C.ops+1,tr:=C.tr++[(1,(codeC C).1)]}
def progC (C:CD) (bl pa:Int) (b:List Int):CD×Int:=if refC C bl pa b.length=0 then (progX C bl pa b,(codeC C).1) else (C,refC C bl pa b.length)
def mayC (C:CD) (n:Int):Int:=if C.off=true then 4 else if ¬ (0<=n/\n<C.g.b) then 2 else 0
def eraX (C:CD) (n:Int):CD:=
 {C with bs:=C.bs.set n.toNat (if (codeC C).1=0 then {blankB C.g with er:=(blkC C n).er+1} else {blkC C n with pg:=cutL (eraL (blkC C n).pg.flatten (codeC C).2.1) C.g.p.toNat,er:=(blkC C n).er+1}),off:=(codeC C).2.2,ops:=C.ops+1,tr:=C.tr++[(2,(codeC C).1)]}
def eraC (C:CD) (n:Int):CD×Int:=if mayC C n=0 then (eraX C n,(codeC C).1) else (C,mayC C n)
def scrX (C:CD) (n:Int):CD:=
 let all:=(blkC C n).pg.flatten
 {C with bs:=C.bs.set n.toNat {blkC C n with sc:=true,pg:=cutL (if (codeC C).1=0 then List.replicate all.length 0 else progL all (List.replicate all.length 0) (codeC C).2.1 false) C.g.p.toNat},off:=(codeC C).2.2,ops:=C.ops+1,tr:=C.tr++[(3,(codeC C).1)]}
def scrC (C:CD) (n:Int):CD×Int:=if mayC C n=0 then (scrX C n,(codeC C).1) else (C,mayC C n)
set_option maxRecDepth 100000 in
theorem eqPl0 (a1 a2 b1 b2:Int) (w:World):(Op.equalIn 10000 57 (.agg #[.int .i64 a1,.int .i64 a2]) (.agg #[.int .i64 b1,.int .i64 b2])).run Tryz.prog w=.ok (a1 == b1 && a2 == b2) w:=by
 have u1:=Tryz.underlying3
 have v1:=Tryz.isAgg3
 have z1:=Tryz.sizeOf3
 have hS:Tryz.prog.underlying 57=some (.struct (Tryz.prog.fieldsOf 57)):=by kernel_rfl
 rw [show (10000:Nat)=9999+1 from rfl,run_equalIn_agg w 9999 57 _ _ hS (by kernel_rfl)]
 simp only [Program.fieldsOf,Tryz.underlying57]
 go_simp
 repeat' split
 all_goals simp_all
abbrev kV (k:Int×Int):Value:=.agg #[.int .i64 k.1,.int .i64 k.2]
structure ME where
 k:Int×Int
 v:Int
 b:Nat
abbrev ME.e (x:ME):MapEntry:=⟨kV x.k,.int .i64 x.v,x.b⟩
def fndM (k:Int×Int):List ME->Nat->Option (Nat×Int)
 | [],_=>none
 | x::l,i=>if x.k=k then some (i,x.v) else fndM k l (i+1)
def getM (l:List ME) (k:Int×Int):Int:=match fndM k l 0 with | some r=>r.2 | none=>0
theorem fndM_some {k:Int×Int}:∀ {l:List ME} {i j:Nat} {v:Int},fndM k l i=some (j,v)->i<=j/\∃ x,l[j-i]? = some x/\x.k=k/\x.v=v
 | [],_,_,_,h=>by cases h
 | x::l,i,j,v,h=>by
  unfold fndM at h
  split at h
  ·rename_i hk
   cases h
   exact ⟨Nat.le_refl _,x,by rw [Nat.sub_self];rfl,hk,rfl⟩
  ·obtain ⟨h1,y,h2,h3⟩:=fndM_some h
   refine ⟨by omega,y,?_,h3⟩
   rw [show j-i=(j-(i+1))+1 by omega,List.getElem?_cons_succ]
   exact h2
theorem fndM_none {k:Int×Int}:∀ {l:List ME} {i:Nat},fndM k l i=none↔∀ x∈l,x.k≠k
 | [],_=>by simp [fndM]
 | x::l,i=>by
  unfold fndM
  by_cases hk:x.k=k
  ·rw [if_pos hk];simp [hk]
  ·rw [if_neg hk,fndM_none (i:=i+1)];simp [hk]
theorem fndM_app {k:Int×Int} {x:ME}:∀ {l:List ME} {i:Nat},fndM k (l++[x]) i=match fndM k l i with | some r=>some r | none=>if x.k=k then some (i+l.length,x.v) else none
 | [],i=>by simp [fndM]
 | y::l,i=>by
  rw [List.cons_append]
  unfold fndM
  by_cases hk:y.k=k
  ·rw [if_pos hk,if_pos hk]
  ·rw [if_neg hk,if_neg hk,fndM_app (l:=l) (i:=i+1),List.length_cons]
   cases fndM k l (i+1) with
   | some r=>rfl
   | none=>simp only;rw [show i+1+l.length=i+(l.length+1) by omega]
structure MOk (l:List ME) (c:Nat):Prop where
 kn:(l.map (·.k)).Nodup
 bn:(l.map (·.b)).Nodup
 bc:∀ x∈l,x.b<c
theorem MOk.get {l:List ME} {c:Nat} (h:MOk l c) {x:ME} (hx:x∈l):getM l x.k=x.v:=by
 unfold getM
 cases hf:fndM x.k l 0 with
 | none=>exact absurd rfl (fndM_none.1 hf x hx)
 | some r=>
  obtain ⟨j,v⟩:=r
  obtain ⟨-,y,hy,hk,hv⟩:=fndM_some hf
  rw [Nat.sub_zero] at hy
  have hym:=List.mem_of_getElem? hy
  have:y=x:=by
   obtain ⟨i,hi⟩:=List.getElem?_of_mem hx
   have h1:(l.map (·.k))[j]? = some x.k:=by rw [List.getElem?_map,hy];exact congrArg some hk
   have h2:(l.map (·.k))[i]? = some x.k:=by rw [List.getElem?_map,hi];rfl
   have hij:=(List.getElem?_inj (by have:=(List.getElem?_eq_some_iff.1 h1).1;exact this) h.kn).1 (h1.trans h2.symm)
   subst hij
   rw [hi] at hy
   exact (Option.some.inj hy).symm
  subst this
  exact hv.symm
theorem getM_none {l:List ME} {k:Int×Int} (h:∀ x∈l,x.k≠k):getM l k=0:=by
 unfold getM
 rw [fndM_none.2 h]
def updM (m:Int×Int->Int) (k:Int×Int) (v:Int):Int×Int->Int:=λk'=>if k'=k then v else m k'
theorem _root_.List.set_getElem?_self' {α:Type} {l:List α} {i:Nat} {x:α} (h:l[i]? = some x):l.set i x=l:=by
 apply List.ext_getElem?
 intro j
 rw [List.getElem?_set]
 split
 ·rename_i e
  subst e
  rw [h,if_pos (List.getElem?_eq_some_iff.1 h).1]
 ·rfl
theorem erase_map:∀ (l:List ME) (i:Nat),(l.map ME.e).eraseIdx i=(l.eraseIdx i).map ME.e
 | [],_=>rfl
 | x::l,0=>rfl
 | x::l,i+1=>by rw [List.map_cons,List.eraseIdx_cons_succ,List.eraseIdx_cons_succ,List.map_cons,erase_map l i]
section
variable {w:World} {r c:Nat} {l:List ME} {k:Int×Int}
theorem run_ask:∀ (l:List ME) (i:Nat),(Instr.findAsking 57 (kV k) (l.map ME.e) i).run Tryz.prog w=.ok ((fndM k l i).map λr=>(r.1,.int .i64 r.2)) w
 | [],i=>by simp [Instr.findAsking,fndM]
 | x::l,i=>by
  have h:(Op.equal 57 (kV k) (kV x.k)).run Tryz.prog w=.ok (k.1 == x.k.1 && k.2 == x.k.2) w:=eqPl0 _ _ _ _ w
  rw [List.map_cons]
  simp only [Instr.findAsking,Sem.run_bind,h,Result.andThen_ok]
  unfold fndM
  by_cases hk:x.k=k
  ·subst hk
   simp
  ·have:(k.1 == x.k.1 && k.2 == x.k.2)=false:=by
    rw [Bool.eq_false_iff]
    intro h2
    simp only [Bool.and_eq_true,beq_iff_eq] at h2
    exact hk (Prod.ext h2.1.symm h2.2.symm)
   rw [this,if_neg hk]
   simp only [Bool.false_eq_true,if_false]
   exact run_ask l (i+1)
theorem run_find (l:List ME):(Instr.findKey 57 (kV k) (l.map ME.e)).run Tryz.prog w=.ok ((fndM k l 0).map λr=>(r.1,.int .i64 r.2)) w:=by
 rw [run_findKey_eq w (by kernel_rfl)]
 exact run_ask l 0
theorem run_chk (em:Bool):(Instr.checkKey em 10000 57 (kV k)).run Tryz.prog w=.ok () w:=by
 cases em <;> kernel_rfl
theorem run_getM (hb:w.heap[r]? = some (.map (l.map ME.e).toArray c)):(getObj r).run Tryz.prog w=.ok (.map (l.map ME.e).toArray c) w:=by simp [getObj,Sem.run,hb]
theorem run_look (hb:w.heap[r]? = some (.map (l.map ME.e).toArray c)):(Instr.lookup 165 (.map (some r)) (kV k) false).run Tryz.prog w=.ok (.int .i64 (getM l k)) w:=by
 have hu:Tryz.prog.underlying 165=some (.map 57 3):=by kernel_rfl
 have hz:(zeroValue 3).run Tryz.prog w=.ok (.int .i64 0) w:=by kernel_rfl
 simp only [Instr.lookup,Sem.run_bind,run_underlying hu,Result.andThen_ok,run_getM hb,Sem.run_pure,run_chk,run_find]
 unfold getM
 cases fndM k l 0 with
 | none=>simp only [Option.map_none,Sem.run_bind,hz,Result.andThen_ok,Sem.run_pure,Bool.false_eq_true,if_false]
 | some q=>simp only [Option.map_some,Sem.run_bind,Result.andThen_ok,Sem.run_pure,Bool.false_eq_true,if_false]
theorem same_bits (k:Int×Int):Instr.sameBits 10000 (kV k) (kV k)=true:=by
 show (#[Value.int .i64 k.1,.int .i64 k.2].size == #[Value.int .i64 k.1,.int .i64 k.2].size && _)=true
 simp [Instr.sameBits]
def setM (w:World) (r:Nat) (o:Obj):World:={w with heap:=w.heap.setIfInBounds r o}
theorem run_setM (o:Obj) (hb:w.heap[r]? = some (.map (l.map ME.e).toArray c)):(setObj r o).run Tryz.prog w=.ok () (setM w r o):=by simp [setObj,Sem.run,hb,setM]
theorem run_ent (hb:w.heap[r]? = some (.map (l.map ME.e).toArray c)):∃ l' c' s,(Instr.mapEntry 165 (.map (some r)) (kV k)).run Tryz.prog w=.ok (.tuple #[.int .i64 (getM l k),.int .i64 ((s:Nat):Int)]) (setM w r (.map (l'.map ME.e).toArray c')) /\
  (MOk l c->MOk l' c'/\(∀ k',getM l' k'=getM l k')/\∃ x∈l',x.k=k/\x.b=s):=by
 have hu:Tryz.prog.underlying 165=some (.map 57 3):=by kernel_rfl
 have hz:(zeroValue 3).run Tryz.prog w=.ok (.int .i64 0) w:=by kernel_rfl
 cases hf:fndM k l 0 with
 | none=>
  refine ⟨l++[⟨k,0,c⟩],c+1,c,?_,λh=>⟨⟨?_,?_,?_⟩,?_,⟨k,0,c⟩,by simp,rfl,rfl⟩⟩
  ·simp only [Instr.mapEntry,Sem.run_bind,run_underlying hu,Result.andThen_ok,run_getM hb,run_chk,run_find,hf,Option.map_none,hz,run_setM _ hb,Sem.run_pure]
   have e:(l.map ME.e).toArray.push (⟨kV k,.int .i64 0,c⟩:MapEntry)=((l++[(⟨k,0,c⟩:ME)]).map ME.e).toArray:=by simp
   rw [e]
   have hg:getM l k=0:=by unfold getM;rw [hf]
   rw [hg]
   rfl
  ·rw [List.map_append]
   refine List.nodup_append.2 ⟨h.kn,by simp,?_⟩
   intro a ha b hb2 e
   obtain ⟨x,hx,rfl⟩:=List.mem_map.1 ha
   simp at hb2
   subst hb2
   exact fndM_none.1 hf x hx e
  ·rw [List.map_append]
   refine List.nodup_append.2 ⟨h.bn,by simp,?_⟩
   intro a ha b hb2 e
   obtain ⟨x,hx,rfl⟩:=List.mem_map.1 ha
   simp at hb2
   subst hb2
   have:=h.bc x hx
   omega
  ·intro x hx
   rcases List.mem_append.1 hx with hx | hx
   ·have:=h.bc x hx;omega
   ·rw [List.mem_singleton.1 hx];exact Nat.lt_succ_self _
  ·intro k'
   unfold getM
   rw [fndM_app]
   cases hf':fndM k' l 0 with
   | some q=>rfl
   | none=>
    dsimp only
    by_cases hk2:k=k'
    ·rw [if_pos hk2]
    ·rw [if_neg hk2]
 | some q=>
  obtain ⟨i,v⟩:=q
  obtain ⟨-,x,hx,hk,hv⟩:=fndM_some hf
  rw [Nat.sub_zero] at hx
  have hxe:((l.map ME.e).toArray)[i]? = some x.e:=by rw [List.getElem?_toArray,List.getElem?_map,hx];rfl
  refine ⟨l,c,x.b,?_,λh=>⟨h,λ_=>rfl,x,List.mem_of_getElem? hx,hk,rfl⟩⟩
  have hm:(l.map ME.e).toArray.modify i (λe=>{e with key:=kV k})=(l.map ME.e).toArray:=by
   apply Array.ext_getElem?
   intro j
   rw [Array.getElem?_modify]
   split
   ·rename_i hij
    subst hij
    rw [hxe,<- hk]
    rfl
   ·rfl
  have hs:(Instr.keyThatStays (kV k) (kV k)).run Tryz.prog w=.ok (kV k) w:=by simp only [Instr.keyThatStays,same_bits,if_true,Sem.run_pure]
  have hk2:((((l.map ME.e).toArray)[i]?).map (·.key)).getD (kV k)=kV k:=by rw [hxe,<- hk];rfl
  have hb2:((((l.map ME.e).toArray)[i]?).map (λe=>((e.born:Nat):Int))).getD 0=((x.b:Nat):Int):=by rw [hxe];rfl
  have hg:getM l k=v:=by unfold getM;rw [hf]
  simp only [Instr.mapEntry,Sem.run_bind,run_underlying hu,Result.andThen_ok,run_getM hb,run_chk,run_find,hf,Option.map_some,hk2,hb2,hs,hm,run_setM _ hb,Sem.run_pure,hg]
  rfl
theorem getM_cases (h:MOk l c) (k:Int×Int):(∃ y∈l,y.k=k/\getM l k=y.v)\/((∀ y∈l,y.k≠k)/\getM l k=0):=by
 by_cases he:∃ y∈l,y.k=k
 ·obtain ⟨y,hy,rfl⟩:=he
  exact .inl ⟨y,hy,rfl,h.get hy⟩
 ·have he:∀ y∈l,y.k≠k:=λy hy e=>he ⟨y,hy,e⟩
  exact .inr ⟨he,getM_none he⟩
theorem MOk.key {x y:ME} (h:MOk l c) (hx:x∈l) (hy:y∈l) (he:x.k=y.k):x=y:=by
 obtain ⟨i,hi⟩:=List.getElem?_of_mem hx
 obtain ⟨j,hj⟩:=List.getElem?_of_mem hy
 have h1:(l.map (·.k))[i]? = some x.k:=by rw [List.getElem?_map,hi];rfl
 have h2:(l.map (·.k))[j]? = some x.k:=by rw [List.getElem?_map,hj];exact congrArg some he.symm
 have hij:=(List.getElem?_inj (List.getElem?_eq_some_iff.1 h1).1 h.kn).1 (h1.trans h2.symm)
 subst hij
 rw [hi] at hj
 exact Option.some.inj hj
theorem run_sto {x:ME} {v:Int} (hM:MOk l c) (hx:x∈l) (hb:w.heap[r]? = some (.map (l.map ME.e).toArray c)):∃ l',(Instr.entryStore 165 (.map (some r)) (.int .i64 ((x.b:Nat):Int)) (.int .i64 v)).run Tryz.prog w=.ok () (setM w r (.map (l'.map ME.e).toArray c)) /\
  MOk l' c/\∀ k',getM l' k'=updM (getM l) x.k v k':=by
 obtain ⟨i,hi⟩:=List.getElem?_of_mem hx
 have hil:i<l.length:=(List.getElem?_eq_some_iff.1 hi).1
 have hfi:(l.map ME.e).toArray.findIdx? (λe=>((e.born:Nat):Int) == ((x.b:Nat):Int))=some i:=by
  rw [List.findIdx?_toArray,List.findIdx?_map,List.findIdx?_eq_some_iff_getElem]
  refine ⟨hil,?_,λj hj=>?_⟩
  ·simp [(List.getElem?_eq_some_iff.1 hi).2]
  ·intro he
   have hjl:j<l.length:=by omega
   have he:(l[j].b:Int)=(x.b:Int):=by simpa using he
   have h1:(l.map (·.b))[j]? = some x.b:=by rw [List.getElem?_map,List.getElem?_eq_getElem hjl];simp;omega
   have h2:(l.map (·.b))[i]? = some x.b:=by rw [List.getElem?_map,hi];rfl
   have:=(List.getElem?_inj (List.getElem?_eq_some_iff.1 h1).1 hM.bn).1 (h1.trans h2.symm)
   omega
 have hmod:(l.map ME.e).toArray.modify i (λe=>{e with val:=.int .i64 v})=((l.set i ⟨x.k,v,x.b⟩).map ME.e).toArray:=by
  apply Array.ext_getElem?
  intro j
  rw [Array.getElem?_modify,List.getElem?_toArray,List.getElem?_toArray,List.getElem?_map,List.getElem?_map,List.getElem?_set]
  by_cases hij:i=j
  ·subst hij
   rw [if_pos rfl,if_pos rfl,if_pos hil,hi]
   rfl
  ·rw [if_neg hij,if_neg hij]
 refine ⟨l.set i ⟨x.k,v,x.b⟩,?_,?_,λk'=>?_⟩
 ·simp only [Instr.entryStore,Sem.run_bind,Result.andThen_ok,run_getM hb,asInt,asIntOf,Sem.run_pure,hfi,hmod,run_setM _ hb]
 all_goals
  have hk:(l.set i ⟨x.k,v,x.b⟩).map (·.k)=l.map (·.k):=by
   rw [List.map_set];exact List.set_getElem?_self' (by rw [List.getElem?_map,hi];rfl)
  have hbb:(l.set i ⟨x.k,v,x.b⟩).map (·.b)=l.map (·.b):=by
   rw [List.map_set];exact List.set_getElem?_self' (by rw [List.getElem?_map,hi];rfl)
  have hM':MOk (l.set i ⟨x.k,v,x.b⟩) c:=⟨by rw [hk];exact hM.kn,by rw [hbb];exact hM.bn,λy hy=>by
   rcases List.mem_or_eq_of_mem_set hy with h | h
   ·exact hM.bc y h
   ·rw [h];exact hM.bc x hx⟩
 ·exact hM'
 ·unfold updM
  by_cases he:k'=x.k
  ·subst he
   rw [if_pos rfl]
   exact hM'.get (x:=⟨x.k,v,x.b⟩) (List.mem_set hil _)
  ·rw [if_neg he]
   rcases getM_cases hM k' with ⟨y,hy,rfl,h2⟩ | ⟨h1,h2⟩
   ·rw [h2]
    refine hM'.get (x:=y) ?_
    obtain ⟨j,hj⟩:=List.getElem?_of_mem hy
    refine List.mem_of_getElem? (i:=j) ?_
    rw [List.getElem?_set,if_neg (λe=>?_),hj]
    subst e
    rw [hi] at hj
    cases hj
    exact he rfl
   ·rw [h2]
    refine getM_none λy hy=>?_
    rcases List.mem_or_eq_of_mem_set hy with h | h
    ·exact h1 y h
    ·rw [h];exact λe=>he e.symm
theorem run_del (hb:w.heap[r]? = some (.map (l.map ME.e).toArray c)):∃ l',(∀ ty,(Builtin.delete_ #[165,57] ty #[.map (some r),kV k]).run Tryz.prog w=.ok (.tuple #[]) (setM w r (.map (l'.map ME.e).toArray c))) /\
  (MOk l c->MOk l' c/\∀ k',getM l' k'=updM (getM l) k 0 k'):=by
 have hu:Tryz.prog.underlying 165=some (.map 57 3):=by kernel_rfl
 cases hf:fndM k l 0 with
 | none=>
  refine ⟨l,λty=>?_,λh=>⟨h,λk'=>?_⟩⟩
  ·simp only [Builtin.delete_,Sem.run_bind,run_underlying hu,Result.andThen_ok,run_getM hb,run_chk,run_find,hf,Option.map_none,run_setM _ hb,Sem.run_pure,List.getElem?_toArray,List.getElem?_cons_zero,List.getElem?_cons_succ]
  ·unfold updM
   split
   ·rename_i e;subst e;exact getM_none (fndM_none.1 hf)
   ·rfl
 | some q=>
  obtain ⟨i,v⟩:=q
  obtain ⟨-,x,hx,hk,hv⟩:=fndM_some hf
  rw [Nat.sub_zero] at hx
  have hil:i<l.length:=(List.getElem?_eq_some_iff.1 hx).1
  have he:(l.map ME.e).toArray.eraseIdxIfInBounds i=((l.eraseIdx i).map ME.e).toArray:=by
   apply Array.ext'
   rw [Array.toList_eraseIdxIfInBounds]
   exact erase_map l i
  refine ⟨l.eraseIdx i,λty=>?_,λh=>?_⟩
  ·simp only [Builtin.delete_,Sem.run_bind,run_underlying hu,Result.andThen_ok,run_getM hb,run_chk,run_find,hf,Option.map_some,he,run_setM _ hb,Sem.run_pure,List.getElem?_toArray,List.getElem?_cons_zero,List.getElem?_cons_succ]
  ·have hsub:=List.eraseIdx_sublist l i
   have hM':MOk (l.eraseIdx i) c:=⟨h.kn.sublist (hsub.map _),h.bn.sublist (hsub.map _),λy hy=>h.bc y (hsub.mem hy)⟩
   refine ⟨hM',λk'=>?_⟩
   unfold updM
   by_cases hkk:k'=k
   ·subst hkk
    rw [if_pos rfl]
    refine getM_none λy hy hyk=>?_
    have hyl:=hsub.mem hy
    have hxy:=h.key (List.mem_of_getElem? hx) hyl (hk.trans hyk.symm)
    subst hxy
    obtain ⟨j,hj⟩:=List.getElem?_of_mem hy
    rw [List.getElem?_eraseIdx] at hj
    have h2:(l.map (·.k))[i]? = some x.k:=by rw [List.getElem?_map,hx];rfl
    split at hj
    ·have h1:(l.map (·.k))[j]? = some x.k:=by rw [List.getElem?_map,hj];rfl
     have:=(List.getElem?_inj (List.getElem?_eq_some_iff.1 h1).1 h.kn).1 (h1.trans h2.symm)
     omega
    ·have h1:(l.map (·.k))[j+1]? = some x.k:=by rw [List.getElem?_map,hj];rfl
     have:=(List.getElem?_inj (List.getElem?_eq_some_iff.1 h1).1 h.kn).1 (h1.trans h2.symm)
     omega
   ·rw [if_neg hkk]
    rcases getM_cases h k' with ⟨y,hy,rfl,h2⟩ | ⟨h1,h2⟩
    ·rw [h2]
     refine hM'.get (x:=y) ?_
     obtain ⟨j,hj⟩:=List.getElem?_of_mem hy
     have hji:j≠i:=λe=>by subst e;rw [hx] at hj;cases hj;exact hkk hk
     by_cases hlt:j<i
     ·exact List.mem_of_getElem? (i:=j) (by rw [List.getElem?_eraseIdx,if_pos hlt,hj])
     ·exact List.mem_of_getElem? (i:=j-1) (by rw [List.getElem?_eraseIdx,if_neg (by omega),show j-1+1=j by omega,hj])
    ·rw [h2]
     exact getM_none λy hy=>h1 y (hsub.mem hy)
end
def MapF (r:Nat) (m:Int×Int->Int):Asr:=⟨λw F=>F r/\∃ l c,w.heap[r]? = some (.map (l.map ME.e).toArray c)/\MOk l c/\∀ k,getM l k=m k,λh k=>⟨h.1,by obtain ⟨l,c,h1,h2⟩:=h.2;exact ⟨l,c,by rw [k _ h.1];exact h1,h2⟩⟩⟩
def MapS (r:Nat) (m:Int×Int->Int) (k:Int×Int) (s:Nat):Asr:=⟨λw F=>F r/\∃ l c,w.heap[r]? = some (.map (l.map ME.e).toArray c)/\MOk l c/\(∀ k,getM l k=m k)/\∃ x∈l,x.k=k/\x.b=s,λh k=>⟨h.1,by obtain ⟨l,c,h1,h2⟩:=h.2;exact ⟨l,c,by rw [k _ h.1];exact h1,h2⟩⟩⟩
theorem setM_fr {w:World} {r:Nat} {o:Obj} (h:r<w.heap.size):Fr (λk=>k=r) w (setM w r o)/\(setM w r o).heap[r]? = some o/\(setM w r o).heap.size=w.heap.size:=by
 refine ⟨⟨rfl,rfl,rfl,by simp [setM],λk hk hn=>?_⟩,by simp [setM,h],by simp [setM]⟩
 show (w.heap.setIfInBounds r o)[k]? = _
 rw [Array.getElem?_setIfInBounds,if_neg (λe=>hn e.symm)]
section
variable {E:Nat->Prop} {w0 w:World} {Rs:List Asr} {r:Nat} {m:Int×Int->Int} {k:Int×Int}
theorem _root_.Go.Eng.Sep.newM (S:Sep E w0 w Rs) {K:Nat->World->Prop} (hk:∀ b w',Sep E w0 w' (MapF b (λ_=>0)::Rs)->Fr NoB w w'->w.heap.size<=b->K b w'):NewM w K:=by
 rintro b w1 rfl rfl
 have f:Fr NoB w (w.alloc (.map #[] 0)):=.of (Ext.alloc _ _)
 refine hk _ _ (S.push (F:=λk=>k=w.heap.size) f ⟨rfl,[],0,heap_new w _,⟨by simp,by simp,λx hx=>by simp at hx⟩,λ_=>rfl⟩ λk hk=>?_) f (Nat.le_refl _)
 subst hk
 exact ⟨Nat.le_refl _,(Array.getElem?_eq_some_iff.1 (heap_new w (.map #[] 0))).1⟩
theorem _root_.Go.Eng.Sep.mstep (S:Sep E w0 w Rs) {i:Nat} {R:Asr} (hi:Rs[i]? = some R) {P:World->Prop} (hR:∀ F,R.p w F->F r/\P w) {o:Obj} {R':Asr} (hlt:r<w.heap.size) (hp:∀ w' F,F r->w'.heap[r]? = some o->R'.p w' F) :
  Sep E w0 (setM w r o) (Rs.set i R'):=by
 obtain ⟨F,h1,h2,h3⟩:=S.step hi
 obtain ⟨fr,hh,hs⟩:=setM_fr (o:=o) hlt
 exact h3 _ F R' (hp _ _ (hR F h1).1 hh) (fr.mono λk hk=>by subst hk;exact (hR F h1).1) λk hk=>⟨.inl hk,by rw [hs];exact h2 k hk⟩
theorem _root_.Go.Eng.Sep.lookM (S:Sep E w0 w Rs) (i:Nat) (hi:Rs[i]? = some (MapF r m)) {K:RT [.one (.int .i64)]->World->Prop} (hk:K (m k,()) w):RunV Tryz.prog (Instr.lookup 165 (.map (some r)) (kV k) false) w [.one (.int .i64)] K:=by
 obtain ⟨F,⟨_,l,c,h1,h2,h3⟩,_⟩:=S.get hi
 exact ⟨(m k,()),w,by rw [run_look h1,h3];rfl,hk⟩
theorem _root_.Go.Eng.Sep.lookS (S:Sep E w0 w Rs) (i:Nat) {k':Int×Int} {s:Nat} (hi:Rs[i]? = some (MapS r m k' s)) {K:RT [.one (.int .i64)]->World->Prop} (hk:K (m k,()) w):RunV Tryz.prog (Instr.lookup 165 (.map (some r)) (kV k) false) w [.one (.int .i64)] K:=by
 obtain ⟨F,⟨_,l,c,h1,h2,h3,_⟩,_⟩:=S.get hi
 exact ⟨(m k,()),w,by rw [run_look h1,h3];rfl,hk⟩
theorem _root_.Go.Eng.Sep.entM (S:Sep E w0 w Rs) (i:Nat) (hi:Rs[i]? = some (MapF r m)) {K:RT [.one (.int .i64),.one (.int .i64)]->World->Prop}
  (hk:∀ (s:Nat) w',Sep E w0 w' (Rs.set i (MapS r m k s))->Fr (λk=>k=r) w w'->K (m k,(s:Int),()) w'):RunV Tryz.prog (Instr.mapEntry 165 (.map (some r)) (kV k)) w [.one (.int .i64),.one (.int .i64)] K:=by
 obtain ⟨F,⟨hF,l,c,h1,h2,h3⟩,hb⟩:=S.get hi
 have hlt:=(hb r hF).2
 obtain ⟨l',c',s,hr,hM⟩:=run_ent (k:=k) h1
 obtain ⟨g1,g2,x,g3⟩:=hM h2
 refine ⟨(m k,(s:Int),()),_,by rw [hr,h3];rfl,hk s _ (S.mstep hi (P:=λ_=>True) (λF h=>⟨h.1,trivial⟩) hlt λw' F hF hw=>⟨hF,l',c',hw,g1,λk'=>(g2 k').trans (h3 k'),x,g3⟩) (setM_fr hlt).1⟩
theorem _root_.Go.Eng.Sep.stoM (S:Sep E w0 w Rs) (i:Nat) {s:Nat} (hi:Rs[i]? = some (MapS r m k s)) {v:Int} {K:World->Prop} (hk:∀ w',Sep E w0 w' (Rs.set i (MapF r (updM m k v)))->Fr (λk=>k=r) w w'->K w') :
  RunU Tryz.prog (Instr.entryStore 165 (.map (some r)) (.int .i64 (s:Int)) (.int .i64 v)) w K:=by
 obtain ⟨F,⟨hF,l,c,h1,h2,h3,x,hx,rfl,rfl⟩,hb⟩:=S.get hi
 have hlt:=(hb r hF).2
 obtain ⟨l',hr,g1,g2⟩:=run_sto (v:=v) h2 hx h1
 refine ⟨_,hr,hk _ (S.mstep hi (P:=λ_=>True) (λF h=>⟨h.1,trivial⟩) hlt λw' F hF hw=>⟨hF,l',c,hw,g1,λk'=>?_⟩) (setM_fr hlt).1⟩
 rw [g2]
 unfold updM
 split
 ·rfl
 ·exact h3 k'
theorem _root_.Go.Eng.Sep.delM (S:Sep E w0 w Rs) (i:Nat) (hi:Rs[i]? = some (MapF r m)) {K:World->Prop} (hk:∀ w',Sep E w0 w' (Rs.set i (MapF r (updM m k 0)))->Fr (λk=>k=r) w w'->K w') :
  DelV Tryz.prog [165,57] [.map (some r),kV k] w K:=by
 obtain ⟨F,⟨hF,l,c,h1,h2,h3⟩,hb⟩:=S.get hi
 have hlt:=(hb r hF).2
 obtain ⟨l',hr,hM⟩:=run_del (k:=k) h1
 obtain ⟨g1,g2⟩:=hM h2
 refine ⟨_,hr,hk _ (S.mstep hi (P:=λ_=>True) (λF h=>⟨h.1,trivial⟩) hlt λw' F hF hw=>⟨hF,l',c,hw,g1,λk'=>?_⟩) (setM_fr hlt).1⟩
 rw [g2]
 unfold updM
 split
 ·rfl
 ·exact h3 k'
theorem _root_.Go.Eng.Sep.incA (f:Int->Int) (S:Sep E w0 w Rs) (i:Nat) (hi:Rs[i]? = some (MapF r m)) {KO:World->Prop} (ko:∀ w',Fr (λk=>k=r) w w'->KO w') (hr:Rng .i64 (f (m k))) {K:World->Prop} (hk:∀ w',Sep E w0 w' (Rs.set i (MapF r (updM m k (f (m k)))))->Fr (λk=>k=r) w w'->K w') :
  RunV Tryz.prog (Instr.lookup 165 (.map (some r)) (kV k) false) w [.one (.int .i64)] λ(r22:Int×Unit) w23=>KO w23/\Rng .i64 (f r22.1) /\
   RunV Tryz.prog (Instr.mapEntry 165 (.map (some r)) (kV k)) w23 [.one (.int .i64),.one (.int .i64)] λ(r24:Int×Int×Unit) w25=>KO w25 /\
    RunU Tryz.prog (Instr.entryStore 165 (.map (some r)) (.int .i64 r24.2.1) (.int .i64 (f r22.1))) w25 λw26=>KO w26/\K w26:=
 S.lookM i hi ⟨ko _ (Fr.refl _ _),hr,S.entM i hi λs w' S' f'=>⟨ko _ f',S'.stoM i (by rw [List.getElem?_set,if_pos rfl,if_pos (List.getElem?_eq_some_iff.1 hi).1]) λw2 S2 f2=>⟨ko _ (f'.trans f2),hk _ (by rw [List.set_set] at S2;exact S2) (f'.trans f2)⟩⟩⟩
theorem _root_.Go.Eng.Sep.incB (f:Int->Int) (S:Sep E w0 w Rs) (i:Nat) (hi:Rs[i]? = some (MapF r m)) {KO:World->Prop} (ko:∀ w',Fr (λk=>k=r) w w'->KO w') (hr:Rng .i64 (f (m k))) {K:World->Prop} (hk:∀ w',Sep E w0 w' (Rs.set i (MapF r (updM m k (f (m k)))))->Fr (λk=>k=r) w w'->K w') :
  RunV Tryz.prog (Instr.mapEntry 165 (.map (some r)) (kV k)) w [.one (.int .i64),.one (.int .i64)] λ(r24:Int×Int×Unit) w25=>KO w25 /\
   RunV Tryz.prog (Instr.lookup 165 (.map (some r)) (kV k) false) w25 [.one (.int .i64)] λ(r22:Int×Unit) w23=>KO w23/\Rng .i64 (f r22.1) /\
    RunU Tryz.prog (Instr.entryStore 165 (.map (some r)) (.int .i64 r24.2.1) (.int .i64 (f r22.1))) w23 λw26=>KO w26/\K w26:=
 S.entM i hi λs w' S' f'=>by
  have hi':(Rs.set i (MapS r m k s))[i]? = some (MapS r m k s):=by rw [List.getElem?_set,if_pos rfl,if_pos (List.getElem?_eq_some_iff.1 hi).1]
  exact ⟨ko _ f',S'.lookS i hi' ⟨ko _ f',hr,S'.stoM i hi' λw2 S2 f2=>⟨ko _ (f'.trans f2),hk _ (by rw [List.set_set] at S2;exact S2) (f'.trans f2)⟩⟩⟩
end
end Go.Proofs.YtcekmdehjnlkpaaGreat.Vc
