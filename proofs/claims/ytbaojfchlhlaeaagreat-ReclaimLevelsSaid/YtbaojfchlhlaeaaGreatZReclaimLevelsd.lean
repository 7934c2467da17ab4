/- Texts in one: The contracts of layer 14 (head): a head's bytes. The law HeadBytes of layer 14: each call gives true, and what it read stays. The contracts of layer 14 (head): an end's bytes, and is it committed. Plain laws for layer 14 (head): numbers of bytes, back as bytes. The law HeadEnds of layer 14: each call gives true, and what it read stays. The plans of functions as plain statements, printed by wip/tools/vcgen.py; the kernel holds each to the code. The contracts of layer 15 (page): pages that are made. The contracts of layer 15 (page): what commits a page, and what a page tells. The contracts of layer 15 (page): the document's, and small ones. Plain data of layer 24 (pool): what each of its operations makes. The plans of functions as plain statements, printed by wip/tools/vcgen.py; the kernel holds each to the code. Some cells of an element of one's own slice are written. The order of the parts. The contracts of pool (layer 24): destroy, program, seal, begin. The contracts of pool (layer 24): begin, open. The contracts of pool (layer 24): new, opened, written, copied. Places are the same where all their numbers are. Maps from places to numbers, as parts. The plans of functions as plain statements, printed by wip/tools/vcgen.py; the kernel holds each to the code. The contracts of layer 22 (pagemap): what is newer. -/
import Derived.Test.YtbaojfchlhlaeaaGreatZReclaimLevelsc
set_option linter.unusedVariables false
set_option linter.unusedSimpArgs false
namespace Go.Proofs.YtbaojfchlhlaeaaGreat.Vc
open Go Go.Eng Go.RowKit
theorem appL {w:World} {a a2:Option Addr} {n c m c2:Nat} {xs ys:List Int} {B:Nat} {K:Option Addr→Nat→Nat→World→Prop} (ho:Own w B 5 1 a n c (xs.map (Value.int .u8))) (hy:Ints w .u8 a2 m c2 ys) (hB:B≤w.heap.size) (hn:n+m≤100000000)
  (hk:∀ a' c' w',Own w' B 5 1 a' (n+m) c' ((xs++ys).map (Value.int .u8))→Below B w w'→K a' (n+m) c' w') :
  AppS w a2 m 1 fun ns=>AppV w 5 1 1 a n c ns m K:=by
 refine AppS.of (news:=ys.map (Value.int .u8)) (by rw [List.length_map,hy.len];omega) hy.rd ?_
 refine AppV.own ho hB (by rw [List.length_map,hy.len];omega) (oneAll.ints _ _) (by omega) (by omega) fun a' c' w' h1 h2 _ _=>?_
 refine hk a' c' w' ?_ h2
 rw [List.map_append]
 exact h1
structure Hd where
 k:Int
 n:Int
 c:Int
 l:Int
 e:Int
 t:Int
abbrev Hd.vs (h:Hd):List Value:=[.int .i64 h.k,.int .i64 h.n,.int .i64 h.c,.int .u32 h.l,.int .u64 h.e,.int .u64 h.t]
abbrev Hd.val (h:Hd):Value:=.agg #[.int .i64 h.k,.int .i64 h.n,.int .i64 h.c,.int .u32 h.l,.int .u64 h.e,.int .u64 h.t]
abbrev Hd.tup (h:Hd):Int×Int×Int×Int×Int×Int×Unit:=(h.k,h.n,h.c,h.l,h.e,h.t,())
def Hd.rng (h:Hd):Prop:=(0≤h.l∧h.l<4294967296)∧(0≤h.e∧h.e<18446744073709551616)∧(0≤h.t∧h.t<18446744073709551616)
def HRight (h:Hd):Prop:=(1≤h.k∧h.k≤4)∧(0≤h.n∧h.n≤255)∧(0≤h.c∧h.c≤255)
instance (h:Hd):Decidable (HRight h):=by unfold HRight;infer_instance
def big (n:Int) (k:Nat):List Int:=(leL n k).reverse
def hdL (h:Hd):List Int:=[h.k,h.n,h.c,0]++big h.l 4++big h.e 8++big h.t 8
theorem big_length (n:Int) (k:Nat):(big n k).length=k:=by simp [big,leL_length]
theorem hdL_length (h:Hd):(hdL h).length=24:=by simp [hdL,big_length]
theorem newH {w:World} {h:Hd} {K:Nat→World→Prop} (hk:∀ b w1,Ext w w1→Box w1 w.heap.size b 62 h.vs→K b w1):NewV #[.int .i64 h.k,.int .i64 h.n,.int .i64 h.c,.int .u32 h.l,.int .u64 h.e,.int .u64 h.t] 62 w K:=newBox hk
theorem ldH {w:World} {h:Hd} {B b:Nat} {e:TypeId} (hb:Box w B b e h.vs) {K:Int×Int×Int×Int×Int×Int×Unit→Prop} (hk:K h.tup):LoadA w ⟨b,0,none⟩ [.int .i64,.int .i64,.int .i64,.int .u32,.int .u64,.int .u64] K:=hb.lda (l:=[.int .i64,.int .i64,.int .i64,.int .u32,.int .u64,.int .u64]) h.tup rfl hk
theorem Own.list {w:World} {xs:List Int} {n:Nat} (hn:n=xs.length) (h9:n≤9223372036854775807):Own (w.alloc (.cells (xs.map (Value.int .u8)).toArray 5)) w.heap.size 5 1 (some ⟨w.heap.size,0,none⟩) n n (xs.map (Value.int .u8)):=by
 have:=Own.new (w:=w) (B:=w.heap.size) (e:=5) (sz:=1) (n:=n) (c:=n) (cs:=xs.map (Value.int .u8)) (Nat.le_refl _) (by simp [hn]) (Nat.le_refl _) h9 (oneAll.ints _ _)
 rwa [List.take_of_length_le (by simp [hn])] at this
theorem wrap_u8 {x:Int} (h:0≤x∧x≤255):IntKind.u8.wrap x=x:=by rw [u8_wrap];omega
theorem c4:cl8 4=4:=by decide
theorem c8:cl8 8=8:=by decide
theorem Bytes_c {w:World} {h:Hd} (hg:h.rng):CallV Tryz.prog 248 #[h.val] w [.one .sl,.one (.int .i64)] fun r w'=>Ext w w'∧(HRight h→Res w w' r.1 (hdL h)∧r.2.1=(0:Int))∧(¬ HRight h→r.1=(⟨none,0,0⟩:SlV)∧r.2.1=(2:Int)):=by
 unfold Hd.rng at hg
 refine head_Bytes.vc _ _ _ _ _ _ _ _ ?_
 unfold head_Bytes.P
 refine newH fun b1 w1 e1 hb=>?_
 have no:∀ {w':World},¬ HRight h→Ext w w'→(Ext w w'∧(HRight h→Res w w' (⟨none,0,0⟩:SlV) (hdL h)∧(2:Int)=(0:Int))∧(¬ HRight h→(⟨none,0,0⟩:SlV)=(⟨none,0,0⟩:SlV)∧(2:Int)=(2:Int))):=fun hr he=>⟨he,fun h=>absurd h hr,fun _=>⟨rfl,rfl⟩⟩
 refine hb.ld (i:=0) (h:=.int .i64) (x:=h.k) rfl ?_
 refine hb.ld (i:=1) (h:=.int .i64) (x:=h.n) rfl ?_
 refine hb.ld (i:=2) (h:=.int .i64) (x:=h.c) rfl ?_
 refine Loop1 (fun (y:Int×Unit) w'=>∃ i:Nat,y.1=(i:Int)∧i≤3∧(∀ j,j<i→0≤[h.k,h.n,h.c].getD j 0∧[h.k,h.n,h.c].getD j 0≤255)∧w'=w1) (fun (y:Int×Unit) _=>(3-y.1).toNat) ⟨0,rfl,by omega,fun j hj=>absurd hj (by omega),rfl⟩ ?_
 rintro ⟨(z:Int),⟨⟩⟩ w' ⟨i,hz,h3,hr,rfl⟩
 dsimp only at hz ⊢
 subst hz
 refine cond_d (fun hlt=>?_) (fun hge=>?_)
 ·refine ⟨⟨by omega,hlt⟩,[h.k,h.n,h.c].getD i 0,?_,?_⟩
  ·rw [Int.toNat_natCast]
   match i,hlt with
   | 0,_=>rfl
   | 1,_=>rfl
   | 2,_=>rfl
   | n+3,hh=>exact absurd hh (by omega)
  ·have bad:¬ (0≤[h.k,h.n,h.c].getD i 0∧[h.k,h.n,h.c].getD i 0≤255)→¬ HRight h:=fun hb hrr=>hb (by
    unfold HRight at hrr
    match i,hlt with
    | 0,_=>show 0≤h.k∧h.k≤255;omega
    | 1,_=>exact hrr.2.1
    | 2,_=>exact hrr.2.2
    | n+3,hh=>exact absurd hh (by omega))
   refine cond_d (fun hc=>no (bad (by omega)) e1) (fun hc=>cond_d (fun hc'=>no (bad (by omega)) e1) (fun hc'=>?_))
   refine ⟨Rng.i64 (by omega) (by omega),⟨i+1,by push_cast;rfl,by omega,fun j hj=>?_,rfl⟩,by omega⟩
   by_cases hji:j=i
   ·subst hji;omega
   ·exact hr j (by omega)
 ·have:i=3:=by omega
  subst this
  have k0:0≤h.k∧h.k≤255:=hr 0 (by omega)
  have k1:0≤h.n∧h.n≤255:=hr 1 (by omega)
  have k2:0≤h.c∧h.c≤255:=hr 2 (by omega)
  refine hb.ld (i:=0) (h:=.int .i64) (x:=h.k) rfl (cond_d (fun hc=>no (fun hr=>by unfold HRight at hr;omega) e1) (fun c1=>?_))
  refine hb.ld (i:=0) (h:=.int .i64) (x:=h.k) rfl (cond_d (fun hc=>no (fun hr=>by unfold HRight at hr;omega) e1) (fun c2=>?_))
  have hR:HRight h:=⟨by omega,k1,k2⟩
  refine hb.ld (i:=0) (h:=.int .i64) (x:=h.k) rfl ?_
  refine hb.ld (i:=1) (h:=.int .i64) (x:=h.n) rfl ?_
  refine hb.ld (i:=2) (h:=.int .i64) (x:=h.c) rfl ?_
  rw [wrap_u8 k0,wrap_u8 k1,wrap_u8 k2]
  rintro b2 w2 rfl rfl
  have ho:=Own.list (w:=w') (xs:=[h.k,h.n,h.c,0]) (n:=4) rfl (by omega)
  have x2:Ext w' (w'.alloc (.cells #[.int .u8 h.k,.int .u8 h.n,.int .u8 h.c,.int .u8 0] 5)):=Ext.alloc _ _
  generalize hw2:w'.alloc (.cells #[.int .u8 h.k,.int .u8 h.n,.int .u8 h.c,.int .u8 0] 5)=w2 at x2 ⊢
  have ho2:Own w2 w'.heap.size 5 1 (some ⟨w'.heap.size,0,none⟩) 4 4 ([h.k,h.n,h.c,0].map (Value.int .u8)):=by rw [←hw2];exact ho
  refine (hb.ext x2).ld (i:=3) (h:=.int .u32) (x:=h.l) rfl ?_
  rw [show IntKind.u64.wrap h.l=h.l from u64_id (by omega) (by omega)]
  refine (Big_c (by omega)).mono ?_
  rintro ⟨(s3:SlV),⟨⟩⟩ w3 h3
  dsimp only at h3 ⊢
  rw [c4] at h3
  have l3:=h3.ints.len
  rw [List.length_reverse,leL_length] at l3
  have x3:=x2.trans h3.ext
  refine appL (ho2.ext h3.ext) h3.ints x3.size (by omega) fun a4 c4' w4 o4 b4=>?_
  have x4:Ext w' w4:=Below.trans x3 b4
  refine (hb.ext x4).ld (i:=4) (h:=.int .u64) (x:=h.e) rfl ?_
  refine (Big_c (by omega)).mono ?_
  rintro ⟨(s5:SlV),⟨⟩⟩ w5 h5
  dsimp only at h5 ⊢
  rw [c8] at h5
  have l5:=h5.ints.len
  rw [List.length_reverse,leL_length] at l5
  have x5:=x4.trans h5.ext
  refine appL (o4.ext h5.ext) h5.ints x5.size (by omega) fun a6 c6' w6 o6 b6=>?_
  have x6:Ext w' w6:=Below.trans x5 b6
  refine (hb.ext x6).ld (i:=5) (h:=.int .u64) (x:=h.t) rfl ?_
  refine (Big_c (by omega)).mono ?_
  rintro ⟨(s7:SlV),⟨⟩⟩ w7 h7
  dsimp only at h7 ⊢
  rw [c8] at h7
  have l7:=h7.ints.len
  rw [List.length_reverse,leL_length] at l7
  have x7:=x6.trans h7.ext
  refine appL (o6.ext h7.ext) h7.ints x7.size (by omega) fun a8 c8' w8 o8 b8=>?_
  have x8:Ext w' w8:=Below.trans x7 b8
  exact ⟨e1.trans x8,fun _=>⟨⟨e1.trans x8,o8.mono e1.size⟩,rfl⟩,fun hn=>absurd hR hn⟩
end Go.Proofs.YtbaojfchlhlaeaaGreat.Vc
namespace Go.Proofs.YtbaojfchlhlaeaaGreat.Vc
open Go Go.Eng Go.RowKit
theorem MarkLen_c {w:World} {n:Int} (h:88≤n∧n≤4184):CallV Tryz.prog 254 #[.int .i64 n] w [.one .sl] fun r w'=>Res w w' r.1 (List.replicate (n-8).toNat 255++List.replicate 8 0):=by
 refine head_Mark.vc _ _ _ ?_
 unfold head_Mark.P
 refine cond_d (fun h=>by omega) (fun _=>cond_d (fun h=>by omega) (fun _=>⟨Rng.i64 (by omega) (by omega),?_⟩))
 refine Fill_c.mono ?_
 rintro ⟨(s1:SlV),⟨⟩⟩ w1 h1
 refine Fill_c.mono ?_
 rintro ⟨(s2:SlV),⟨⟩⟩ w2 h2
 dsimp only at h1 h2 ⊢
 generalize hL:(65536:Int)=L at h1 h2
 rw [show max 0 (min L (n-8))=n-8 by omega] at h1
 rw [show (max 0 (min L 8)).toNat=8 by omega] at h2
 have l1:=h1.ints.len
 have l2:=h2.ints.len
 rw [List.length_replicate] at l1 l2
 refine appL (h1.own.ext h2.ext) h2.ints (Nat.le_trans h1.ext.size h2.ext.size) (by omega) fun a' c' w' o b=>?_
 exact ⟨Below.trans (h1.ext.trans h2.ext) b,o⟩
end Go.Proofs.YtbaojfchlhlaeaaGreat.Vc
namespace Go.Proofs.YtbaojfchlhlaeaaGreat.Vc
open Go Go.Eng Go.RowKit
theorem appLB {w:World} {a a2:Option Addr} {n c m c2:Nat} {xs ys:List Int} {B:Nat} {K:Option Addr→Nat→Nat→World→Prop} (ho:Own w B 5 1 a n c (xs.map (Value.int .u8))) (hy:Ints w .u8 a2 m c2 ys) (hB:B≤w.heap.size) (hn:n+m≤100000000)
  (hk:∀ a' c' w',Own w' B 5 1 a' (n+m) c' ((xs++ys).map (Value.int .u8))→Below B w w'→But a w w'→K a' (n+m) c' w') :
  AppS w a2 m 1 fun ns=>AppV w 5 1 1 a n c ns m K:=by
 refine AppS.of (news:=ys.map (Value.int .u8)) (by rw [List.length_map,hy.len];omega) hy.rd ?_
 refine AppV.own ho hB (by rw [List.length_map,hy.len];omega) (oneAll.ints _ _) (by omega) (by omega) fun a' c' w' h1 h2 h3 _=>?_
 refine hk a' c' w' ?_ h2 h3
 rw [List.map_append]
 exact h1
theorem intsU_but {w w':World} {a a2:Option Addr} {n c:Nat} {xs:List Int} (h:Ints w .u8 a n c xs) (x:But a2 w w') (hne:∀ p q,a=some p→a2=some q→p.block≠q.block):Ints w' .u8 a n c xs:=by
 refine ⟨h.len,h.cap,h.lim,?_⟩
 rcases h.rd with h1 | ⟨p,h1,h2⟩
 ·exact .inl h1
 ·refine .inr ⟨p,h1,?_⟩
  cases hx:xs.map (Value.int .u8) with
  | nil=>intro j v hv;simp at hv
  | cons v vs=>
   rw [hx] at h2
   exact cells_same (x _ (cells_lt h2) (fun q hq=>hne p q h1 hq)) h2
theorem Res.apart {w0 w1 w2:World} {s t:SlV} {xs ys:List Int} (h:Res w0 w1 s xs) (k:Res w1 w2 t ys):∀ p q,t.a=some p→s.a=some q→p.block≠q.block:=by
 intro p q hp hq
 rcases h.own.at_ with ⟨h1,_⟩ | ⟨b,cs,h1,_,h3,_⟩
 ·rw [h1] at hq;cases hq
 ·rcases k.own.at_ with ⟨k1,_⟩ | ⟨b',cs',k1,k2,_⟩
  ·rw [k1] at hp;cases hp
  ·rw [k1] at hp;rw [h1] at hq
   have e1:=Option.some.inj hp
   have e2:=Option.some.inj hq
   subst e1;subst e2
   have hlt:b<w1.heap.size:=(Array.getElem?_eq_some_iff.1 h3).1
   show b'≠b
   omega
def tagL (tg:List Int):List Int:=if tg.length=0 then List.replicate 32 255 else tg
def endL (h:Hd) (tg:List Int):List Int:=((hdL h++invL (hdL h))++tagL tg)++List.replicate 8 255
def ERight (h:Hd) (n:Nat):Prop:=HRight h∧(n=0∨n=32)
instance (h:Hd) (n:Nat):Decidable (ERight h n):=by unfold ERight;infer_instance
theorem invL_length (xs:List Int):(invL xs).length=xs.length:=by simp [invL]
theorem fill32:(max 0 (min (65536:Int) 32)).toNat=32:=by generalize hL:(65536:Int)=L;omega
theorem fill8:(max 0 (min (65536:Int) 8)).toNat=8:=by generalize hL:(65536:Int)=L;omega
theorem End_c {w:World} {h:Hd} {a:Option Addr} {n c:Nat} {tg:List Int} (hg:h.rng) (ht:Ints w .u8 a n c tg) :
  CallV Tryz.prog 204 #[h.val,.slice a n c] w [.one .sl,.one (.int .i64)] fun r w'=>Ext w w'∧(ERight h n→Res w w' r.1 (endL h tg)∧r.2.1=(0:Int))∧(¬ ERight h n→r.1=(⟨none,0,0⟩:SlV)∧r.2.1=(2:Int)):=by
 refine head_End.vc _ _ _ _ _ _ _ _ _ _ _ ?_
 unfold head_End.P
 have lt:=ht.len
 refine newH fun b1 w1 e1 hb=>?_
 refine ldH hb ?_
 refine (Bytes_c (h:=h) hg).mono ?_
 rintro ⟨⟨sa,sn,sc⟩,(e2:Int),⟨⟩⟩ w2 ⟨x2,h2,h2'⟩
 dsimp only at h2 h2' ⊢
 have E2:=e1.trans x2
 have no:∀ {w':World},¬ ERight h n→Ext w w'→(Ext w w'∧(ERight h n→Res w w' (⟨none,0,0⟩:SlV) (endL h tg)∧(2:Int)=(0:Int))∧(¬ ERight h n→(⟨none,0,0⟩:SlV)=(⟨none,0,0⟩:SlV)∧(2:Int)=(2:Int))):=fun hr he=>⟨he,fun h=>absurd h hr,fun _=>⟨rfl,rfl⟩⟩
 by_cases hR:¬ HRight h
 ·obtain ⟨_,k2⟩:=h2' hR
  refine cond_t (by rw [k2];rfl) ?_
  have:=no (w':=w2) (fun hh=>hR hh.1) E2
  rw [k2]
  exact this
 have hR:=Decidable.not_not.1 hR
 obtain ⟨k1,k2⟩:=h2 hR
 have l1:=k1.ints.len
 rw [hdL_length] at l1
 dsimp only at l1
 subst l1
 refine cond_f (by rw [k2];rfl) ?_
 have fin:∀ {w':World} {a':Option Addr} {m c':Nat},Ext w w'→Own w' w1.heap.size 5 1 a' m c' ((endL h tg).map (Value.int .u8))→ERight h n →
   (Ext w w'∧(ERight h n→Res w w' (⟨a',m,c'⟩:SlV) (endL h tg)∧(0:Int)=(0:Int))∧(¬ ERight h n→(⟨a',m,c'⟩:SlV)=(⟨none,0,0⟩:SlV)∧(0:Int)=(2:Int))):=fun e o hr=>
  ⟨e,fun _=>⟨⟨e,o.mono e1.size⟩,rfl⟩,fun hn=>absurd hr hn⟩
 refine cond_eq (fun h0=>?_) (fun h0=>?_)
 ·refine Fill_c.mono ?_
  rintro ⟨⟨ta,tn,tc⟩,⟨⟩⟩ w3 h3
  dsimp only at h3 ⊢
  rw [fill32] at h3
  have l3:=h3.ints.len
  rw [List.length_replicate] at l3
  dsimp only at l3
  subst l3
  refine cond_ne (fun hh=>absurd rfl hh) (fun _=>?_)
  refine (Invert_c (k1.ints.ext h3.ext) (by dsimp only;omega)).mono ?_
  rintro ⟨⟨va,vn,vc⟩,⟨⟩⟩ w4 h4
  dsimp only at h4 ⊢
  have l4:=h4.ints.len
  rw [invL_length,hdL_length] at l4
  dsimp only at l4
  subst l4
  have x4:=h3.ext.trans h4.ext
  have X4:Ext w1 w4:=x2.trans x4
  refine appLB (k1.own.ext x4) h4.ints X4.size (by omega) fun a5 c5 w5 o5 b5 but5=>?_
  have X5:Ext w1 w5:=Below.trans X4 b5
  have i5:=intsU_but (h3.ints.ext h4.ext) but5 (Res.apart k1 h3)
  refine appL o5 i5 X5.size (by omega) fun a6 c6 w6 o6 b6=>?_
  have X6:Ext w1 w6:=Below.trans X5 b6
  refine Fill_c.mono ?_
  rintro ⟨⟨ua,un,uc⟩,⟨⟩⟩ w7 h7
  dsimp only at h7 ⊢
  rw [fill8] at h7
  have l7:=h7.ints.len
  rw [List.length_replicate] at l7
  dsimp only at l7
  subst l7
  have X7:=X6.trans h7.ext
  refine appL (o6.ext h7.ext) h7.ints X7.size (by omega) fun a8 c8 w8 o8 b8=>?_
  have X8:Ext w1 w8:=Below.trans X7 b8
  have ht0:tagL tg=List.replicate 32 255:=by unfold tagL;rw [if_pos (by omega)]
  refine fin (e1.trans X8) ?_ ⟨hR,.inl (by omega)⟩
  unfold endL
  rw [ht0]
  exact o8
 ·refine cond_ne (fun hh=>no (fun hr=>by unfold ERight at hr;omega) E2) (fun h32=>?_)
  refine (Invert_c k1.ints (by dsimp only;omega)).mono ?_
  rintro ⟨⟨va,vn,vc⟩,⟨⟩⟩ w4 h4
  dsimp only at h4 ⊢
  have l4:=h4.ints.len
  rw [invL_length,hdL_length] at l4
  dsimp only at l4
  subst l4
  have X4:Ext w1 w4:=x2.trans h4.ext
  refine appL (k1.own.ext h4.ext) h4.ints X4.size (by omega) fun a5 c5 w5 o5 b5=>?_
  have X5:Ext w1 w5:=Below.trans X4 b5
  refine appL o5 (ht.ext (e1.trans X5)) X5.size (by omega) fun a6 c6 w6 o6 b6=>?_
  have X6:Ext w1 w6:=Below.trans X5 b6
  refine Fill_c.mono ?_
  rintro ⟨⟨ua,un,uc⟩,⟨⟩⟩ w7 h7
  dsimp only at h7 ⊢
  rw [fill8] at h7
  have l7:=h7.ints.len
  rw [List.length_replicate] at l7
  dsimp only at l7
  subst l7
  have X7:=X6.trans h7.ext
  refine appL (o6.ext h7.ext) h7.ints X7.size (by omega) fun a8 c8 w8 o8 b8=>?_
  have X8:Ext w1 w8:=Below.trans X7 b8
  have ht0:tagL tg=tg:=by unfold tagL;rw [if_neg (by omega)]
  refine fin (e1.trans X8) ?_ ⟨hR,.inr (by omega)⟩
  unfold endL
  rw [ht0]
  exact o8
end Go.Proofs.YtbaojfchlhlaeaaGreat.Vc
namespace Go.Proofs.YtbaojfchlhlaeaaGreat.Vc
open Go Go.Eng Go.RowKit
def part (xs:List Int) (i j:Nat):List Int:=(xs.drop i).take (j-i)
end Go.Proofs.YtbaojfchlhlaeaaGreat.Vc
namespace Go.Proofs.YtbaojfchlhlaeaaGreat.Vc
open Go Go.Eng Go.RowKit
theorem tagL_length {tg:List Int} (hl:tg.length=0∨tg.length=32):(tagL tg).length=32:=by
 unfold tagL
 split
 ·simp
 ·omega
theorem endL_length (h:Hd) {tg:List Int} (hl:tg.length=0∨tg.length=32):(endL h tg).length=88:=by
 unfold endL
 rw [List.length_append,List.length_append,List.length_append,invL_length,hdL_length,tagL_length hl,List.length_replicate]
theorem big_byt (n:Int) (k:Nat):Byt (big n k):=(leL_byt n k).reverse
theorem hdL_byt {h:Hd} (hR:HRight h):Byt (hdL h):=by
 unfold HRight at hR
 unfold hdL
 refine (((Byt.cons (by omega) (Byt.cons (by omega) (Byt.cons (by omega) (Byt.cons (by omega) Byt.nil)))).append (big_byt _ _)).append (big_byt _ _)).append (big_byt _ _)
theorem endL_byt {h:Hd} (hg:h.rng) (hR:HRight h) {tg:List Int} (bt:Byt tg):Byt (endL h tg):=by
 unfold endL
 refine (((hdL_byt hR).append (invL_byt _)).append ?_).append (Byt.replicate (by omega) (by omega) _)
 unfold tagL
 split
 ·exact Byt.replicate (by omega) (by omega) _
 ·exact bt
end Go.Proofs.YtbaojfchlhlaeaaGreat.Vc
namespace Go.Proofs.YtbaojfchlhlaeaaGreat.Vc
open Go Go.Eng
def page_Make.A:Ann:=.no
def page_Make.P (p0_0 p0_1 p0_2 p0_3 p0_4 p0_5 p1_0 p1_1 p1_2 p1_3 p1_4 p1_5:Int) (a2:Option Addr) (n2 c2:Nat) (a3:Option Addr) (n3 c3:Nat) (w:World) (K:SlV×Int×Unit→World→Prop):Prop:=
 NewV #[.int .i64 p0_0,.int .i64 p0_1,.int .i64 p0_2,.int .i64 p0_3,.int .i64 p0_4,.int .i64 p0_5] 23 w fun b1 w2=>
 NewV #[.int .i64 p1_0,.int .i64 p1_1,.int .i64 p1_2,.int .u32 p1_3,.int .u64 p1_4,.int .u64 p1_5] 62 w2 fun b3 w4=>
 LoadA w4 ⟨b1,0,none⟩ [.int .i64,.int .i64,.int .i64,.int .i64,.int .i64,.int .i64] fun (x5:Int×Int×Int×Int×Int×Int×Unit)=>
 CallV Tryz.prog 110 #[.agg #[.int .i64 x5.1,.int .i64 x5.2.1,.int .i64 x5.2.2.1,.int .i64 x5.2.2.2.1,.int .i64 x5.2.2.2.2.1,.int .i64 x5.2.2.2.2.2.1]] w4 [.one (.int .i64)] fun (r6:Int×Unit) w7=>
 cond (r6.1 != 0)
 (K ((⟨none,0,0⟩:SlV),(2:Int),()) w7)
 (cond (((n2:Nat):Int) == 0)
 (LoadS w7 ⟨b1,2,none⟩ (.int .i64) fun (x8:Int)=>
 CallV Tryz.prog 203 #[.int .u8 255,.int .i64 x8] w7 [.one .sl] fun (r9:SlV×Unit) w10=>
 LoadS w10 ⟨b1,2,none⟩ (.int .i64) fun (x11:Int)=>
 cond (((r9.1.n:Nat):Int) != x11)
 (K ((⟨none,0,0⟩:SlV),(2:Int),()) w10)
 (LoadA w10 ⟨b3,0,none⟩ [.int .i64,.int .i64,.int .i64,.int .u32,.int .u64,.int .u64] fun (x12:Int×Int×Int×Int×Int×Int×Unit)=>
 CallV Tryz.prog 204 #[.agg #[.int .i64 x12.1,.int .i64 x12.2.1,.int .i64 x12.2.2.1,.int .u32 x12.2.2.2.1,.int .u64 x12.2.2.2.2.1,.int .u64 x12.2.2.2.2.2.1],.slice a3 n3 c3] w10 [.one .sl,.one (.int .i64)] fun (r13:SlV×Int×Unit) w14=>
 cond (r13.2.1 != 0)
 (K ((⟨none,0,0⟩:SlV),r13.2.1,()) w14)
 (NewV #[] 5 w14 fun b15 w16=>
 AppS w16 r9.1.a r9.1.n 1 fun ns21=>
 AppV w16 5 1 1 (some ⟨b15,0,none⟩) 0 0 ns21 r9.1.n fun a17 n18 c19 w20=>
 AppS w20 r13.1.a r13.1.n 1 fun ns26=>
 AppV w20 5 1 1 a17 n18 c19 ns26 r13.1.n fun a22 n23 c24 w25=>
 K ((⟨a22,n23,c24⟩:SlV),(0:Int),()) w25)))
 (LoadS w7 ⟨b1,2,none⟩ (.int .i64) fun (x27:Int)=>
 cond (((n2:Nat):Int) != x27)
 (K ((⟨none,0,0⟩:SlV),(2:Int),()) w7)
 (LoadA w7 ⟨b3,0,none⟩ [.int .i64,.int .i64,.int .i64,.int .u32,.int .u64,.int .u64] fun (x28:Int×Int×Int×Int×Int×Int×Unit)=>
 CallV Tryz.prog 204 #[.agg #[.int .i64 x28.1,.int .i64 x28.2.1,.int .i64 x28.2.2.1,.int .u32 x28.2.2.2.1,.int .u64 x28.2.2.2.2.1,.int .u64 x28.2.2.2.2.2.1],.slice a3 n3 c3] w7 [.one .sl,.one (.int .i64)] fun (r29:SlV×Int×Unit) w30=>
 cond (r29.2.1 != 0)
 (K ((⟨none,0,0⟩:SlV),r29.2.1,()) w30)
 (NewV #[] 5 w30 fun b31 w32=>
 AppS w32 a2 n2 1 fun ns37=>
 AppV w32 5 1 1 (some ⟨b31,0,none⟩) 0 0 ns37 n2 fun a33 n34 c35 w36=>
 AppS w36 r29.1.a r29.1.n 1 fun ns42=>
 AppV w36 5 1 1 a33 n34 c35 ns42 r29.1.n fun a38 n39 c40 w41=>
 K ((⟨a38,n39,c40⟩:SlV),(0:Int),()) w41))))
theorem page_Make.vc (p0_0 p0_1 p0_2 p0_3 p0_4 p0_5 p1_0 p1_1 p1_2 p1_3 p1_4 p1_5:Int) (a2:Option Addr) (n2 c2:Nat) (a3:Option Addr) (n3 c3:Nat) (w:World) (K:SlV×Int×Unit→World→Prop) (h:page_Make.P p0_0 p0_1 p0_2 p0_3 p0_4 p0_5 p1_0 p1_1 p1_2 p1_3 p1_4 p1_5 a2 n2 c2 a3 n3 c3 w K):CallV Tryz.prog 168 #[.agg #[.int .i64 p0_0,.int .i64 p0_1,.int .i64 p0_2,.int .i64 p0_3,.int .i64 p0_4,.int .i64 p0_5],.agg #[.int .i64 p1_0,.int .i64 p1_1,.int .i64 p1_2,.int .u32 p1_3,.int .u64 p1_4,.int .u64 p1_5],.slice a2 n2 c2,.slice a3 n3 c3] w [.one .sl,.one (.int .i64)] K:=by
 refine vcFun.of (A:=page_Make.A) (wr:=false) okf_ok follows h Tryz.func168 ?_
 kernel_rfl
def page_Commit.A:Ann:=.no
def page_Commit.P (p0_0 p0_1 p0_2 p0_3 p0_4 p0_5:Int) (w:World) (K:SlV×Int×Unit→World→Prop):Prop:=
 NewV #[.int .i64 p0_0,.int .i64 p0_1,.int .i64 p0_2,.int .i64 p0_3,.int .i64 p0_4,.int .i64 p0_5] 23 w fun b1 w2=>
 LoadA w2 ⟨b1,0,none⟩ [.int .i64,.int .i64,.int .i64,.int .i64,.int .i64,.int .i64] fun (x3:Int×Int×Int×Int×Int×Int×Unit)=>
 CallV Tryz.prog 110 #[.agg #[.int .i64 x3.1,.int .i64 x3.2.1,.int .i64 x3.2.2.1,.int .i64 x3.2.2.2.1,.int .i64 x3.2.2.2.2.1,.int .i64 x3.2.2.2.2.2.1]] w2 [.one (.int .i64)] fun (r4:Int×Unit) w5=>
 cond (r4.1 != 0)
 (K ((⟨none,0,0⟩:SlV),(2:Int),()) w5)
 (LoadA w5 ⟨b1,0,none⟩ [.int .i64,.int .i64,.int .i64,.int .i64,.int .i64,.int .i64] fun (x6:Int×Int×Int×Int×Int×Int×Unit)=>
 CallV Tryz.prog 143 #[.agg #[.int .i64 x6.1,.int .i64 x6.2.1,.int .i64 x6.2.2.1,.int .i64 x6.2.2.2.1,.int .i64 x6.2.2.2.2.1,.int .i64 x6.2.2.2.2.2.1]] w5 [.one (.int .i64)] fun (r7:Int×Unit) w8=>
 CallV Tryz.prog 254 #[.int .i64 r7.1] w8 [.one .sl] fun (r9:SlV×Unit) w10=>
 K (r9.1,(0:Int),()) w10)
theorem page_Commit.vc (p0_0 p0_1 p0_2 p0_3 p0_4 p0_5:Int) (w:World) (K:SlV×Int×Unit→World→Prop) (h:page_Commit.P p0_0 p0_1 p0_2 p0_3 p0_4 p0_5 w K):CallV Tryz.prog 206 #[.agg #[.int .i64 p0_0,.int .i64 p0_1,.int .i64 p0_2,.int .i64 p0_3,.int .i64 p0_4,.int .i64 p0_5]] w [.one .sl,.one (.int .i64)] K:=by
 refine vcFun.of (A:=page_Commit.A) (wr:=false) okf_ok follows h Tryz.func206 ?_
 kernel_rfl
end Go.Proofs.YtbaojfchlhlaeaaGreat.Vc
namespace Go.Proofs.YtbaojfchlhlaeaaGreat.Vc
open Go Go.Eng Go.RowKit
def payL (g:Geo) (pl:List Int):List Int:=if pl.length=0 then List.replicate g.s.toNat 255 else pl
def mkL (g:Geo) (h:Hd) (pl tg:List Int):List Int:=payL g pl++endL h tg
def comL (g:Geo):List Int:=List.replicate (g.s+80).toNat 255++List.replicate 8 0
def PRight (g:Geo) (h:Hd) (n m:Nat):Prop:=Right g∧ERight h m∧(n=0∨(n:Int)=g.s)
instance (g:Geo) (h:Hd) (n m:Nat):Decidable (PRight g h n m):=by unfold PRight;infer_instance
theorem Make_c {w:World} {g:Geo} {h:Hd} {a a2:Option Addr} {n c m c2:Nat} {xs ts:List Int} (hg:h.rng) (hx:Ints w .u8 a n c xs) (ht:Ints w .u8 a2 m c2 ts) :
  CallV Tryz.prog 168 #[g.val,h.val,.slice a n c,.slice a2 m c2] w [.one .sl,.one (.int .i64)] fun r w'=>Ext w w'∧(PRight g h n m→Res w w' r.1 (mkL g h xs ts)∧r.2.1=(0:Int))∧(¬ PRight g h n m→r.1=(⟨none,0,0⟩:SlV)∧r.2.1=(2:Int)):=by
 apply page_Make.vc
 unfold page_Make.P
 have S:=Sep.start NoB w
 have no:∀ {w':World},¬ PRight g h n m→Ext w w'→(Ext w w'∧(PRight g h n m→Res w w' (⟨none,0,0⟩:SlV) (mkL g h xs ts)∧(2:Int)=(0:Int))∧(¬ PRight g h n m→(⟨none,0,0⟩:SlV)=(⟨none,0,0⟩:SlV)∧(2:Int)=(2:Int))):=fun hr he=>⟨he,fun h=>absurd h hr,fun _=>⟨rfl,rfl⟩⟩
 have lx:=hx.len
 have lt:=ht.len
 (repeat ((first | refine S.newB fun _ _ S f _=>?_ | refine S.la0 rfl ?_ | refine S.la1 rfl ?_ | refine S.la2 rfl ?_ | refine S.la3 rfl ?_ | refine S.la4 rfl ?_ | refine S.la5 rfl ?_ | refine S.ld0 rfl rfl ?_ | refine S.ld1 rfl rfl ?_ | refine S.ld2 rfl rfl ?_ | refine S.ld3 rfl rfl ?_ | refine S.ld4 rfl rfl ?_ | refine S.ld5 rfl rfl ?_ | refine S.st0 (by rfl) fun _ S f=>?_ | refine S.st1 (by rfl) fun _ S f=>?_ | refine S.st2 (by rfl) fun _ S f=>?_ | refine S.st3 (by rfl) fun _ S f=>?_ | refine S.st4 (by rfl) fun _ S f=>?_ | refine S.st5 (by rfl) fun _ S f=>?_ | refine S.su0 (by rfl) fun _ S f=>?_ | refine S.su1 (by rfl) fun _ S f=>?_ | refine S.su2 (by rfl) fun _ S f=>?_ | refine S.su3 (by rfl) fun _ S f=>?_ | refine S.su4 (by rfl) fun _ S f=>?_ | refine S.su5 (by rfl) fun _ S f=>?_ | refine ⟨by decide,?_⟩);try dsimp only [List.set_cons_zero,List.set_cons_succ,cond_true,cond_false,Bool.not_true,Bool.not_false]))
 refine (Check_c (g:=g)).mono ?_
 rintro ⟨(r:Int),⟨⟩⟩ w2 ⟨h2,e2⟩
 dsimp only at h2 ⊢
 have S:=S.stepE e2
 subst h2
 by_cases hR:Right g
 ·refine cond_f (by unfold chkE;rw [if_pos hR];rfl) ?_
  have hs:=hR.sec
  refine cond_eq (fun h0=>?_) (fun h0=>?_)
  ·(repeat ((first | refine S.newB fun _ _ S f _=>?_ | refine S.la0 rfl ?_ | refine S.la1 rfl ?_ | refine S.la2 rfl ?_ | refine S.la3 rfl ?_ | refine S.la4 rfl ?_ | refine S.la5 rfl ?_ | refine S.ld0 rfl rfl ?_ | refine S.ld1 rfl rfl ?_ | refine S.ld2 rfl rfl ?_ | refine S.ld3 rfl rfl ?_ | refine S.ld4 rfl rfl ?_ | refine S.ld5 rfl rfl ?_ | refine S.st0 (by rfl) fun _ S f=>?_ | refine S.st1 (by rfl) fun _ S f=>?_ | refine S.st2 (by rfl) fun _ S f=>?_ | refine S.st3 (by rfl) fun _ S f=>?_ | refine S.st4 (by rfl) fun _ S f=>?_ | refine S.st5 (by rfl) fun _ S f=>?_ | refine S.su0 (by rfl) fun _ S f=>?_ | refine S.su1 (by rfl) fun _ S f=>?_ | refine S.su2 (by rfl) fun _ S f=>?_ | refine S.su3 (by rfl) fun _ S f=>?_ | refine S.su4 (by rfl) fun _ S f=>?_ | refine S.su5 (by rfl) fun _ S f=>?_ | refine ⟨by decide,?_⟩);try dsimp only [List.set_cons_zero,List.set_cons_succ,cond_true,cond_false,Bool.not_true,Bool.not_false]))
   refine Fill_c.mono ?_
   rintro ⟨⟨sa,sn,sc⟩,⟨⟩⟩ w3 h3
   dsimp only at h3 ⊢
   have l3:=h3.ints.len
   rw [List.length_replicate,fill_sec hs] at l3
   have S:=S.res h3
   rw [fill_sec hs] at S
   dsimp only at l3 S
   subst l3
   (repeat ((first | refine S.newB fun _ _ S f _=>?_ | refine S.la0 rfl ?_ | refine S.la1 rfl ?_ | refine S.la2 rfl ?_ | refine S.la3 rfl ?_ | refine S.la4 rfl ?_ | refine S.la5 rfl ?_ | refine S.ld0 rfl rfl ?_ | refine S.ld1 rfl rfl ?_ | refine S.ld2 rfl rfl ?_ | refine S.ld3 rfl rfl ?_ | refine S.ld4 rfl rfl ?_ | refine S.ld5 rfl rfl ?_ | refine S.st0 (by rfl) fun _ S f=>?_ | refine S.st1 (by rfl) fun _ S f=>?_ | refine S.st2 (by rfl) fun _ S f=>?_ | refine S.st3 (by rfl) fun _ S f=>?_ | refine S.st4 (by rfl) fun _ S f=>?_ | refine S.st5 (by rfl) fun _ S f=>?_ | refine S.su0 (by rfl) fun _ S f=>?_ | refine S.su1 (by rfl) fun _ S f=>?_ | refine S.su2 (by rfl) fun _ S f=>?_ | refine S.su3 (by rfl) fun _ S f=>?_ | refine S.su4 (by rfl) fun _ S f=>?_ | refine S.su5 (by rfl) fun _ S f=>?_ | refine ⟨by decide,?_⟩);try dsimp only [List.set_cons_zero,List.set_cons_succ,cond_true,cond_false,Bool.not_true,Bool.not_false]))
   refine cond_ne (fun h=>absurd (by omega) h) fun _=>?_
   (repeat ((first | refine S.newB fun _ _ S f _=>?_ | refine S.la0 rfl ?_ | refine S.la1 rfl ?_ | refine S.la2 rfl ?_ | refine S.la3 rfl ?_ | refine S.la4 rfl ?_ | refine S.la5 rfl ?_ | refine S.ld0 rfl rfl ?_ | refine S.ld1 rfl rfl ?_ | refine S.ld2 rfl rfl ?_ | refine S.ld3 rfl rfl ?_ | refine S.ld4 rfl rfl ?_ | refine S.ld5 rfl rfl ?_ | refine S.st0 (by rfl) fun _ S f=>?_ | refine S.st1 (by rfl) fun _ S f=>?_ | refine S.st2 (by rfl) fun _ S f=>?_ | refine S.st3 (by rfl) fun _ S f=>?_ | refine S.st4 (by rfl) fun _ S f=>?_ | refine S.st5 (by rfl) fun _ S f=>?_ | refine S.su0 (by rfl) fun _ S f=>?_ | refine S.su1 (by rfl) fun _ S f=>?_ | refine S.su2 (by rfl) fun _ S f=>?_ | refine S.su3 (by rfl) fun _ S f=>?_ | refine S.su4 (by rfl) fun _ S f=>?_ | refine S.su5 (by rfl) fun _ S f=>?_ | refine ⟨by decide,?_⟩);try dsimp only [List.set_cons_zero,List.set_cons_succ,cond_true,cond_false,Bool.not_true,Bool.not_false]))
   refine (End_c hg (ht.ext S.ext)).mono ?_
   rintro ⟨⟨ea,en,ec⟩,(e4:Int),⟨⟩⟩ w4 ⟨x4,h4,h4'⟩
   dsimp only at h4 h4' ⊢
   by_cases hE:ERight h m
   ·obtain ⟨k1,k2⟩:=h4 hE
    refine cond_f (by rw [k2];rfl) ?_
    have l4:=k1.ints.len
    have l4':(endL h ts).length=88:=endL_length h (by have:=hE.2;omega)
    have S:=S.res ⟨x4,k1.own⟩
    dsimp only at S l4
    (repeat ((first | refine S.newB fun _ _ S f _=>?_ | refine S.la0 rfl ?_ | refine S.la1 rfl ?_ | refine S.la2 rfl ?_ | refine S.la3 rfl ?_ | refine S.la4 rfl ?_ | refine S.la5 rfl ?_ | refine S.ld0 rfl rfl ?_ | refine S.ld1 rfl rfl ?_ | refine S.ld2 rfl rfl ?_ | refine S.ld3 rfl rfl ?_ | refine S.ld4 rfl rfl ?_ | refine S.ld5 rfl rfl ?_ | refine S.st0 (by rfl) fun _ S f=>?_ | refine S.st1 (by rfl) fun _ S f=>?_ | refine S.st2 (by rfl) fun _ S f=>?_ | refine S.st3 (by rfl) fun _ S f=>?_ | refine S.st4 (by rfl) fun _ S f=>?_ | refine S.st5 (by rfl) fun _ S f=>?_ | refine S.su0 (by rfl) fun _ S f=>?_ | refine S.su1 (by rfl) fun _ S f=>?_ | refine S.su2 (by rfl) fun _ S f=>?_ | refine S.su3 (by rfl) fun _ S f=>?_ | refine S.su4 (by rfl) fun _ S f=>?_ | refine S.su5 (by rfl) fun _ S f=>?_ | refine ⟨by decide,?_⟩);try dsimp only [List.set_cons_zero,List.set_cons_succ,cond_true,cond_false,Bool.not_true,Bool.not_false]))
    have S:=S.asOwn (sz:=1) (n:=0) rfl (by omega) oneAll.nil
    refine S.ab0 (xs:=[]) S.in2 (by omega) fun a5 c5 w5 S f5=>?_
    refine S.ab0 S.in1 (by omega) fun a6 c6 w6 S f6=>?_
    have R:=S.out
    have hp:[]++List.replicate g.s.toNat 255++endL h ts=mkL g h xs ts:=by unfold mkL payL;rw [if_pos (by omega)];rfl
    rw [hp] at R
    refine ⟨S.ext,fun _=>⟨R,rfl⟩,fun hn=>absurd ⟨hR,hE,.inl (by omega)⟩ hn⟩
   ·obtain ⟨k1,k2⟩:=h4' hE
    rw [k2]
    exact cond_t rfl (no (fun hp=>hE hp.2.1) (S.ext.trans x4))
  ·(repeat ((first | refine S.newB fun _ _ S f _=>?_ | refine S.la0 rfl ?_ | refine S.la1 rfl ?_ | refine S.la2 rfl ?_ | refine S.la3 rfl ?_ | refine S.la4 rfl ?_ | refine S.la5 rfl ?_ | refine S.ld0 rfl rfl ?_ | refine S.ld1 rfl rfl ?_ | refine S.ld2 rfl rfl ?_ | refine S.ld3 rfl rfl ?_ | refine S.ld4 rfl rfl ?_ | refine S.ld5 rfl rfl ?_ | refine S.st0 (by rfl) fun _ S f=>?_ | refine S.st1 (by rfl) fun _ S f=>?_ | refine S.st2 (by rfl) fun _ S f=>?_ | refine S.st3 (by rfl) fun _ S f=>?_ | refine S.st4 (by rfl) fun _ S f=>?_ | refine S.st5 (by rfl) fun _ S f=>?_ | refine S.su0 (by rfl) fun _ S f=>?_ | refine S.su1 (by rfl) fun _ S f=>?_ | refine S.su2 (by rfl) fun _ S f=>?_ | refine S.su3 (by rfl) fun _ S f=>?_ | refine S.su4 (by rfl) fun _ S f=>?_ | refine S.su5 (by rfl) fun _ S f=>?_ | refine ⟨by decide,?_⟩);try dsimp only [List.set_cons_zero,List.set_cons_succ,cond_true,cond_false,Bool.not_true,Bool.not_false]))
   refine cond_ne (fun hne=>no (fun hp=>by have:=hp.2.2;omega) S.ext) fun heq=>?_
   (repeat ((first | refine S.newB fun _ _ S f _=>?_ | refine S.la0 rfl ?_ | refine S.la1 rfl ?_ | refine S.la2 rfl ?_ | refine S.la3 rfl ?_ | refine S.la4 rfl ?_ | refine S.la5 rfl ?_ | refine S.ld0 rfl rfl ?_ | refine S.ld1 rfl rfl ?_ | refine S.ld2 rfl rfl ?_ | refine S.ld3 rfl rfl ?_ | refine S.ld4 rfl rfl ?_ | refine S.ld5 rfl rfl ?_ | refine S.st0 (by rfl) fun _ S f=>?_ | refine S.st1 (by rfl) fun _ S f=>?_ | refine S.st2 (by rfl) fun _ S f=>?_ | refine S.st3 (by rfl) fun _ S f=>?_ | refine S.st4 (by rfl) fun _ S f=>?_ | refine S.st5 (by rfl) fun _ S f=>?_ | refine S.su0 (by rfl) fun _ S f=>?_ | refine S.su1 (by rfl) fun _ S f=>?_ | refine S.su2 (by rfl) fun _ S f=>?_ | refine S.su3 (by rfl) fun _ S f=>?_ | refine S.su4 (by rfl) fun _ S f=>?_ | refine S.su5 (by rfl) fun _ S f=>?_ | refine ⟨by decide,?_⟩);try dsimp only [List.set_cons_zero,List.set_cons_succ,cond_true,cond_false,Bool.not_true,Bool.not_false]))
   refine (End_c hg (ht.ext S.ext)).mono ?_
   rintro ⟨⟨ea,en,ec⟩,(e4:Int),⟨⟩⟩ w4 ⟨x4,h4,h4'⟩
   dsimp only at h4 h4' ⊢
   by_cases hE:ERight h m
   ·obtain ⟨k1,k2⟩:=h4 hE
    refine cond_f (by rw [k2];rfl) ?_
    have l4:=k1.ints.len
    have l4':(endL h ts).length=88:=endL_length h (by have:=hE.2;omega)
    have S:=S.res ⟨x4,k1.own⟩
    dsimp only at S l4
    (repeat ((first | refine S.newB fun _ _ S f _=>?_ | refine S.la0 rfl ?_ | refine S.la1 rfl ?_ | refine S.la2 rfl ?_ | refine S.la3 rfl ?_ | refine S.la4 rfl ?_ | refine S.la5 rfl ?_ | refine S.ld0 rfl rfl ?_ | refine S.ld1 rfl rfl ?_ | refine S.ld2 rfl rfl ?_ | refine S.ld3 rfl rfl ?_ | refine S.ld4 rfl rfl ?_ | refine S.ld5 rfl rfl ?_ | refine S.st0 (by rfl) fun _ S f=>?_ | refine S.st1 (by rfl) fun _ S f=>?_ | refine S.st2 (by rfl) fun _ S f=>?_ | refine S.st3 (by rfl) fun _ S f=>?_ | refine S.st4 (by rfl) fun _ S f=>?_ | refine S.st5 (by rfl) fun _ S f=>?_ | refine S.su0 (by rfl) fun _ S f=>?_ | refine S.su1 (by rfl) fun _ S f=>?_ | refine S.su2 (by rfl) fun _ S f=>?_ | refine S.su3 (by rfl) fun _ S f=>?_ | refine S.su4 (by rfl) fun _ S f=>?_ | refine S.su5 (by rfl) fun _ S f=>?_ | refine ⟨by decide,?_⟩);try dsimp only [List.set_cons_zero,List.set_cons_succ,cond_true,cond_false,Bool.not_true,Bool.not_false]))
    have S:=S.asOwn (sz:=1) (n:=0) rfl (by omega) oneAll.nil
    refine S.ab0 (xs:=[]) (hx.ext S.ext) (by omega) fun a5 c5 w5 S f5=>?_
    refine S.ab0 S.in1 (by omega) fun a6 c6 w6 S f6=>?_
    have R:=S.out
    have hp:[]++xs++endL h ts=mkL g h xs ts:=by unfold mkL payL;rw [if_neg (by omega)];rfl
    rw [hp] at R
    refine ⟨S.ext,fun _=>⟨R,rfl⟩,fun hn=>absurd ⟨hR,hE,.inr (by omega)⟩ hn⟩
   ·obtain ⟨k1,k2⟩:=h4' hE
    rw [k2]
    exact cond_t rfl (no (fun hp=>hE hp.2.1) (S.ext.trans x4))
 ·refine cond_t (by unfold chkE;rw [if_neg hR];rfl) ?_
  exact no (fun hp=>hR hp.1) S.ext
end Go.Proofs.YtbaojfchlhlaeaaGreat.Vc
namespace Go.Proofs.YtbaojfchlhlaeaaGreat.Vc
open Go Go.Eng Go.RowKit
theorem PCommit_c {w:World} {g:Geo}:CallV Tryz.prog 206 #[g.val] w [.one .sl,.one (.int .i64)] fun r w'=>Ext w w'∧(Right g→Res w w' r.1 (comL g)∧r.2.1=(0:Int))∧(¬ Right g→r.1=(⟨none,0,0⟩:SlV)∧r.2.1=(2:Int)):=by
 apply page_Commit.vc
 unfold page_Commit.P
 have S:=Sep.start NoB w
 (repeat ((first | refine S.newB fun _ _ S f _=>?_ | refine S.la0 rfl ?_ | refine S.la1 rfl ?_ | refine S.la2 rfl ?_ | refine S.la3 rfl ?_ | refine S.la4 rfl ?_ | refine S.la5 rfl ?_ | refine S.ld0 rfl rfl ?_ | refine S.ld1 rfl rfl ?_ | refine S.ld2 rfl rfl ?_ | refine S.ld3 rfl rfl ?_ | refine S.ld4 rfl rfl ?_ | refine S.ld5 rfl rfl ?_ | refine S.st0 (by rfl) fun _ S f=>?_ | refine S.st1 (by rfl) fun _ S f=>?_ | refine S.st2 (by rfl) fun _ S f=>?_ | refine S.st3 (by rfl) fun _ S f=>?_ | refine S.st4 (by rfl) fun _ S f=>?_ | refine S.st5 (by rfl) fun _ S f=>?_ | refine S.su0 (by rfl) fun _ S f=>?_ | refine S.su1 (by rfl) fun _ S f=>?_ | refine S.su2 (by rfl) fun _ S f=>?_ | refine S.su3 (by rfl) fun _ S f=>?_ | refine S.su4 (by rfl) fun _ S f=>?_ | refine S.su5 (by rfl) fun _ S f=>?_ | refine ⟨by decide,?_⟩);try dsimp only [List.set_cons_zero,List.set_cons_succ,cond_true,cond_false,Bool.not_true,Bool.not_false]))
 refine (Check_c (g:=g)).mono ?_
 rintro ⟨(r:Int),⟨⟩⟩ w2 ⟨h2,e2⟩
 dsimp only at h2 ⊢
 have S:=S.stepE e2
 subst h2
 by_cases hR:Right g
 ·refine cond_f (by unfold chkE;rw [if_pos hR];rfl) ?_
  have hs:=hR.sec
  (repeat ((first | refine S.newB fun _ _ S f _=>?_ | refine S.la0 rfl ?_ | refine S.la1 rfl ?_ | refine S.la2 rfl ?_ | refine S.la3 rfl ?_ | refine S.la4 rfl ?_ | refine S.la5 rfl ?_ | refine S.ld0 rfl rfl ?_ | refine S.ld1 rfl rfl ?_ | refine S.ld2 rfl rfl ?_ | refine S.ld3 rfl rfl ?_ | refine S.ld4 rfl rfl ?_ | refine S.ld5 rfl rfl ?_ | refine S.st0 (by rfl) fun _ S f=>?_ | refine S.st1 (by rfl) fun _ S f=>?_ | refine S.st2 (by rfl) fun _ S f=>?_ | refine S.st3 (by rfl) fun _ S f=>?_ | refine S.st4 (by rfl) fun _ S f=>?_ | refine S.st5 (by rfl) fun _ S f=>?_ | refine S.su0 (by rfl) fun _ S f=>?_ | refine S.su1 (by rfl) fun _ S f=>?_ | refine S.su2 (by rfl) fun _ S f=>?_ | refine S.su3 (by rfl) fun _ S f=>?_ | refine S.su4 (by rfl) fun _ S f=>?_ | refine S.su5 (by rfl) fun _ S f=>?_ | refine ⟨by decide,?_⟩);try dsimp only [List.set_cons_zero,List.set_cons_succ,cond_true,cond_false,Bool.not_true,Bool.not_false]))
  refine (PageSize_c (g:=g)).mono ?_
  rintro ⟨(r3:Int),⟨⟩⟩ w3 ⟨h3,e3⟩
  dsimp only at h3 ⊢
  have S:=S.stepE e3
  rw [if_pos hR] at h3
  subst h3
  refine (MarkLen_c (by omega)).mono ?_
  rintro ⟨(r4:SlV),⟨⟩⟩ w4 h4
  have E:=S.ext.trans h4.ext
  rw [show g.s+88-8=g.s+80 by omega] at h4
  exact ⟨E,fun _=>⟨h4.after S.ext,rfl⟩,fun hn=>absurd hR hn⟩
 ·exact cond_t (by unfold chkE;rw [if_neg hR];rfl) ⟨S.ext,fun h=>absurd h hR,fun _=>⟨rfl,rfl⟩⟩
end Go.Proofs.YtbaojfchlhlaeaaGreat.Vc
namespace Go.Proofs.YtbaojfchlhlaeaaGreat.Vc
open Go Go.Eng Go.RowKit
theorem mkL_byt {g:Geo} {h:Hd} {xs ts:List Int} (hg:h.rng) (hR:HRight h) (bx:Byt xs) (bt:Byt ts):Byt (mkL g h xs ts):=by
 unfold mkL payL
 refine Byt.append ?_ (endL_byt hg hR bt)
 split
 ·exact Byt.replicate (by omega) (by omega) _
 ·exact bx
end Go.Proofs.YtbaojfchlhlaeaaGreat.Vc
namespace Go.Proofs.YtbaojfchlhlaeaaGreat.Vc
open Go Go.Eng Go.RowKit
theorem comL_byt (g:Geo):Byt (comL g):=by
 unfold comL
 intro x hx
 rcases List.mem_append.1 hx with h | h
 ·rw [(List.mem_replicate.1 h).2];decide
 ·rw [(List.mem_replicate.1 h).2];decide
theorem comL_len (g:Geo):(comL g).length=(g.s+80).toNat+8:=by unfold comL;rw [List.length_append,List.length_replicate,List.length_replicate]
theorem chL_len (b:Int) (n:Nat) (φ:Blk→Blk) (L:List Blk):(chL b n φ L).length=L.length:=by unfold chL;split <;> simp
def dstP (C:CD) (L:List Blk) (b:Int):CD×List Blk×Int:=
 if (eraC C (4+b)).2=5 then
  (if (scrC (eraC C (4+b)).1 (4+b)).2=4 then ((scrC (eraC C (4+b)).1 (4+b)).1,chL b L.length fB L,4)
   else ((scrC (eraC C (4+b)).1 (4+b)).1,chL b L.length (sB ((scrC (eraC C (4+b)).1 (4+b)).2 == 0)) (chL b L.length fB L),if (scrC (eraC C (4+b)).1 (4+b)).2=0 then 5 else 17))
 else ((eraC C (4+b)).1,if (eraC C (4+b)).2=0 then chL b L.length eB L else L,(eraC C (4+b)).2)
def prgP (C:CD) (bl pa:Int) (xs:List Int):CD×Int:=if (progC C bl pa xs).2=0 then progC (progC C bl pa xs).1 bl pa (comL C.g) else progC C bl pa xs
def selP (C:CD) (b:Int):CD×Int:=progC C (4+b) 0 (comL C.g)
def begH (L:List Blk) (b ns:Int) (o:Hd):Hd:=⟨3,ns,0,IntKind.u32.wrap (gx L b.toNat).er,o.e,o.t⟩
def fstP (C:CD) (b:Int) (h:Hd) (sl:Bool):CD×Int:=
 if (progC C (4+b) 0 (mkL C.g h [] [])).2=0∧sl=true then selP (progC C (4+b) 0 (mkL C.g h [] [])).1 b else progC C (4+b) 0 (mkL C.g h [] [])
def begP (C:CD) (L:List Blk) (O:List Hd) (b ns:Int) (o:Hd) (sl:Bool):CD×List Blk×List Hd×Int:=
 if (fstP C b (begH L b ns o) sl).2=0 then ((fstP C b (begH L b ns o) sl).1,chL b L.length (hB ns) L,O.set b.toNat (begH L b ns o),0)
 else ((fstP C b (begH L b ns o) sl).1,L,O,(fstP C b (begH L b ns o) sl).2)
def opnP (ns:Int) (o:Hd) (sl:Bool):Nat→CD→List Blk→List Hd→(CD×List Blk×List Hd)×Int×Int
 | 0,C,L,O=>((C,L,O),0,19)
 | k+1,C,L,O=>
  if pickT L L.length<0 then ((C,L,O),0,19) else
  let r:=if (gx L (pickT L L.length).toNat).cl=true then (C,L,0) else dstP C L (pickT L L.length)
  if r.2.2=0 then
   (let s:=begP r.1 r.2.1 O (pickT L L.length) ns o sl
    if s.2.2.2=0 then ((s.1,s.2.1,s.2.2.1),pickT L L.length,0) else
    if s.2.2.2=4 then ((s.1,s.2.1,s.2.2.1),0,4) else
    let d:=dstP s.1 (chL (pickT L L.length) L.length fB s.2.1) (pickT L L.length)
    if d.2.2=4 then ((d.1,d.2.1,s.2.2.1),0,4) else opnP ns o sl k d.1 d.2.1 s.2.2.1)
  else if r.2.2=4 then ((r.1,r.2.1,O),0,4) else opnP ns o sl k r.1 r.2.1 O
structure PI (g:Geo) (n:Nat) (C:CD) (L:List Blk) (O:List Hd):Prop where
 ok:COk C
 gg:C.g=g
 nn:(n:Int)=g.b-4
 ll:L.length=n
 ol:O.length=n
 er:∀ x∈L,0≤x.er∧x.er≤(C.ops:Int)
section
variable {g:Geo} {n:Nat} {C:CD} {L:List Blk} {O:List Hd}
theorem chL_er {b m:Int} {N:Nat} {φ:Blk→Blk} {L:List Blk} (hφ:∀ x,(φ x).er=x.er) (hL:∀ x∈L,0≤x.er∧x.er≤m) (hm:0≤m):∀ x∈chL b N φ L,0≤x.er∧x.er≤m:=by
 intro x hx
 unfold chL at hx
 split at hx
 ·rcases List.mem_or_eq_of_mem_set hx with k | k
  ·exact hL x k
  ·rw [k,hφ,List.getD_eq_getElem?_getD]
   cases he:L[b.toNat]? with
   | none=>exact ⟨Int.le_refl _,hm⟩
   | some y=>exact hL y (List.mem_of_getElem? he)
 ·exact hL x hx
theorem PI.dst (h:PI g n C L O) (b:Int) (ho:C.ops+2≤1000000000000):PI g n (dstP C L b).1 (dstP C L b).2.1 O∧(dstP C L b).1.ops≤C.ops+2∧C.ops≤(dstP C L b).1.ops:=by
 obtain ⟨a1,a2,a3⟩:=eraC_ok h.ok (4+b) (by omega)
 obtain ⟨b1,b2⟩:=eraC_k C (4+b)
 have up:∀ {C':CD} {L':List Blk},COk C'→C'.g=C.g→C.ops≤C'.ops→L'.length=L.length→(∀ x∈L',0≤x.er∧x.er≤(C'.ops:Int))→PI g n C' L' O:=fun c1 c2 c3 c4 c5=>⟨c1,c2.trans h.gg,h.nn,c4.trans h.ll,h.ol,c5⟩
 have hL2:∀ {m:Int},(C.ops:Int)≤m→∀ x∈L,0≤x.er∧x.er≤m:=fun hm x hx=>by have:=h.er x hx;omega
 unfold dstP
 split
 ·obtain ⟨d1,d2,d3⟩:=scrC_ok a1 (4+b) (by omega)
  obtain ⟨e1,e2⟩:=scrC_k (eraC C (4+b)).1 (4+b)
  split
  ·dsimp only
   exact ⟨up d1 (e1.trans b1) (by omega) (chL_len ..) (chL_er (fun _=>rfl) (hL2 (by show _≤((scrC (eraC C (4+b)).1 (4+b)).1.ops:Int);omega)) (by show (0:Int)≤((scrC (eraC C (4+b)).1 (4+b)).1.ops:Int);omega)),by omega,by omega⟩
  ·dsimp only
   exact ⟨up d1 (e1.trans b1) (by omega) ((chL_len ..).trans (chL_len ..)) (chL_er (fun _=>rfl) (chL_er (fun _=>rfl) (hL2 (by show _≤((scrC (eraC C (4+b)).1 (4+b)).1.ops:Int);omega)) (by show (0:Int)≤((scrC (eraC C (4+b)).1 (4+b)).1.ops:Int);omega)) (by show (0:Int)≤((scrC (eraC C (4+b)).1 (4+b)).1.ops:Int);omega)),by omega,by omega⟩
 ·dsimp only
  refine ⟨up a1 b1 a3 (by split;exact chL_len ..;rfl) ?_,by omega,a3⟩
  split
  ·rename_i h0
   have hops:(eraC C (4+b)).1.ops=C.ops+1:=by
    unfold eraC at h0 ⊢
    split
    ·rfl
    ·rename_i hm
     rw [if_neg hm] at h0
     exact absurd h0 hm
   intro x hx
   unfold chL at hx
   rw [hops]
   push_cast
   split at hx
   ·rcases List.mem_or_eq_of_mem_set hx with k | k
    ·have:=h.er x k;omega
    ·rw [k]
     show 0≤(L.getD b.toNat default).er+1∧(L.getD b.toNat default).er+1≤_
     rw [List.getD_eq_getElem?_getD]
     cases he:L[b.toNat]? with
     | none=>exact ⟨by show (0:Int)≤0+1;decide,by show (0:Int)+1≤_;omega⟩
     | some y=>have:=h.er y (List.mem_of_getElem? he);exact ⟨by show 0≤y.er+1;omega,by show y.er+1≤_;omega⟩
   ·have:=h.er x hx;omega
  ·exact hL2 (by show _≤((eraC C (4+b)).1.ops:Int);omega)
theorem PI.prog (h:PI g n C L O) (bl pa:Int) {xs:List Int} (bx:Byt xs) (ho:C.ops+1≤1000000000000):PI g n (progC C bl pa xs).1 L O∧(progC C bl pa xs).1.ops≤C.ops+1∧C.ops≤(progC C bl pa xs).1.ops:=by
 obtain ⟨a1,a2,a3⟩:=progC_ok h.ok bl pa bx (by omega)
 exact ⟨⟨a1,(progC_k C bl pa xs).1.trans h.gg,h.nn,h.ll,h.ol,fun x hx=>by have:=h.er x hx;omega⟩,a2,a3⟩
theorem PI.prg (h:PI g n C L O) (bl pa:Int) {xs:List Int} (bx:Byt xs) (ho:C.ops+2≤1000000000000):PI g n (prgP C bl pa xs).1 L O∧(prgP C bl pa xs).1.ops≤C.ops+2∧C.ops≤(prgP C bl pa xs).1.ops:=by
 obtain ⟨a1,a2,a3⟩:=h.prog bl pa bx (by omega)
 unfold prgP
 split
 ·obtain ⟨b1,b2,b3⟩:=a1.prog bl pa (comL_byt C.g) (by omega)
  exact ⟨b1,by omega,by omega⟩
 ·exact ⟨a1,by omega,a3⟩
theorem PI.sel (h:PI g n C L O) (b:Int) (ho:C.ops+1≤1000000000000):PI g n (selP C b).1 L O∧(selP C b).1.ops≤C.ops+1∧C.ops≤(selP C b).1.ops:=h.prog _ _ (comL_byt C.g) ho
theorem PI.fst (h:PI g n C L O) (b:Int) {hd:Hd} (hr:hd.rng) (hR:HRight hd) (sl:Bool) (ho:C.ops+2≤1000000000000):PI g n (fstP C b hd sl).1 L O∧(fstP C b hd sl).1.ops≤C.ops+2∧C.ops≤(fstP C b hd sl).1.ops:=by
 obtain ⟨a1,a2,a3⟩:=h.prog (4+b) 0 (mkL_byt (g:=C.g) hr hR Byt.nil Byt.nil) (by omega)
 unfold fstP
 split
 ·obtain ⟨b1,b2,b3⟩:=a1.sel b (by omega)
  exact ⟨b1,by omega,by omega⟩
 ·exact ⟨a1,by omega,a3⟩
theorem begH_rng {ns:Int} {o:Hd} (L:List Blk) (b:Int) (hn:0≤ns∧ns<4) (ho:o.rng):(begH L b ns o).rng:=by
 have hw:IntKind.u32.wrap (gx L b.toNat).er=(gx L b.toNat).er % 4294967296:=u32_wrap _
 unfold Hd.rng begH at *
 dsimp only at *
 omega
theorem begH_right {ns:Int} {o:Hd} (L:List Blk) (b:Int) (hn:0≤ns∧ns<4):HRight (begH L b ns o):=by
 unfold HRight begH
 dsimp only
 omega
theorem PI.chL (h:PI g n C L O) (b:Int) {φ:Blk→Blk} (hφ:∀ x,(φ x).er=x.er):PI g n C (chL b L.length φ L) O:=
 ⟨h.ok,h.gg,h.nn,(chL_len ..).trans h.ll,h.ol,chL_er hφ h.er (Int.natCast_nonneg _)⟩
theorem PI.beg (h:PI g n C L O) (b:Int) {ns:Int} {o:Hd} (hn:0≤ns∧ns<4) (hr:o.rng) (sl:Bool) (ho:C.ops+2≤1000000000000) :
  PI g n (begP C L O b ns o sl).1 (begP C L O b ns o sl).2.1 (begP C L O b ns o sl).2.2.1∧(begP C L O b ns o sl).1.ops≤C.ops+2∧C.ops≤(begP C L O b ns o sl).1.ops:=by
 obtain ⟨a1,a2,a3⟩:=h.fst b (begH_rng L b hn hr) (begH_right L b (o:=o) hn) sl ho
 unfold begP
 split
 ·have k:=a1.chL b (φ:=hB ns) (fun _=>rfl)
  exact ⟨⟨k.ok,k.gg,k.nn,k.ll,(List.length_set ..).trans h.ol,k.er⟩,a2,a3⟩
 ·exact ⟨a1,a2,a3⟩
theorem PI.opn {ns:Int} {o:Hd} (hn:0≤ns∧ns<4) (hr:o.rng) (sl:Bool):∀ (k:Nat) {C:CD} {L:List Blk} {O:List Hd},PI g n C L O→C.ops+6*k≤1000000000000 →
  PI g n (opnP ns o sl k C L O).1.1 (opnP ns o sl k C L O).1.2.1 (opnP ns o sl k C L O).1.2.2∧(opnP ns o sl k C L O).1.1.ops≤C.ops+6*k∧C.ops≤(opnP ns o sl k C L O).1.1.ops
 | 0,C,L,O,h,ho=>⟨h,Nat.le_refl _,Nat.le_refl _⟩
 | k+1,C,L,O,h,ho=>by
  unfold opnP
  split
  ·dsimp only
   exact ⟨h,by omega,Nat.le_refl _⟩
  ·have hd:∃ C1 L1 e1,(if (gx L (pickT L L.length).toNat).cl=true then (C,L,0) else dstP C L (pickT L L.length))=(C1,L1,e1)∧PI g n C1 L1 O∧C1.ops≤C.ops+2∧C.ops≤C1.ops:=by
    split
    ·exact ⟨C,L,0,rfl,h,by omega,Nat.le_refl _⟩
    ·obtain ⟨x1,x2,x3⟩:=h.dst (pickT L L.length) (by omega)
     exact ⟨_,_,_,rfl,x1,x2,x3⟩
   obtain ⟨C1,L1,e1,hq,h1,h2,h3⟩:=hd
   rw [hq]
   dsimp only
   split
   ·obtain ⟨s1,s2,s3⟩:=h1.beg (pickT L L.length) (o:=o) hn hr sl (by omega)
    split
    ·dsimp only
     exact ⟨s1,by omega,by omega⟩
    ·split
     ·dsimp only
      exact ⟨s1,by omega,by omega⟩
     ·have hk:=s1.chL (pickT L L.length) (φ:=fB) (fun _=>rfl)
      have hl:(begP C1 L1 O (pickT L L.length) ns o sl).2.1.length=L.length:=by rw [s1.ll,h.ll]
      rw [hl] at hk
      obtain ⟨d1,d2,d3⟩:=hk.dst (pickT L L.length) (by omega)
      split
      ·dsimp only
       exact ⟨d1,by omega,by omega⟩
      ·obtain ⟨e1,e2,e3⟩:=PI.opn hn hr sl k d1 (by omega)
       exact ⟨e1,by omega,by omega⟩
   ·split
    ·dsimp only
     exact ⟨h1,by omega,by omega⟩
    ·obtain ⟨e1,e2,e3⟩:=PI.opn hn hr sl k h1 (by omega)
     exact ⟨e1,by omega,by omega⟩
end
end Go.Proofs.YtbaojfchlhlaeaaGreat.Vc
namespace Go.Proofs.YtbaojfchlhlaeaaGreat.Vc
open Go Go.Eng
def pool_New.A:Ann:=.two .no (.two .no (.two .no (.two .no (.two (.draw (.take 0 (.take 1 (.take 2 (.take 4 (.eff 3 (.eff 5 (.take 6 (.eff 7 (.take 8 (.take 9 (.done)))))))))))) .no))))
def pool_New.P (p0 p1:Addr) (a2:Option Addr) (n2 c2:Nat) (w:World) (K:(Option Addr)×Int×Unit→World→Prop):Prop:=
 CallV Tryz.prog 100 #[.pointer (some p0)] w [.agg [.int .i64,.int .i64,.int .i64,.int .i64,.int .i64,.int .i64]] fun (r1:(Int×Int×Int×Int×Int×Int×Unit)×Unit) w2=>
 NewV #[.int .i64 0,.int .i64 0,.int .i64 0,.int .i64 0,.int .i64 0,.int .i64 0] 23 w2 fun b3 w4=>
 StoreV w4 ⟨b3,0,none⟩ [.int .i64 r1.1.1,.int .i64 r1.1.2.1,.int .i64 r1.1.2.2.1,.int .i64 r1.1.2.2.2.1,.int .i64 r1.1.2.2.2.2.1,.int .i64 r1.1.2.2.2.2.2.1] fun w5=>
 LoadA w5 ⟨b3,0,none⟩ [.int .i64,.int .i64,.int .i64,.int .i64,.int .i64,.int .i64] fun (x6:Int×Int×Int×Int×Int×Int×Unit)=>
 CallV Tryz.prog 80 #[.agg #[.int .i64 x6.1,.int .i64 x6.2.1,.int .i64 x6.2.2.1,.int .i64 x6.2.2.2.1,.int .i64 x6.2.2.2.2.1,.int .i64 x6.2.2.2.2.2.1]] w5 [.one (.int .i64)] fun (r7:Int×Unit) w8=>
 cond (r7.1 == 0)
 (K (none,(2:Int),()) w8)
 (CallV Tryz.prog 52 #[.pointer (some p1)] w8 [.one (.int .i64)] fun (r9:Int×Unit) w10=>
 cond (r9.1 != r7.1)
 (K (none,(2:Int),()) w10)
 (cond (((n2:Nat):Int) != r7.1)
 (K (none,(2:Int),()) w10)
 (DrawV fun D11=>
 (D11 b3∧LoadA w10.drew ⟨b3,0,none⟩ [.int .i64,.int .i64,.int .i64,.int .i64,.int .i64,.int .i64] fun (x12:Int×Int×Int×Int×Int×Int×Unit)=>
 NewV #[] 62 w10.drew fun b13 w14=>
 KeepOn D11 w10.drew w14 ∧
 AppS w14 a2 n2 6 fun ns19=>
 AppV w14 62 6 48 (some ⟨b13,0,none⟩) 0 0 ns19 n2 fun a15 n16 c17 w18=>
 KeepOn D11 w10.drew w18 ∧
 NewV #[.pointer (some p0),.int .i64 x12.1,.int .i64 x12.2.1,.int .i64 x12.2.2.1,.int .i64 x12.2.2.2.1,.int .i64 x12.2.2.2.2.1,.int .i64 x12.2.2.2.2.2.1,.pointer (some p1),.slice a15 n16 c17] 155 w18 fun b20 w21=>
 KeepOn D11 w10.drew w21 ∧
 K ((some ⟨b20,0,none⟩),(0:Int),()) w21))))
theorem pool_New.vc (p0 p1:Addr) (a2:Option Addr) (n2 c2:Nat) (w:World) (K:(Option Addr)×Int×Unit→World→Prop) (h:pool_New.P p0 p1 a2 n2 c2 w K):CallV Tryz.prog 82 #[.pointer (some p0),.pointer (some p1),.slice a2 n2 c2] w [.one .ptr,.one (.int .i64)] K:=by
 refine vcFun.of (A:=pool_New.A) (wr:=false) okf_ok follows h Tryz.func82 ?_
 kernel_rfl
def pool_Pool_Ledger.A:Ann:=.no
def pool_Pool_Ledger.P (p0:Addr) (w:World) (K:(Option Addr)×Unit→World→Prop):Prop:=
 LoadS w (p0.add 7) .ptr fun (x1:Option Addr)=>
 K (x1,()) w
theorem pool_Pool_Ledger.vc (p0:Addr) (w:World) (K:(Option Addr)×Unit→World→Prop) (h:pool_Pool_Ledger.P p0 w K):CallV Tryz.prog 27 #[.pointer (some p0)] w [.one .ptr] K:=by
 refine vcFun.of (A:=pool_Pool_Ledger.A) (wr:=false) okf_ok follows h Tryz.func27 ?_
 kernel_rfl
def pool_Pool_has.A:Ann:=.no
def pool_Pool_has.P (p0:Addr) (p1:Int) (w:World) (K:Bool×Unit→World→Prop):Prop:=
 cond (decide (p1≥0))
 (LoadS w (p0.add 8) .sl fun (x1:SlV)=>
 K (decide (p1<((x1.n:Nat):Int)),()) w)
 (K (false,()) w)
theorem pool_Pool_has.vc (p0:Addr) (p1:Int) (w:World) (K:Bool×Unit→World→Prop) (h:pool_Pool_has.P p0 p1 w K):CallV Tryz.prog 167 #[.pointer (some p0),.int .i64 p1] w [.one .bool] K:=by
 refine vcFun.of (A:=pool_Pool_has.A) (wr:=false) okf_ok follows h Tryz.func167 ?_
 kernel_rfl
def pool_Pool_Order.A:Ann:=.no
def pool_Pool_Order.P (p0:Addr) (p1:Int) (w:World) (K:(Int×Int×Int×Int×Int×Int×Unit)×Unit→World→Prop):Prop:=
 NewV #[.int .i64 0,.int .i64 0,.int .i64 0,.int .u32 0,.int .u64 0,.int .u64 0] 62 w fun b1 w2=>
 CallV Tryz.prog 167 #[.pointer (some p0),.int .i64 p1] w2 [.one .bool] fun (r3:Bool×Unit) w4=>
 cond (!r3.1)
 (StoreV w4 ⟨b1,0,none⟩ [.int .i64 0,.int .i64 0,.int .i64 0,.int .u32 0,.int .u64 0,.int .u64 0] fun w5=>
 LoadA w5 ⟨b1,0,none⟩ [.int .i64,.int .i64,.int .i64,.int .u32,.int .u64,.int .u64] fun (x6:Int×Int×Int×Int×Int×Int×Unit)=>
 K ((x6.1,x6.2.1,x6.2.2.1,x6.2.2.2.1,x6.2.2.2.2.1,x6.2.2.2.2.2.1,()),()) w5)
 (LoadS w4 (p0.add 8) .sl fun (x7:SlV)=>
 (0≤p1∧p1<((x7.n:Nat):Int))∧∃ q8:Addr,x7.a=some q8 ∧
 LoadA w4 (q8.add (p1.toNat*6)) [.int .i64,.int .i64,.int .i64,.int .u32,.int .u64,.int .u64] fun (x9:Int×Int×Int×Int×Int×Int×Unit)=>
 StoreV w4 ⟨b1,0,none⟩ [.int .i64 x9.1,.int .i64 x9.2.1,.int .i64 x9.2.2.1,.int .u32 x9.2.2.2.1,.int .u64 x9.2.2.2.2.1,.int .u64 x9.2.2.2.2.2.1] fun w10=>
 LoadA w10 ⟨b1,0,none⟩ [.int .i64,.int .i64,.int .i64,.int .u32,.int .u64,.int .u64] fun (x11:Int×Int×Int×Int×Int×Int×Unit)=>
 K ((x11.1,x11.2.1,x11.2.2.1,x11.2.2.2.1,x11.2.2.2.2.1,x11.2.2.2.2.2.1,()),()) w10)
theorem pool_Pool_Order.vc (p0:Addr) (p1:Int) (w:World) (K:(Int×Int×Int×Int×Int×Int×Unit)×Unit→World→Prop) (h:pool_Pool_Order.P p0 p1 w K):CallV Tryz.prog 119 #[.pointer (some p0),.int .i64 p1] w [.agg [.int .i64,.int .i64,.int .i64,.int .u32,.int .u64,.int .u64]] K:=by
 refine vcFun.of (A:=pool_Pool_Order.A) (wr:=false) okf_ok follows h Tryz.func119 ?_
 kernel_rfl
def pool_Pool_Place.A:Ann:=.no
def pool_Pool_Place.P (p0:Addr) (p1 p2:Int) (w:World) (K:(Int×Int×Unit)×Unit→World→Prop):Prop:=
 NewV #[.int .i64 0,.int .i64 0] 81 w fun b1 w2=>
 Rng .i64 ((4:Int)+p1) ∧
 StoreV w2 ⟨b1,0,none⟩ [.int .i64 ((4:Int)+p1),.int .i64 p2] fun w3=>
 LoadA w3 ⟨b1,0,none⟩ [.int .i64,.int .i64] fun (x4:Int×Int×Unit)=>
 K ((x4.1,x4.2.1,()),()) w3
theorem pool_Pool_Place.vc (p0:Addr) (p1 p2:Int) (w:World) (K:(Int×Int×Unit)×Unit→World→Prop) (h:pool_Pool_Place.P p0 p1 p2 w K):CallV Tryz.prog 165 #[.pointer (some p0),.int .i64 p1,.int .i64 p2] w [.agg [.int .i64,.int .i64]] K:=by
 refine vcFun.of (A:=pool_Pool_Place.A) (wr:=false) okf_ok follows h Tryz.func165 ?_
 kernel_rfl
def pool_Pool_Destroy.A:Ann:=.no
def pool_Pool_Destroy.P (p0:Addr) (p1:Int) (w:World) (K:Int×Unit→World→Prop):Prop:=
 CallV Tryz.prog 167 #[.pointer (some p0),.int .i64 p1] w [.one .bool] fun (r1:Bool×Unit) w2=>
 cond (!r1.1)
 (K ((2:Int),()) w2)
 (LoadS w2 p0 .ptr fun (x3:Option Addr)=>
 Rng .i64 ((4:Int)+p1) ∧
 CallV Tryz.prog 180 #[.pointer x3,.int .i64 ((4:Int)+p1)] w2 [.one (.int .i64)] fun (r4:Int×Unit) w5=>
 cond (r4.1 == 0)
 (LoadS w5 (p0.add 7) .ptr fun (x6:Option Addr)=>
 CallV Tryz.prog 181 #[.pointer x6,.int .i64 p1] w5 [.one (.int .i64)] fun (r7:Int×Unit) w8=>
 cond (r4.1 != 5)
 (K (r4.1,()) w8)
 (LoadS w8 (p0.add 7) .ptr fun (x9:Option Addr)=>
 CallV Tryz.prog 182 #[.pointer x9,.int .i64 p1] w8 [.one (.int .i64)] fun (r10:Int×Unit) w11=>
 LoadS w11 p0 .ptr fun (x12:Option Addr)=>
 Rng .i64 ((4:Int)+p1) ∧
 CallV Tryz.prog 183 #[.pointer x12,.int .i64 ((4:Int)+p1)] w11 [.one (.int .i64)] fun (r13:Int×Unit) w14=>
 cond (r13.1 == 4)
 (K (r13.1,()) w14)
 (LoadS w14 (p0.add 7) .ptr fun (x15:Option Addr)=>
 CallV Tryz.prog 184 #[.pointer x15,.int .i64 p1,.bool (r13.1 == 0)] w14 [.one (.int .i64)] fun (r16:Int×Unit) w17=>
 cond (r13.1 == 0)
 (K ((5:Int),()) w17)
 (K ((17:Int),()) w17))))
 (cond (r4.1 != 5)
 (K (r4.1,()) w5)
 (LoadS w5 (p0.add 7) .ptr fun (x18:Option Addr)=>
 CallV Tryz.prog 182 #[.pointer x18,.int .i64 p1] w5 [.one (.int .i64)] fun (r19:Int×Unit) w20=>
 LoadS w20 p0 .ptr fun (x21:Option Addr)=>
 Rng .i64 ((4:Int)+p1) ∧
 CallV Tryz.prog 183 #[.pointer x21,.int .i64 ((4:Int)+p1)] w20 [.one (.int .i64)] fun (r22:Int×Unit) w23=>
 cond (r22.1 == 4)
 (K (r22.1,()) w23)
 (LoadS w23 (p0.add 7) .ptr fun (x24:Option Addr)=>
 CallV Tryz.prog 184 #[.pointer x24,.int .i64 p1,.bool (r22.1 == 0)] w23 [.one (.int .i64)] fun (r25:Int×Unit) w26=>
 cond (r22.1 == 0)
 (K ((5:Int),()) w26)
 (K ((17:Int),()) w26)))))
theorem pool_Pool_Destroy.vc (p0:Addr) (p1:Int) (w:World) (K:Int×Unit→World→Prop) (h:pool_Pool_Destroy.P p0 p1 w K):CallV Tryz.prog 125 #[.pointer (some p0),.int .i64 p1] w [.one (.int .i64)] K:=by
 refine vcFun.of (A:=pool_Pool_Destroy.A) (wr:=false) okf_ok follows h Tryz.func125 ?_
 kernel_rfl
def pool_Pool_programmed.A:Ann:=.two .no (.two (.two (.draw (.take 0 (.take 1 (.take 2 (.take 3 (.take 4 (.take 5 (.eff 6 (.take 7 (.done)))))))))) .no) (.two .no (.two .no (.two (.draw (.take 0 (.take 1 (.take 2 (.take 3 (.take 4 (.take 5 (.eff 6 (.take 7 (.done)))))))))) .no))))
def pool_Pool_programmed.P (p0:Addr) (p1_0 p1_1:Int) (a2:Option Addr) (n2 c2:Nat) (w:World) (K:Int×Unit→World→Prop):Prop:=
 NewV #[.int .i64 p1_0,.int .i64 p1_1] 81 w fun b1 w2=>
 DrawV fun D3=>
 (D3 p0.block∧LoadS w2.drew p0 .ptr fun (x4:Option Addr)=>
 (D3 b1∧LoadA w2.drew ⟨b1,0,none⟩ [.int .i64,.int .i64] fun (x5:Int×Int×Unit)=>
 CallV Tryz.prog 205 #[.pointer x4,.agg #[.int .i64 x5.1,.int .i64 x5.2.1],.slice a2 n2 c2] w2.drew [.one (.int .i64)] fun (r6:Int×Unit) w7=>
 KeepOn D3 w2.drew w7 ∧
 cond (r6.1 != 0)
 (K (r6.1,()) w7)
 (LoadA w7 (p0.add 1) [.int .i64,.int .i64,.int .i64,.int .i64,.int .i64,.int .i64] fun (x8:Int×Int×Int×Int×Int×Int×Unit)=>
 CallV Tryz.prog 206 #[.agg #[.int .i64 x8.1,.int .i64 x8.2.1,.int .i64 x8.2.2.1,.int .i64 x8.2.2.2.1,.int .i64 x8.2.2.2.2.1,.int .i64 x8.2.2.2.2.2.1]] w7 [.one .sl,.one (.int .i64)] fun (r9:SlV×Int×Unit) w10=>
 cond (r9.2.1 != 0)
 (K (r9.2.1,()) w10)
 (DrawV fun D11=>
 (D11 p0.block∧LoadS w10.drew p0 .ptr fun (x12:Option Addr)=>
 (D11 b1∧LoadA w10.drew ⟨b1,0,none⟩ [.int .i64,.int .i64] fun (x13:Int×Int×Unit)=>
 CallV Tryz.prog 205 #[.pointer x12,.agg #[.int .i64 x13.1,.int .i64 x13.2.1],.slice r9.1.a r9.1.n r9.1.c] w10.drew [.one (.int .i64)] fun (r14:Int×Unit) w15=>
 KeepOn D11 w10.drew w15 ∧
 K (r14.1,()) w15))))))
theorem pool_Pool_programmed.vc (p0:Addr) (p1_0 p1_1:Int) (a2:Option Addr) (n2 c2:Nat) (w:World) (K:Int×Unit→World→Prop) (h:pool_Pool_programmed.P p0 p1_0 p1_1 a2 n2 c2 w K):CallV Tryz.prog 169 #[.pointer (some p0),.agg #[.int .i64 p1_0,.int .i64 p1_1],.slice a2 n2 c2] w [.one (.int .i64)] K:=by
 refine vcFun.of (A:=pool_Pool_programmed.A) (wr:=false) okf_ok follows h Tryz.func169 ?_
 kernel_rfl
def pool_Pool_Write.A:Ann:=.two .no (.two .no (.two (.draw (.take 0 (.take 1 (.take 2 (.take 3 (.take 4 (.take 5 (.take 6 (.eff 7 (.take 8 (.take 9 (.take 10 (.take 11 (.take 12 (.done))))))))))))))) .no))
def pool_Pool_Write.P (p0:Addr) (p1 p2 p3_0 p3_1 p3_2 p3_3 p3_4 p3_5:Int) (a4:Option Addr) (n4 c4:Nat) (a5:Option Addr) (n5 c5:Nat) (w:World) (K:Int×Unit→World→Prop):Prop:=
 NewV #[.int .i64 p3_0,.int .i64 p3_1,.int .i64 p3_2,.int .u32 p3_3,.int .u64 p3_4,.int .u64 p3_5] 62 w fun b1 w2=>
 CallV Tryz.prog 167 #[.pointer (some p0),.int .i64 p1] w2 [.one .bool] fun (r3:Bool×Unit) w4=>
 cond (!r3.1)
 (K ((2:Int),()) w4)
 (DrawV fun D5=>
 (D5 (p0.add 1).block∧LoadA w4.drew (p0.add 1) [.int .i64,.int .i64,.int .i64,.int .i64,.int .i64,.int .i64] fun (x6:Int×Int×Int×Int×Int×Int×Unit)=>
 (D5 b1∧LoadA w4.drew ⟨b1,0,none⟩ [.int .i64,.int .i64,.int .i64,.int .u32,.int .u64,.int .u64] fun (x7:Int×Int×Int×Int×Int×Int×Unit)=>
 CallV Tryz.prog 168 #[.agg #[.int .i64 x6.1,.int .i64 x6.2.1,.int .i64 x6.2.2.1,.int .i64 x6.2.2.2.1,.int .i64 x6.2.2.2.2.1,.int .i64 x6.2.2.2.2.2.1],.agg #[.int .i64 x7.1,.int .i64 x7.2.1,.int .i64 x7.2.2.1,.int .u32 x7.2.2.2.1,.int .u64 x7.2.2.2.2.1,.int .u64 x7.2.2.2.2.2.1],.slice a4 n4 c4,.slice a5 n5 c5] w4.drew [.one .sl,.one (.int .i64)] fun (r8:SlV×Int×Unit) w9=>
 KeepOn D5 w4.drew w9 ∧
 cond (r8.2.1 != 0)
 (K (r8.2.1,()) w9)
 (CallV Tryz.prog 165 #[.pointer (some p0),.int .i64 p1,.int .i64 p2] w9 [.agg [.int .i64,.int .i64]] fun (r10:(Int×Int×Unit)×Unit) w11=>
 CallV Tryz.prog 169 #[.pointer (some p0),.agg #[.int .i64 r10.1.1,.int .i64 r10.1.2.1],.slice r8.1.a r8.1.n r8.1.c] w11 [.one (.int .i64)] fun (r12:Int×Unit) w13=>
 K (r12.1,()) w13))))
theorem pool_Pool_Write.vc (p0:Addr) (p1 p2 p3_0 p3_1 p3_2 p3_3 p3_4 p3_5:Int) (a4:Option Addr) (n4 c4:Nat) (a5:Option Addr) (n5 c5:Nat) (w:World) (K:Int×Unit→World→Prop) (h:pool_Pool_Write.P p0 p1 p2 p3_0 p3_1 p3_2 p3_3 p3_4 p3_5 a4 n4 c4 a5 n5 c5 w K):CallV Tryz.prog 117 #[.pointer (some p0),.int .i64 p1,.int .i64 p2,.agg #[.int .i64 p3_0,.int .i64 p3_1,.int .i64 p3_2,.int .u32 p3_3,.int .u64 p3_4,.int .u64 p3_5],.slice a4 n4 c4,.slice a5 n5 c5] w [.one (.int .i64)] K:=by
 refine vcFun.of (A:=pool_Pool_Write.A) (wr:=false) okf_ok follows h Tryz.func117 ?_
 kernel_rfl
def pool_Pool_Copy.A:Ann:=.two .no (.two .no (.two (.draw (.take 0 (.take 1 (.take 2 (.take 3 (.take 4 (.eff 5 (.take 6 (.take 7 (.take 8 (.take 9 (.take 10 (.done))))))))))))) (.two .no (.two (.two .no (.one (.loop [11,31,32,33,34,35,36,37,38,39] [(11,.one (.int .i64))] .no))) .no))))
def pool_Pool_Copy.P (p0:Addr) (p1 p2 p3_0 p3_1:Int) (w:World) (K:Int×Unit→World→Prop):Prop:=
 NewV #[.int .i64 p3_0,.int .i64 p3_1] 81 w fun b1 w2=>
 CallV Tryz.prog 167 #[.pointer (some p0),.int .i64 p1] w2 [.one .bool] fun (r3:Bool×Unit) w4=>
 cond (!r3.1)
 (K ((2:Int),()) w4)
 (DrawV fun D5=>
 (D5 p0.block∧LoadS w4.drew p0 .ptr fun (x6:Option Addr)=>
 (D5 b1∧LoadA w4.drew ⟨b1,0,none⟩ [.int .i64,.int .i64] fun (x7:Int×Int×Unit)=>
 CallV Tryz.prog 130 #[.pointer x6,.agg #[.int .i64 x7.1,.int .i64 x7.2.1]] w4.drew [.one .sl,.one (.int .i64)] fun (r8:SlV×Int×Unit) w9=>
 KeepOn D5 w4.drew w9 ∧
 cond (r8.2.1 != 0)
 (K (r8.2.1,()) w9)
 (Rng .i64 (((r8.1.n:Nat):Int)-8) ∧
 LoopV [.one (.int .i64)] (((r8.1.n:Nat):Int)-8,()) w9 fun (z10:Int×Unit) w11 (K12:Int×Unit→World→Prop)=>
 cond (decide (z10.1<((r8.1.n:Nat):Int)))
 ((0≤z10.1∧z10.1<((r8.1.n:Nat):Int))∧∃ q13:Addr,r8.1.a=some q13 ∧
 StoreV w11 (q13.add (z10.1.toNat*1)) [.int .u8 255] fun w14=>
 Rng .i64 (z10.1+1) ∧
 K12 (z10.1+1,()) w14)
 (CallV Tryz.prog 165 #[.pointer (some p0),.int .i64 p1,.int .i64 p2] w11 [.agg [.int .i64,.int .i64]] fun (r15:(Int×Int×Unit)×Unit) w16=>
 CallV Tryz.prog 169 #[.pointer (some p0),.agg #[.int .i64 r15.1.1,.int .i64 r15.1.2.1],.slice r8.1.a r8.1.n r8.1.c] w16 [.one (.int .i64)] fun (r17:Int×Unit) w18=>
 K (r17.1,()) w18)))))
theorem pool_Pool_Copy.vc (p0:Addr) (p1 p2 p3_0 p3_1:Int) (w:World) (K:Int×Unit→World→Prop) (h:pool_Pool_Copy.P p0 p1 p2 p3_0 p3_1 w K):CallV Tryz.prog 209 #[.pointer (some p0),.int .i64 p1,.int .i64 p2,.agg #[.int .i64 p3_0,.int .i64 p3_1]] w [.one (.int .i64)] K:=by
 refine vcFun.of (A:=pool_Pool_Copy.A) (wr:=false) okf_ok follows h Tryz.func209 ?_
 kernel_rfl
def pool_Pool_Seal.A:Ann:=.two .no (.two .no (.two .no (.two .no (.two (.draw (.take 0 (.take 1 (.take 2 (.take 3 (.take 4 (.take 5 (.take 7 (.eff 6 (.eff 8 (.take 9 (.done)))))))))))) .no))))
def pool_Pool_Seal.P (p0:Addr) (p1:Int) (w:World) (K:Int×Unit→World→Prop):Prop:=
 CallV Tryz.prog 167 #[.pointer (some p0),.int .i64 p1] w [.one .bool] fun (r1:Bool×Unit) w2=>
 cond (!r1.1)
 (K ((2:Int),()) w2)
 (LoadA w2 (p0.add 1) [.int .i64,.int .i64,.int .i64,.int .i64,.int .i64,.int .i64] fun (x3:Int×Int×Int×Int×Int×Int×Unit)=>
 CallV Tryz.prog 206 #[.agg #[.int .i64 x3.1,.int .i64 x3.2.1,.int .i64 x3.2.2.1,.int .i64 x3.2.2.2.1,.int .i64 x3.2.2.2.2.1,.int .i64 x3.2.2.2.2.2.1]] w2 [.one .sl,.one (.int .i64)] fun (r4:SlV×Int×Unit) w5=>
 cond (r4.2.1 != 0)
 (K (r4.2.1,()) w5)
 (DrawV fun D6=>
 (D6 p0.block∧LoadS w5.drew p0 .ptr fun (x7:Option Addr)=>
 CallV Tryz.prog 165 #[.pointer (some p0),.int .i64 p1,.int .i64 0] w5.drew [.agg [.int .i64,.int .i64]] fun (r8:(Int×Int×Unit)×Unit) w9=>
 KeepOn D6 w5.drew w9 ∧
 CallV Tryz.prog 205 #[.pointer x7,.agg #[.int .i64 r8.1.1,.int .i64 r8.1.2.1],.slice r4.1.a r4.1.n r4.1.c] w9 [.one (.int .i64)] fun (r10:Int×Unit) w11=>
 KeepOn D6 w5.drew w11 ∧
 K (r10.1,()) w11)))
theorem pool_Pool_Seal.vc (p0:Addr) (p1:Int) (w:World) (K:Int×Unit→World→Prop) (h:pool_Pool_Seal.P p0 p1 w K):CallV Tryz.prog 210 #[.pointer (some p0),.int .i64 p1] w [.one (.int .i64)] K:=by
 refine vcFun.of (A:=pool_Pool_Seal.A) (wr:=false) okf_ok follows h Tryz.func210 ?_
 kernel_rfl
def pool_Pool_begin.A:Ann:=.two .no (.join [11,14,15,16,17,18,19,20,21,22,23,24,25,26,27] [(11,.one .ptr)] (.draw (.take 0 (.take 1 (.take 2 (.take 3 (.take 4 (.take 5 (.take 9 (.take 10 (.take 11 (.take 12 (.both 6 (.take 7 (.take 8 (.take 13 (.eff 14 (.eff 15 (.done)))))) 14 (.eff 6 (.take 7 (.take 8 (.take 13 (.eff 15 (.done)))))))))))))))))) (.two (.draw (.take 0 (.take 1 (.take 2 (.take 3 (.take 4 (.eff 5 (.take 6 (.take 7 (.take 8 (.take 9 (.take 10 (.done))))))))))))) (.join [13,37,38,39,40,41,42,43,44,45,46,47] [(13,.one (.int .i64))] (.two .no (.two (.draw (.take 0 (.take 1 (.take 2 (.take 3 (.take 4 (.take 5 (.take 7 (.eff 6 (.eff 8 (.take 9 (.done)))))))))))) .no)) (.join [13,48,49,50,51,52,53,54,55] [(13,.one (.int .i64))] .no (.two (.two .no (.two (.two .no (.draw (.take 0 (.take 1 (.take 2 (.take 3 (.take 4 (.take 5 (.take 6 (.eff 7 (.done))))))))))) .no)) .no)))))
def pool_Pool_begin.P (p0:Addr) (p1 p2 p3_0 p3_1 p3_2 p3_3 p3_4 p3_5:Int) (p4:Bool) (w:World) (K:Int×Unit→World→Prop):Prop:=
 NewV #[.int .i64 p3_0,.int .i64 p3_1,.int .i64 p3_2,.int .u32 p3_3,.int .u64 p3_4,.int .u64 p3_5] 62 w fun b1 w2=>
 JoinV [.one .ptr] (fun (v4:(Option Addr)×Unit) w5=>
 DrawV fun D6=>
 (D6 (p0.add 1).block∧LoadA w5.drew (p0.add 1) [.int .i64,.int .i64,.int .i64,.int .i64,.int .i64,.int .i64] fun (x7:Int×Int×Int×Int×Int×Int×Unit)=>
 PtrK v4.1 fun q8=>
 (D6 q8.block∧LoadA w5.drew q8 [.int .i64,.int .i64,.int .i64,.int .u32,.int .u64,.int .u64] fun (x9:Int×Int×Int×Int×Int×Int×Unit)=>
 CallV Tryz.prog 168 #[.agg #[.int .i64 x7.1,.int .i64 x7.2.1,.int .i64 x7.2.2.1,.int .i64 x7.2.2.2.1,.int .i64 x7.2.2.2.2.1,.int .i64 x7.2.2.2.2.2.1],.agg #[.int .i64 x9.1,.int .i64 x9.2.1,.int .i64 x9.2.2.1,.int .u32 x9.2.2.2.1,.int .u64 x9.2.2.2.2.1,.int .u64 x9.2.2.2.2.2.1],.slice none 0 0,.slice none 0 0] w5.drew [.one .sl,.one (.int .i64)] fun (r10:SlV×Int×Unit) w11=>
 KeepOn D6 w5.drew w11 ∧
 JoinV [.one (.int .i64)] (fun (v13:Int×Unit) w14=>
 JoinV [.one (.int .i64)] (fun (v16:Int×Unit) w17=>
 cond (v16.1 == 0)
 (LoadS w17 (p0.add 7) .ptr fun (x18:Option Addr)=>
 CallV Tryz.prog 282 #[.pointer x18,.int .i64 p1,.int .i64 p2] w17 [.one (.int .i64)] fun (r19:Int×Unit) w20=>
 DrawV fun D21=>
 (D21 (p0.add 8).block∧LoadS w20.drew (p0.add 8) .sl fun (x22:SlV)=>
 PtrK v4.1 fun q23=>
 (D21 q23.block∧LoadA w20.drew q23 [.int .i64,.int .i64,.int .i64,.int .u32,.int .u64,.int .u64] fun (x24:Int×Int×Int×Int×Int×Int×Unit)=>
 (0≤p1∧p1<((x22.n:Nat):Int))∧∃ q25:Addr,x22.a=some q25 ∧
 StoreV w20.drew (q25.add (p1.toNat*6)) [.int .i64 x24.1,.int .i64 x24.2.1,.int .i64 x24.2.2.1,.int .u32 x24.2.2.2.1,.int .u64 x24.2.2.2.2.1,.int .u64 x24.2.2.2.2.2.1] fun w26=>
 KeepOn D21 w20.drew w26 ∧
 K (v16.1,()) w26)))
 (K (v16.1,()) w17)) fun (J15:Int×Unit→World→Prop)=>
 cond (v13.1 == 0)
 (cond p4
 (CallV Tryz.prog 210 #[.pointer (some p0),.int .i64 p1] w14 [.one (.int .i64)] fun (r27:Int×Unit) w28=>
 J15 (r27.1,()) w28)
 (J15 (v13.1,()) w14))
 (J15 (v13.1,()) w14)) fun (J12:Int×Unit→World→Prop)=>
 cond (r10.2.1 == 0)
 (DrawV fun D29=>
 (D29 p0.block∧LoadS w11.drew p0 .ptr fun (x30:Option Addr)=>
 CallV Tryz.prog 165 #[.pointer (some p0),.int .i64 p1,.int .i64 0] w11.drew [.agg [.int .i64,.int .i64]] fun (r31:(Int×Int×Unit)×Unit) w32=>
 KeepOn D29 w11.drew w32 ∧
 CallV Tryz.prog 205 #[.pointer x30,.agg #[.int .i64 r31.1.1,.int .i64 r31.1.2.1],.slice r10.1.a r10.1.n r10.1.c] w32 [.one (.int .i64)] fun (r33:Int×Unit) w34=>
 KeepOn D29 w11.drew w34 ∧
 J12 (r33.1,()) w34))
 (J12 (r10.2.1,()) w11)))) fun (J3:(Option Addr)×Unit→World→Prop)=>
 DrawV fun D35=>
 (D35 (p0.add 7).block∧LoadS w2.drew (p0.add 7) .ptr fun (x36:Option Addr)=>
 (D35 b1∧LoadS w2.drew ⟨b1,4,none⟩ (.int .u64) fun (x37:Int)=>
 (D35 b1∧LoadS w2.drew ⟨b1,5,none⟩ (.int .u64) fun (x38:Int)=>
 ((CallV Tryz.prog 54 #[.pointer x36,.int .i64 p1] w2.drew [.agg [.int .i64,.int .i64,.int .i64,.int .i64,.bool,.bool,.bool,.bool,.bool]] fun (r39:(Int×Int×Int×Int×Bool×Bool×Bool×Bool×Bool×Unit)×Unit) w40=>
 KeepOn D35 w2.drew w40 ∧
 NewV #[.int .i64 0,.int .i64 0,.int .i64 0,.int .u32 0,.int .u64 0,.int .u64 0] 62 w40 fun b41 w42=>
 KeepOn D35 w2.drew w42 ∧
 StoreV w42 ⟨b41,0,none⟩ [.int .i64 3,.int .i64 p2,.int .i64 0,.int .u32 (IntKind.u32.wrap r39.1.2.2.2.1),.int .u64 x37,.int .u64 x38] fun w43=>
 KeepOn D35 w2.drew w43 ∧
 J3 ((some ⟨b41,0,none⟩),()) w43) ∧
 (NewV #[.int .i64 0,.int .i64 0,.int .i64 0,.int .u32 0,.int .u64 0,.int .u64 0] 62 w2.drew fun b44 w45=>
 KeepOn D35 w2.drew w45 ∧
 CallV Tryz.prog 54 #[.pointer x36,.int .i64 p1] w45 [.agg [.int .i64,.int .i64,.int .i64,.int .i64,.bool,.bool,.bool,.bool,.bool]] fun (r46:(Int×Int×Int×Int×Bool×Bool×Bool×Bool×Bool×Unit)×Unit) w47=>
 KeepOn D35 w2.drew w47 ∧
 StoreV w47 ⟨b44,0,none⟩ [.int .i64 3,.int .i64 p2,.int .i64 0,.int .u32 (IntKind.u32.wrap r46.1.2.2.2.1),.int .u64 x37,.int .u64 x38] fun w48=>
 KeepOn D35 w2.drew w48 ∧
 J3 ((some ⟨b44,0,none⟩),()) w48)))))
theorem pool_Pool_begin.vc (p0:Addr) (p1 p2 p3_0 p3_1 p3_2 p3_3 p3_4 p3_5:Int) (p4:Bool) (w:World) (K:Int×Unit→World→Prop) (h:pool_Pool_begin.P p0 p1 p2 p3_0 p3_1 p3_2 p3_3 p3_4 p3_5 p4 w K):CallV Tryz.prog 256 #[.pointer (some p0),.int .i64 p1,.int .i64 p2,.agg #[.int .i64 p3_0,.int .i64 p3_1,.int .i64 p3_2,.int .u32 p3_3,.int .u64 p3_4,.int .u64 p3_5],.bool p4] w [.one (.int .i64)] K:=by
 refine vcFun.of (A:=pool_Pool_begin.A) (wr:=false) okf_ok follows h Tryz.func256 ?_
 kernel_rfl
def pool_Pool_Open.A:Ann:=.no
def pool_Pool_Open.P (p0:Addr) (p1 p2_0 p2_1 p2_2 p2_3 p2_4 p2_5:Int) (w:World) (K:Int×Int×Unit→World→Prop):Prop:=
 NewV #[.int .i64 p2_0,.int .i64 p2_1,.int .i64 p2_2,.int .u32 p2_3,.int .u64 p2_4,.int .u64 p2_5] 62 w fun b1 w2=>
 LoadA w2 ⟨b1,0,none⟩ [.int .i64,.int .i64,.int .i64,.int .u32,.int .u64,.int .u64] fun (x3:Int×Int×Int×Int×Int×Int×Unit)=>
 CallV Tryz.prog 208 #[.pointer (some p0),.int .i64 p1,.agg #[.int .i64 x3.1,.int .i64 x3.2.1,.int .i64 x3.2.2.1,.int .u32 x3.2.2.2.1,.int .u64 x3.2.2.2.2.1,.int .u64 x3.2.2.2.2.2.1],.bool true] w2 [.one (.int .i64),.one (.int .i64)] fun (r4:Int×Int×Unit) w5=>
 K (r4.1,r4.2.1,()) w5
theorem pool_Pool_Open.vc (p0:Addr) (p1 p2_0 p2_1 p2_2 p2_3 p2_4 p2_5:Int) (w:World) (K:Int×Int×Unit→World→Prop) (h:pool_Pool_Open.P p0 p1 p2_0 p2_1 p2_2 p2_3 p2_4 p2_5 w K):CallV Tryz.prog 201 #[.pointer (some p0),.int .i64 p1,.agg #[.int .i64 p2_0,.int .i64 p2_1,.int .i64 p2_2,.int .u32 p2_3,.int .u64 p2_4,.int .u64 p2_5]] w [.one (.int .i64),.one (.int .i64)] K:=by
 refine vcFun.of (A:=pool_Pool_Open.A) (wr:=false) okf_ok follows h Tryz.func201 ?_
 kernel_rfl
def pool_Pool_Begin.A:Ann:=.no
def pool_Pool_Begin.P (p0:Addr) (p1 p2_0 p2_1 p2_2 p2_3 p2_4 p2_5:Int) (w:World) (K:Int×Int×Unit→World→Prop):Prop:=
 NewV #[.int .i64 p2_0,.int .i64 p2_1,.int .i64 p2_2,.int .u32 p2_3,.int .u64 p2_4,.int .u64 p2_5] 62 w fun b1 w2=>
 LoadA w2 ⟨b1,0,none⟩ [.int .i64,.int .i64,.int .i64,.int .u32,.int .u64,.int .u64] fun (x3:Int×Int×Int×Int×Int×Int×Unit)=>
 CallV Tryz.prog 208 #[.pointer (some p0),.int .i64 p1,.agg #[.int .i64 x3.1,.int .i64 x3.2.1,.int .i64 x3.2.2.1,.int .u32 x3.2.2.2.1,.int .u64 x3.2.2.2.2.1,.int .u64 x3.2.2.2.2.2.1],.bool false] w2 [.one (.int .i64),.one (.int .i64)] fun (r4:Int×Int×Unit) w5=>
 K (r4.1,r4.2.1,()) w5
theorem pool_Pool_Begin.vc (p0:Addr) (p1 p2_0 p2_1 p2_2 p2_3 p2_4 p2_5:Int) (w:World) (K:Int×Int×Unit→World→Prop) (h:pool_Pool_Begin.P p0 p1 p2_0 p2_1 p2_2 p2_3 p2_4 p2_5 w K):CallV Tryz.prog 174 #[.pointer (some p0),.int .i64 p1,.agg #[.int .i64 p2_0,.int .i64 p2_1,.int .i64 p2_2,.int .u32 p2_3,.int .u64 p2_4,.int .u64 p2_5]] w [.one (.int .i64),.one (.int .i64)] K:=by
 refine vcFun.of (A:=pool_Pool_Begin.A) (wr:=false) okf_ok follows h Tryz.func174 ?_
 kernel_rfl
def pool_Pool_open.A:Ann:=.two .no (.one (.two .no (.two .no (.two (.two .no (.one (.loop [8,9,10,11,12,13,24,25,26,27,28,29,30,31,32,33,34,35,36,37,38,39,40,41,42,43,44,45,46,47,48,49,50,51,52,53,54,55,56,57,58,59,60,61,62,63,64,65,66,67,68,69,70,71,72,73,74,75,76] [(24,.one (.int .i64))] .no))) .no))))
def pool_Pool_open.P (p0:Addr) (p1 p2_0 p2_1 p2_2 p2_3 p2_4 p2_5:Int) (p3:Bool) (w:World) (K:Int×Int×Unit→World→Prop):Prop:=
 NewV #[.int .i64 p2_0,.int .i64 p2_1,.int .i64 p2_2,.int .u32 p2_3,.int .u64 p2_4,.int .u64 p2_5] 62 w fun b1 w2=>
 cond (decide (p1<0))
 (K ((0:Int),(2:Int),()) w2)
 (cond (decide (p1≥4))
 (K ((0:Int),(2:Int),()) w2)
 (LoopV [.one (.int .i64)] ((0:Int),()) w2 fun (z3:Int×Unit) w4 (K5:Int×Unit→World→Prop)=>
 cond (decide (z3.1<128))
 (LoadS w4 (p0.add 7) .ptr fun (x6:Option Addr)=>
 CallV Tryz.prog 255 #[.pointer x6] w4 [.one (.int .i64)] fun (r7:Int×Unit) w8=>
 cond (decide (r7.1<0))
 (K ((0:Int),(19:Int),()) w8)
 (LoadS w8 (p0.add 7) .ptr fun (x9:Option Addr)=>
 CallV Tryz.prog 54 #[.pointer x9,.int .i64 r7.1] w8 [.agg [.int .i64,.int .i64,.int .i64,.int .i64,.bool,.bool,.bool,.bool,.bool]] fun (r10:(Int×Int×Int×Int×Bool×Bool×Bool×Bool×Bool×Unit)×Unit) w11=>
 cond (!r10.1.2.2.2.2.2.1)
 (CallV Tryz.prog 125 #[.pointer (some p0),.int .i64 r7.1] w11 [.one (.int .i64)] fun (r12:Int×Unit) w13=>
 cond (r12.1 == 0)
 (LoadA w13 ⟨b1,0,none⟩ [.int .i64,.int .i64,.int .i64,.int .u32,.int .u64,.int .u64] fun (x14:Int×Int×Int×Int×Int×Int×Unit)=>
 CallV Tryz.prog 256 #[.pointer (some p0),.int .i64 r7.1,.int .i64 p1,.agg #[.int .i64 x14.1,.int .i64 x14.2.1,.int .i64 x14.2.2.1,.int .u32 x14.2.2.2.1,.int .u64 x14.2.2.2.2.1,.int .u64 x14.2.2.2.2.2.1],.bool p3] w13 [.one (.int .i64)] fun (r15:Int×Unit) w16=>
 cond (r15.1 == 0)
 (K (r7.1,r15.1,()) w16)
 (cond (r15.1 == 4)
 (K ((0:Int),r15.1,()) w16)
 (LoadS w16 (p0.add 7) .ptr fun (x17:Option Addr)=>
 CallV Tryz.prog 182 #[.pointer x17,.int .i64 r7.1] w16 [.one (.int .i64)] fun (r18:Int×Unit) w19=>
 CallV Tryz.prog 125 #[.pointer (some p0),.int .i64 r7.1] w19 [.one (.int .i64)] fun (r20:Int×Unit) w21=>
 cond (r20.1 == 4)
 (K ((0:Int),r20.1,()) w21)
 (Rng .i64 (z3.1+1) ∧
 K5 (z3.1+1,()) w21))))
 (cond (r12.1 == 4)
 (K ((0:Int),r12.1,()) w13)
 (Rng .i64 (z3.1+1) ∧
 K5 (z3.1+1,()) w13)))
 (LoadA w11 ⟨b1,0,none⟩ [.int .i64,.int .i64,.int .i64,.int .u32,.int .u64,.int .u64] fun (x22:Int×Int×Int×Int×Int×Int×Unit)=>
 CallV Tryz.prog 256 #[.pointer (some p0),.int .i64 r7.1,.int .i64 p1,.agg #[.int .i64 x22.1,.int .i64 x22.2.1,.int .i64 x22.2.2.1,.int .u32 x22.2.2.2.1,.int .u64 x22.2.2.2.2.1,.int .u64 x22.2.2.2.2.2.1],.bool p3] w11 [.one (.int .i64)] fun (r23:Int×Unit) w24=>
 cond (r23.1 == 0)
 (K (r7.1,r23.1,()) w24)
 (cond (r23.1 == 4)
 (K ((0:Int),r23.1,()) w24)
 (LoadS w24 (p0.add 7) .ptr fun (x25:Option Addr)=>
 CallV Tryz.prog 182 #[.pointer x25,.int .i64 r7.1] w24 [.one (.int .i64)] fun (r26:Int×Unit) w27=>
 CallV Tryz.prog 125 #[.pointer (some p0),.int .i64 r7.1] w27 [.one (.int .i64)] fun (r28:Int×Unit) w29=>
 cond (r28.1 == 4)
 (K ((0:Int),r28.1,()) w29)
 (Rng .i64 (z3.1+1) ∧
 K5 (z3.1+1,()) w29))))))
 (K ((0:Int),(19:Int),()) w4)))
theorem pool_Pool_open.vc (p0:Addr) (p1 p2_0 p2_1 p2_2 p2_3 p2_4 p2_5:Int) (p3:Bool) (w:World) (K:Int×Int×Unit→World→Prop) (h:pool_Pool_open.P p0 p1 p2_0 p2_1 p2_2 p2_3 p2_4 p2_5 p3 w K):CallV Tryz.prog 208 #[.pointer (some p0),.int .i64 p1,.agg #[.int .i64 p2_0,.int .i64 p2_1,.int .i64 p2_2,.int .u32 p2_3,.int .u64 p2_4,.int .u64 p2_5],.bool p3] w [.one (.int .i64),.one (.int .i64)] K:=by
 refine vcFun.of (A:=pool_Pool_open.A) (wr:=false) okf_ok follows h Tryz.func208 ?_
 kernel_rfl
end Go.Proofs.YtbaojfchlhlaeaaGreat.Vc
namespace Go.Eng
open Go Go.RowKit
section
variable {E:Nat→Prop} {w0 w:World} {Rs:List Asr} {α:Type} {f:α→List Value} {m:Nat} {e:TypeId} {a:Option Addr} {n c:Nat} {L:List α}
theorem Sep.stF (S:Sep E w0 w (OwnA e m a n c (L.flatMap f)::Rs)) (hm:∀ x,(f x).length=m) (h1:∀ x,oneAll (f x)) (hp:0<m) {j:Int} (hj:0≤j∧j<(n:Int)) (k:Nat) {news:List Value} {x y:α} (hx:L[j.toNat]? = some x) (hl:k+news.length≤m)
  (hy:f y=(f x).take k++(news++(f x).drop (k+news.length))) {K:World→Prop}
  (hk:∀ w',Sep E w0 w' (OwnA e m a n c ((L.set j.toNat y).flatMap f)::Rs)→Fr (fun k=>∃ q:Addr,a=some q∧k=q.block) w w'→K w'):∃ q,a=some q∧StoreV w ((q.add (j.toNat*m)).add k) news K:=by
 have hL:=(S.own 0 rfl).len
 rw [flatF_len hm] at hL
 have hL:L.length=n:=Nat.eq_of_mul_eq_mul_right hp hL
 have hj':j.toNat<L.length:=by omega
 obtain ⟨m1,m2⟩:=flat_mid (f:=f) (z:=y) hx
 obtain ⟨b,tl,ha,q1,q2,q3,q4,q5,S1⟩:=S.focus (by
  intro h
  have:=congrArg List.length h
  rw [flatF_len hm,List.length_nil] at this
  rcases Nat.mul_eq_zero.1 this with h | h <;> omega)
 subst ha
 refine ⟨_,rfl,?_⟩
 rw [show (⟨b,0,none⟩:Addr).add (j.toNat*m)=⟨b,j.toNat*m,none⟩ by simp [Addr.add_lit]]
 rw [m1,List.append_assoc,List.append_assoc] at S1
 refine S1.stM 0 k rfl (by rw [flatF_len hm,List.length_take,Nat.min_eq_left (by omega)]) (by rw [hm];exact hl) fun w' S2 f2=>hk w' ?_ (f2.mono fun k hk=>⟨_,rfl,hk⟩)
 have S2:Sep E w0 w' (BoxA b e (((L.set j.toNat y).flatMap f)++tl)::Rs):=by
  rw [m2,List.append_assoc,List.append_assoc,hy]
  exact S2
 have hl2:((L.set j.toNat y).flatMap f).length=n*m:=by rw [flatF_len hm,List.length_set,hL]
 exact S2.unfocus (n:=n) (c:=c) (sz:=m) hl2 (by rw [List.length_append,hl2,← q2,List.length_append,q1]) q3 q4 (flatF_one h1 _)
end
end Go.Eng
namespace Go.Eng
open Go
def frontL:List Asr→List Nat→Option (List Asr)
 | Rs,[]=>some Rs
 | Rs,i::is=>match Rs[i]? with | none=>none | some R=>(frontL (Rs.eraseIdx i) is).map (R::·)
theorem frontL_perm:∀ {is:List Nat} {Rs Ts:List Asr},frontL Rs is=some Ts→Rs.Perm Ts
 | [],Rs,Ts,h=>by simp [frontL] at h;subst h;exact List.Perm.refl _
 | i::is,Rs,Ts,h=>by
  simp only [frontL] at h
  split at h
  ·cases h
  ·rename_i R hR
   obtain ⟨Vs,hV,rfl⟩:=Option.map_eq_some_iff.1 h
   exact (perm_front hR).trans ((frontL_perm hV).cons R)
section
variable {E:Nat→Prop} {w0 w:World} {A B C D F:Asr} {Rs Ts:List Asr}
theorem Sep.fro (S:Sep E w0 w Rs) (is:List Nat) (h:frontL Rs is=some Ts):Sep E w0 w Ts:=S.perm (frontL_perm h)
theorem Sep.up2 (S:Sep E w0 w (A::B::C::Rs)):Sep E w0 w (C::A::B::Rs):=S.fro [2] rfl
theorem Sep.dn2 (S:Sep E w0 w (C::A::B::Rs)):Sep E w0 w (A::B::C::Rs):=S.fro [1,1] rfl
theorem Sep.up3 (S:Sep E w0 w (A::B::C::D::Rs)):Sep E w0 w (D::A::B::C::Rs):=S.fro [3] rfl
theorem Sep.dn3 (S:Sep E w0 w (D::A::B::C::Rs)):Sep E w0 w (A::B::C::D::Rs):=S.fro [1,1,1] rfl
end
end Go.Eng
namespace Go.Proofs.YtbaojfchlhlaeaaGreat.Vc
open Go Go.Eng Go.RowKit
theorem Hdv_len (h:Hd):h.vs.length=6:=rfl
theorem Hdv_one (h:Hd):oneAll h.vs:=fun v hv=>by
 simp only [Hd.vs,List.mem_cons,List.not_mem_nil,or_false] at hv
 rcases hv with rfl | rfl | rfl | rfl | rfl | rfl <;> rfl
abbrev boxPl (pp p q:Nat) (g:Geo) (s:SlV):Asr:=BoxA pp 155 [.pointer (some ⟨p,0,none⟩),.int .i64 g.b,.int .i64 g.p,.int .i64 g.s,.int .i64 g.sp,.int .i64 g.wr,.int .i64 g.ro,.pointer (some ⟨q,0,none⟩),.slice s.a s.n s.c]
abbrev ordP (s:SlV) (O:List Hd):Asr:=OwnA 62 6 s.a s.n s.c (O.flatMap Hd.vs)
abbrev plS (pp p q:Nat) (g:Geo) (s:SlV) (O:List Hd) (C:CD) (L:List Blk) (Rs:List Asr):List Asr:=boxPl pp p q g s::ordP s O::ledE q L::chipE p C::Rs
def zHd:Hd:=⟨0,0,0,0,0,0⟩
def dsC (n:Nat) (C:CD) (L:List Blk) (b:Int):CD×List Blk×Int:=if 0≤b∧b<(n:Int) then dstP C L b else (C,L,2)
def slC (n:Nat) (C:CD) (b:Int):CD×Int:=if 0≤b∧b<(n:Int) then selP C b else (C,2)
section
variable {E:Nat→Prop} {w0 w:World} {pp p q n:Nat} {g:Geo} {s:SlV} {O:List Hd} {C:CD} {L:List Blk} {Rs:List Asr}
theorem plS_n (S:Sep E w0 w (plS pp p q g s O C L Rs)):s.n=O.length:=by
 have h:=(S.own 1 rfl).len
 rw [flatF_len Hdv_len] at h
 exact (Nat.eq_of_mul_eq_mul_right (by decide) h).symm
theorem PI.le (h:PI g n C L O):(n:Int)≤60:=by
 have:=h.nn
 have h2:=h.ok.g.1.1
 rw [h.gg] at h2
 omega
theorem PI.erL (h:PI g n C L O):∀ x∈L,0≤x.er∧x.er≤2000000000000:=fun x hx=>by
 have:=h.er x hx
 have:=h.ok.ops
 omega
theorem has24_c {b:Int} (S:Sep E w0 w (plS pp p q g s O C L Rs)):CallV Tryz.prog 167 #[.pointer (some ⟨pp,0,none⟩),.int .i64 b] w [.one .bool] fun r w'=>r.1=decide (0≤b∧b<(s.n:Int))∧w'=w:=by
 apply pool_Pool_has.vc
 unfold pool_Pool_has.P
 simp only [Addr.add_lit,Nat.zero_add]
 refine cond_d (fun h0=>?_) (fun h0=>?_)
 ·exact S.ld0 (j:=8) rfl rfl ⟨decide_eq_decide.2 ⟨fun x=>⟨h0,x⟩,fun x=>x.2⟩,trivial⟩
 ·exact ⟨(decide_eq_false fun x=>h0 x.1).symm,trivial⟩
theorem Place24_c {b i:Int} (hb:-4≤b∧b≤1000000):CallV Tryz.prog 165 #[.pointer (some ⟨pp,0,none⟩),.int .i64 b,.int .i64 i] w [.agg [.int .i64,.int .i64]] fun r w'=>r.1=(4+b,i,())∧Ext w w':=by
 apply pool_Pool_Place.vc
 unfold pool_Pool_Place.P
 have T:=Sep.start NoB w
 refine T.newB fun b1 w1 T f1 _=>?_
 refine ⟨Rng.i64 (by omega) (by omega),T.st0 (by rfl) fun w2 T f2=>T.la0 rfl ⟨rfl,T.ext⟩⟩
theorem Order24_c {b:Int} (S:Sep E w0 w (plS pp p q g s O C L Rs)):CallV Tryz.prog 119 #[.pointer (some ⟨pp,0,none⟩),.int .i64 b] w [.agg [.int .i64,.int .i64,.int .i64,.int .u32,.int .u64,.int .u64]] fun r w'=>r.1=(if 0≤b∧b<(O.length:Int) then O.getD b.toNat zHd else zHd).tup∧Ext w w':=by
 apply pool_Pool_Order.vc
 unfold pool_Pool_Order.P
 simp only [Addr.add_lit,Nat.zero_add]
 have hn:=plS_n S
 have T:=Sep.start NoB w
 refine T.newB fun b1 w1 T f1 _=>?_
 have S:=S.stepE T.ext
 refine (has24_c (b:=b) S).mono ?_
 rintro ⟨(r:Bool),⟨⟩⟩ w2 ⟨h2,rfl⟩
 dsimp only at h2 ⊢
 subst h2
 by_cases hb:0≤b∧b<(s.n:Int)
 ·refine cond_f (by rw [decide_eq_true hb];rfl) ?_
  obtain ⟨q,x,hq,hx,hc⟩:=S.nthF (f:=Hd.vs) (m:=6) 1 rfl Hdv_len (by decide) hb.1 hb.2
  refine S.ld0 (j:=8) rfl rfl ⟨hb,q,hq,x.tup,hc,?_⟩
  refine T.st0 (by rfl) fun w3 T f3=>T.la0 rfl ⟨?_,T.ext⟩
  rw [if_pos (by omega),getD_some hx]
 ·refine cond_t (by rw [decide_eq_false hb];rfl) ?_
  refine T.st0 (by rfl) fun w3 T f3=>T.la0 rfl ⟨?_,T.ext⟩
  rw [if_neg (by omega)]
  rfl
theorem Ledger24_c (S:Sep E w0 w (plS pp p q g s O C L Rs)):CallV Tryz.prog 27 #[.pointer (some ⟨pp,0,none⟩)] w [.one .ptr] fun r w'=>r.1=some ⟨q,0,none⟩∧w'=w:=by
 apply pool_Pool_Ledger.vc
 unfold pool_Pool_Ledger.P
 simp only [Addr.add_lit,Nat.zero_add]
 exact S.ld0 (j:=7) rfl rfl ⟨rfl,trivial⟩
theorem Destroy24_c {b:Int} (h:PI g n C L O) (ho:C.ops+2≤1000000000000) (S:Sep E w0 w (plS pp p q g s O C L Rs)) :
  CallV Tryz.prog 125 #[.pointer (some ⟨pp,0,none⟩),.int .i64 b] w [.one (.int .i64)] fun r w'=>r.1=(dsC n C L b).2.2∧Sep E w0 w' (plS pp p q g s O (dsC n C L b).1 (dsC n C L b).2.1 Rs):=by
 apply pool_Pool_Destroy.vc
 unfold pool_Pool_Destroy.P
 simp only [Addr.add_lit,Nat.zero_add]
 have hn:=plS_n S
 have hol:=h.ol
 have hle:=h.le
 refine (has24_c (b:=b) S).mono ?_
 rintro ⟨(r:Bool),⟨⟩⟩ w2 ⟨h2,rfl⟩
 dsimp only at h2 ⊢
 subst h2
 by_cases hb:0≤b∧b<(n:Int)
 case neg=>exact cond_t (by rw [decide_eq_false (by omega)];rfl) (by unfold dsC;rw [if_neg hb];exact ⟨rfl,S⟩)
 refine cond_f (by rw [decide_eq_true (by omega)];rfl) ?_
 have hd:dsC n C L b=dstP C L b:=if_pos hb
 rw [hd]
 have rg:Rng .i64 ((4:Int)+b):=Rng.i64 (by omega) (by omega)
 refine S.ld0 (j:=0) rfl rfl ⟨rg,?_⟩
 refine (Erase_e h.ok S.up3).mono ?_
 rintro ⟨e,⟨⟩⟩ w5 ⟨h5,S⟩
 dsimp only at h5 ⊢
 subst h5
 have S:=S.dn3
 obtain ⟨o1,o2,o3⟩:=eraC_ok h.ok (4+b) (by omega)
 refine cond_eq (fun (h0:(eraC C (4+b)).2=0)=>?_) (fun (h0:(eraC C (4+b)).2≠0)=>?_)
 ·refine S.ld0 (j:=7) rfl rfl ?_
  refine (Erased_e h.erL S.up2).mono ?_
  rintro ⟨(e2:Int),⟨⟩⟩ w8 ⟨-,S⟩
  have S:=S.dn2
  refine cond_ne (fun (hne:(eraC C (4+b)).2≠5)=>?_) (fun (hq:(eraC C (4+b)).2=5)=>?_)
  ·unfold dstP
   rw [if_neg hne,if_pos h0]
   exact ⟨rfl,S⟩
  ·omega
 ·refine cond_ne (fun (hne:(eraC C (4+b)).2≠5)=>?_) (fun (hq:(eraC C (4+b)).2=5)=>?_)
  ·unfold dstP
   rw [if_neg hne,if_neg h0]
   exact ⟨rfl,S⟩
  ·refine S.ld0 (j:=7) rfl rfl ?_
   refine (Failed_e S.up2).mono ?_
   rintro ⟨(e2:Int),⟨⟩⟩ w8 ⟨-,S⟩
   have S:=S.dn2
   refine S.ld0 (j:=0) rfl rfl ⟨rg,?_⟩
   refine (Scrub_e o1 S.up3).mono ?_
   rintro ⟨f,⟨⟩⟩ w9 ⟨h9,S⟩
   dsimp only at h9 ⊢
   subst h9
   have S:=S.dn3
   unfold dstP
   rw [if_pos hq]
   refine cond_eq (fun (h4:(scrC (eraC C (4+b)).1 (4+b)).2=4)=>?_) (fun (h4:(scrC (eraC C (4+b)).1 (4+b)).2≠4)=>?_)
   ·rw [if_pos h4]
    exact ⟨h4,S⟩
   ·rw [if_neg h4]
    refine S.ld0 (j:=7) rfl rfl ?_
    refine (Scrubbed_e S.up2).mono ?_
    rintro ⟨(e3:Int),⟨⟩⟩ w10 ⟨-,S⟩
    have S:=S.dn2
    rw [chL_len] at S
    refine cond_eq (fun h6=>?_) (fun h6=>?_)
    ·exact ⟨(if_pos h6).symm,S⟩
    ·exact ⟨(if_neg h6).symm,S⟩
theorem programmed_c {bl pa:Int} {dd:SlP Int} (h:PI g n C L O) (bx:Byt dd.l) (ho:C.ops+2≤1000000000000) (hdn:dd.n≤100000) (S:Sep E w0 w (plS pp p q g s O C L (RdL [dd]::Rs))) :
  CallV Tryz.prog 169 #[.pointer (some ⟨pp,0,none⟩),.agg #[.int .i64 bl,.int .i64 pa],.slice dd.a dd.n dd.c] w [.one (.int .i64)] fun r w'=>r.1=(prgP C bl pa dd.l).2∧Sep E w0 w' (plS pp p q g s O (prgP C bl pa dd.l).1 L (RdL [dd]::Rs)):=by
 apply pool_Pool_programmed.vc
 unfold pool_Pool_programmed.P
 simp only [Addr.add_lit,Nat.zero_add]
 refine S.newB fun b1 w1 S f1 _=>?_
 have hR:Right g:=by have:=h.ok.g;rwa [h.gg] at this
 have S:Sep E w0 w1 ([chipE p C,RdL [dd]]++(BoxA b1 _ _::boxPl pp p q g s::ordP s O::ledE q L::Rs)):=S.fro [4,4] rfl
 refine Sep.regC [chipE p C,RdL [dd]] S fun G D hG T S hDt hDo hkeep back=>?_
 refine ⟨hDt 1 _ _ _ rfl,S.ld3 (j:=0) rfl rfl ⟨hDt 0 _ _ _ rfl,S.la2 rfl ?_⟩⟩
 refine (Program_e (bl:=bl) (pa:=pa) h.ok hdn T).mono ?_
 rintro ⟨e,⟨⟩⟩ w2 ⟨h2,T⟩
 dsimp only at h2 ⊢
 subst h2
 obtain ⟨h1,o1,o2⟩:=h.prog bl pa bx (by omega)
 have S:Sep E w0 w2 (BoxA b1 _ _::plS pp p q g s O _ L (RdL [dd]::Rs)):=(back _ _ T).fro [2,2,2,2] rfl
 refine ⟨hkeep _ T.fr,?_⟩
 refine cond_ne (fun (hne:(progC C bl pa dd.l).2≠0)=>?_) (fun (hq:(progC C bl pa dd.l).2=0)=>?_)
 ·unfold prgP
  rw [if_neg hne]
  exact ⟨rfl,S.tail⟩
 refine S.lb1 (o:=1) rfl ?_
 refine (PCommit_c (g:=g)).mono ?_
 rintro ⟨⟨va,vn,vc⟩,e,⟨⟩⟩ w3 ⟨x3,h3,-⟩
 dsimp only at h3 ⊢
 obtain ⟨r3,h3⟩:=h3 hR
 subst h3
 refine cond_f rfl ?_
 have S:=res_rdL S r3 (comL_byt g)
 have hvn:vn≤100000:=by have h8:=r3.own.ints.len;have h9:=comL_len g;have h7:=hR.sec;dsimp only at h8;omega
 have S:Sep E w0 w3 ([chipE p _,RdL [⟨va,vn,vc,comL g⟩]]++(BoxA b1 _ _::boxPl pp p q g s::ordP s O::ledE q L::RdL [dd]::Rs)):=S.fro [5,0] rfl
 refine Sep.regC [chipE p _,RdL [_]] S fun G D hG T S hDt hDo hkeep back=>?_
 refine ⟨hDt 1 _ _ _ rfl,S.ld3 (j:=0) rfl rfl ⟨hDt 0 _ _ _ rfl,S.la2 rfl ?_⟩⟩
 refine (Program_e (bl:=bl) (pa:=pa) h1.ok hvn T).mono ?_
 rintro ⟨e,⟨⟩⟩ w4 ⟨h4,T⟩
 dsimp only at h4 ⊢
 subst h4
 refine ⟨hkeep _ T.fr,?_⟩
 unfold prgP
 rw [if_pos hq,h.gg]
 exact ⟨rfl,((back _ _ T).fro [1,1,1,1,1] rfl).tail.tail⟩
theorem Seal24_c {b:Int} (h:PI g n C L O) (ho:C.ops+1≤1000000000000) (S:Sep E w0 w (plS pp p q g s O C L Rs)) :
  CallV Tryz.prog 210 #[.pointer (some ⟨pp,0,none⟩),.int .i64 b] w [.one (.int .i64)] fun r w'=>r.1=(slC n C b).2∧Sep E w0 w' (plS pp p q g s O (slC n C b).1 L Rs):=by
 apply pool_Pool_Seal.vc
 unfold pool_Pool_Seal.P
 simp only [Addr.add_lit,Nat.zero_add]
 have hn:=plS_n S
 have hol:=h.ol
 have hle:=h.le
 have hR:Right g:=by have:=h.ok.g;rwa [h.gg] at this
 refine (has24_c (b:=b) S).mono ?_
 rintro ⟨(r:Bool),⟨⟩⟩ w2 ⟨h2,rfl⟩
 dsimp only at h2 ⊢
 subst h2
 by_cases hb:0≤b∧b<(n:Int)
 case neg=>exact cond_t (by rw [decide_eq_false (by omega)];rfl) (by unfold slC;rw [if_neg hb];exact ⟨rfl,S⟩)
 refine cond_f (by rw [decide_eq_true (by omega)];rfl) ?_
 rw [show slC n C b=selP C b from if_pos hb]
 refine S.lb0 (o:=1) rfl ?_
 refine (PCommit_c (g:=g)).mono ?_
 rintro ⟨⟨va,vn,vc⟩,e,⟨⟩⟩ w3 ⟨x3,h3,-⟩
 dsimp only at h3 ⊢
 obtain ⟨r3,h3⟩:=h3 hR
 subst h3
 refine cond_f rfl ?_
 have S:=res_rdL S r3 (comL_byt g)
 have hvn:vn≤100000:=by have h8:=r3.own.ints.len;have h9:=comL_len g;have h7:=hR.sec;dsimp only at h8;omega
 have S:Sep E w0 w3 ([chipE p _,RdL [⟨va,vn,vc,comL g⟩]]++(boxPl pp p q g s::ordP s O::ledE q L::Rs)):=S.fro [4,0] rfl
 refine Sep.regC [chipE p _,RdL [_]] S fun G D hG T S hDt hDo hkeep back=>?_
 refine ⟨hDt 0 _ _ _ rfl,S.ld2 (j:=0) rfl rfl ?_⟩
 refine (Place24_c (pp:=pp) (b:=b) (i:=0) (by omega)).mono ?_
 rintro ⟨x,⟨⟩⟩ w4 ⟨h4,x4⟩
 dsimp only at h4 ⊢
 subst h4
 have T:=T.stepE x4
 refine ⟨hkeep _ T.fr,?_⟩
 refine (Program_e (bl:=4+b) (pa:=0) h.ok hvn T).mono ?_
 rintro ⟨e,⟨⟩⟩ w5 ⟨h5,T⟩
 dsimp only at h5 ⊢
 subst h5
 refine ⟨hkeep _ T.fr,?_⟩
 unfold selP
 rw [h.gg]
 exact ⟨rfl,((back _ _ T).fro [1,1,1,1] rfl).tail⟩
end
end Go.Proofs.YtbaojfchlhlaeaaGreat.Vc
namespace Go.Proofs.YtbaojfchlhlaeaaGreat.Vc
open Go Go.Eng Go.RowKit
def opC (ns:Int) (o:Hd) (sl:Bool) (C:CD) (L:List Blk) (O:List Hd):(CD×List Blk×List Hd)×Int×Int:=if 0≤ns∧ns<4 then opnP ns o sl 128 C L O else ((C,L,O),0,2)
theorem mkL_len13 (g:Geo) (h:Hd):(mkL g h [] []).length=g.s.toNat+88:=by
 unfold mkL payL
 rw [List.length_append,endL_length _ (.inl rfl),if_pos (by rfl),List.length_replicate]
section
variable {E:Nat→Prop} {w0 w:World} {pp p q n:Nat} {g:Geo} {s:SlV} {O:List Hd} {C:CD} {L:List Blk} {Rs:List Asr}
theorem begin24_c {b ns:Int} {o:Hd} {sl:Bool} (h:PI g n C L O) (hn:0≤ns∧ns<4) (hr:o.rng) (ho:C.ops+2≤1000000000000) (hb:0≤b∧b<(n:Int)) (S:Sep E w0 w (plS pp p q g s O C L Rs)) :
  CallV Tryz.prog 256 #[.pointer (some ⟨pp,0,none⟩),.int .i64 b,.int .i64 ns,o.val,.bool sl] w [.one (.int .i64)] fun r w'=>r.1=(begP C L O b ns o sl).2.2.2∧Sep E w0 w' (plS pp p q g s (begP C L O b ns o sl).2.2.1 (begP C L O b ns o sl).1 (begP C L O b ns o sl).2.1 Rs):=by
 apply pool_Pool_begin.vc
 unfold pool_Pool_begin.P
 simp only [Addr.add_lit,Nat.zero_add]
 have hnn:=plS_n S
 have hol:=h.ol
 have hll:=h.ll
 have hle:=h.le
 have hg:=h.gg
 subst hg
 have hR:Right C.g:=h.ok.g
 refine S.newB fun b1 w1 S f1 _=>?_
 have hh:=begH_rng L b hn hr
 have hhR:=begH_right L b (o:=o) hn
 refine ⟨fun v w'=>∃ b2,v.1=some ⟨b2,0,none⟩∧Sep E w0 w' (BoxA b2 62 (begH L b ns o).vs::plS pp p q C.g s O C L Rs),?_,?_⟩
 case refine_2=>
  have cl:∀ {w':World},Sep E w0 w' (BoxA b1 62 o.vs::plS pp p q C.g s O C L Rs)→CallV Tryz.prog 54 #[.pointer (some ⟨q,0,none⟩),.int .i64 b] w' [.agg [.int .i64,.int .i64,.int .i64,.int .i64,.bool,.bool,.bool,.bool,.bool]] fun r w2=>r.1=(gx L b.toNat).tup∧Ext w' w2:=fun S=>At_e (S.fro [3] rfl) ⟨hb.1,by omega⟩
  refine S.reg fun D hD hkeep S T=>?_
  refine ⟨hD _ S.bl1,S.ld1 (j:=7) rfl rfl ⟨hD _ S.bl0,S.ld0 (j:=4) rfl rfl ⟨hD _ S.bl0,S.ld0 (j:=5) rfl rfl ⟨?_,?_⟩⟩⟩⟩
  ·refine (cl S).mono ?_
   rintro ⟨x,⟨⟩⟩ w2 ⟨h2,x2⟩
   dsimp only at h2 ⊢
   subst h2
   have S:=S.stepE x2
   have T:=T.stepE x2
   refine ⟨hkeep _ T.fr,S.newB fun b2 w3 S f3 hb3=>?_⟩
   have hz:w1.drew.heap.size≤b2:=Nat.le_trans T.fr.size hb3
   have T:=T.step0 f3
   refine ⟨hkeep _ T.fr,S.st0 (by rfl) fun w4 S f4=>?_⟩
   exact ⟨hkeep _ (T.fr.trans' f4 fun i hi=>.inr (by rw [hi];exact hz)),b2,rfl,(S.fro [1] rfl).tail⟩
  ·refine S.newB fun b2 w3 S f3 hb3=>?_
   have T:=T.step0 f3
   refine ⟨hkeep _ T.fr,?_⟩
   refine (cl S.tail).mono ?_
   rintro ⟨x,⟨⟩⟩ w2 ⟨h2,x2⟩
   dsimp only at h2 ⊢
   subst h2
   have S:=S.stepE x2
   have T:=T.stepE x2
   refine ⟨hkeep _ T.fr,S.st0 (by rfl) fun w4 S f4=>?_⟩
   exact ⟨hkeep _ (T.fr.trans' f4 fun i hi=>.inr (by rw [hi];exact hb3)),b2,rfl,(S.fro [1] rfl).tail⟩
 clear S
 rintro ⟨v,⟨⟩⟩ w2 ⟨b2,hv,S⟩
 dsimp only at hv
 subst hv
 dsimp only
 refine S.reg fun D hD hkeep S T=>?_
 refine ⟨hD _ S.bl1,S.lb1 (o:=1) rfl ?_⟩
 refine PtrK.of rfl ⟨hD _ S.bl0,S.la0 rfl ?_⟩
 refine (Make_c (g:=C.g) (h:=begH L b ns o) hh intsNil intsNil).mono ?_
 rintro ⟨⟨va,vn,vc⟩,e,⟨⟩⟩ w3 ⟨x3,h3,-⟩
 dsimp only at h3 ⊢
 have T:=T.stepE x3
 refine ⟨hkeep _ T.fr,?_⟩
 obtain ⟨r3,h3⟩:=h3 ⟨hR,⟨hhR,.inl rfl⟩,.inl rfl⟩
 subst h3
 have bm:Byt (mkL C.g (begH L b ns o) [] []):=mkL_byt hh hhR Byt.nil Byt.nil
 have S:=res_rdL S r3 bm
 have hvn:vn≤100000:=by
  have h8:=r3.own.ints.len
  have h9:(mkL C.g (begH L b ns o) [] []).length=C.g.s.toNat+88:=by
   exact mkL_len13 _ _
  have h7:=hR.sec
  dsimp only at h8
  omega
 obtain ⟨h1,o1,o2⟩:=h.prog (4+b) 0 bm (by omega)
 refine ⟨fun v w'=>v.1=(progC C (4+b) 0 (mkL C.g (begH L b ns o) [] [])).2∧Sep E w0 w' (BoxA b2 62 (begH L b ns o).vs::plS pp p q C.g s O (progC C (4+b) 0 (mkL C.g (begH L b ns o) [] [])).1 L Rs),?_,?_⟩
 case refine_2=>
  refine cond_t rfl ?_
  have S:Sep E w0 w3 ([chipE p C,RdL [⟨va,vn,vc,mkL C.g (begH L b ns o) [] []⟩]]++(BoxA b2 62 (begH L b ns o).vs::boxPl pp p q C.g s::ordP s O::ledE q L::Rs)):=S.fro [5,0] rfl
  refine Sep.regC [chipE p _,RdL [_]] S fun G D hG T S hDt hDo hkeep back=>?_
  refine ⟨hDt 1 _ _ _ rfl,S.ld3 (j:=0) rfl rfl ?_⟩
  refine (Place24_c (pp:=pp) (b:=b) (i:=0) (by omega)).mono ?_
  rintro ⟨x,⟨⟩⟩ w4 ⟨h4,x4⟩
  dsimp only at h4 ⊢
  subst h4
  have T:=T.stepE x4
  refine ⟨hkeep _ T.fr,?_⟩
  refine (Program_e (bl:=4+b) (pa:=0) h.ok hvn T).mono ?_
  rintro ⟨e,⟨⟩⟩ w5 ⟨h5,T⟩
  dsimp only at h5 ⊢
  subst h5
  exact ⟨hkeep _ T.fr,rfl,((back _ _ T).fro [1,1,1,1,1] rfl).tail⟩
 clear S T
 rintro ⟨v,⟨⟩⟩ w4 ⟨hv,S⟩
 dsimp only at hv
 subst hv
 dsimp only
 obtain ⟨k1,k2,k3⟩:=h.fst b hh hhR sl (by omega)
 refine ⟨fun v w'=>v.1=(fstP C b (begH L b ns o) sl).2∧Sep E w0 w' (BoxA b2 62 (begH L b ns o).vs::plS pp p q C.g s O (fstP C b (begH L b ns o) sl).1 L Rs),?_,?_⟩
 case refine_2=>
  have nos:∀ {w':World},¬ ((progC C (4+b) 0 (mkL C.g (begH L b ns o) [] [])).2=0∧sl=true)→Sep E w0 w' (BoxA b2 62 (begH L b ns o).vs::plS pp p q C.g s O (progC C (4+b) 0 (mkL C.g (begH L b ns o) [] [])).1 L Rs) →
    (progC C (4+b) 0 (mkL C.g (begH L b ns o) [] [])).2=(fstP C b (begH L b ns o) sl).2∧Sep E w0 w' (BoxA b2 62 (begH L b ns o).vs::plS pp p q C.g s O (fstP C b (begH L b ns o) sl).1 L Rs):=fun hno S=>by
   unfold fstP
   rw [if_neg hno]
   exact ⟨rfl,S⟩
  refine cond_eq (fun h0=>?_) (fun h0=>nos (fun x=>h0 x.1) S)
  refine cond_of (fun hs=>?_) (fun hs=>nos (fun x=>by rw [hs] at x;cases x.2) S)
  refine (Seal24_c (b:=b) h1 (by omega) (S.fro [1,1,1,1] rfl)).mono ?_
  rintro ⟨e,⟨⟩⟩ w5 ⟨h5,S⟩
  dsimp only at h5 ⊢
  subst h5
  have hq:slC n (progC C (4+b) 0 (mkL C.g (begH L b ns o) [] [])).1 b=selP (progC C (4+b) 0 (mkL C.g (begH L b ns o) [] [])).1 b:=if_pos hb
  rw [hq] at S ⊢
  unfold fstP
  rw [if_pos ⟨h0,hs⟩]
  exact ⟨rfl,S.fro [4] rfl⟩
 clear S
 rintro ⟨v,⟨⟩⟩ w5 ⟨hv,S⟩
 dsimp only at hv
 subst hv
 dsimp only
 refine cond_eq (fun (h0:(fstP C b (begH L b ns o) sl).2=0)=>?_) (fun (h0:(fstP C b (begH L b ns o) sl).2≠0)=>?_)
 case refine_2=>
  unfold begP
  rw [if_neg h0]
  exact ⟨rfl,S.tail⟩
 refine S.ld1 (j:=7) rfl rfl ?_
 refine (Hold_e (b:=b) (ns:=ns) (S.fro [3] rfl)).mono ?_
 rintro ⟨(e:Int),⟨⟩⟩ w6 ⟨-,S⟩
 rw [if_pos hn] at S
 have S:Sep E w0 w6 ([ordP s O]++(ledE q (chL b L.length (hB ns) L)::BoxA b2 62 (begH L b ns o).vs::boxPl pp p q C.g s::chipE p (fstP C b (begH L b ns o) sl).1::Rs)):=S.fro [3] rfl
 refine Sep.regC [ordP s O] S fun G D hG T S hDt hDo hkeep back=>?_
 refine ⟨hDt 2 _ _ _ rfl,S.ld3 (j:=8) rfl rfl ?_⟩
 refine PtrK.of rfl ⟨hDt 1 _ _ _ rfl,S.la2 rfl ?_⟩
 refine ⟨⟨hb.1,by dsimp only;omega⟩,T.putF Hdv_len Hdv_one (by decide) ⟨hb.1,by omega⟩ (begH L b ns o) fun w7 T f7=>⟨hkeep _ T.fr,?_⟩⟩
 have S:=(back _ _ T).fro [2,2] rfl
 unfold begP
 rw [if_pos h0]
 exact ⟨h0,S.tail⟩
theorem open24_c {ns:Int} {o:Hd} {sl:Bool} (h:PI g n C L O) (hr:o.rng) (ho:C.ops+768≤1000000000000) (S:Sep E w0 w (plS pp p q g s O C L Rs)) :
  CallV Tryz.prog 208 #[.pointer (some ⟨pp,0,none⟩),.int .i64 ns,o.val,.bool sl] w [.one (.int .i64),.one (.int .i64)] fun r w'=>
   r.1=(opC ns o sl C L O).2.1∧r.2.1=(opC ns o sl C L O).2.2∧Sep E w0 w' (plS pp p q g s (opC ns o sl C L O).1.2.2 (opC ns o sl C L O).1.1 (opC ns o sl C L O).1.2.1 Rs):=by
 apply pool_Pool_open.vc
 unfold pool_Pool_open.P
 simp only [Addr.add_lit,Nat.zero_add]
 refine S.newB fun b1 w1 S f1 _=>?_
 have no:¬ (0≤ns∧ns<4)→opC ns o sl C L O=((C,L,O),0,2):=fun hn=>if_neg hn
 refine cond_d (fun h0=>by rw [no (by omega)];exact ⟨rfl,rfl,S.tail⟩) (fun h0=>?_)
 refine cond_d (fun h4=>by rw [no (by omega)];exact ⟨rfl,rfl,S.tail⟩) (fun h4=>?_)
 have hn:0≤ns∧ns<4:=⟨by omega,by omega⟩
 rw [show opC ns o sl C L O=opnP ns o sl 128 C L O from if_pos hn]
 generalize hX:opnP ns o sl 128 C L O=X
 refine Loop1 (fun (v:Int×Unit) w'=>∃ (k:Nat) (C':CD) (L':List Blk) (O':List Hd),v.1=128-(k:Int)∧k≤128∧PI g n C' L' O'∧C'.ops+6*k≤1000000000000∧opnP ns o sl k C' L' O'=X∧Sep E w0 w' (BoxA b1 62 o.vs::plS pp p q g s O' C' L' Rs)) (fun (v:Int×Unit) _=>(128-v.1).toNat)
  ⟨128,C,L,O,rfl,by omega,h,by omega,hX,S⟩ ?_
 clear S h hX ho
 rintro ⟨(v:Int),⟨⟩⟩ w2 ⟨k,C,L,O,hv,hk,h,ho,hX,S⟩
 dsimp only at hv
 subst hv
 refine cond_d (fun hlt=>?_) (fun hge=>?_)
 case refine_2=>
  have:k=0:=by omega
  subst this
  rw [←hX]
  exact ⟨rfl,rfl,S.tail⟩
 obtain ⟨k,rfl⟩:∃ m,k=m+1:=⟨k-1,by omega⟩
 have hll:=h.ll
 have hle:=h.le
 refine S.ld1 (j:=7) rfl rfl ?_
 refine (Pick_e (by omega) (S.fro [3] rfl)).mono ?_
 rintro ⟨(b:Int),⟨⟩⟩ w3 ⟨h3,x3⟩
 dsimp only at h3 ⊢
 have S:=S.stepE x3
 unfold opnP at hX
 have hbd:=bestT_bd (L:=L) (m:=fun _ x=>freeB x) (ah:=fun x y=>decide (x.er<y.er)) L.length
 have hbd:-1≤pickT L L.length∧pickT L L.length<(L.length:Int):=hbd
 rw [←h3] at hX hbd
 clear h3
 refine cond_d (fun hneg=>?_) (fun hneg=>?_)
 ·rw [if_pos hneg] at hX
  rw [←hX]
  exact ⟨rfl,rfl,S.tail⟩
 rw [if_neg hneg] at hX
 have hb:0≤b∧b<(n:Int):=⟨by omega,by omega⟩
 refine S.ld1 (j:=7) rfl rfl ?_
 refine (At_e (b:=b) (S.fro [3] rfl) ⟨hb.1,by omega⟩).mono ?_
 rintro ⟨x,⟨⟩⟩ w4 ⟨h4,x4⟩
 dsimp only at h4 ⊢
 subst h4
 have S:=S.stepE x4
 dsimp only
 have nxt:∀ {w':World} {C':CD} {L':List Blk} {O':List Hd},PI g n C' L' O'→C'.ops≤C.ops+6→opnP ns o sl k C' L' O'=X→Sep E w0 w' (BoxA b1 62 o.vs::plS pp p q g s O' C' L' Rs) →
   Rng .i64 (128-((k+1:Nat):Int)+1)∧(∃ (k2:Nat) (C':CD) (L':List Blk) (O':List Hd),128-((k+1:Nat):Int)+1=128-(k2:Int)∧k2≤128∧PI g n C' L' O'∧C'.ops+6*k2≤1000000000000∧opnP ns o sl k2 C' L' O'=X∧Sep E w0 w' (BoxA b1 62 o.vs::plS pp p q g s O' C' L' Rs))∧(128-(128-((k+1:Nat):Int)+1)).toNat<(128-(128-((k+1:Nat):Int))).toNat:=
  fun h1 h2 h3 S=>⟨Rng.i64 (by omega) (by omega),⟨k,_,_,_,by push_cast;omega,by omega,h1,by omega,h3,S⟩,by omega⟩
 refine cond_of (fun hcl=>?_) (fun hcl=>?_)
 ·have hcl:(gx L b.toNat).cl=false:=by simpa using hcl
  have hcl':¬ (gx L b.toNat).cl=true:=by rw [hcl];simp
  rw [if_neg hcl'] at hX
  refine (Destroy24_c (b:=b) h (by omega) (S.fro [1,1,1,1] rfl)).mono ?_
  rintro ⟨e,⟨⟩⟩ w5 ⟨h5,S⟩
  dsimp only at h5 ⊢
  rw [show dsC n C L b=dstP C L b from if_pos hb] at h5 S
  obtain ⟨q1,q2,q3⟩:=h.dst b (by omega)
  generalize dstP C L b=R at hX h5 S q1 q2 q3
  obtain ⟨C1,L1,e1⟩:=R
  dsimp only at hX h5 S q1 q2 q3
  subst h5
  have S:=S.fro [4] rfl
  refine cond_eq (fun h0=>?_) (fun h0=>?_)
  case refine_2=>
   rw [if_neg h0] at hX
   refine cond_eq (fun h4=>?_) (fun h4=>?_)
   ·rw [if_pos h4] at hX
    rw [←hX]
    exact ⟨rfl,h4,S.tail⟩
   ·rw [if_neg h4] at hX
    exact nxt q1 (by omega) hX S
  rw [if_pos h0] at hX
  clear h0
  refine S.la0 rfl ?_
  refine (begin24_c (b:=b) (sl:=sl) q1 hn hr (by omega) hb (S.fro [1,1,1,1] rfl)).mono ?_
  rintro ⟨e2,⟨⟩⟩ w6 ⟨h6,S⟩
  dsimp only at h6 ⊢
  have S:=S.fro [4] rfl
  obtain ⟨r1,r2,r3⟩:=q1.beg b hn hr sl (by omega)
  generalize begP C1 L1 O b ns o sl=Z at hX h6 S r1 r2 r3
  obtain ⟨C2,L2,O2,e3⟩:=Z
  dsimp only at hX h6 S r1 r2 r3
  subst h6
  refine cond_eq (fun h0=>?_) (fun h0=>?_)
  ·rw [if_pos h0] at hX
   rw [←hX]
   exact ⟨rfl,h0,S.tail⟩
  rw [if_neg h0] at hX
  refine cond_eq (fun h4=>?_) (fun h4=>?_)
  ·rw [if_pos h4] at hX
   rw [←hX]
   exact ⟨rfl,h4,S.tail⟩
  rw [if_neg h4] at hX
  refine S.ld1 (j:=7) rfl rfl ?_
  refine (Failed_e (b:=b) (S.fro [3] rfl)).mono ?_
  rintro ⟨(e4:Int),⟨⟩⟩ w7 ⟨-,S⟩
  have S:=S.fro [1,1,1] rfl
  have hl2:L2.length=L.length:=by rw [r1.ll,h.ll]
  have r1:=r1.chL b (φ:=fB) (fun _=>rfl)
  rw [hl2] at S r1
  refine (Destroy24_c (b:=b) r1 (by omega) (S.fro [1,1,1,1] rfl)).mono ?_
  rintro ⟨e5,⟨⟩⟩ w8 ⟨h8,S⟩
  dsimp only at h8 ⊢
  rw [show dsC n C2 (chL b L.length fB L2) b=dstP C2 (chL b L.length fB L2) b from if_pos hb] at h8 S
  obtain ⟨d1,d2,d3⟩:=r1.dst b (by omega)
  generalize dstP C2 (chL b L.length fB L2) b=Y at hX h8 S d1 d2 d3
  obtain ⟨C3,L3,e6⟩:=Y
  dsimp only at hX h8 S d1 d2 d3
  subst h8
  have S:=S.fro [4] rfl
  refine cond_eq (fun h4=>?_) (fun h4=>?_)
  ·rw [if_pos h4] at hX
   rw [←hX]
   exact ⟨rfl,h4,S.tail⟩
  ·rw [if_neg h4] at hX
   exact nxt d1 (by omega) hX S
 ·have hcl:(gx L b.toNat).cl=true:=by simpa using hcl
  rw [if_pos hcl] at hX
  dsimp only at hX
  rw [if_pos rfl] at hX
  obtain ⟨C1,L1,q1,q2,q3,hX,S⟩:∃ C1 L1,PI g n C1 L1 O∧C1.ops≤C.ops+2∧C.ops≤C1.ops∧(let s:=begP C1 L1 O b ns o sl
    if s.2.2.2=0 then ((s.1,s.2.1,s.2.2.1),b,0) else
    if s.2.2.2=4 then ((s.1,s.2.1,s.2.2.1),0,4) else
    let d:=dstP s.1 (chL b L.length fB s.2.1) b
    if d.2.2=4 then ((d.1,d.2.1,s.2.2.1),0,4) else opnP ns o sl k d.1 d.2.1 s.2.2.1)=X∧Sep E w0 w4 (BoxA b1 62 o.vs::plS pp p q g s O C1 L1 Rs):=⟨C,L,h,by omega,by omega,hX,S⟩
  refine S.la0 rfl ?_
  refine (begin24_c (b:=b) (sl:=sl) q1 hn hr (by omega) hb (S.fro [1,1,1,1] rfl)).mono ?_
  rintro ⟨e2,⟨⟩⟩ w6 ⟨h6,S⟩
  dsimp only at h6 ⊢
  have S:=S.fro [4] rfl
  obtain ⟨r1,r2,r3⟩:=q1.beg b hn hr sl (by omega)
  generalize begP C1 L1 O b ns o sl=Z at hX h6 S r1 r2 r3
  obtain ⟨C2,L2,O2,e3⟩:=Z
  dsimp only at hX h6 S r1 r2 r3
  subst h6
  refine cond_eq (fun h0=>?_) (fun h0=>?_)
  ·rw [if_pos h0] at hX
   rw [←hX]
   exact ⟨rfl,h0,S.tail⟩
  rw [if_neg h0] at hX
  refine cond_eq (fun h4=>?_) (fun h4=>?_)
  ·rw [if_pos h4] at hX
   rw [←hX]
   exact ⟨rfl,h4,S.tail⟩
  rw [if_neg h4] at hX
  refine S.ld1 (j:=7) rfl rfl ?_
  refine (Failed_e (b:=b) (S.fro [3] rfl)).mono ?_
  rintro ⟨(e4:Int),⟨⟩⟩ w7 ⟨-,S⟩
  have S:=S.fro [1,1,1] rfl
  have hl2:L2.length=L.length:=by rw [r1.ll,h.ll]
  have r1:=r1.chL b (φ:=fB) (fun _=>rfl)
  rw [hl2] at S r1
  refine (Destroy24_c (b:=b) r1 (by omega) (S.fro [1,1,1,1] rfl)).mono ?_
  rintro ⟨e5,⟨⟩⟩ w8 ⟨h8,S⟩
  dsimp only at h8 ⊢
  rw [show dsC n C2 (chL b L.length fB L2) b=dstP C2 (chL b L.length fB L2) b from if_pos hb] at h8 S
  obtain ⟨d1,d2,d3⟩:=r1.dst b (by omega)
  generalize dstP C2 (chL b L.length fB L2) b=Y at hX h8 S d1 d2 d3
  obtain ⟨C3,L3,e6⟩:=Y
  dsimp only at hX h8 S d1 d2 d3
  subst h8
  have S:=S.fro [4] rfl
  refine cond_eq (fun h4=>?_) (fun h4=>?_)
  ·rw [if_pos h4] at hX
   rw [←hX]
   exact ⟨rfl,h4,S.tail⟩
  ·rw [if_neg h4] at hX
   exact nxt d1 (by omega) hX S
end
end Go.Proofs.YtbaojfchlhlaeaaGreat.Vc
namespace Go.Proofs.YtbaojfchlhlaeaaGreat.Vc
open Go Go.Eng Go.RowKit
theorem set_run {α:Type} (xs:List α) (k i:Nat) (v:α) (h:k+i<xs.length):(xs.take k++(List.replicate i v++xs.drop (k+i))).set (k+i) v=xs.take k++(List.replicate (i+1) v++xs.drop (k+(i+1))):=by
 have hk:(xs.take k).length=k:=by rw [List.length_take];omega
 rw [List.set_append_right _ _ (by omega),hk,show k+i-k=i by omega,List.set_append_right _ _ (by simp),List.length_replicate,Nat.sub_self,List.drop_eq_getElem_cons h,List.set_cons_zero,List.replicate_succ',List.append_assoc]
 rfl
def cpyL (xs:List Int):List Int:=xs.take (xs.length-8)++List.replicate 8 255
def cpyC (n:Nat) (C:CD) (b pa fb fp:Int):CD×Int:=if 0≤b∧b<(n:Int) then (if readC C fb fp=0 then prgP C (4+b) pa (cpyL (pgC13 C fb fp)) else (C,readC C fb fp)) else (C,2)
theorem cpyL_byt {xs:List Int} (bx:Byt xs):Byt (cpyL xs):=by
 intro v hv
 rcases List.mem_append.1 hv with h | h
 ·exact bx v (List.mem_of_mem_take h)
 ·rw [(List.mem_replicate.1 h).2];decide
section
variable {E:Nat→Prop} {w0 w:World} {pp p q n:Nat} {g:Geo} {s:SlV} {O:List Hd} {C:CD} {L:List Blk} {Rs:List Asr}
theorem Open24_c {ns:Int} {o:Hd} (h:PI g n C L O) (hr:o.rng) (ho:C.ops+768≤1000000000000) (S:Sep E w0 w (plS pp p q g s O C L Rs)) :
  CallV Tryz.prog 201 #[.pointer (some ⟨pp,0,none⟩),.int .i64 ns,o.val] w [.one (.int .i64),.one (.int .i64)] fun r w'=>
   r.1=(opC ns o true C L O).2.1∧r.2.1=(opC ns o true C L O).2.2∧Sep E w0 w' (plS pp p q g s (opC ns o true C L O).1.2.2 (opC ns o true C L O).1.1 (opC ns o true C L O).1.2.1 Rs):=by
 apply pool_Pool_Open.vc
 unfold pool_Pool_Open.P
 refine S.newB fun b1 w1 S f1 _=>S.la0 rfl ?_
 refine (open24_c (ns:=ns) (sl:=true) h hr ho (S.fro [1,1,1,1] rfl)).mono ?_
 rintro ⟨a,e,⟨⟩⟩ w2 ⟨h1,h2,S⟩
 exact ⟨h1,h2,(S.fro [4] rfl).tail⟩
theorem Begin24_c {ns:Int} {o:Hd} (h:PI g n C L O) (hr:o.rng) (ho:C.ops+768≤1000000000000) (S:Sep E w0 w (plS pp p q g s O C L Rs)) :
  CallV Tryz.prog 174 #[.pointer (some ⟨pp,0,none⟩),.int .i64 ns,o.val] w [.one (.int .i64),.one (.int .i64)] fun r w'=>
   r.1=(opC ns o false C L O).2.1∧r.2.1=(opC ns o false C L O).2.2∧Sep E w0 w' (plS pp p q g s (opC ns o false C L O).1.2.2 (opC ns o false C L O).1.1 (opC ns o false C L O).1.2.1 Rs):=by
 apply pool_Pool_Begin.vc
 unfold pool_Pool_Begin.P
 refine S.newB fun b1 w1 S f1 _=>S.la0 rfl ?_
 refine (open24_c (ns:=ns) (sl:=false) h hr ho (S.fro [1,1,1,1] rfl)).mono ?_
 rintro ⟨a,e,⟨⟩⟩ w2 ⟨h1,h2,S⟩
 exact ⟨h1,h2,(S.fro [4] rfl).tail⟩
theorem PI.R (h:PI g n C L O):Right g:=by have:=h.ok.g;rwa [h.gg] at this
theorem Copy24_c {b pa fb fp:Int} (h:PI g n C L O) (ho:C.ops+2≤1000000000000) (S:Sep E w0 w (plS pp p q g s O C L Rs)) :
  CallV Tryz.prog 209 #[.pointer (some ⟨pp,0,none⟩),.int .i64 b,.int .i64 pa,.agg #[.int .i64 fb,.int .i64 fp]] w [.one (.int .i64)] fun r w'=>
   r.1=(cpyC n C b pa fb fp).2∧Sep E w0 w' (plS pp p q g s O (cpyC n C b pa fb fp).1 L Rs):=by
 apply pool_Pool_Copy.vc
 unfold pool_Pool_Copy.P
 simp only [Addr.add_lit,Nat.zero_add]
 have hnn:=plS_n S
 have hol:=h.ol
 have hle:=h.le
 obtain ⟨-,-,⟨n5,n6⟩,n7,n8⟩:=h.ok.num
 refine S.newB fun b1 w1 S f1 _=>?_
 refine (has24_c (b:=b) (S.fro [1,1,1,1] rfl)).mono ?_
 rintro ⟨(r:Bool),⟨⟩⟩ w2 ⟨h2,rfl⟩
 dsimp only at h2 ⊢
 subst h2
 unfold cpyC
 by_cases hb:0≤b∧b<(n:Int)
 case neg=>exact cond_t (by rw [decide_eq_false (by omega)];rfl) (by rw [if_neg hb];exact ⟨rfl,S.tail⟩)
 refine cond_f (by rw [decide_eq_true (by omega)];rfl) ?_
 rw [if_pos hb]
 refine S.reg fun D hD hkeep S T=>?_
 refine ⟨hD _ S.bl1,S.ld1 (j:=0) rfl rfl ⟨hD _ S.bl0,S.la0 rfl ?_⟩⟩
 refine (Read_e (bl:=fb) (pa:=fp) h.ok (S.fro [4] rfl)).mono ?_
 rintro ⟨⟨va,vn,vc⟩,(e:Int),⟨⟩⟩ w3 ⟨h3,h4,h5⟩
 dsimp only at h3 h4 h5 ⊢
 subst h3
 by_cases hrd:readC C fb fp=0
 case neg=>
  obtain ⟨-,x3⟩:=h4 hrd
  refine ⟨hkeep _ (T.stepE x3).fr,cond_t (by simpa using hrd) ?_⟩
  rw [if_neg hrd]
  exact ⟨rfl,(S.stepE x3).tail⟩
 have r3:=h5 hrd
 clear h4 h5
 rw [if_pos hrd]
 refine ⟨hkeep _ (T.stepE r3.ext).fr,cond_f (by rw [hrd];rfl) ?_⟩
 have hin:inC C fb fp:=by
  unfold readC at hrd
  split at hrd
  ·omega
  ·split at hrd
   ·assumption
   ·omega
 obtain ⟨-,hpl,bx⟩:=h.ok.page hin
 generalize pgC13 C fb fp=xs at r3 hpl bx ⊢
 have hlen:=r3.own.ints.len
 dsimp only at hlen
 have S:=S.pushO r3.ext r3.own
 have hvn:vn=C.g.s.toNat+88:=by omega
 have hv8:((vn:Nat):Int)-8=((vn-8:Nat):Int):=by omega
 rw [hv8]
 refine ⟨Rng.i64 (by omega) (by omega),?_⟩
 refine Loop1 (fun (v:Int×Unit) w'=>∃ i:Nat,v.1=((vn-8+i:Nat):Int)∧i≤8∧Sep E w0 w' (OwnA 5 1 va vn vc (bv8 (xs.take (vn-8)++(List.replicate i 255++xs.drop (vn-8+i))))::BoxA b1 81 [.int .i64 fb,.int .i64 fp]::plS pp p q g s O C L Rs)) (fun (v:Int×Unit) _=>((vn:Int)-v.1).toNat)
  ⟨0,by dsimp only;omega,by omega,?_⟩ ?_
 ·have:xs.take (vn-8)++(List.replicate 0 255++xs.drop (vn-8+0))=xs:=by rw [List.replicate_zero,List.nil_append,Nat.add_zero,List.take_append_drop]
  rw [this]
  exact S
 clear S
 rintro ⟨(v:Int),⟨⟩⟩ w4 ⟨i,hv,hi,S⟩
 dsimp only at hv
 subst hv
 refine cond_d (fun hlt=>?_) (fun hge=>?_)
 ·refine S.pu0 (by omega) hlt rfl fun w5 S f5=>⟨Rng.i64 (by omega) (by omega),⟨i+1,by push_cast;omega,by omega,?_⟩,by omega⟩
  have e:(bv8 (xs.take (vn-8)++(List.replicate i 255++xs.drop (vn-8+i)))).set ((vn-8+i:Nat):Int).toNat (.int .u8 255)=bv8 (xs.take (vn-8)++(List.replicate (i+1) 255++xs.drop (vn-8+(i+1)))):=by
   rw [Int.toNat_natCast,← set_run _ _ _ _ (by omega)]
   exact List.map_set.symm
  rw [e] at S
  exact S
 have h8:i=8:=by omega
 subst h8
 have he:xs.take (vn-8)++(List.replicate 8 255++xs.drop (vn-8+8))=cpyL xs:=by
  unfold cpyL
  rw [List.drop_eq_nil_of_le (by omega),List.append_nil,hlen]
 rw [he] at S
 have bc:=cpyL_byt bx
 have S:=S.conv (R':=RdL [⟨va,vn,vc,cpyL xs⟩]) fun F hF _ x hx=>by
  rw [List.mem_singleton.1 hx]
  exact own_rdB hF (fun k hk=>hk) bc
 refine (Place24_c (pp:=pp) (b:=b) (i:=pa) (by omega)).mono ?_
 rintro ⟨x,⟨⟩⟩ w5 ⟨h5,x5⟩
 dsimp only at h5 ⊢
 subst h5
 have S:=S.stepE x5
 refine (programmed_c (bl:=4+b) (pa:=pa) (dd:=⟨va,vn,vc,cpyL xs⟩) h bc ho (by dsimp only;omega) (S.fro [2,2,2,2] rfl)).mono ?_
 rintro ⟨e,⟨⟩⟩ w6 ⟨h6,S⟩
 exact ⟨h6,(S.fro [4,4] rfl).tail.tail⟩
theorem New24_c {y:SlV} (hC:COk C) (hl:L.length≤100) (hy:y.n≤1000) (hO:RdC w y.a (O.flatMap Hd.vs)) (hOl:O.length=y.n) (S:Sep E w0 w (chipE p C::ledE q L::Rs)) :
  CallV Tryz.prog 82 #[.pointer (some ⟨p,0,none⟩),.pointer (some ⟨q,0,none⟩),.slice y.a y.n y.c] w [.one .ptr,.one (.int .i64)] fun r w'=>
   (¬ ((L.length:Int)=C.g.b-4∧(y.n:Int)=C.g.b-4)→r.1=none∧r.2.1=(2:Int)∧Ext w w') ∧
   ((L.length:Int)=C.g.b-4∧(y.n:Int)=C.g.b-4→r.2.1=(0:Int)∧∃ (pp:Nat) (s:SlV),r.1=some (⟨pp,0,none⟩:Addr)∧Ext w w'∧Sep E w0 w' (plS pp p q C.g s O C L Rs)):=by
 apply pool_New.vc
 unfold pool_New.P
 have hR:=hC.g
 have T:=Sep.start NoB w
 refine (Geometry_e S).mono ?_
 rintro ⟨_,⟨⟩⟩ w1 ⟨h1,x1⟩
 dsimp only at h1
 subst h1
 have S:=S.stepE x1
 have X:=x1
 refine S.newB fun b3 w3 S f3 z3=>?_
 refine S.st0 (by rfl) fun w4 S f4=>S.la0 rfl ?_
 have X3:=(Fr.of X).trans f3
 have X4:Fr NoB w w4:=X3.trans' f4 fun i hi=>.inr (by rw [hi];exact Nat.le_trans X.size z3)
 refine (Data_c (g:=C.g)).mono ?_
 rintro ⟨(d:Int),⟨⟩⟩ w5 ⟨h5,x5⟩
 dsimp only at h5 ⊢
 rw [if_pos hR] at h5
 subst h5
 obtain ⟨⟨n1,n2⟩,-⟩:=hC.num
 have S:=S.stepE x5
 have X5:=X4.trans (.of x5)
 refine cond_f (by simp;omega) ?_
 refine (Len_e (S.fro [2] rfl)).mono ?_
 rintro ⟨(r:Int),⟨⟩⟩ w6 ⟨h6,rfl⟩
 dsimp only at h6 ⊢
 subst h6
 refine cond_ne (fun hne=>⟨fun _=>⟨rfl,rfl,X5.ext⟩,fun hh=>absurd hh.1 hne⟩) (fun he=>?_)
 refine cond_ne (fun hne=>⟨fun _=>⟨rfl,rfl,X5.ext⟩,fun hh=>absurd hh.2 hne⟩) (fun he2=>?_)
 refine S.reg fun D hD hkeep S T=>?_
 have X:=T.fr
 clear T
 refine ⟨hD _ S.bl0,S.la0 rfl ?_⟩
 refine S.newB fun b13 w14 S f14 z14=>?_
 have X:=X.trans f14
 refine ⟨hkeep _ X,?_⟩
 have S:=S.asOwn (sz:=6) (n:=0) rfl (by omega) oneAll.nil
 have hO':RdC w14 y.a (O.flatMap Hd.vs):=hO.imp id fun ⟨p,h1,h2⟩=>⟨p,h1,((X5.trans (.drew _ _)).trans X).ext.cells h2⟩
 refine AppS.of (news:=O.flatMap Hd.vs) (by rw [flatF_len Hdv_len,hOl]) hO' ?_
 refine S.ap0 (by rw [flatF_len Hdv_len,hOl]) (flatF_one Hdv_one O) (by omega) (by omega) fun a' c' w18 S f18=>?_
 have X:Fr NoB w6.drew w18:=X.trans' f18 fun i ⟨q,hq,hi⟩=>.inr (by cases hq;subst hi;exact z14)
 refine ⟨hkeep _ X,?_⟩
 dsimp only [List.nil_append] at S ⊢
 rw [Nat.zero_add] at S ⊢
 refine S.newB fun b20 w21 S f21 z21=>?_
 have X:=X.trans f21
 refine ⟨hkeep _ X,fun hh=>absurd ⟨he,he2⟩ hh,fun _=>⟨rfl,b20,⟨a',y.n,c'⟩,rfl,((X5.trans (.drew _ _)).trans X).ext,?_⟩⟩
 exact (S.fro [2] rfl).tail.fro [0,0,1] rfl
end
end Go.Proofs.YtbaojfchlhlaeaaGreat.Vc
namespace Go.Proofs.YtbaojfchlhlaeaaGreat.Vc
open Go Go.Eng Go.RowKit
set_option maxRecDepth 100000 in
theorem eqPl0 (a1 a2 b1 b2:Int) (w:World):(Op.equalIn 10000 81 (.agg #[.int .i64 a1,.int .i64 a2]) (.agg #[.int .i64 b1,.int .i64 b2])).run Tryz.prog w=.ok (a1 == b1 && a2 == b2) w:=by
 have u1:=Tryz.underlying3
 have v1:=Tryz.isAgg3
 have z1:=Tryz.sizeOf3
 have hS:Tryz.prog.underlying 81=some (.struct (Tryz.prog.fieldsOf 81)):=by kernel_rfl
 rw [show (10000:Nat)=9999+1 from rfl,run_equalIn_agg w 9999 81 _ _ hS (by kernel_rfl)]
 simp only [Program.fieldsOf,Tryz.underlying81]
 go_simp
 repeat' split
 all_goals simp_all
theorem eqPl {a b c d:Int} {K:Bool→Prop} (hk:K (decide (a=c∧b=d))):AggEq Tryz.prog 81 #[.int .i64 a,.int .i64 b] #[.int .i64 c,.int .i64 d] K:=by
 refine ⟨_,fun w=>eqPl0 _ _ _ _ w,by kernel_rfl,?_⟩
 have:(a == c && b == d)=decide (a=c∧b=d):=by
  apply Bool.eq_iff_iff.2
  simp
 rw [this]
 exact hk
end Go.Proofs.YtbaojfchlhlaeaaGreat.Vc
namespace Go.Proofs.YtbaojfchlhlaeaaGreat.Vc
open Go Go.Eng Go.RowKit
abbrev kV (k:Int×Int):Value:=.agg #[.int .i64 k.1,.int .i64 k.2]
structure ME where
 k:Int×Int
 v:Int
 b:Nat
abbrev ME.e (x:ME):MapEntry:=⟨kV x.k,.int .i64 x.v,x.b⟩
def fndM (k:Int×Int):List ME→Nat→Option (Nat×Int)
 | [],_=>none
 | x::l,i=>if x.k=k then some (i,x.v) else fndM k l (i+1)
def getM (l:List ME) (k:Int×Int):Int:=match fndM k l 0 with | some r=>r.2 | none=>0
theorem fndM_some {k:Int×Int}:∀ {l:List ME} {i j:Nat} {v:Int},fndM k l i=some (j,v)→i≤j∧∃ x,l[j-i]? = some x∧x.k=k∧x.v=v
 | [],_,_,_,h=>by cases h
 | x::l,i,j,v,h=>by
  unfold fndM at h
  split at h
  ·rename_i hk
   cases h
   exact ⟨Nat.le_refl _,x,by rw [Nat.sub_self];rfl,hk,rfl⟩
  ·obtain ⟨h1,y,h2,h3⟩:=fndM_some h
   refine ⟨by omega,y,?_,h3⟩
   rw [show j-i=(j-(i+1))+1 by omega,List.getElem?_cons_succ]
   exact h2
theorem fndM_none {k:Int×Int}:∀ {l:List ME} {i:Nat},fndM k l i=none↔∀ x∈l,x.k≠k
 | [],_=>by simp [fndM]
 | x::l,i=>by
  unfold fndM
  by_cases hk:x.k=k
  ·rw [if_pos hk];simp [hk]
  ·rw [if_neg hk,fndM_none (i:=i+1)];simp [hk]
theorem fndM_app {k:Int×Int} {x:ME}:∀ {l:List ME} {i:Nat},fndM k (l++[x]) i=match fndM k l i with | some r=>some r | none=>if x.k=k then some (i+l.length,x.v) else none
 | [],i=>by simp [fndM]
 | y::l,i=>by
  rw [List.cons_append]
  unfold fndM
  by_cases hk:y.k=k
  ·rw [if_pos hk,if_pos hk]
  ·rw [if_neg hk,if_neg hk,fndM_app (l:=l) (i:=i+1),List.length_cons]
   cases fndM k l (i+1) with
   | some r=>rfl
   | none=>simp only;rw [show i+1+l.length=i+(l.length+1) by omega]
structure MOk (l:List ME) (c:Nat):Prop where
 kn:(l.map (·.k)).Nodup
 bn:(l.map (·.b)).Nodup
 bc:∀ x∈l,x.b<c
theorem MOk.get {l:List ME} {c:Nat} (h:MOk l c) {x:ME} (hx:x∈l):getM l x.k=x.v:=by
 unfold getM
 cases hf:fndM x.k l 0 with
 | none=>exact absurd rfl (fndM_none.1 hf x hx)
 | some r=>
  obtain ⟨j,v⟩:=r
  obtain ⟨-,y,hy,hk,hv⟩:=fndM_some hf
  rw [Nat.sub_zero] at hy
  have hym:=List.mem_of_getElem? hy
  have:y=x:=by
   obtain ⟨i,hi⟩:=List.getElem?_of_mem hx
   have h1:(l.map (·.k))[j]? = some x.k:=by rw [List.getElem?_map,hy];exact congrArg some hk
   have h2:(l.map (·.k))[i]? = some x.k:=by rw [List.getElem?_map,hi];rfl
   have hij:=(List.getElem?_inj (by have:=(List.getElem?_eq_some_iff.1 h1).1;exact this) h.kn).1 (h1.trans h2.symm)
   subst hij
   rw [hi] at hy
   exact (Option.some.inj hy).symm
  subst this
  exact hv.symm
theorem getM_none {l:List ME} {k:Int×Int} (h:∀ x∈l,x.k≠k):getM l k=0:=by
 unfold getM
 rw [fndM_none.2 h]
def updM (m:Int×Int→Int) (k:Int×Int) (v:Int):Int×Int→Int:=fun k'=>if k'=k then v else m k'
theorem _root_.List.set_getElem?_self' {α:Type} {l:List α} {i:Nat} {x:α} (h:l[i]? = some x):l.set i x=l:=by
 apply List.ext_getElem?
 intro j
 rw [List.getElem?_set]
 split
 ·rename_i e
  subst e
  rw [h,if_pos (List.getElem?_eq_some_iff.1 h).1]
 ·rfl
theorem erase_map:∀ (l:List ME) (i:Nat),(l.map ME.e).eraseIdx i=(l.eraseIdx i).map ME.e
 | [],_=>rfl
 | x::l,0=>rfl
 | x::l,i+1=>by rw [List.map_cons,List.eraseIdx_cons_succ,List.eraseIdx_cons_succ,List.map_cons,erase_map l i]
section
variable {w:World} {r c:Nat} {l:List ME} {k:Int×Int}
theorem run_ask:∀ (l:List ME) (i:Nat),(Instr.findAsking 81 (kV k) (l.map ME.e) i).run Tryz.prog w=.ok ((fndM k l i).map fun r=>(r.1,.int .i64 r.2)) w
 | [],i=>by simp [Instr.findAsking,fndM]
 | x::l,i=>by
  have h:(Op.equal 81 (kV k) (kV x.k)).run Tryz.prog w=.ok (k.1 == x.k.1 && k.2 == x.k.2) w:=eqPl0 _ _ _ _ w
  rw [List.map_cons]
  simp only [Instr.findAsking,Sem.run_bind,h,Result.andThen_ok]
  unfold fndM
  by_cases hk:x.k=k
  ·subst hk
   simp
  ·have:(k.1 == x.k.1 && k.2 == x.k.2)=false:=by
    rw [Bool.eq_false_iff]
    intro h2
    simp only [Bool.and_eq_true,beq_iff_eq] at h2
    exact hk (Prod.ext h2.1.symm h2.2.symm)
   rw [this,if_neg hk]
   simp only [Bool.false_eq_true,if_false]
   exact run_ask l (i+1)
theorem run_find (l:List ME):(Instr.findKey 81 (kV k) (l.map ME.e)).run Tryz.prog w=.ok ((fndM k l 0).map fun r=>(r.1,.int .i64 r.2)) w:=by
 rw [run_findKey_eq w (by kernel_rfl)]
 exact run_ask l 0
theorem run_chk (em:Bool):(Instr.checkKey em 10000 81 (kV k)).run Tryz.prog w=.ok () w:=by
 cases em <;> kernel_rfl
theorem run_getM (hb:w.heap[r]? = some (.map (l.map ME.e).toArray c)):(getObj r).run Tryz.prog w=.ok (.map (l.map ME.e).toArray c) w:=by simp [getObj,Sem.run,hb]
theorem run_look (hb:w.heap[r]? = some (.map (l.map ME.e).toArray c)):(Instr.lookup 183 (.map (some r)) (kV k) false).run Tryz.prog w=.ok (.int .i64 (getM l k)) w:=by
 have hu:Tryz.prog.underlying 183=some (.map 81 3):=by kernel_rfl
 have hz:(zeroValue 3).run Tryz.prog w=.ok (.int .i64 0) w:=by kernel_rfl
 simp only [Instr.lookup,Sem.run_bind,run_underlying hu,Result.andThen_ok,run_getM hb,Sem.run_pure,run_chk,run_find]
 unfold getM
 cases fndM k l 0 with
 | none=>simp only [Option.map_none,Sem.run_bind,hz,Result.andThen_ok,Sem.run_pure,Bool.false_eq_true,if_false]
 | some q=>simp only [Option.map_some,Sem.run_bind,Result.andThen_ok,Sem.run_pure,Bool.false_eq_true,if_false]
theorem same_bits (k:Int×Int):Instr.sameBits 10000 (kV k) (kV k)=true:=by
 show (#[Value.int .i64 k.1,.int .i64 k.2].size == #[Value.int .i64 k.1,.int .i64 k.2].size && _)=true
 simp [Instr.sameBits]
def setM (w:World) (r:Nat) (o:Obj):World:={w with heap:=w.heap.setIfInBounds r o}
theorem run_setM (o:Obj) (hb:w.heap[r]? = some (.map (l.map ME.e).toArray c)):(setObj r o).run Tryz.prog w=.ok () (setM w r o):=by simp [setObj,Sem.run,hb,setM]
theorem run_ent (hb:w.heap[r]? = some (.map (l.map ME.e).toArray c)):∃ l' c' s,(Instr.mapEntry 183 (.map (some r)) (kV k)).run Tryz.prog w=.ok (.tuple #[.int .i64 (getM l k),.int .i64 ((s:Nat):Int)]) (setM w r (.map (l'.map ME.e).toArray c')) ∧
  (MOk l c→MOk l' c'∧(∀ k',getM l' k'=getM l k')∧∃ x∈l',x.k=k∧x.b=s):=by
 have hu:Tryz.prog.underlying 183=some (.map 81 3):=by kernel_rfl
 have hz:(zeroValue 3).run Tryz.prog w=.ok (.int .i64 0) w:=by kernel_rfl
 cases hf:fndM k l 0 with
 | none=>
  refine ⟨l++[⟨k,0,c⟩],c+1,c,?_,fun h=>⟨⟨?_,?_,?_⟩,?_,⟨k,0,c⟩,by simp,rfl,rfl⟩⟩
  ·simp only [Instr.mapEntry,Sem.run_bind,run_underlying hu,Result.andThen_ok,run_getM hb,run_chk,run_find,hf,Option.map_none,hz,run_setM _ hb,Sem.run_pure]
   have e:(l.map ME.e).toArray.push (⟨kV k,.int .i64 0,c⟩:MapEntry)=((l++[(⟨k,0,c⟩:ME)]).map ME.e).toArray:=by simp
   rw [e]
   have hg:getM l k=0:=by unfold getM;rw [hf]
   rw [hg]
   rfl
  ·rw [List.map_append]
   refine List.nodup_append.2 ⟨h.kn,by simp,?_⟩
   intro a ha b hb2 e
   obtain ⟨x,hx,rfl⟩:=List.mem_map.1 ha
   simp at hb2
   subst hb2
   exact fndM_none.1 hf x hx e
  ·rw [List.map_append]
   refine List.nodup_append.2 ⟨h.bn,by simp,?_⟩
   intro a ha b hb2 e
   obtain ⟨x,hx,rfl⟩:=List.mem_map.1 ha
   simp at hb2
   subst hb2
   have:=h.bc x hx
   omega
  ·intro x hx
   rcases List.mem_append.1 hx with hx | hx
   ·have:=h.bc x hx;omega
   ·rw [List.mem_singleton.1 hx];exact Nat.lt_succ_self _
  ·intro k'
   unfold getM
   rw [fndM_app]
   cases hf':fndM k' l 0 with
   | some q=>rfl
   | none=>
    dsimp only
    by_cases hk2:k=k'
    ·rw [if_pos hk2]
    ·rw [if_neg hk2]
 | some q=>
  obtain ⟨i,v⟩:=q
  obtain ⟨-,x,hx,hk,hv⟩:=fndM_some hf
  rw [Nat.sub_zero] at hx
  have hxe:((l.map ME.e).toArray)[i]? = some x.e:=by rw [List.getElem?_toArray,List.getElem?_map,hx];rfl
  refine ⟨l,c,x.b,?_,fun h=>⟨h,fun _=>rfl,x,List.mem_of_getElem? hx,hk,rfl⟩⟩
  have hm:(l.map ME.e).toArray.modify i (fun e=>{e with key:=kV k})=(l.map ME.e).toArray:=by
   apply Array.ext_getElem?
   intro j
   rw [Array.getElem?_modify]
   split
   ·rename_i hij
    subst hij
    rw [hxe,← hk]
    rfl
   ·rfl
  have hs:(Instr.keyThatStays (kV k) (kV k)).run Tryz.prog w=.ok (kV k) w:=by simp only [Instr.keyThatStays,same_bits,if_true,Sem.run_pure]
  have hk2:((((l.map ME.e).toArray)[i]?).map (·.key)).getD (kV k)=kV k:=by rw [hxe,← hk];rfl
  have hb2:((((l.map ME.e).toArray)[i]?).map (fun e=>((e.born:Nat):Int))).getD 0=((x.b:Nat):Int):=by rw [hxe];rfl
  have hg:getM l k=v:=by unfold getM;rw [hf]
  simp only [Instr.mapEntry,Sem.run_bind,run_underlying hu,Result.andThen_ok,run_getM hb,run_chk,run_find,hf,Option.map_some,hk2,hb2,hs,hm,run_setM _ hb,Sem.run_pure,hg]
  rfl
theorem getM_cases (h:MOk l c) (k:Int×Int):(∃ y∈l,y.k=k∧getM l k=y.v)∨((∀ y∈l,y.k≠k)∧getM l k=0):=by
 by_cases he:∃ y∈l,y.k=k
 ·obtain ⟨y,hy,rfl⟩:=he
  exact .inl ⟨y,hy,rfl,h.get hy⟩
 ·have he:∀ y∈l,y.k≠k:=fun y hy e=>he ⟨y,hy,e⟩
  exact .inr ⟨he,getM_none he⟩
theorem MOk.key {x y:ME} (h:MOk l c) (hx:x∈l) (hy:y∈l) (he:x.k=y.k):x=y:=by
 obtain ⟨i,hi⟩:=List.getElem?_of_mem hx
 obtain ⟨j,hj⟩:=List.getElem?_of_mem hy
 have h1:(l.map (·.k))[i]? = some x.k:=by rw [List.getElem?_map,hi];rfl
 have h2:(l.map (·.k))[j]? = some x.k:=by rw [List.getElem?_map,hj];exact congrArg some he.symm
 have hij:=(List.getElem?_inj (List.getElem?_eq_some_iff.1 h1).1 h.kn).1 (h1.trans h2.symm)
 subst hij
 rw [hi] at hj
 exact Option.some.inj hj
theorem run_sto {x:ME} {v:Int} (hM:MOk l c) (hx:x∈l) (hb:w.heap[r]? = some (.map (l.map ME.e).toArray c)):∃ l',(Instr.entryStore 183 (.map (some r)) (.int .i64 ((x.b:Nat):Int)) (.int .i64 v)).run Tryz.prog w=.ok () (setM w r (.map (l'.map ME.e).toArray c)) ∧
  MOk l' c∧∀ k',getM l' k'=updM (getM l) x.k v k':=by
 obtain ⟨i,hi⟩:=List.getElem?_of_mem hx
 have hil:i<l.length:=(List.getElem?_eq_some_iff.1 hi).1
 have hfi:(l.map ME.e).toArray.findIdx? (fun e=>((e.born:Nat):Int) == ((x.b:Nat):Int))=some i:=by
  rw [List.findIdx?_toArray,List.findIdx?_map,List.findIdx?_eq_some_iff_getElem]
  refine ⟨hil,?_,fun j hj=>?_⟩
  ·simp [(List.getElem?_eq_some_iff.1 hi).2]
  ·intro he
   have hjl:j<l.length:=by omega
   have he:(l[j].b:Int)=(x.b:Int):=by simpa using he
   have h1:(l.map (·.b))[j]? = some x.b:=by rw [List.getElem?_map,List.getElem?_eq_getElem hjl];simp;omega
   have h2:(l.map (·.b))[i]? = some x.b:=by rw [List.getElem?_map,hi];rfl
   have:=(List.getElem?_inj (List.getElem?_eq_some_iff.1 h1).1 hM.bn).1 (h1.trans h2.symm)
   omega
 have hmod:(l.map ME.e).toArray.modify i (fun e=>{e with val:=.int .i64 v})=((l.set i ⟨x.k,v,x.b⟩).map ME.e).toArray:=by
  apply Array.ext_getElem?
  intro j
  rw [Array.getElem?_modify,List.getElem?_toArray,List.getElem?_toArray,List.getElem?_map,List.getElem?_map,List.getElem?_set]
  by_cases hij:i=j
  ·subst hij
   rw [if_pos rfl,if_pos rfl,if_pos hil,hi]
   rfl
  ·rw [if_neg hij,if_neg hij]
 refine ⟨l.set i ⟨x.k,v,x.b⟩,?_,?_,fun k'=>?_⟩
 ·simp only [Instr.entryStore,Sem.run_bind,Result.andThen_ok,run_getM hb,asInt,asIntOf,Sem.run_pure,hfi,hmod,run_setM _ hb]
 all_goals
  have hk:(l.set i ⟨x.k,v,x.b⟩).map (·.k)=l.map (·.k):=by
   rw [List.map_set];exact List.set_getElem?_self' (by rw [List.getElem?_map,hi];rfl)
  have hbb:(l.set i ⟨x.k,v,x.b⟩).map (·.b)=l.map (·.b):=by
   rw [List.map_set];exact List.set_getElem?_self' (by rw [List.getElem?_map,hi];rfl)
  have hM':MOk (l.set i ⟨x.k,v,x.b⟩) c:=⟨by rw [hk];exact hM.kn,by rw [hbb];exact hM.bn,fun y hy=>by
   rcases List.mem_or_eq_of_mem_set hy with h | h
   ·exact hM.bc y h
   ·rw [h];exact hM.bc x hx⟩
 ·exact hM'
 ·unfold updM
  by_cases he:k'=x.k
  ·subst he
   rw [if_pos rfl]
   exact hM'.get (x:=⟨x.k,v,x.b⟩) (List.mem_set hil _)
  ·rw [if_neg he]
   rcases getM_cases hM k' with ⟨y,hy,rfl,h2⟩ | ⟨h1,h2⟩
   ·rw [h2]
    refine hM'.get (x:=y) ?_
    obtain ⟨j,hj⟩:=List.getElem?_of_mem hy
    refine List.mem_of_getElem? (i:=j) ?_
    rw [List.getElem?_set,if_neg (fun e=>?_),hj]
    subst e
    rw [hi] at hj
    cases hj
    exact he rfl
   ·rw [h2]
    refine getM_none fun y hy=>?_
    rcases List.mem_or_eq_of_mem_set hy with h | h
    ·exact h1 y h
    ·rw [h];exact fun e=>he e.symm
theorem run_del (hb:w.heap[r]? = some (.map (l.map ME.e).toArray c)):∃ l',(∀ ty,(Builtin.delete_ #[183,81] ty #[.map (some r),kV k]).run Tryz.prog w=.ok (.tuple #[]) (setM w r (.map (l'.map ME.e).toArray c))) ∧
  (MOk l c→MOk l' c∧∀ k',getM l' k'=updM (getM l) k 0 k'):=by
 have hu:Tryz.prog.underlying 183=some (.map 81 3):=by kernel_rfl
 cases hf:fndM k l 0 with
 | none=>
  refine ⟨l,fun ty=>?_,fun h=>⟨h,fun k'=>?_⟩⟩
  ·simp only [Builtin.delete_,Sem.run_bind,run_underlying hu,Result.andThen_ok,run_getM hb,run_chk,run_find,hf,Option.map_none,run_setM _ hb,Sem.run_pure,List.getElem?_toArray,List.getElem?_cons_zero,List.getElem?_cons_succ]
  ·unfold updM
   split
   ·rename_i e;subst e;exact getM_none (fndM_none.1 hf)
   ·rfl
 | some q=>
  obtain ⟨i,v⟩:=q
  obtain ⟨-,x,hx,hk,hv⟩:=fndM_some hf
  rw [Nat.sub_zero] at hx
  have hil:i<l.length:=(List.getElem?_eq_some_iff.1 hx).1
  have he:(l.map ME.e).toArray.eraseIdxIfInBounds i=((l.eraseIdx i).map ME.e).toArray:=by
   apply Array.ext'
   rw [Array.toList_eraseIdxIfInBounds]
   exact erase_map l i
  refine ⟨l.eraseIdx i,fun ty=>?_,fun h=>?_⟩
  ·simp only [Builtin.delete_,Sem.run_bind,run_underlying hu,Result.andThen_ok,run_getM hb,run_chk,run_find,hf,Option.map_some,he,run_setM _ hb,Sem.run_pure,List.getElem?_toArray,List.getElem?_cons_zero,List.getElem?_cons_succ]
  ·have hsub:=List.eraseIdx_sublist l i
   have hM':MOk (l.eraseIdx i) c:=⟨h.kn.sublist (hsub.map _),h.bn.sublist (hsub.map _),fun y hy=>h.bc y (hsub.mem hy)⟩
   refine ⟨hM',fun k'=>?_⟩
   unfold updM
   by_cases hkk:k'=k
   ·subst hkk
    rw [if_pos rfl]
    refine getM_none fun y hy hyk=>?_
    have hyl:=hsub.mem hy
    have hxy:=h.key (List.mem_of_getElem? hx) hyl (hk.trans hyk.symm)
    subst hxy
    obtain ⟨j,hj⟩:=List.getElem?_of_mem hy
    rw [List.getElem?_eraseIdx] at hj
    have h2:(l.map (·.k))[i]? = some x.k:=by rw [List.getElem?_map,hx];rfl
    split at hj
    ·have h1:(l.map (·.k))[j]? = some x.k:=by rw [List.getElem?_map,hj];rfl
     have:=(List.getElem?_inj (List.getElem?_eq_some_iff.1 h1).1 h.kn).1 (h1.trans h2.symm)
     omega
    ·have h1:(l.map (·.k))[j+1]? = some x.k:=by rw [List.getElem?_map,hj];rfl
     have:=(List.getElem?_inj (List.getElem?_eq_some_iff.1 h1).1 h.kn).1 (h1.trans h2.symm)
     omega
   ·rw [if_neg hkk]
    rcases getM_cases h k' with ⟨y,hy,rfl,h2⟩ | ⟨h1,h2⟩
    ·rw [h2]
     refine hM'.get (x:=y) ?_
     obtain ⟨j,hj⟩:=List.getElem?_of_mem hy
     have hji:j≠i:=fun e=>by subst e;rw [hx] at hj;cases hj;exact hkk hk
     by_cases hlt:j<i
     ·exact List.mem_of_getElem? (i:=j) (by rw [List.getElem?_eraseIdx,if_pos hlt,hj])
     ·exact List.mem_of_getElem? (i:=j-1) (by rw [List.getElem?_eraseIdx,if_neg (by omega),show j-1+1=j by omega,hj])
    ·rw [h2]
     exact getM_none fun y hy=>h1 y (hsub.mem hy)
end
def MapF (r:Nat) (m:Int×Int→Int):Asr:=⟨fun w F=>F r∧∃ l c,w.heap[r]? = some (.map (l.map ME.e).toArray c)∧MOk l c∧∀ k,getM l k=m k,fun h k=>⟨h.1,by obtain ⟨l,c,h1,h2⟩:=h.2;exact ⟨l,c,by rw [k _ h.1];exact h1,h2⟩⟩⟩
def MapS (r:Nat) (m:Int×Int→Int) (k:Int×Int) (s:Nat):Asr:=⟨fun w F=>F r∧∃ l c,w.heap[r]? = some (.map (l.map ME.e).toArray c)∧MOk l c∧(∀ k,getM l k=m k)∧∃ x∈l,x.k=k∧x.b=s,fun h k=>⟨h.1,by obtain ⟨l,c,h1,h2⟩:=h.2;exact ⟨l,c,by rw [k _ h.1];exact h1,h2⟩⟩⟩
theorem setM_fr {w:World} {r:Nat} {o:Obj} (h:r<w.heap.size):Fr (fun k=>k=r) w (setM w r o)∧(setM w r o).heap[r]? = some o∧(setM w r o).heap.size=w.heap.size:=by
 refine ⟨⟨rfl,rfl,rfl,by simp [setM],fun k hk hn=>?_⟩,by simp [setM,h],by simp [setM]⟩
 show (w.heap.setIfInBounds r o)[k]? = _
 rw [Array.getElem?_setIfInBounds,if_neg (fun e=>hn e.symm)]
section
variable {E:Nat→Prop} {w0 w:World} {Rs:List Asr} {r:Nat} {m:Int×Int→Int} {k:Int×Int}
theorem _root_.Go.Eng.Sep.newM (S:Sep E w0 w Rs) {K:Nat→World→Prop} (hk:∀ b w',Sep E w0 w' (MapF b (fun _=>0)::Rs)→Fr NoB w w'→w.heap.size≤b→K b w'):NewM w K:=by
 rintro b w1 rfl rfl
 have f:Fr NoB w (w.alloc (.map #[] 0)):=.of (Ext.alloc _ _)
 refine hk _ _ (S.push (F:=fun k=>k=w.heap.size) f ⟨rfl,[],0,heap_new w _,⟨by simp,by simp,fun x hx=>by simp at hx⟩,fun _=>rfl⟩ fun k hk=>?_) f (Nat.le_refl _)
 subst hk
 exact ⟨Nat.le_refl _,(Array.getElem?_eq_some_iff.1 (heap_new w (.map #[] 0))).1⟩
theorem _root_.Go.Eng.Sep.mstep (S:Sep E w0 w Rs) {i:Nat} {R:Asr} (hi:Rs[i]? = some R) {P:World→Prop} (hR:∀ F,R.p w F→F r∧P w) {o:Obj} {R':Asr} (hlt:r<w.heap.size) (hp:∀ w' F,F r→w'.heap[r]? = some o→R'.p w' F) :
  Sep E w0 (setM w r o) (Rs.set i R'):=by
 obtain ⟨F,h1,h2,h3⟩:=S.step hi
 obtain ⟨fr,hh,hs⟩:=setM_fr (o:=o) hlt
 exact h3 _ F R' (hp _ _ (hR F h1).1 hh) (fr.mono fun k hk=>by subst hk;exact (hR F h1).1) fun k hk=>⟨.inl hk,by rw [hs];exact h2 k hk⟩
theorem _root_.Go.Eng.Sep.lookM (S:Sep E w0 w Rs) (i:Nat) (hi:Rs[i]? = some (MapF r m)) {K:RT [.one (.int .i64)]→World→Prop} (hk:K (m k,()) w):RunV Tryz.prog (Instr.lookup 183 (.map (some r)) (kV k) false) w [.one (.int .i64)] K:=by
 obtain ⟨F,⟨_,l,c,h1,h2,h3⟩,_⟩:=S.get hi
 exact ⟨(m k,()),w,by rw [run_look h1,h3];rfl,hk⟩
theorem _root_.Go.Eng.Sep.lookS (S:Sep E w0 w Rs) (i:Nat) {k':Int×Int} {s:Nat} (hi:Rs[i]? = some (MapS r m k' s)) {K:RT [.one (.int .i64)]→World→Prop} (hk:K (m k,()) w):RunV Tryz.prog (Instr.lookup 183 (.map (some r)) (kV k) false) w [.one (.int .i64)] K:=by
 obtain ⟨F,⟨_,l,c,h1,h2,h3,_⟩,_⟩:=S.get hi
 exact ⟨(m k,()),w,by rw [run_look h1,h3];rfl,hk⟩
theorem _root_.Go.Eng.Sep.entM (S:Sep E w0 w Rs) (i:Nat) (hi:Rs[i]? = some (MapF r m)) {K:RT [.one (.int .i64),.one (.int .i64)]→World→Prop}
  (hk:∀ (s:Nat) w',Sep E w0 w' (Rs.set i (MapS r m k s))→Fr (fun k=>k=r) w w'→K (m k,(s:Int),()) w'):RunV Tryz.prog (Instr.mapEntry 183 (.map (some r)) (kV k)) w [.one (.int .i64),.one (.int .i64)] K:=by
 obtain ⟨F,⟨hF,l,c,h1,h2,h3⟩,hb⟩:=S.get hi
 have hlt:=(hb r hF).2
 obtain ⟨l',c',s,hr,hM⟩:=run_ent (k:=k) h1
 obtain ⟨g1,g2,x,g3⟩:=hM h2
 refine ⟨(m k,(s:Int),()),_,by rw [hr,h3];rfl,hk s _ (S.mstep hi (P:=fun _=>True) (fun F h=>⟨h.1,trivial⟩) hlt fun w' F hF hw=>⟨hF,l',c',hw,g1,fun k'=>(g2 k').trans (h3 k'),x,g3⟩) (setM_fr hlt).1⟩
theorem _root_.Go.Eng.Sep.stoM (S:Sep E w0 w Rs) (i:Nat) {s:Nat} (hi:Rs[i]? = some (MapS r m k s)) {v:Int} {K:World→Prop} (hk:∀ w',Sep E w0 w' (Rs.set i (MapF r (updM m k v)))→Fr (fun k=>k=r) w w'→K w') :
  RunU Tryz.prog (Instr.entryStore 183 (.map (some r)) (.int .i64 (s:Int)) (.int .i64 v)) w K:=by
 obtain ⟨F,⟨hF,l,c,h1,h2,h3,x,hx,rfl,rfl⟩,hb⟩:=S.get hi
 have hlt:=(hb r hF).2
 obtain ⟨l',hr,g1,g2⟩:=run_sto (v:=v) h2 hx h1
 refine ⟨_,hr,hk _ (S.mstep hi (P:=fun _=>True) (fun F h=>⟨h.1,trivial⟩) hlt fun w' F hF hw=>⟨hF,l',c,hw,g1,fun k'=>?_⟩) (setM_fr hlt).1⟩
 rw [g2]
 unfold updM
 split
 ·rfl
 ·exact h3 k'
theorem _root_.Go.Eng.Sep.delM (S:Sep E w0 w Rs) (i:Nat) (hi:Rs[i]? = some (MapF r m)) {K:World→Prop} (hk:∀ w',Sep E w0 w' (Rs.set i (MapF r (updM m k 0)))→Fr (fun k=>k=r) w w'→K w') :
  DelV Tryz.prog [183,81] [.map (some r),kV k] w K:=by
 obtain ⟨F,⟨hF,l,c,h1,h2,h3⟩,hb⟩:=S.get hi
 have hlt:=(hb r hF).2
 obtain ⟨l',hr,hM⟩:=run_del (k:=k) h1
 obtain ⟨g1,g2⟩:=hM h2
 refine ⟨_,hr,hk _ (S.mstep hi (P:=fun _=>True) (fun F h=>⟨h.1,trivial⟩) hlt fun w' F hF hw=>⟨hF,l',c,hw,g1,fun k'=>?_⟩) (setM_fr hlt).1⟩
 rw [g2]
 unfold updM
 split
 ·rfl
 ·exact h3 k'
theorem _root_.Go.Eng.Sep.incA (f:Int→Int) (S:Sep E w0 w Rs) (i:Nat) (hi:Rs[i]? = some (MapF r m)) {KO:World→Prop} (ko:∀ w',Fr (fun k=>k=r) w w'→KO w') (hr:Rng .i64 (f (m k))) {K:World→Prop} (hk:∀ w',Sep E w0 w' (Rs.set i (MapF r (updM m k (f (m k)))))→Fr (fun k=>k=r) w w'→K w') :
  RunV Tryz.prog (Instr.lookup 183 (.map (some r)) (kV k) false) w [.one (.int .i64)] fun (r22:Int×Unit) w23=>KO w23∧Rng .i64 (f r22.1) ∧
   RunV Tryz.prog (Instr.mapEntry 183 (.map (some r)) (kV k)) w23 [.one (.int .i64),.one (.int .i64)] fun (r24:Int×Int×Unit) w25=>KO w25 ∧
    RunU Tryz.prog (Instr.entryStore 183 (.map (some r)) (.int .i64 r24.2.1) (.int .i64 (f r22.1))) w25 fun w26=>KO w26∧K w26:=
 S.lookM i hi ⟨ko _ (Fr.refl _ _),hr,S.entM i hi fun s w' S' f'=>⟨ko _ f',S'.stoM i (by rw [List.getElem?_set,if_pos rfl,if_pos (List.getElem?_eq_some_iff.1 hi).1]) fun w2 S2 f2=>⟨ko _ (f'.trans f2),hk _ (by rw [List.set_set] at S2;exact S2) (f'.trans f2)⟩⟩⟩
theorem _root_.Go.Eng.Sep.incB (f:Int→Int) (S:Sep E w0 w Rs) (i:Nat) (hi:Rs[i]? = some (MapF r m)) {KO:World→Prop} (ko:∀ w',Fr (fun k=>k=r) w w'→KO w') (hr:Rng .i64 (f (m k))) {K:World→Prop} (hk:∀ w',Sep E w0 w' (Rs.set i (MapF r (updM m k (f (m k)))))→Fr (fun k=>k=r) w w'→K w') :
  RunV Tryz.prog (Instr.mapEntry 183 (.map (some r)) (kV k)) w [.one (.int .i64),.one (.int .i64)] fun (r24:Int×Int×Unit) w25=>KO w25 ∧
   RunV Tryz.prog (Instr.lookup 183 (.map (some r)) (kV k) false) w25 [.one (.int .i64)] fun (r22:Int×Unit) w23=>KO w23∧Rng .i64 (f r22.1) ∧
    RunU Tryz.prog (Instr.entryStore 183 (.map (some r)) (.int .i64 r24.2.1) (.int .i64 (f r22.1))) w23 fun w26=>KO w26∧K w26:=
 S.entM i hi fun s w' S' f'=>by
  have hi':(Rs.set i (MapS r m k s))[i]? = some (MapS r m k s):=by rw [List.getElem?_set,if_pos rfl,if_pos (List.getElem?_eq_some_iff.1 hi).1]
  exact ⟨ko _ f',S'.lookS i hi' ⟨ko _ f',hr,S'.stoM i hi' fun w2 S2 f2=>⟨ko _ (f'.trans f2),hk _ (by rw [List.set_set] at S2;exact S2) (f'.trans f2)⟩⟩⟩
end
end Go.Proofs.YtbaojfchlhlaeaaGreat.Vc
namespace Go.Proofs.YtbaojfchlhlaeaaGreat.Vc
open Go Go.Eng
def pagemap_New.A:Ann:=.no
def pagemap_New.P  (w:World) (K:(Option Addr)×Unit→World→Prop):Prop:=
 NewM w fun b1 w2=>
 NewV #[.slice none 0 0,.slice none 0 0,.slice none 0 0,.slice none 0 0,.map (some b1)] 186 w2 fun b3 w4=>
 K ((some ⟨b3,0,none⟩),()) w4
theorem pagemap_New.vc  (w:World) (K:(Option Addr)×Unit→World→Prop) (h:pagemap_New.P  w K):CallV Tryz.prog 43 #[] w [.one .ptr] K:=by
 refine vcFun.of (A:=pagemap_New.A) (wr:=false) okf_ok follows h Tryz.func43 ?_
 kernel_rfl
def pagemap_Map_own.A:Ann:=.no
def pagemap_Map_own.P (p0:Addr) (p1:Int) (w:World) (K:SlV×Unit→World→Prop):Prop:=
 cond (decide (p1<0))
 (K ((⟨none,0,0⟩:SlV),()) w)
 (cond (decide (p1≥4))
 (K ((⟨none,0,0⟩:SlV),()) w)
 ((0≤p1∧p1<(4:Int)) ∧
 LoadS w ((p0:Addr).add (p1.toNat*1)) .sl fun (x1:SlV)=>
 K (x1,()) w))
theorem pagemap_Map_own.vc (p0:Addr) (p1:Int) (w:World) (K:SlV×Unit→World→Prop) (h:pagemap_Map_own.P p0 p1 w K):CallV Tryz.prog 92 #[.pointer (some p0),.int .i64 p1] w [.one .sl] K:=by
 refine vcFun.of (A:=pagemap_Map_own.A) (wr:=false) okf_ok follows h Tryz.func92 ?_
 kernel_rfl
def pagemap_Map_Add.A:Ann:=.two .no (.two .no (.two .no (.two .no (.two (.draw (.take 0 (.take 1 (.take 2 (.take 4 (.take 5 (.eff 3 (.take 6 (.eff 7 (.done)))))))))) .no))))
def pagemap_Map_Add.P (p0:Addr) (p1 p2:Int) (w:World) (K:Int×Unit→World→Prop):Prop:=
 cond (decide (p1<0))
 (K ((2:Int),()) w)
 (cond (decide (p1≥4))
 (K ((2:Int),()) w)
 (cond (decide (p2<1))
 (K ((2:Int),()) w)
 (cond (decide (p2>65535))
 (K ((2:Int),()) w)
 ((0≤p1∧p1<(4:Int)) ∧
 LoadS w ((p0:Addr).add (p1.toNat*1)) .sl fun (x1:SlV)=>
 cond (decide (((x1.n:Nat):Int)>0))
 (K ((11:Int),()) w)
 (LoadS w (p0.add 4) .map fun (x2:Option Nat)=>
 cond x2.isNone
 (NewM w fun b3 w4=>
 StoreV w4 (p0.add 4) [.map (some b3)] fun w5=>
 DrawV fun D6=>
 ((0:Int)≤(p2:Int)∧(p2:Int)≤(p2:Int)∧(p2:Int)≤9223372036854775807∧((120:Nat):Int)*(p2:Int)≤140737488355328) ∧
 NewV (List.replicate p2.toNat [.bool false,.int .i64 0,.int .i64 0,.int .i64 0,.int .i64 0,.int .i64 0,.int .u32 0,.int .u64 0,.int .u64 0,.int .i64 0,.int .i64 0,.int .i64 0,.int .u32 0,.int .u64 0,.int .u64 0]).flatten.toArray 178 w5.drew fun b7 w8=>
 KeepOn D6 w5.drew w8 ∧
 (0≤p1∧p1<(4:Int)) ∧
 StoreV w8 ((p0:Addr).add (p1.toNat*1)) [.slice (some ⟨b7,0,none⟩) p2.toNat p2.toNat] fun w9=>
 KeepOn D6 w5.drew w9 ∧
 K ((0:Int),()) w9)
 (DrawV fun D10=>
 ((0:Int)≤(p2:Int)∧(p2:Int)≤(p2:Int)∧(p2:Int)≤9223372036854775807∧((120:Nat):Int)*(p2:Int)≤140737488355328) ∧
 NewV (List.replicate p2.toNat [.bool false,.int .i64 0,.int .i64 0,.int .i64 0,.int .i64 0,.int .i64 0,.int .u32 0,.int .u64 0,.int .u64 0,.int .i64 0,.int .i64 0,.int .i64 0,.int .u32 0,.int .u64 0,.int .u64 0]).flatten.toArray 178 w.drew fun b11 w12=>
 KeepOn D10 w.drew w12 ∧
 (0≤p1∧p1<(4:Int)) ∧
 StoreV w12 ((p0:Addr).add (p1.toNat*1)) [.slice (some ⟨b11,0,none⟩) p2.toNat p2.toNat] fun w13=>
 KeepOn D10 w.drew w13 ∧
 K ((0:Int),()) w13))))))
theorem pagemap_Map_Add.vc (p0:Addr) (p1 p2:Int) (w:World) (K:Int×Unit→World→Prop) (h:pagemap_Map_Add.P p0 p1 p2 w K):CallV Tryz.prog 81 #[.pointer (some p0),.int .i64 p1,.int .i64 p2] w [.one (.int .i64)] K:=by
 refine vcFun.of (A:=pagemap_Map_Add.A) (wr:=false) okf_ok follows h Tryz.func81 ?_
 kernel_rfl
def pagemap_Map_lose.A:Ann:=.two .no (.two .no (.two .no (.two (.two (.draw (.take 0 (.take 1 (.take 2 (.take 3 (.take 4 (.both 5 (.take 6 (.eff 7 (.take 8 (.eff 9 (.done))))) 7 (.take 8 (.eff 5 (.take 6 (.eff 9 (.done)))))))))))) (.two (.draw (.take 0 (.take 1 (.take 2 (.take 3 (.take 4 (.eff 5 (.take 6 (.done))))))))) .no)) (.two (.draw (.take 0 (.take 1 (.take 2 (.take 3 (.take 4 (.eff 5 (.done)))))))) .no))))
def pagemap_Map_lose.P (p0:Addr) (p1_0:Bool) (p1_1 p1_2 p1_3 p1_4 p1_5 p1_6 p1_7 p1_8 p1_9 p1_10 p1_11 p1_12 p1_13 p1_14:Int) (a2:Option Addr) (n2 c2:Nat) (w:World) (K:SlV×Unit→World→Prop):Prop:=
 NewV #[.bool p1_0,.int .i64 p1_1,.int .i64 p1_2,.int .i64 p1_3,.int .i64 p1_4,.int .i64 p1_5,.int .u32 p1_6,.int .u64 p1_7,.int .u64 p1_8,.int .i64 p1_9,.int .i64 p1_10,.int .i64 p1_11,.int .u32 p1_12,.int .u64 p1_13,.int .u64 p1_14] 178 w fun b1 w2=>
 LoadS w2 ⟨b1,0,none⟩ .bool fun (x3:Bool)=>
 cond (!x3)
 (K ((⟨a2,n2,c2⟩:SlV),()) w2)
 (LoadA w2 ⟨b1,1,none⟩ [.int .i64,.int .i64] fun (x4:Int×Int×Unit)=>
 NewV #[.int .i64 0,.int .i64 0] 81 w2 fun b5 w6=>
 StoreV w6 ⟨b5,0,none⟩ [.int .i64 x4.1,.int .i64 x4.2.1] fun w7=>
 DrawV fun D8=>
 (D8 (p0.add 4).block∧LoadS w7.drew (p0.add 4) .map fun (x9:Option Nat)=>
 (D8 b5∧LoadA w7.drew ⟨b5,0,none⟩ [.int .i64,.int .i64] fun (x10:Int×Int×Unit)=>
 ((RunV Tryz.prog (Instr.lookup 183 (.map x9) (.agg #[.int .i64 x10.1,.int .i64 x10.2.1]) false) w7.drew [.one (.int .i64)] fun (r11:Int×Unit) w12=>
 KeepOn D8 w7.drew w12 ∧
 Rng .i64 (r11.1-1) ∧
 RunV Tryz.prog (Instr.mapEntry 183 (.map x9) (.agg #[.int .i64 x10.1,.int .i64 x10.2.1])) w12 [.one (.int .i64),.one (.int .i64)] fun (r13:Int×Int×Unit) w14=>
 KeepOn D8 w7.drew w14 ∧
 RunU Tryz.prog (Instr.entryStore 183 (.map x9) (.int .i64 r13.2.1) (.int .i64 (r11.1-1))) w14 fun w15=>
 KeepOn D8 w7.drew w15 ∧
 DrawV fun D16=>
 (D16 (p0.add 4).block∧LoadS w15.drew (p0.add 4) .map fun (x17:Option Nat)=>
 (D16 b5∧LoadA w15.drew ⟨b5,0,none⟩ [.int .i64,.int .i64] fun (x18:Int×Int×Unit)=>
 RunV Tryz.prog (Instr.lookup 183 (.map x17) (.agg #[.int .i64 x18.1,.int .i64 x18.2.1]) false) w15.drew [.one (.int .i64)] fun (r19:Int×Unit) w20=>
 KeepOn D16 w15.drew w20 ∧
 cond (decide (r19.1>0))
 (K ((⟨a2,n2,c2⟩:SlV),()) w20)
 (DrawV fun D21=>
 (D21 (p0.add 4).block∧LoadS w20.drew (p0.add 4) .map fun (x22:Option Nat)=>
 (D21 b5∧LoadA w20.drew ⟨b5,0,none⟩ [.int .i64,.int .i64] fun (x23:Int×Int×Unit)=>
 DelV Tryz.prog [183,81] [.map x22,.agg #[.int .i64 x23.1,.int .i64 x23.2.1]] w20.drew fun w24=>
 KeepOn D21 w20.drew w24 ∧
 LoadA w24 ⟨b5,0,none⟩ [.int .i64,.int .i64] fun (x25:Int×Int×Unit)=>
 NewV #[.int .i64 x25.1,.int .i64 x25.2.1] 81 w24 fun b26 w27=>
 AppS w27 (some ⟨b26,0,none⟩) 1 2 fun ns32=>
 AppV w27 81 2 16 a2 n2 c2 ns32 1 fun a28 n29 c30 w31=>
 K ((⟨a28,n29,c30⟩:SlV),()) w31)))))) ∧
 (RunV Tryz.prog (Instr.mapEntry 183 (.map x9) (.agg #[.int .i64 x10.1,.int .i64 x10.2.1])) w7.drew [.one (.int .i64),.one (.int .i64)] fun (r33:Int×Int×Unit) w34=>
 KeepOn D8 w7.drew w34 ∧
 RunV Tryz.prog (Instr.lookup 183 (.map x9) (.agg #[.int .i64 x10.1,.int .i64 x10.2.1]) false) w34 [.one (.int .i64)] fun (r35:Int×Unit) w36=>
 KeepOn D8 w7.drew w36 ∧
 Rng .i64 (r35.1-1) ∧
 RunU Tryz.prog (Instr.entryStore 183 (.map x9) (.int .i64 r33.2.1) (.int .i64 (r35.1-1))) w36 fun w37=>
 KeepOn D8 w7.drew w37 ∧
 DrawV fun D38=>
 (D38 (p0.add 4).block∧LoadS w37.drew (p0.add 4) .map fun (x39:Option Nat)=>
 (D38 b5∧LoadA w37.drew ⟨b5,0,none⟩ [.int .i64,.int .i64] fun (x40:Int×Int×Unit)=>
 RunV Tryz.prog (Instr.lookup 183 (.map x39) (.agg #[.int .i64 x40.1,.int .i64 x40.2.1]) false) w37.drew [.one (.int .i64)] fun (r41:Int×Unit) w42=>
 KeepOn D38 w37.drew w42 ∧
 cond (decide (r41.1>0))
 (K ((⟨a2,n2,c2⟩:SlV),()) w42)
 (DrawV fun D43=>
 (D43 (p0.add 4).block∧LoadS w42.drew (p0.add 4) .map fun (x44:Option Nat)=>
 (D43 b5∧LoadA w42.drew ⟨b5,0,none⟩ [.int .i64,.int .i64] fun (x45:Int×Int×Unit)=>
 DelV Tryz.prog [183,81] [.map x44,.agg #[.int .i64 x45.1,.int .i64 x45.2.1]] w42.drew fun w46=>
 KeepOn D43 w42.drew w46 ∧
 LoadA w46 ⟨b5,0,none⟩ [.int .i64,.int .i64] fun (x47:Int×Int×Unit)=>
 NewV #[.int .i64 x47.1,.int .i64 x47.2.1] 81 w46 fun b48 w49=>
 AppS w49 (some ⟨b48,0,none⟩) 1 2 fun ns54=>
 AppV w49 81 2 16 a2 n2 c2 ns54 1 fun a50 n51 c52 w53=>
 K ((⟨a50,n51,c52⟩:SlV),()) w53))))))))))
theorem pagemap_Map_lose.vc (p0:Addr) (p1_0:Bool) (p1_1 p1_2 p1_3 p1_4 p1_5 p1_6 p1_7 p1_8 p1_9 p1_10 p1_11 p1_12 p1_13 p1_14:Int) (a2:Option Addr) (n2 c2:Nat) (w:World) (K:SlV×Unit→World→Prop) (h:pagemap_Map_lose.P p0 p1_0 p1_1 p1_2 p1_3 p1_4 p1_5 p1_6 p1_7 p1_8 p1_9 p1_10 p1_11 p1_12 p1_13 p1_14 a2 n2 c2 w K):CallV Tryz.prog 159 #[.pointer (some p0),.agg #[.bool p1_0,.int .i64 p1_1,.int .i64 p1_2,.int .i64 p1_3,.int .i64 p1_4,.int .i64 p1_5,.int .u32 p1_6,.int .u64 p1_7,.int .u64 p1_8,.int .i64 p1_9,.int .i64 p1_10,.int .i64 p1_11,.int .u32 p1_12,.int .u64 p1_13,.int .u64 p1_14],.slice a2 n2 c2] w [.one .sl] K:=by
 refine vcFun.of (A:=pagemap_Map_lose.A) (wr:=false) okf_ok follows h Tryz.func159 ?_
 kernel_rfl
def pagemap_told.A:Ann:=.no
def pagemap_told.P (a0:Option Addr) (n0 c0:Nat) (w:World) (K:SlV×Unit→World→Prop):Prop:=
 CallV Tryz.prog 197 #[.slice a0 n0 c0,.func (.func 128) #[] #[]] w [] fun (r1:Unit) w2=>
 K ((⟨a0,n0,c0⟩:SlV),()) w2
theorem pagemap_told.vc (a0:Option Addr) (n0 c0:Nat) (w:World) (K:SlV×Unit→World→Prop) (h:pagemap_told.P a0 n0 c0 w K):CallV Tryz.prog 160 #[.slice a0 n0 c0] w [.one .sl] K:=by
 refine vcFun.of (A:=pagemap_told.A) (wr:=false) okf_ok follows h Tryz.func160 ?_
 kernel_rfl
def pagemap_Map_Size.A:Ann:=.no
def pagemap_Map_Size.P (p0:Addr) (p1:Int) (w:World) (K:Int×Unit→World→Prop):Prop:=
 CallV Tryz.prog 92 #[.pointer (some p0),.int .i64 p1] w [.one .sl] fun (r1:SlV×Unit) w2=>
 K (((r1.1.n:Nat):Int),()) w2
theorem pagemap_Map_Size.vc (p0:Addr) (p1:Int) (w:World) (K:Int×Unit→World→Prop) (h:pagemap_Map_Size.P p0 p1 w K):CallV Tryz.prog 25 #[.pointer (some p0),.int .i64 p1] w [.one (.int .i64)] K:=by
 refine vcFun.of (A:=pagemap_Map_Size.A) (wr:=false) okf_ok follows h Tryz.func25 ?_
 kernel_rfl
def pagemap_Newer.A:Ann:=.no
def pagemap_Newer.P (p0_0 p0_1 p0_2 p0_3 p0_4 p0_5 p0_6 p0_7 p0_8 p0_9 p0_10 p0_11 p0_12 p0_13 p1_0 p1_1 p1_2 p1_3 p1_4 p1_5 p1_6 p1_7 p1_8 p1_9 p1_10 p1_11 p1_12 p1_13:Int) (w:World) (K:Bool×Unit→World→Prop):Prop:=
 NewV #[.int .i64 p0_0,.int .i64 p0_1,.int .i64 p0_2,.int .i64 p0_3,.int .i64 p0_4,.int .u32 p0_5,.int .u64 p0_6,.int .u64 p0_7,.int .i64 p0_8,.int .i64 p0_9,.int .i64 p0_10,.int .u32 p0_11,.int .u64 p0_12,.int .u64 p0_13] 83 w fun b1 w2=>
 NewV #[.int .i64 p1_0,.int .i64 p1_1,.int .i64 p1_2,.int .i64 p1_3,.int .i64 p1_4,.int .u32 p1_5,.int .u64 p1_6,.int .u64 p1_7,.int .i64 p1_8,.int .i64 p1_9,.int .i64 p1_10,.int .u32 p1_11,.int .u64 p1_12,.int .u64 p1_13] 83 w2 fun b3 w4=>
 LoadA w4 ⟨b3,2,none⟩ [.int .i64,.int .i64,.int .i64,.int .u32,.int .u64,.int .u64] fun (x5:Int×Int×Int×Int×Int×Int×Unit)=>
 LoadA w4 ⟨b1,2,none⟩ [.int .i64,.int .i64,.int .i64,.int .u32,.int .u64,.int .u64] fun (x6:Int×Int×Int×Int×Int×Int×Unit)=>
 CallV Tryz.prog 195 #[.agg #[.int .i64 x5.1,.int .i64 x5.2.1,.int .i64 x5.2.2.1,.int .u32 x5.2.2.2.1,.int .u64 x5.2.2.2.2.1,.int .u64 x5.2.2.2.2.2.1],.agg #[.int .i64 x6.1,.int .i64 x6.2.1,.int .i64 x6.2.2.1,.int .u32 x6.2.2.2.1,.int .u64 x6.2.2.2.2.1,.int .u64 x6.2.2.2.2.2.1]] w4 [.one .bool] fun (r7:Bool×Unit) w8=>
 cond r7.1
 (K (true,()) w8)
 (LoadA w8 ⟨b1,2,none⟩ [.int .i64,.int .i64,.int .i64,.int .u32,.int .u64,.int .u64] fun (x9:Int×Int×Int×Int×Int×Int×Unit)=>
 LoadA w8 ⟨b3,2,none⟩ [.int .i64,.int .i64,.int .i64,.int .u32,.int .u64,.int .u64] fun (x10:Int×Int×Int×Int×Int×Int×Unit)=>
 CallV Tryz.prog 195 #[.agg #[.int .i64 x9.1,.int .i64 x9.2.1,.int .i64 x9.2.2.1,.int .u32 x9.2.2.2.1,.int .u64 x9.2.2.2.2.1,.int .u64 x9.2.2.2.2.2.1],.agg #[.int .i64 x10.1,.int .i64 x10.2.1,.int .i64 x10.2.2.1,.int .u32 x10.2.2.2.1,.int .u64 x10.2.2.2.2.1,.int .u64 x10.2.2.2.2.2.1]] w8 [.one .bool] fun (r11:Bool×Unit) w12=>
 cond r11.1
 (K (false,()) w12)
 (LoadA w12 ⟨b3,8,none⟩ [.int .i64,.int .i64,.int .i64,.int .u32,.int .u64,.int .u64] fun (x13:Int×Int×Int×Int×Int×Int×Unit)=>
 LoadA w12 ⟨b1,8,none⟩ [.int .i64,.int .i64,.int .i64,.int .u32,.int .u64,.int .u64] fun (x14:Int×Int×Int×Int×Int×Int×Unit)=>
 CallV Tryz.prog 195 #[.agg #[.int .i64 x13.1,.int .i64 x13.2.1,.int .i64 x13.2.2.1,.int .u32 x13.2.2.2.1,.int .u64 x13.2.2.2.2.1,.int .u64 x13.2.2.2.2.2.1],.agg #[.int .i64 x14.1,.int .i64 x14.2.1,.int .i64 x14.2.2.1,.int .u32 x14.2.2.2.1,.int .u64 x14.2.2.2.2.1,.int .u64 x14.2.2.2.2.2.1]] w12 [.one .bool] fun (r15:Bool×Unit) w16=>
 K (r15.1,()) w16))
theorem pagemap_Newer.vc (p0_0 p0_1 p0_2 p0_3 p0_4 p0_5 p0_6 p0_7 p0_8 p0_9 p0_10 p0_11 p0_12 p0_13 p1_0 p1_1 p1_2 p1_3 p1_4 p1_5 p1_6 p1_7 p1_8 p1_9 p1_10 p1_11 p1_12 p1_13:Int) (w:World) (K:Bool×Unit→World→Prop) (h:pagemap_Newer.P p0_0 p0_1 p0_2 p0_3 p0_4 p0_5 p0_6 p0_7 p0_8 p0_9 p0_10 p0_11 p0_12 p0_13 p1_0 p1_1 p1_2 p1_3 p1_4 p1_5 p1_6 p1_7 p1_8 p1_9 p1_10 p1_11 p1_12 p1_13 w K):CallV Tryz.prog 171 #[.agg #[.int .i64 p0_0,.int .i64 p0_1,.int .i64 p0_2,.int .i64 p0_3,.int .i64 p0_4,.int .u32 p0_5,.int .u64 p0_6,.int .u64 p0_7,.int .i64 p0_8,.int .i64 p0_9,.int .i64 p0_10,.int .u32 p0_11,.int .u64 p0_12,.int .u64 p0_13],.agg #[.int .i64 p1_0,.int .i64 p1_1,.int .i64 p1_2,.int .i64 p1_3,.int .i64 p1_4,.int .u32 p1_5,.int .u64 p1_6,.int .u64 p1_7,.int .i64 p1_8,.int .i64 p1_9,.int .i64 p1_10,.int .u32 p1_11,.int .u64 p1_12,.int .u64 p1_13]] w [.one .bool] K:=by
 refine vcFun.of (A:=pagemap_Newer.A) (wr:=false) okf_ok follows h Tryz.func171 ?_
 kernel_rfl
def pagemap_Map_speaks.A:Ann:=.two .no (.two (.draw (.take 0 (.take 1 (.take 2 (.take 3 (.take 5 (.take 6 (.both 4 (.eff 7 (.take 8 (.eff 9 (.done)))) 7 (.eff 4 (.take 8 (.eff 9 (.done)))))))))))) .no)
def pagemap_Map_speaks.P (p0:Addr) (p1_0 p1_1 p1_2 p1_3 p1_4 p1_5 p1_6 p1_7 p1_8 p1_9 p1_10 p1_11 p1_12 p1_13:Int) (w:World) (K:SlV×Unit→World→Prop):Prop:=
 NewV #[.int .i64 p1_0,.int .i64 p1_1,.int .i64 p1_2,.int .i64 p1_3,.int .i64 p1_4,.int .u32 p1_5,.int .u64 p1_6,.int .u64 p1_7,.int .i64 p1_8,.int .i64 p1_9,.int .i64 p1_10,.int .u32 p1_11,.int .u64 p1_12,.int .u64 p1_13] 83 w fun b1 w2=>
 DrawV fun D3=>
 (D3 b1∧LoadS w2.drew ⟨b1,3,none⟩ (.int .i64) fun (x4:Int)=>
 (D3 b1∧LoadA w2.drew ⟨b1,2,none⟩ [.int .i64,.int .i64,.int .i64,.int .u32,.int .u64,.int .u64] fun (x5:Int×Int×Int×Int×Int×Int×Unit)=>
 ((CallV Tryz.prog 92 #[.pointer (some p0),.int .i64 x4] w2.drew [.one .sl] fun (r6:SlV×Unit) w7=>
 KeepOn D3 w2.drew w7 ∧
 NewV #[.int .i64 0,.int .i64 0,.int .i64 0,.int .u32 0,.int .u64 0,.int .u64 0] 62 w7 fun b8 w9=>
 KeepOn D3 w2.drew w9 ∧
 StoreV w9 ⟨b8,0,none⟩ [.int .i64 x5.1,.int .i64 x5.2.1,.int .i64 x5.2.2.1,.int .u32 x5.2.2.2.1,.int .u64 x5.2.2.2.2.1,.int .u64 x5.2.2.2.2.2.1] fun w10=>
 KeepOn D3 w2.drew w10 ∧
 LoadS w10 ⟨b8,0,none⟩ (.int .i64) fun (x11:Int)=>
 cond (x11 != 1)
 (LoadS w10 ⟨b8,0,none⟩ (.int .i64) fun (x12:Int)=>
 cond (x12 != 2)
 (K ((⟨none,0,0⟩:SlV),()) w10)
 (LoadS w10 ⟨b8,2,none⟩ (.int .i64) fun (x13:Int)=>
 cond (decide (x13<1))
 (K ((⟨none,0,0⟩:SlV),()) w10)
 (LoadS w10 ⟨b8,2,none⟩ (.int .i64) fun (x14:Int)=>
 cond (decide (x14>((r6.1.n:Nat):Int)))
 (K ((⟨none,0,0⟩:SlV),()) w10)
 (LoadS w10 ⟨b8,3,none⟩ (.int .u32) fun (x15:Int)=>
 LoadS w10 ⟨b8,2,none⟩ (.int .i64) fun (x16:Int)=>
 Rng .i64 (((r6.1.n:Nat):Int)-x16) ∧
 cond (decide ((IntKind.i64.wrap x15)>(((r6.1.n:Nat):Int)-x16)))
 (K ((⟨none,0,0⟩:SlV),()) w10)
 (LoadS w10 ⟨b8,3,none⟩ (.int .u32) fun (x17:Int)=>
 LoadS w10 ⟨b8,3,none⟩ (.int .u32) fun (x18:Int)=>
 LoadS w10 ⟨b8,2,none⟩ (.int .i64) fun (x19:Int)=>
 Rng .i64 ((IntKind.i64.wrap x18)+x19) ∧
 ((0:Int)≤x17∧x17≤((IntKind.i64.wrap x18)+x19)∧((IntKind.i64.wrap x18)+x19)≤((r6.1.c:Nat):Int)) ∧
 SubK r6.1.a x17.toNat r6.1.c 15 fun a20=>
 K ((⟨a20,(((IntKind.i64.wrap x18)+x19).toNat)-x17.toNat,r6.1.c-x17.toNat⟩:SlV),()) w10)))))
 (LoadS w10 ⟨b8,2,none⟩ (.int .i64) fun (x21:Int)=>
 cond (decide (x21<1))
 (K ((⟨none,0,0⟩:SlV),()) w10)
 (LoadS w10 ⟨b8,2,none⟩ (.int .i64) fun (x22:Int)=>
 cond (decide (x22>((r6.1.n:Nat):Int)))
 (K ((⟨none,0,0⟩:SlV),()) w10)
 (LoadS w10 ⟨b8,3,none⟩ (.int .u32) fun (x23:Int)=>
 LoadS w10 ⟨b8,2,none⟩ (.int .i64) fun (x24:Int)=>
 Rng .i64 (((r6.1.n:Nat):Int)-x24) ∧
 cond (decide ((IntKind.i64.wrap x23)>(((r6.1.n:Nat):Int)-x24)))
 (K ((⟨none,0,0⟩:SlV),()) w10)
 (LoadS w10 ⟨b8,3,none⟩ (.int .u32) fun (x25:Int)=>
 LoadS w10 ⟨b8,3,none⟩ (.int .u32) fun (x26:Int)=>
 LoadS w10 ⟨b8,2,none⟩ (.int .i64) fun (x27:Int)=>
 Rng .i64 ((IntKind.i64.wrap x26)+x27) ∧
 ((0:Int)≤x25∧x25≤((IntKind.i64.wrap x26)+x27)∧((IntKind.i64.wrap x26)+x27)≤((r6.1.c:Nat):Int)) ∧
 SubK r6.1.a x25.toNat r6.1.c 15 fun a28=>
 K ((⟨a28,(((IntKind.i64.wrap x26)+x27).toNat)-x25.toNat,r6.1.c-x25.toNat⟩:SlV),()) w10))))) ∧
 (NewV #[.int .i64 0,.int .i64 0,.int .i64 0,.int .u32 0,.int .u64 0,.int .u64 0] 62 w2.drew fun b29 w30=>
 KeepOn D3 w2.drew w30 ∧
 CallV Tryz.prog 92 #[.pointer (some p0),.int .i64 x4] w30 [.one .sl] fun (r31:SlV×Unit) w32=>
 KeepOn D3 w2.drew w32 ∧
 StoreV w32 ⟨b29,0,none⟩ [.int .i64 x5.1,.int .i64 x5.2.1,.int .i64 x5.2.2.1,.int .u32 x5.2.2.2.1,.int .u64 x5.2.2.2.2.1,.int .u64 x5.2.2.2.2.2.1] fun w33=>
 KeepOn D3 w2.drew w33 ∧
 LoadS w33 ⟨b29,0,none⟩ (.int .i64) fun (x34:Int)=>
 cond (x34 != 1)
 (LoadS w33 ⟨b29,0,none⟩ (.int .i64) fun (x35:Int)=>
 cond (x35 != 2)
 (K ((⟨none,0,0⟩:SlV),()) w33)
 (LoadS w33 ⟨b29,2,none⟩ (.int .i64) fun (x36:Int)=>
 cond (decide (x36<1))
 (K ((⟨none,0,0⟩:SlV),()) w33)
 (LoadS w33 ⟨b29,2,none⟩ (.int .i64) fun (x37:Int)=>
 cond (decide (x37>((r31.1.n:Nat):Int)))
 (K ((⟨none,0,0⟩:SlV),()) w33)
 (LoadS w33 ⟨b29,3,none⟩ (.int .u32) fun (x38:Int)=>
 LoadS w33 ⟨b29,2,none⟩ (.int .i64) fun (x39:Int)=>
 Rng .i64 (((r31.1.n:Nat):Int)-x39) ∧
 cond (decide ((IntKind.i64.wrap x38)>(((r31.1.n:Nat):Int)-x39)))
 (K ((⟨none,0,0⟩:SlV),()) w33)
 (LoadS w33 ⟨b29,3,none⟩ (.int .u32) fun (x40:Int)=>
 LoadS w33 ⟨b29,3,none⟩ (.int .u32) fun (x41:Int)=>
 LoadS w33 ⟨b29,2,none⟩ (.int .i64) fun (x42:Int)=>
 Rng .i64 ((IntKind.i64.wrap x41)+x42) ∧
 ((0:Int)≤x40∧x40≤((IntKind.i64.wrap x41)+x42)∧((IntKind.i64.wrap x41)+x42)≤((r31.1.c:Nat):Int)) ∧
 SubK r31.1.a x40.toNat r31.1.c 15 fun a43=>
 K ((⟨a43,(((IntKind.i64.wrap x41)+x42).toNat)-x40.toNat,r31.1.c-x40.toNat⟩:SlV),()) w33)))))
 (LoadS w33 ⟨b29,2,none⟩ (.int .i64) fun (x44:Int)=>
 cond (decide (x44<1))
 (K ((⟨none,0,0⟩:SlV),()) w33)
 (LoadS w33 ⟨b29,2,none⟩ (.int .i64) fun (x45:Int)=>
 cond (decide (x45>((r31.1.n:Nat):Int)))
 (K ((⟨none,0,0⟩:SlV),()) w33)
 (LoadS w33 ⟨b29,3,none⟩ (.int .u32) fun (x46:Int)=>
 LoadS w33 ⟨b29,2,none⟩ (.int .i64) fun (x47:Int)=>
 Rng .i64 (((r31.1.n:Nat):Int)-x47) ∧
 cond (decide ((IntKind.i64.wrap x46)>(((r31.1.n:Nat):Int)-x47)))
 (K ((⟨none,0,0⟩:SlV),()) w33)
 (LoadS w33 ⟨b29,3,none⟩ (.int .u32) fun (x48:Int)=>
 LoadS w33 ⟨b29,3,none⟩ (.int .u32) fun (x49:Int)=>
 LoadS w33 ⟨b29,2,none⟩ (.int .i64) fun (x50:Int)=>
 Rng .i64 ((IntKind.i64.wrap x49)+x50) ∧
 ((0:Int)≤x48∧x48≤((IntKind.i64.wrap x49)+x50)∧((IntKind.i64.wrap x49)+x50)≤((r31.1.c:Nat):Int)) ∧
 SubK r31.1.a x48.toNat r31.1.c 15 fun a51=>
 K ((⟨a51,(((IntKind.i64.wrap x49)+x50).toNat)-x48.toNat,r31.1.c-x48.toNat⟩:SlV),()) w33))))))))
theorem pagemap_Map_speaks.vc (p0:Addr) (p1_0 p1_1 p1_2 p1_3 p1_4 p1_5 p1_6 p1_7 p1_8 p1_9 p1_10 p1_11 p1_12 p1_13:Int) (w:World) (K:SlV×Unit→World→Prop) (h:pagemap_Map_speaks.P p0 p1_0 p1_1 p1_2 p1_3 p1_4 p1_5 p1_6 p1_7 p1_8 p1_9 p1_10 p1_11 p1_12 p1_13 w K):CallV Tryz.prog 170 #[.pointer (some p0),.agg #[.int .i64 p1_0,.int .i64 p1_1,.int .i64 p1_2,.int .i64 p1_3,.int .i64 p1_4,.int .u32 p1_5,.int .u64 p1_6,.int .u64 p1_7,.int .i64 p1_8,.int .i64 p1_9,.int .i64 p1_10,.int .u32 p1_11,.int .u64 p1_12,.int .u64 p1_13]] w [.one .sl] K:=by
 refine vcFun.of (A:=pagemap_Map_speaks.A) (wr:=false) okf_ok follows h Tryz.func170 ?_
 kernel_rfl
def pagemap_Map_Put.A:Ann:=.two .no (.two .no (.two .no (.two .no (.two (.two .no (.one (.loop [7,8,9,18,19,20,21,22,23,24,25,26,27,28,29,30,31,32,33,34,35,36,37,38,39,40,41,42,43,44,45,46,47,48,49,50,51] [(7,.one .sl),(18,.one (.int .i64))] (.two .no (.two .no (.two (.one (.two .no (.two .no (.two (.draw (.take 0 (.take 1 (.take 2 (.take 3 (.take 4 (.take 5 (.both 6 (.take 7 (.eff 8 (.take 9 (.eff 10 (.done))))) 8 (.take 9 (.eff 6 (.take 7 (.eff 10 (.done))))))))))))) .no)))) .no)))))) .no))))
def pagemap_Map_Put.P (p0:Addr) (p1_0 p1_1 p1_2 p1_3 p1_4 p1_5 p1_6 p1_7 p1_8 p1_9 p1_10 p1_11 p1_12 p1_13:Int) (w:World) (K:SlV×Int×Unit→World→Prop):Prop:=
 NewV #[.int .i64 p1_0,.int .i64 p1_1,.int .i64 p1_2,.int .i64 p1_3,.int .i64 p1_4,.int .u32 p1_5,.int .u64 p1_6,.int .u64 p1_7,.int .i64 p1_8,.int .i64 p1_9,.int .i64 p1_10,.int .u32 p1_11,.int .u64 p1_12,.int .u64 p1_13] 83 w fun b1 w2=>
 LoadA w2 ⟨b1,0,none⟩ [.int .i64,.int .i64,.int .i64,.int .i64,.int .i64,.int .u32,.int .u64,.int .u64,.int .i64,.int .i64,.int .i64,.int .u32,.int .u64,.int .u64] fun (x3:Int×Int×Int×Int×Int×Int×Int×Int×Int×Int×Int×Int×Int×Int×Unit)=>
 CallV Tryz.prog 170 #[.pointer (some p0),.agg #[.int .i64 x3.1,.int .i64 x3.2.1,.int .i64 x3.2.2.1,.int .i64 x3.2.2.2.1,.int .i64 x3.2.2.2.2.1,.int .u32 x3.2.2.2.2.2.1,.int .u64 x3.2.2.2.2.2.2.1,.int .u64 x3.2.2.2.2.2.2.2.1,.int .i64 x3.2.2.2.2.2.2.2.2.1,.int .i64 x3.2.2.2.2.2.2.2.2.2.1,.int .i64 x3.2.2.2.2.2.2.2.2.2.2.1,.int .u32 x3.2.2.2.2.2.2.2.2.2.2.2.1,.int .u64 x3.2.2.2.2.2.2.2.2.2.2.2.2.1,.int .u64 x3.2.2.2.2.2.2.2.2.2.2.2.2.2.1]] w2 [.one .sl] fun (r4:SlV×Unit) w5=>
 cond (((r4.1.n:Nat):Int) == 0)
 (K ((⟨none,0,0⟩:SlV),(2:Int),()) w5)
 (LoopV [.one .sl,.one (.int .i64)] ((⟨none,0,0⟩:SlV),(0:Int),()) w5 fun (z6:SlV×Int×Unit) w7 (K8:SlV×Int×Unit→World→Prop)=>
 cond (decide (z6.2.1<((r4.1.n:Nat):Int)))
 ((0≤z6.2.1∧z6.2.1<((r4.1.n:Nat):Int))∧∃ q9:Addr,r4.1.a=some q9 ∧
 LoadA w7 (q9.add (z6.2.1.toNat*15)) [.bool,.int .i64,.int .i64,.int .i64,.int .i64,.int .i64,.int .u32,.int .u64,.int .u64,.int .i64,.int .i64,.int .i64,.int .u32,.int .u64,.int .u64] fun (x10:Bool×Int×Int×Int×Int×Int×Int×Int×Int×Int×Int×Int×Int×Int×Int×Unit)=>
 NewV #[.bool false,.int .i64 0,.int .i64 0,.int .i64 0,.int .i64 0,.int .i64 0,.int .u32 0,.int .u64 0,.int .u64 0,.int .i64 0,.int .i64 0,.int .i64 0,.int .u32 0,.int .u64 0,.int .u64 0] 178 w7 fun b11 w12=>
 StoreV w12 ⟨b11,0,none⟩ [.bool x10.1,.int .i64 x10.2.1,.int .i64 x10.2.2.1,.int .i64 x10.2.2.2.1,.int .i64 x10.2.2.2.2.1,.int .i64 x10.2.2.2.2.2.1,.int .u32 x10.2.2.2.2.2.2.1,.int .u64 x10.2.2.2.2.2.2.2.1,.int .u64 x10.2.2.2.2.2.2.2.2.1,.int .i64 x10.2.2.2.2.2.2.2.2.2.1,.int .i64 x10.2.2.2.2.2.2.2.2.2.2.1,.int .i64 x10.2.2.2.2.2.2.2.2.2.2.2.1,.int .u32 x10.2.2.2.2.2.2.2.2.2.2.2.2.1,.int .u64 x10.2.2.2.2.2.2.2.2.2.2.2.2.2.1,.int .u64 x10.2.2.2.2.2.2.2.2.2.2.2.2.2.2.1] fun w13=>
 LoadS w13 ⟨b11,0,none⟩ .bool fun (x14:Bool)=>
 cond x14
 (LoadA w13 ⟨b1,0,none⟩ [.int .i64,.int .i64,.int .i64,.int .i64,.int .i64,.int .u32,.int .u64,.int .u64,.int .i64,.int .i64,.int .i64,.int .u32,.int .u64,.int .u64] fun (x15:Int×Int×Int×Int×Int×Int×Int×Int×Int×Int×Int×Int×Int×Int×Unit)=>
 LoadA w13 ⟨b11,1,none⟩ [.int .i64,.int .i64,.int .i64,.int .i64,.int .i64,.int .u32,.int .u64,.int .u64,.int .i64,.int .i64,.int .i64,.int .u32,.int .u64,.int .u64] fun (x16:Int×Int×Int×Int×Int×Int×Int×Int×Int×Int×Int×Int×Int×Int×Unit)=>
 CallV Tryz.prog 171 #[.agg #[.int .i64 x15.1,.int .i64 x15.2.1,.int .i64 x15.2.2.1,.int .i64 x15.2.2.2.1,.int .i64 x15.2.2.2.2.1,.int .u32 x15.2.2.2.2.2.1,.int .u64 x15.2.2.2.2.2.2.1,.int .u64 x15.2.2.2.2.2.2.2.1,.int .i64 x15.2.2.2.2.2.2.2.2.1,.int .i64 x15.2.2.2.2.2.2.2.2.2.1,.int .i64 x15.2.2.2.2.2.2.2.2.2.2.1,.int .u32 x15.2.2.2.2.2.2.2.2.2.2.2.1,.int .u64 x15.2.2.2.2.2.2.2.2.2.2.2.2.1,.int .u64 x15.2.2.2.2.2.2.2.2.2.2.2.2.2.1],.agg #[.int .i64 x16.1,.int .i64 x16.2.1,.int .i64 x16.2.2.1,.int .i64 x16.2.2.2.1,.int .i64 x16.2.2.2.2.1,.int .u32 x16.2.2.2.2.2.1,.int .u64 x16.2.2.2.2.2.2.1,.int .u64 x16.2.2.2.2.2.2.2.1,.int .i64 x16.2.2.2.2.2.2.2.2.1,.int .i64 x16.2.2.2.2.2.2.2.2.2.1,.int .i64 x16.2.2.2.2.2.2.2.2.2.2.1,.int .u32 x16.2.2.2.2.2.2.2.2.2.2.2.1,.int .u64 x16.2.2.2.2.2.2.2.2.2.2.2.2.1,.int .u64 x16.2.2.2.2.2.2.2.2.2.2.2.2.2.1]] w13 [.one .bool] fun (r17:Bool×Unit) w18=>
 cond (!r17.1)
 (Rng .i64 (z6.2.1+1) ∧
 K8 (z6.1,z6.2.1+1,()) w18)
 (DrawV fun D19=>
 (D19 (p0.add 4).block∧LoadS w18.drew (p0.add 4) .map fun (x20:Option Nat)=>
 (D19 b1∧LoadA w18.drew ⟨b1,0,none⟩ [.int .i64,.int .i64] fun (x21:Int×Int×Unit)=>
 ((RunV Tryz.prog (Instr.lookup 183 (.map x20) (.agg #[.int .i64 x21.1,.int .i64 x21.2.1]) false) w18.drew [.one (.int .i64)] fun (r22:Int×Unit) w23=>
 KeepOn D19 w18.drew w23 ∧
 Rng .i64 (r22.1+1) ∧
 RunV Tryz.prog (Instr.mapEntry 183 (.map x20) (.agg #[.int .i64 x21.1,.int .i64 x21.2.1])) w23 [.one (.int .i64),.one (.int .i64)] fun (r24:Int×Int×Unit) w25=>
 KeepOn D19 w18.drew w25 ∧
 RunU Tryz.prog (Instr.entryStore 183 (.map x20) (.int .i64 r24.2.1) (.int .i64 (r22.1+1))) w25 fun w26=>
 KeepOn D19 w18.drew w26 ∧
 LoadA w26 ⟨b1,0,none⟩ [.int .i64,.int .i64,.int .i64,.int .i64,.int .i64,.int .u32,.int .u64,.int .u64,.int .i64,.int .i64,.int .i64,.int .u32,.int .u64,.int .u64] fun (x27:Int×Int×Int×Int×Int×Int×Int×Int×Int×Int×Int×Int×Int×Int×Unit)=>
 (0≤z6.2.1∧z6.2.1<((r4.1.n:Nat):Int))∧∃ q28:Addr,r4.1.a=some q28 ∧
 StoreV w26 (q28.add (z6.2.1.toNat*15)) [.bool true,.int .i64 x27.1,.int .i64 x27.2.1,.int .i64 x27.2.2.1,.int .i64 x27.2.2.2.1,.int .i64 x27.2.2.2.2.1,.int .u32 x27.2.2.2.2.2.1,.int .u64 x27.2.2.2.2.2.2.1,.int .u64 x27.2.2.2.2.2.2.2.1,.int .i64 x27.2.2.2.2.2.2.2.2.1,.int .i64 x27.2.2.2.2.2.2.2.2.2.1,.int .i64 x27.2.2.2.2.2.2.2.2.2.2.1,.int .u32 x27.2.2.2.2.2.2.2.2.2.2.2.1,.int .u64 x27.2.2.2.2.2.2.2.2.2.2.2.2.1,.int .u64 x27.2.2.2.2.2.2.2.2.2.2.2.2.2.1] fun w29=>
 LoadA w29 ⟨b11,0,none⟩ [.bool,.int .i64,.int .i64,.int .i64,.int .i64,.int .i64,.int .u32,.int .u64,.int .u64,.int .i64,.int .i64,.int .i64,.int .u32,.int .u64,.int .u64] fun (x30:Bool×Int×Int×Int×Int×Int×Int×Int×Int×Int×Int×Int×Int×Int×Int×Unit)=>
 CallV Tryz.prog 159 #[.pointer (some p0),.agg #[.bool x30.1,.int .i64 x30.2.1,.int .i64 x30.2.2.1,.int .i64 x30.2.2.2.1,.int .i64 x30.2.2.2.2.1,.int .i64 x30.2.2.2.2.2.1,.int .u32 x30.2.2.2.2.2.2.1,.int .u64 x30.2.2.2.2.2.2.2.1,.int .u64 x30.2.2.2.2.2.2.2.2.1,.int .i64 x30.2.2.2.2.2.2.2.2.2.1,.int .i64 x30.2.2.2.2.2.2.2.2.2.2.1,.int .i64 x30.2.2.2.2.2.2.2.2.2.2.2.1,.int .u32 x30.2.2.2.2.2.2.2.2.2.2.2.2.1,.int .u64 x30.2.2.2.2.2.2.2.2.2.2.2.2.2.1,.int .u64 x30.2.2.2.2.2.2.2.2.2.2.2.2.2.2.1],.slice z6.1.a z6.1.n z6.1.c] w29 [.one .sl] fun (r31:SlV×Unit) w32=>
 Rng .i64 (z6.2.1+1) ∧
 K8 (r31.1,z6.2.1+1,()) w32) ∧
 (RunV Tryz.prog (Instr.mapEntry 183 (.map x20) (.agg #[.int .i64 x21.1,.int .i64 x21.2.1])) w18.drew [.one (.int .i64),.one (.int .i64)] fun (r33:Int×Int×Unit) w34=>
 KeepOn D19 w18.drew w34 ∧
 RunV Tryz.prog (Instr.lookup 183 (.map x20) (.agg #[.int .i64 x21.1,.int .i64 x21.2.1]) false) w34 [.one (.int .i64)] fun (r35:Int×Unit) w36=>
 KeepOn D19 w18.drew w36 ∧
 Rng .i64 (r35.1+1) ∧
 RunU Tryz.prog (Instr.entryStore 183 (.map x20) (.int .i64 r33.2.1) (.int .i64 (r35.1+1))) w36 fun w37=>
 KeepOn D19 w18.drew w37 ∧
 LoadA w37 ⟨b1,0,none⟩ [.int .i64,.int .i64,.int .i64,.int .i64,.int .i64,.int .u32,.int .u64,.int .u64,.int .i64,.int .i64,.int .i64,.int .u32,.int .u64,.int .u64] fun (x38:Int×Int×Int×Int×Int×Int×Int×Int×Int×Int×Int×Int×Int×Int×Unit)=>
 (0≤z6.2.1∧z6.2.1<((r4.1.n:Nat):Int))∧∃ q39:Addr,r4.1.a=some q39 ∧
 StoreV w37 (q39.add (z6.2.1.toNat*15)) [.bool true,.int .i64 x38.1,.int .i64 x38.2.1,.int .i64 x38.2.2.1,.int .i64 x38.2.2.2.1,.int .i64 x38.2.2.2.2.1,.int .u32 x38.2.2.2.2.2.1,.int .u64 x38.2.2.2.2.2.2.1,.int .u64 x38.2.2.2.2.2.2.2.1,.int .i64 x38.2.2.2.2.2.2.2.2.1,.int .i64 x38.2.2.2.2.2.2.2.2.2.1,.int .i64 x38.2.2.2.2.2.2.2.2.2.2.1,.int .u32 x38.2.2.2.2.2.2.2.2.2.2.2.1,.int .u64 x38.2.2.2.2.2.2.2.2.2.2.2.2.1,.int .u64 x38.2.2.2.2.2.2.2.2.2.2.2.2.2.1] fun w40=>
 LoadA w40 ⟨b11,0,none⟩ [.bool,.int .i64,.int .i64,.int .i64,.int .i64,.int .i64,.int .u32,.int .u64,.int .u64,.int .i64,.int .i64,.int .i64,.int .u32,.int .u64,.int .u64] fun (x41:Bool×Int×Int×Int×Int×Int×Int×Int×Int×Int×Int×Int×Int×Int×Int×Unit)=>
 CallV Tryz.prog 159 #[.pointer (some p0),.agg #[.bool x41.1,.int .i64 x41.2.1,.int .i64 x41.2.2.1,.int .i64 x41.2.2.2.1,.int .i64 x41.2.2.2.2.1,.int .i64 x41.2.2.2.2.2.1,.int .u32 x41.2.2.2.2.2.2.1,.int .u64 x41.2.2.2.2.2.2.2.1,.int .u64 x41.2.2.2.2.2.2.2.2.1,.int .i64 x41.2.2.2.2.2.2.2.2.2.1,.int .i64 x41.2.2.2.2.2.2.2.2.2.2.1,.int .i64 x41.2.2.2.2.2.2.2.2.2.2.2.1,.int .u32 x41.2.2.2.2.2.2.2.2.2.2.2.2.1,.int .u64 x41.2.2.2.2.2.2.2.2.2.2.2.2.2.1,.int .u64 x41.2.2.2.2.2.2.2.2.2.2.2.2.2.2.1],.slice z6.1.a z6.1.n z6.1.c] w40 [.one .sl] fun (r42:SlV×Unit) w43=>
 Rng .i64 (z6.2.1+1) ∧
 K8 (r42.1,z6.2.1+1,()) w43))))))
 (DrawV fun D44=>
 (D44 (p0.add 4).block∧LoadS w13.drew (p0.add 4) .map fun (x45:Option Nat)=>
 (D44 b1∧LoadA w13.drew ⟨b1,0,none⟩ [.int .i64,.int .i64] fun (x46:Int×Int×Unit)=>
 ((RunV Tryz.prog (Instr.lookup 183 (.map x45) (.agg #[.int .i64 x46.1,.int .i64 x46.2.1]) false) w13.drew [.one (.int .i64)] fun (r47:Int×Unit) w48=>
 KeepOn D44 w13.drew w48 ∧
 Rng .i64 (r47.1+1) ∧
 RunV Tryz.prog (Instr.mapEntry 183 (.map x45) (.agg #[.int .i64 x46.1,.int .i64 x46.2.1])) w48 [.one (.int .i64),.one (.int .i64)] fun (r49:Int×Int×Unit) w50=>
 KeepOn D44 w13.drew w50 ∧
 RunU Tryz.prog (Instr.entryStore 183 (.map x45) (.int .i64 r49.2.1) (.int .i64 (r47.1+1))) w50 fun w51=>
 KeepOn D44 w13.drew w51 ∧
 LoadA w51 ⟨b1,0,none⟩ [.int .i64,.int .i64,.int .i64,.int .i64,.int .i64,.int .u32,.int .u64,.int .u64,.int .i64,.int .i64,.int .i64,.int .u32,.int .u64,.int .u64] fun (x52:Int×Int×Int×Int×Int×Int×Int×Int×Int×Int×Int×Int×Int×Int×Unit)=>
 (0≤z6.2.1∧z6.2.1<((r4.1.n:Nat):Int))∧∃ q53:Addr,r4.1.a=some q53 ∧
 StoreV w51 (q53.add (z6.2.1.toNat*15)) [.bool true,.int .i64 x52.1,.int .i64 x52.2.1,.int .i64 x52.2.2.1,.int .i64 x52.2.2.2.1,.int .i64 x52.2.2.2.2.1,.int .u32 x52.2.2.2.2.2.1,.int .u64 x52.2.2.2.2.2.2.1,.int .u64 x52.2.2.2.2.2.2.2.1,.int .i64 x52.2.2.2.2.2.2.2.2.1,.int .i64 x52.2.2.2.2.2.2.2.2.2.1,.int .i64 x52.2.2.2.2.2.2.2.2.2.2.1,.int .u32 x52.2.2.2.2.2.2.2.2.2.2.2.1,.int .u64 x52.2.2.2.2.2.2.2.2.2.2.2.2.1,.int .u64 x52.2.2.2.2.2.2.2.2.2.2.2.2.2.1] fun w54=>
 LoadA w54 ⟨b11,0,none⟩ [.bool,.int .i64,.int .i64,.int .i64,.int .i64,.int .i64,.int .u32,.int .u64,.int .u64,.int .i64,.int .i64,.int .i64,.int .u32,.int .u64,.int .u64] fun (x55:Bool×Int×Int×Int×Int×Int×Int×Int×Int×Int×Int×Int×Int×Int×Int×Unit)=>
 CallV Tryz.prog 159 #[.pointer (some p0),.agg #[.bool x55.1,.int .i64 x55.2.1,.int .i64 x55.2.2.1,.int .i64 x55.2.2.2.1,.int .i64 x55.2.2.2.2.1,.int .i64 x55.2.2.2.2.2.1,.int .u32 x55.2.2.2.2.2.2.1,.int .u64 x55.2.2.2.2.2.2.2.1,.int .u64 x55.2.2.2.2.2.2.2.2.1,.int .i64 x55.2.2.2.2.2.2.2.2.2.1,.int .i64 x55.2.2.2.2.2.2.2.2.2.2.1,.int .i64 x55.2.2.2.2.2.2.2.2.2.2.2.1,.int .u32 x55.2.2.2.2.2.2.2.2.2.2.2.2.1,.int .u64 x55.2.2.2.2.2.2.2.2.2.2.2.2.2.1,.int .u64 x55.2.2.2.2.2.2.2.2.2.2.2.2.2.2.1],.slice z6.1.a z6.1.n z6.1.c] w54 [.one .sl] fun (r56:SlV×Unit) w57=>
 Rng .i64 (z6.2.1+1) ∧
 K8 (r56.1,z6.2.1+1,()) w57) ∧
 (RunV Tryz.prog (Instr.mapEntry 183 (.map x45) (.agg #[.int .i64 x46.1,.int .i64 x46.2.1])) w13.drew [.one (.int .i64),.one (.int .i64)] fun (r58:Int×Int×Unit) w59=>
 KeepOn D44 w13.drew w59 ∧
 RunV Tryz.prog (Instr.lookup 183 (.map x45) (.agg #[.int .i64 x46.1,.int .i64 x46.2.1]) false) w59 [.one (.int .i64)] fun (r60:Int×Unit) w61=>
 KeepOn D44 w13.drew w61 ∧
 Rng .i64 (r60.1+1) ∧
 RunU Tryz.prog (Instr.entryStore 183 (.map x45) (.int .i64 r58.2.1) (.int .i64 (r60.1+1))) w61 fun w62=>
 KeepOn D44 w13.drew w62 ∧
 LoadA w62 ⟨b1,0,none⟩ [.int .i64,.int .i64,.int .i64,.int .i64,.int .i64,.int .u32,.int .u64,.int .u64,.int .i64,.int .i64,.int .i64,.int .u32,.int .u64,.int .u64] fun (x63:Int×Int×Int×Int×Int×Int×Int×Int×Int×Int×Int×Int×Int×Int×Unit)=>
 (0≤z6.2.1∧z6.2.1<((r4.1.n:Nat):Int))∧∃ q64:Addr,r4.1.a=some q64 ∧
 StoreV w62 (q64.add (z6.2.1.toNat*15)) [.bool true,.int .i64 x63.1,.int .i64 x63.2.1,.int .i64 x63.2.2.1,.int .i64 x63.2.2.2.1,.int .i64 x63.2.2.2.2.1,.int .u32 x63.2.2.2.2.2.1,.int .u64 x63.2.2.2.2.2.2.1,.int .u64 x63.2.2.2.2.2.2.2.1,.int .i64 x63.2.2.2.2.2.2.2.2.1,.int .i64 x63.2.2.2.2.2.2.2.2.2.1,.int .i64 x63.2.2.2.2.2.2.2.2.2.2.1,.int .u32 x63.2.2.2.2.2.2.2.2.2.2.2.1,.int .u64 x63.2.2.2.2.2.2.2.2.2.2.2.2.1,.int .u64 x63.2.2.2.2.2.2.2.2.2.2.2.2.2.1] fun w65=>
 LoadA w65 ⟨b11,0,none⟩ [.bool,.int .i64,.int .i64,.int .i64,.int .i64,.int .i64,.int .u32,.int .u64,.int .u64,.int .i64,.int .i64,.int .i64,.int .u32,.int .u64,.int .u64] fun (x66:Bool×Int×Int×Int×Int×Int×Int×Int×Int×Int×Int×Int×Int×Int×Int×Unit)=>
 CallV Tryz.prog 159 #[.pointer (some p0),.agg #[.bool x66.1,.int .i64 x66.2.1,.int .i64 x66.2.2.1,.int .i64 x66.2.2.2.1,.int .i64 x66.2.2.2.2.1,.int .i64 x66.2.2.2.2.2.1,.int .u32 x66.2.2.2.2.2.2.1,.int .u64 x66.2.2.2.2.2.2.2.1,.int .u64 x66.2.2.2.2.2.2.2.2.1,.int .i64 x66.2.2.2.2.2.2.2.2.2.1,.int .i64 x66.2.2.2.2.2.2.2.2.2.2.1,.int .i64 x66.2.2.2.2.2.2.2.2.2.2.2.1,.int .u32 x66.2.2.2.2.2.2.2.2.2.2.2.2.1,.int .u64 x66.2.2.2.2.2.2.2.2.2.2.2.2.2.1,.int .u64 x66.2.2.2.2.2.2.2.2.2.2.2.2.2.2.1],.slice z6.1.a z6.1.n z6.1.c] w65 [.one .sl] fun (r67:SlV×Unit) w68=>
 Rng .i64 (z6.2.1+1) ∧
 K8 (r67.1,z6.2.1+1,()) w68))))))
 (CallV Tryz.prog 160 #[.slice z6.1.a z6.1.n z6.1.c] w7 [.one .sl] fun (r69:SlV×Unit) w70=>
 K (r69.1,(0:Int),()) w70))
theorem pagemap_Map_Put.vc (p0:Addr) (p1_0 p1_1 p1_2 p1_3 p1_4 p1_5 p1_6 p1_7 p1_8 p1_9 p1_10 p1_11 p1_12 p1_13:Int) (w:World) (K:SlV×Int×Unit→World→Prop) (h:pagemap_Map_Put.P p0 p1_0 p1_1 p1_2 p1_3 p1_4 p1_5 p1_6 p1_7 p1_8 p1_9 p1_10 p1_11 p1_12 p1_13 w K):CallV Tryz.prog 118 #[.pointer (some p0),.agg #[.int .i64 p1_0,.int .i64 p1_1,.int .i64 p1_2,.int .i64 p1_3,.int .i64 p1_4,.int .u32 p1_5,.int .u64 p1_6,.int .u64 p1_7,.int .i64 p1_8,.int .i64 p1_9,.int .i64 p1_10,.int .u32 p1_11,.int .u64 p1_12,.int .u64 p1_13]] w [.one .sl,.one (.int .i64)] K:=by
 refine vcFun.of (A:=pagemap_Map_Put.A) (wr:=false) okf_ok follows h Tryz.func118 ?_
 kernel_rfl
def pagemap_Map_Get.A:Ann:=.no
def pagemap_Map_Get.P (p0:Addr) (p1 p2:Int) (w:World) (K:(Int×Int×Int×Int×Int×Int×Int×Int×Int×Int×Int×Int×Int×Int×Unit)×Bool×Unit→World→Prop):Prop:=
 NewV #[.int .i64 0,.int .i64 0,.int .i64 0,.int .i64 0,.int .i64 0,.int .u32 0,.int .u64 0,.int .u64 0,.int .i64 0,.int .i64 0,.int .i64 0,.int .u32 0,.int .u64 0,.int .u64 0] 83 w fun b1 w2=>
 CallV Tryz.prog 92 #[.pointer (some p0),.int .i64 p1] w2 [.one .sl] fun (r3:SlV×Unit) w4=>
 cond (decide (p2<0))
 (StoreV w4 ⟨b1,0,none⟩ [.int .i64 0,.int .i64 0,.int .i64 0,.int .i64 0,.int .i64 0,.int .u32 0,.int .u64 0,.int .u64 0,.int .i64 0,.int .i64 0,.int .i64 0,.int .u32 0,.int .u64 0,.int .u64 0] fun w5=>
 LoadA w5 ⟨b1,0,none⟩ [.int .i64,.int .i64,.int .i64,.int .i64,.int .i64,.int .u32,.int .u64,.int .u64,.int .i64,.int .i64,.int .i64,.int .u32,.int .u64,.int .u64] fun (x6:Int×Int×Int×Int×Int×Int×Int×Int×Int×Int×Int×Int×Int×Int×Unit)=>
 K ((x6.1,x6.2.1,x6.2.2.1,x6.2.2.2.1,x6.2.2.2.2.1,x6.2.2.2.2.2.1,x6.2.2.2.2.2.2.1,x6.2.2.2.2.2.2.2.1,x6.2.2.2.2.2.2.2.2.1,x6.2.2.2.2.2.2.2.2.2.1,x6.2.2.2.2.2.2.2.2.2.2.1,x6.2.2.2.2.2.2.2.2.2.2.2.1,x6.2.2.2.2.2.2.2.2.2.2.2.2.1,x6.2.2.2.2.2.2.2.2.2.2.2.2.2.1,()),false,()) w5)
 (cond (decide (p2≥((r3.1.n:Nat):Int)))
 (StoreV w4 ⟨b1,0,none⟩ [.int .i64 0,.int .i64 0,.int .i64 0,.int .i64 0,.int .i64 0,.int .u32 0,.int .u64 0,.int .u64 0,.int .i64 0,.int .i64 0,.int .i64 0,.int .u32 0,.int .u64 0,.int .u64 0] fun w7=>
 LoadA w7 ⟨b1,0,none⟩ [.int .i64,.int .i64,.int .i64,.int .i64,.int .i64,.int .u32,.int .u64,.int .u64,.int .i64,.int .i64,.int .i64,.int .u32,.int .u64,.int .u64] fun (x8:Int×Int×Int×Int×Int×Int×Int×Int×Int×Int×Int×Int×Int×Int×Unit)=>
 K ((x8.1,x8.2.1,x8.2.2.1,x8.2.2.2.1,x8.2.2.2.2.1,x8.2.2.2.2.2.1,x8.2.2.2.2.2.2.1,x8.2.2.2.2.2.2.2.1,x8.2.2.2.2.2.2.2.2.1,x8.2.2.2.2.2.2.2.2.2.1,x8.2.2.2.2.2.2.2.2.2.2.1,x8.2.2.2.2.2.2.2.2.2.2.2.1,x8.2.2.2.2.2.2.2.2.2.2.2.2.1,x8.2.2.2.2.2.2.2.2.2.2.2.2.2.1,()),false,()) w7)
 ((0≤p2∧p2<((r3.1.n:Nat):Int))∧∃ q9:Addr,r3.1.a=some q9 ∧
 LoadS w4 (q9.add (p2.toNat*15)) .bool fun (x10:Bool)=>
 cond (!x10)
 (StoreV w4 ⟨b1,0,none⟩ [.int .i64 0,.int .i64 0,.int .i64 0,.int .i64 0,.int .i64 0,.int .u32 0,.int .u64 0,.int .u64 0,.int .i64 0,.int .i64 0,.int .i64 0,.int .u32 0,.int .u64 0,.int .u64 0] fun w11=>
 LoadA w11 ⟨b1,0,none⟩ [.int .i64,.int .i64,.int .i64,.int .i64,.int .i64,.int .u32,.int .u64,.int .u64,.int .i64,.int .i64,.int .i64,.int .u32,.int .u64,.int .u64] fun (x12:Int×Int×Int×Int×Int×Int×Int×Int×Int×Int×Int×Int×Int×Int×Unit)=>
 K ((x12.1,x12.2.1,x12.2.2.1,x12.2.2.2.1,x12.2.2.2.2.1,x12.2.2.2.2.2.1,x12.2.2.2.2.2.2.1,x12.2.2.2.2.2.2.2.1,x12.2.2.2.2.2.2.2.2.1,x12.2.2.2.2.2.2.2.2.2.1,x12.2.2.2.2.2.2.2.2.2.2.1,x12.2.2.2.2.2.2.2.2.2.2.2.1,x12.2.2.2.2.2.2.2.2.2.2.2.2.1,x12.2.2.2.2.2.2.2.2.2.2.2.2.2.1,()),false,()) w11)
 ((0≤p2∧p2<((r3.1.n:Nat):Int))∧∃ q13:Addr,r3.1.a=some q13 ∧
 LoadA w4 ((q13.add (p2.toNat*15)).add 1) [.int .i64,.int .i64,.int .i64,.int .i64,.int .i64,.int .u32,.int .u64,.int .u64,.int .i64,.int .i64,.int .i64,.int .u32,.int .u64,.int .u64] fun (x14:Int×Int×Int×Int×Int×Int×Int×Int×Int×Int×Int×Int×Int×Int×Unit)=>
 StoreV w4 ⟨b1,0,none⟩ [.int .i64 x14.1,.int .i64 x14.2.1,.int .i64 x14.2.2.1,.int .i64 x14.2.2.2.1,.int .i64 x14.2.2.2.2.1,.int .u32 x14.2.2.2.2.2.1,.int .u64 x14.2.2.2.2.2.2.1,.int .u64 x14.2.2.2.2.2.2.2.1,.int .i64 x14.2.2.2.2.2.2.2.2.1,.int .i64 x14.2.2.2.2.2.2.2.2.2.1,.int .i64 x14.2.2.2.2.2.2.2.2.2.2.1,.int .u32 x14.2.2.2.2.2.2.2.2.2.2.2.1,.int .u64 x14.2.2.2.2.2.2.2.2.2.2.2.2.1,.int .u64 x14.2.2.2.2.2.2.2.2.2.2.2.2.2.1] fun w15=>
 LoadA w15 ⟨b1,0,none⟩ [.int .i64,.int .i64,.int .i64,.int .i64,.int .i64,.int .u32,.int .u64,.int .u64,.int .i64,.int .i64,.int .i64,.int .u32,.int .u64,.int .u64] fun (x16:Int×Int×Int×Int×Int×Int×Int×Int×Int×Int×Int×Int×Int×Int×Unit)=>
 K ((x16.1,x16.2.1,x16.2.2.1,x16.2.2.2.1,x16.2.2.2.2.1,x16.2.2.2.2.2.1,x16.2.2.2.2.2.2.1,x16.2.2.2.2.2.2.2.1,x16.2.2.2.2.2.2.2.2.1,x16.2.2.2.2.2.2.2.2.2.1,x16.2.2.2.2.2.2.2.2.2.2.1,x16.2.2.2.2.2.2.2.2.2.2.2.1,x16.2.2.2.2.2.2.2.2.2.2.2.2.1,x16.2.2.2.2.2.2.2.2.2.2.2.2.2.1,()),true,()) w15)))
theorem pagemap_Map_Get.vc (p0:Addr) (p1 p2:Int) (w:World) (K:(Int×Int×Int×Int×Int×Int×Int×Int×Int×Int×Int×Int×Int×Int×Unit)×Bool×Unit→World→Prop) (h:pagemap_Map_Get.P p0 p1 p2 w K):CallV Tryz.prog 39 #[.pointer (some p0),.int .i64 p1,.int .i64 p2] w [.agg [.int .i64,.int .i64,.int .i64,.int .i64,.int .i64,.int .u32,.int .u64,.int .u64,.int .i64,.int .i64,.int .i64,.int .u32,.int .u64,.int .u64],.one .bool] K:=by
 refine vcFun.of (A:=pagemap_Map_Get.A) (wr:=false) okf_ok follows h Tryz.func39 ?_
 kernel_rfl
def pagemap_Map_Refs.A:Ann:=.two .no (.two .no (.two (.draw (.take 0 (.take 1 (.take 2 (.take 3 (.take 4 (.eff 5 (.take 6 (.done))))))))) .no))
def pagemap_Map_Refs.P (p0:Addr) (p1_0 p1_1:Int) (w:World) (K:Int×Unit→World→Prop):Prop:=
 NewV #[.int .i64 p1_0,.int .i64 p1_1] 81 w fun b1 w2=>
 DrawV fun D3=>
 (D3 (p0.add 4).block∧LoadS w2.drew (p0.add 4) .map fun (x4:Option Nat)=>
 (D3 b1∧LoadA w2.drew ⟨b1,0,none⟩ [.int .i64,.int .i64] fun (x5:Int×Int×Unit)=>
 RunV Tryz.prog (Instr.lookup 183 (.map x4) (.agg #[.int .i64 x5.1,.int .i64 x5.2.1]) false) w2.drew [.one (.int .i64)] fun (r6:Int×Unit) w7=>
 KeepOn D3 w2.drew w7 ∧
 K (r6.1,()) w7))
theorem pagemap_Map_Refs.vc (p0:Addr) (p1_0 p1_1:Int) (w:World) (K:Int×Unit→World→Prop) (h:pagemap_Map_Refs.P p0 p1_0 p1_1 w K):CallV Tryz.prog 120 #[.pointer (some p0),.agg #[.int .i64 p1_0,.int .i64 p1_1]] w [.one (.int .i64)] K:=by
 refine vcFun.of (A:=pagemap_Map_Refs.A) (wr:=false) okf_ok follows h Tryz.func120 ?_
 kernel_rfl
def pagemap_Map_Move.A:Ann:=.two .no (.two (.two (.draw (.take 0 (.take 1 (.take 2 (.take 3 (.take 4 (.take 5 (.take 6 (.take 7 (.take 8 (.take 9 (.take 10 (.take 11 (.eff 12 (.take 13 (.take 14 (.take 15 (.done)))))))))))))))))) .no) (.two (.draw (.take 0 (.take 1 (.take 2 (.take 3 (.take 4 (.eff 5 (.take 6 (.done))))))))) (.two (.two .no (.one (.loop [11,12,13,40,41,42,43,44,45,46,47,48,49,50,51,52,53,54,55,56,57,58,59,60,61,62,63,64,65,66,67,68,69,70,71,72] [(40,.one (.int .i64))] (.two .no (.two .no (.two (.one (.two .no (.two .no (.one (.loop [12,13,45,46,47,48,49,50,51,52,53,54,55,56,57,58,59,60,61,62,63,64,65,66,67,68,69,70,71] [(45,.one (.int .i64))] (.two .no (.two .no (.two (.one (.two .no (.two .no (.two (.draw (.take 0 (.take 1 (.take 2 (.take 3 (.take 4 (.take 5 (.take 6 (.take 7 (.take 8 (.eff 9 (.take 10 (.take 11 (.take 12 (.eff 13 (.done)))))))))))))))) .no)))) .no)))))))) .no)))))) (.two (.two .no (.two (.two (.draw (.take 0 (.take 1 (.take 2 (.take 3 (.take 4 (.take 5 (.eff 6 (.done))))))))) (.draw (.take 0 (.take 1 (.take 2 (.take 3 (.take 4 (.eff 5 (.done))))))))) .no)) .no))))
def pagemap_Map_Move.P (p0:Addr) (p1_0 p1_1 p2_0 p2_1 p3_0 p3_1 p3_2 p3_3 p3_4 p3_5:Int) (w:World) (K:Int×Unit→World→Prop):Prop:=
 NewV #[.int .i64 p1_0,.int .i64 p1_1] 81 w fun b1 w2=>
 NewV #[.int .i64 p2_0,.int .i64 p2_1] 81 w2 fun b3 w4=>
 NewV #[.int .i64 p3_0,.int .i64 p3_1,.int .i64 p3_2,.int .u32 p3_3,.int .u64 p3_4,.int .u64 p3_5] 62 w4 fun b5 w6=>
 DrawV fun D7=>
 (D7 b1∧LoadA w6.drew ⟨b1,0,none⟩ [.int .i64,.int .i64] fun (x8:Int×Int×Unit)=>
 (D7 b3∧LoadA w6.drew ⟨b3,0,none⟩ [.int .i64,.int .i64] fun (x9:Int×Int×Unit)=>
 AggEq Tryz.prog 81 #[.int .i64 x8.1,.int .i64 x8.2.1] #[.int .i64 x9.1,.int .i64 x9.2.1] fun e10=>
 cond (!e10)
 ((D7 (p0.add 4).block∧LoadS w6.drew (p0.add 4) .map fun (x11:Option Nat)=>
 (D7 b3∧LoadA w6.drew ⟨b3,0,none⟩ [.int .i64,.int .i64] fun (x12:Int×Int×Unit)=>
 RunV Tryz.prog (Instr.lookup 183 (.map x11) (.agg #[.int .i64 x12.1,.int .i64 x12.2.1]) false) w6.drew [.one (.int .i64)] fun (r13:Int×Unit) w14=>
 KeepOn D7 w6.drew w14 ∧
 cond (decide (r13.1>0))
 (K ((2:Int),()) w14)
 (DrawV fun D15=>
 (D15 (p0.add 4).block∧LoadS w14.drew (p0.add 4) .map fun (x16:Option Nat)=>
 (D15 b1∧LoadA w14.drew ⟨b1,0,none⟩ [.int .i64,.int .i64] fun (x17:Int×Int×Unit)=>
 RunV Tryz.prog (Instr.lookup 183 (.map x16) (.agg #[.int .i64 x17.1,.int .i64 x17.2.1]) false) w14.drew [.one (.int .i64)] fun (r18:Int×Unit) w19=>
 KeepOn D15 w14.drew w19 ∧
 LoadA w19 p0 [.sl,.sl,.sl,.sl] fun (x20:SlV×SlV×SlV×SlV×Unit)=>
 LoopV [.one (.int .i64)] ((0:Int),()) w19 fun (z21:Int×Unit) w22 (K23:Int×Unit→World→Prop)=>
 cond (decide (z21.1<4))
 ((0≤z21.1∧z21.1<(4:Int))∧∃ y24:SlV,([.slice x20.1.a x20.1.n x20.1.c,.slice x20.2.1.a x20.2.1.n x20.2.1.c,.slice x20.2.2.1.a x20.2.2.1.n x20.2.2.1.c,.slice x20.2.2.2.1.a x20.2.2.2.1.n x20.2.2.2.1.c]:List Value)[z21.1.toNat*1]? = some (.slice y24.a y24.n y24.c) ∧
 LoopV [.one (.int .i64)] ((0:Int),()) w22 fun (z25:Int×Unit) w26 (K27:Int×Unit→World→Prop)=>
 cond (decide (z25.1<((y24.n:Nat):Int)))
 ((0≤z25.1∧z25.1<((y24.n:Nat):Int))∧∃ q28:Addr,y24.a=some q28 ∧
 LoadA w26 (q28.add (z25.1.toNat*15)) [.bool,.int .i64,.int .i64,.int .i64,.int .i64,.int .i64,.int .u32,.int .u64,.int .u64,.int .i64,.int .i64,.int .i64,.int .u32,.int .u64,.int .u64] fun (x29:Bool×Int×Int×Int×Int×Int×Int×Int×Int×Int×Int×Int×Int×Int×Int×Unit)=>
 NewV #[.bool false,.int .i64 0,.int .i64 0,.int .i64 0,.int .i64 0,.int .i64 0,.int .u32 0,.int .u64 0,.int .u64 0,.int .i64 0,.int .i64 0,.int .i64 0,.int .u32 0,.int .u64 0,.int .u64 0] 178 w26 fun b30 w31=>
 StoreV w31 ⟨b30,0,none⟩ [.bool x29.1,.int .i64 x29.2.1,.int .i64 x29.2.2.1,.int .i64 x29.2.2.2.1,.int .i64 x29.2.2.2.2.1,.int .i64 x29.2.2.2.2.2.1,.int .u32 x29.2.2.2.2.2.2.1,.int .u64 x29.2.2.2.2.2.2.2.1,.int .u64 x29.2.2.2.2.2.2.2.2.1,.int .i64 x29.2.2.2.2.2.2.2.2.2.1,.int .i64 x29.2.2.2.2.2.2.2.2.2.2.1,.int .i64 x29.2.2.2.2.2.2.2.2.2.2.2.1,.int .u32 x29.2.2.2.2.2.2.2.2.2.2.2.2.1,.int .u64 x29.2.2.2.2.2.2.2.2.2.2.2.2.2.1,.int .u64 x29.2.2.2.2.2.2.2.2.2.2.2.2.2.2.1] fun w32=>
 LoadS w32 ⟨b30,0,none⟩ .bool fun (x33:Bool)=>
 cond x33
 (LoadA w32 ⟨b30,1,none⟩ [.int .i64,.int .i64] fun (x34:Int×Int×Unit)=>
 LoadA w32 ⟨b1,0,none⟩ [.int .i64,.int .i64] fun (x35:Int×Int×Unit)=>
 AggEq Tryz.prog 81 #[.int .i64 x34.1,.int .i64 x34.2.1] #[.int .i64 x35.1,.int .i64 x35.2.1] fun e36=>
 cond e36
 (DrawV fun D37=>
 (D37 b3∧LoadA w32.drew ⟨b3,0,none⟩ [.int .i64,.int .i64] fun (x38:Int×Int×Unit)=>
 (D37 b5∧LoadA w32.drew ⟨b5,0,none⟩ [.int .i64,.int .i64,.int .i64,.int .u32,.int .u64,.int .u64] fun (x39:Int×Int×Int×Int×Int×Int×Unit)=>
 (0≤z25.1∧z25.1<((y24.n:Nat):Int))∧∃ q40:Addr,y24.a=some q40 ∧
 StoreV w32.drew ((q40.add (z25.1.toNat*15)).add 1) [.int .i64 x38.1,.int .i64 x38.2.1] fun w41=>
 KeepOn D37 w32.drew w41 ∧
 (0≤z25.1∧z25.1<((y24.n:Nat):Int))∧∃ q42:Addr,y24.a=some q42 ∧
 StoreV w41 (((q42.add (z25.1.toNat*15)).add 1).add 8) [.int .i64 x39.1,.int .i64 x39.2.1,.int .i64 x39.2.2.1,.int .u32 x39.2.2.2.1,.int .u64 x39.2.2.2.2.1,.int .u64 x39.2.2.2.2.2.1] fun w43=>
 KeepOn D37 w32.drew w43 ∧
 Rng .i64 (z25.1+1) ∧
 K27 (z25.1+1,()) w43)))
 (Rng .i64 (z25.1+1) ∧
 K27 (z25.1+1,()) w32))
 (Rng .i64 (z25.1+1) ∧
 K27 (z25.1+1,()) w32))
 (Rng .i64 (z21.1+1) ∧
 K23 (z21.1+1,()) w26))
 (cond (decide (r18.1>0))
 (LoadA w22 ⟨b1,0,none⟩ [.int .i64,.int .i64] fun (x44:Int×Int×Unit)=>
 LoadA w22 ⟨b3,0,none⟩ [.int .i64,.int .i64] fun (x45:Int×Int×Unit)=>
 AggEq Tryz.prog 81 #[.int .i64 x44.1,.int .i64 x44.2.1] #[.int .i64 x45.1,.int .i64 x45.2.1] fun e46=>
 cond (!e46)
 (DrawV fun D47=>
 (D47 (p0.add 4).block∧LoadS w22.drew (p0.add 4) .map fun (x48:Option Nat)=>
 (D47 b3∧LoadA w22.drew ⟨b3,0,none⟩ [.int .i64,.int .i64] fun (x49:Int×Int×Unit)=>
 RunU Tryz.prog (Instr.mapUpdate 183 (.map x48) (.agg #[.int .i64 x49.1,.int .i64 x49.2.1]) (.int .i64 r18.1)) w22.drew fun w50=>
 KeepOn D47 w22.drew w50 ∧
 DrawV fun D51=>
 (D51 (p0.add 4).block∧LoadS w50.drew (p0.add 4) .map fun (x52:Option Nat)=>
 (D51 b1∧LoadA w50.drew ⟨b1,0,none⟩ [.int .i64,.int .i64] fun (x53:Int×Int×Unit)=>
 DelV Tryz.prog [183,81] [.map x52,.agg #[.int .i64 x53.1,.int .i64 x53.2.1]] w50.drew fun w54=>
 KeepOn D51 w50.drew w54 ∧
 K ((0:Int),()) w54)))))
 (K ((0:Int),()) w22))
 (K ((0:Int),()) w22))))))))
 (DrawV fun D55=>
 (D55 (p0.add 4).block∧LoadS w6.drew.drew (p0.add 4) .map fun (x56:Option Nat)=>
 (D55 b1∧LoadA w6.drew.drew ⟨b1,0,none⟩ [.int .i64,.int .i64] fun (x57:Int×Int×Unit)=>
 RunV Tryz.prog (Instr.lookup 183 (.map x56) (.agg #[.int .i64 x57.1,.int .i64 x57.2.1]) false) w6.drew.drew [.one (.int .i64)] fun (r58:Int×Unit) w59=>
 KeepOn D55 w6.drew.drew w59 ∧
 LoadA w59 p0 [.sl,.sl,.sl,.sl] fun (x60:SlV×SlV×SlV×SlV×Unit)=>
 LoopV [.one (.int .i64)] ((0:Int),()) w59 fun (z61:Int×Unit) w62 (K63:Int×Unit→World→Prop)=>
 cond (decide (z61.1<4))
 ((0≤z61.1∧z61.1<(4:Int))∧∃ y64:SlV,([.slice x60.1.a x60.1.n x60.1.c,.slice x60.2.1.a x60.2.1.n x60.2.1.c,.slice x60.2.2.1.a x60.2.2.1.n x60.2.2.1.c,.slice x60.2.2.2.1.a x60.2.2.2.1.n x60.2.2.2.1.c]:List Value)[z61.1.toNat*1]? = some (.slice y64.a y64.n y64.c) ∧
 LoopV [.one (.int .i64)] ((0:Int),()) w62 fun (z65:Int×Unit) w66 (K67:Int×Unit→World→Prop)=>
 cond (decide (z65.1<((y64.n:Nat):Int)))
 ((0≤z65.1∧z65.1<((y64.n:Nat):Int))∧∃ q68:Addr,y64.a=some q68 ∧
 LoadA w66 (q68.add (z65.1.toNat*15)) [.bool,.int .i64,.int .i64,.int .i64,.int .i64,.int .i64,.int .u32,.int .u64,.int .u64,.int .i64,.int .i64,.int .i64,.int .u32,.int .u64,.int .u64] fun (x69:Bool×Int×Int×Int×Int×Int×Int×Int×Int×Int×Int×Int×Int×Int×Int×Unit)=>
 NewV #[.bool false,.int .i64 0,.int .i64 0,.int .i64 0,.int .i64 0,.int .i64 0,.int .u32 0,.int .u64 0,.int .u64 0,.int .i64 0,.int .i64 0,.int .i64 0,.int .u32 0,.int .u64 0,.int .u64 0] 178 w66 fun b70 w71=>
 StoreV w71 ⟨b70,0,none⟩ [.bool x69.1,.int .i64 x69.2.1,.int .i64 x69.2.2.1,.int .i64 x69.2.2.2.1,.int .i64 x69.2.2.2.2.1,.int .i64 x69.2.2.2.2.2.1,.int .u32 x69.2.2.2.2.2.2.1,.int .u64 x69.2.2.2.2.2.2.2.1,.int .u64 x69.2.2.2.2.2.2.2.2.1,.int .i64 x69.2.2.2.2.2.2.2.2.2.1,.int .i64 x69.2.2.2.2.2.2.2.2.2.2.1,.int .i64 x69.2.2.2.2.2.2.2.2.2.2.2.1,.int .u32 x69.2.2.2.2.2.2.2.2.2.2.2.2.1,.int .u64 x69.2.2.2.2.2.2.2.2.2.2.2.2.2.1,.int .u64 x69.2.2.2.2.2.2.2.2.2.2.2.2.2.2.1] fun w72=>
 LoadS w72 ⟨b70,0,none⟩ .bool fun (x73:Bool)=>
 cond x73
 (LoadA w72 ⟨b70,1,none⟩ [.int .i64,.int .i64] fun (x74:Int×Int×Unit)=>
 LoadA w72 ⟨b1,0,none⟩ [.int .i64,.int .i64] fun (x75:Int×Int×Unit)=>
 AggEq Tryz.prog 81 #[.int .i64 x74.1,.int .i64 x74.2.1] #[.int .i64 x75.1,.int .i64 x75.2.1] fun e76=>
 cond e76
 (DrawV fun D77=>
 (D77 b3∧LoadA w72.drew ⟨b3,0,none⟩ [.int .i64,.int .i64] fun (x78:Int×Int×Unit)=>
 (D77 b5∧LoadA w72.drew ⟨b5,0,none⟩ [.int .i64,.int .i64,.int .i64,.int .u32,.int .u64,.int .u64] fun (x79:Int×Int×Int×Int×Int×Int×Unit)=>
 (0≤z65.1∧z65.1<((y64.n:Nat):Int))∧∃ q80:Addr,y64.a=some q80 ∧
 StoreV w72.drew ((q80.add (z65.1.toNat*15)).add 1) [.int .i64 x78.1,.int .i64 x78.2.1] fun w81=>
 KeepOn D77 w72.drew w81 ∧
 (0≤z65.1∧z65.1<((y64.n:Nat):Int))∧∃ q82:Addr,y64.a=some q82 ∧
 StoreV w81 (((q82.add (z65.1.toNat*15)).add 1).add 8) [.int .i64 x79.1,.int .i64 x79.2.1,.int .i64 x79.2.2.1,.int .u32 x79.2.2.2.1,.int .u64 x79.2.2.2.2.1,.int .u64 x79.2.2.2.2.2.1] fun w83=>
 KeepOn D77 w72.drew w83 ∧
 Rng .i64 (z65.1+1) ∧
 K67 (z65.1+1,()) w83)))
 (Rng .i64 (z65.1+1) ∧
 K67 (z65.1+1,()) w72))
 (Rng .i64 (z65.1+1) ∧
 K67 (z65.1+1,()) w72))
 (Rng .i64 (z61.1+1) ∧
 K63 (z61.1+1,()) w66))
 (cond (decide (r58.1>0))
 (LoadA w62 ⟨b1,0,none⟩ [.int .i64,.int .i64] fun (x84:Int×Int×Unit)=>
 LoadA w62 ⟨b3,0,none⟩ [.int .i64,.int .i64] fun (x85:Int×Int×Unit)=>
 AggEq Tryz.prog 81 #[.int .i64 x84.1,.int .i64 x84.2.1] #[.int .i64 x85.1,.int .i64 x85.2.1] fun e86=>
 cond (!e86)
 (DrawV fun D87=>
 (D87 (p0.add 4).block∧LoadS w62.drew (p0.add 4) .map fun (x88:Option Nat)=>
 (D87 b3∧LoadA w62.drew ⟨b3,0,none⟩ [.int .i64,.int .i64] fun (x89:Int×Int×Unit)=>
 RunU Tryz.prog (Instr.mapUpdate 183 (.map x88) (.agg #[.int .i64 x89.1,.int .i64 x89.2.1]) (.int .i64 r58.1)) w62.drew fun w90=>
 KeepOn D87 w62.drew w90 ∧
 DrawV fun D91=>
 (D91 (p0.add 4).block∧LoadS w90.drew (p0.add 4) .map fun (x92:Option Nat)=>
 (D91 b1∧LoadA w90.drew ⟨b1,0,none⟩ [.int .i64,.int .i64] fun (x93:Int×Int×Unit)=>
 DelV Tryz.prog [183,81] [.map x92,.agg #[.int .i64 x93.1,.int .i64 x93.2.1]] w90.drew fun w94=>
 KeepOn D91 w90.drew w94 ∧
 K ((0:Int),()) w94)))))
 (K ((0:Int),()) w62))
 (K ((0:Int),()) w62)))))))
theorem pagemap_Map_Move.vc (p0:Addr) (p1_0 p1_1 p2_0 p2_1 p3_0 p3_1 p3_2 p3_3 p3_4 p3_5:Int) (w:World) (K:Int×Unit→World→Prop) (h:pagemap_Map_Move.P p0 p1_0 p1_1 p2_0 p2_1 p3_0 p3_1 p3_2 p3_3 p3_4 p3_5 w K):CallV Tryz.prog 211 #[.pointer (some p0),.agg #[.int .i64 p1_0,.int .i64 p1_1],.agg #[.int .i64 p2_0,.int .i64 p2_1],.agg #[.int .i64 p3_0,.int .i64 p3_1,.int .i64 p3_2,.int .u32 p3_3,.int .u64 p3_4,.int .u64 p3_5]] w [.one (.int .i64)] K:=by
 refine vcFun.of (A:=pagemap_Map_Move.A) (wr:=false) okf_ok follows h Tryz.func211 ?_
 kernel_rfl
def pagemap_Map_In.A:Ann:=.two .no (.two .no (.two .no (.two (.two .no (.one (.loop [5,7,9,11,12,13,14,15,16,17,18,19,20,21,22,23,24,25,26,27,28,29,30,31,32,33,34,35,36,37,38,39,40,41,42,43,44,45,46,47,48,49,50,51,52,53,54] [(5,.one .sl),(11,.one (.int .i64))] (.two .no (.two .no (.two (.one (.two .no (.two .no (.one (.loop [5,9,18,19,20,21,22,23,24,25,26,27,28,29,30,31,32,33,34,35,36,37,38,39,40,41,42,43,44,45,46,47,48,49,50,51,52,53] [(5,.one .sl),(18,.one (.int .i64))] (.two .no (.two .no (.two (.one (.two .no (.two .no (.two (.two (.draw (.take 0 (.take 1 (.take 2 (.take 3 (.both 4 (.take 5 (.eff 6 (.take 7 (.eff 8 (.done))))) 6 (.take 7 (.eff 4 (.take 5 (.eff 8 (.done))))))))))) .no) .no)))) .no)))))))) .no)))))) .no)))
def pagemap_Map_In.P (p0:Addr) (p1:Int) (w:World) (K:SlV×Unit→World→Prop):Prop:=
 NewM w fun b1 w2=>
 LoopV [.one .sl,.one (.int .i64)] ((⟨none,0,0⟩:SlV),(0:Int),()) w2 fun (z3:SlV×Int×Unit) w4 (K5:SlV×Int×Unit→World→Prop)=>
 cond (decide (z3.2.1<4))
 (CallV Tryz.prog 92 #[.pointer (some p0),.int .i64 z3.2.1] w4 [.one .sl] fun (r6:SlV×Unit) w7=>
 LoopV [.one .sl,.one (.int .i64)] (z3.1,(0:Int),()) w7 fun (z8:SlV×Int×Unit) w9 (K10:SlV×Int×Unit→World→Prop)=>
 cond (decide (z8.2.1<((r6.1.n:Nat):Int)))
 ((0≤z8.2.1∧z8.2.1<((r6.1.n:Nat):Int))∧∃ q11:Addr,r6.1.a=some q11 ∧
 LoadA w9 (q11.add (z8.2.1.toNat*15)) [.bool,.int .i64,.int .i64,.int .i64,.int .i64,.int .i64,.int .u32,.int .u64,.int .u64,.int .i64,.int .i64,.int .i64,.int .u32,.int .u64,.int .u64] fun (x12:Bool×Int×Int×Int×Int×Int×Int×Int×Int×Int×Int×Int×Int×Int×Int×Unit)=>
 NewV #[.bool false,.int .i64 0,.int .i64 0,.int .i64 0,.int .i64 0,.int .i64 0,.int .u32 0,.int .u64 0,.int .u64 0,.int .i64 0,.int .i64 0,.int .i64 0,.int .u32 0,.int .u64 0,.int .u64 0] 178 w9 fun b13 w14=>
 StoreV w14 ⟨b13,0,none⟩ [.bool x12.1,.int .i64 x12.2.1,.int .i64 x12.2.2.1,.int .i64 x12.2.2.2.1,.int .i64 x12.2.2.2.2.1,.int .i64 x12.2.2.2.2.2.1,.int .u32 x12.2.2.2.2.2.2.1,.int .u64 x12.2.2.2.2.2.2.2.1,.int .u64 x12.2.2.2.2.2.2.2.2.1,.int .i64 x12.2.2.2.2.2.2.2.2.2.1,.int .i64 x12.2.2.2.2.2.2.2.2.2.2.1,.int .i64 x12.2.2.2.2.2.2.2.2.2.2.2.1,.int .u32 x12.2.2.2.2.2.2.2.2.2.2.2.2.1,.int .u64 x12.2.2.2.2.2.2.2.2.2.2.2.2.2.1,.int .u64 x12.2.2.2.2.2.2.2.2.2.2.2.2.2.2.1] fun w15=>
 LoadS w15 ⟨b13,0,none⟩ .bool fun (x16:Bool)=>
 cond x16
 (LoadS w15 ⟨b13,1,none⟩ (.int .i64) fun (x17:Int)=>
 cond (x17 == p1)
 (LoadA w15 ⟨b13,1,none⟩ [.int .i64,.int .i64] fun (x18:Int×Int×Unit)=>
 RunV Tryz.prog (Instr.lookup 183 (.map (some b1)) (.agg #[.int .i64 x18.1,.int .i64 x18.2.1]) false) w15 [.one (.int .i64)] fun (r19:Int×Unit) w20=>
 cond (r19.1 == 0)
 (DrawV fun D21=>
 (D21 b13∧LoadA w20.drew ⟨b13,1,none⟩ [.int .i64,.int .i64] fun (x22:Int×Int×Unit)=>
 ((RunV Tryz.prog (Instr.lookup 183 (.map (some b1)) (.agg #[.int .i64 x22.1,.int .i64 x22.2.1]) false) w20.drew [.one (.int .i64)] fun (r23:Int×Unit) w24=>
 KeepOn D21 w20.drew w24 ∧
 Rng .i64 (r23.1+1) ∧
 RunV Tryz.prog (Instr.mapEntry 183 (.map (some b1)) (.agg #[.int .i64 x22.1,.int .i64 x22.2.1])) w24 [.one (.int .i64),.one (.int .i64)] fun (r25:Int×Int×Unit) w26=>
 KeepOn D21 w20.drew w26 ∧
 RunU Tryz.prog (Instr.entryStore 183 (.map (some b1)) (.int .i64 r25.2.1) (.int .i64 (r23.1+1))) w26 fun w27=>
 KeepOn D21 w20.drew w27 ∧
 LoadA w27 ⟨b13,1,none⟩ [.int .i64,.int .i64,.int .i64,.int .i64,.int .i64,.int .u32,.int .u64,.int .u64,.int .i64,.int .i64,.int .i64,.int .u32,.int .u64,.int .u64] fun (x28:Int×Int×Int×Int×Int×Int×Int×Int×Int×Int×Int×Int×Int×Int×Unit)=>
 NewV #[.int .i64 x28.1,.int .i64 x28.2.1,.int .i64 x28.2.2.1,.int .i64 x28.2.2.2.1,.int .i64 x28.2.2.2.2.1,.int .u32 x28.2.2.2.2.2.1,.int .u64 x28.2.2.2.2.2.2.1,.int .u64 x28.2.2.2.2.2.2.2.1,.int .i64 x28.2.2.2.2.2.2.2.2.1,.int .i64 x28.2.2.2.2.2.2.2.2.2.1,.int .i64 x28.2.2.2.2.2.2.2.2.2.2.1,.int .u32 x28.2.2.2.2.2.2.2.2.2.2.2.1,.int .u64 x28.2.2.2.2.2.2.2.2.2.2.2.2.1,.int .u64 x28.2.2.2.2.2.2.2.2.2.2.2.2.2.1] 83 w27 fun b29 w30=>
 AppS w30 (some ⟨b29,0,none⟩) 1 14 fun ns35=>
 AppV w30 83 14 112 z8.1.a z8.1.n z8.1.c ns35 1 fun a31 n32 c33 w34=>
 Rng .i64 (z8.2.1+1) ∧
 K10 ((⟨a31,n32,c33⟩:SlV),z8.2.1+1,()) w34) ∧
 (RunV Tryz.prog (Instr.mapEntry 183 (.map (some b1)) (.agg #[.int .i64 x22.1,.int .i64 x22.2.1])) w20.drew [.one (.int .i64),.one (.int .i64)] fun (r36:Int×Int×Unit) w37=>
 KeepOn D21 w20.drew w37 ∧
 RunV Tryz.prog (Instr.lookup 183 (.map (some b1)) (.agg #[.int .i64 x22.1,.int .i64 x22.2.1]) false) w37 [.one (.int .i64)] fun (r38:Int×Unit) w39=>
 KeepOn D21 w20.drew w39 ∧
 Rng .i64 (r38.1+1) ∧
 RunU Tryz.prog (Instr.entryStore 183 (.map (some b1)) (.int .i64 r36.2.1) (.int .i64 (r38.1+1))) w39 fun w40=>
 KeepOn D21 w20.drew w40 ∧
 LoadA w40 ⟨b13,1,none⟩ [.int .i64,.int .i64,.int .i64,.int .i64,.int .i64,.int .u32,.int .u64,.int .u64,.int .i64,.int .i64,.int .i64,.int .u32,.int .u64,.int .u64] fun (x41:Int×Int×Int×Int×Int×Int×Int×Int×Int×Int×Int×Int×Int×Int×Unit)=>
 NewV #[.int .i64 x41.1,.int .i64 x41.2.1,.int .i64 x41.2.2.1,.int .i64 x41.2.2.2.1,.int .i64 x41.2.2.2.2.1,.int .u32 x41.2.2.2.2.2.1,.int .u64 x41.2.2.2.2.2.2.1,.int .u64 x41.2.2.2.2.2.2.2.1,.int .i64 x41.2.2.2.2.2.2.2.2.1,.int .i64 x41.2.2.2.2.2.2.2.2.2.1,.int .i64 x41.2.2.2.2.2.2.2.2.2.2.1,.int .u32 x41.2.2.2.2.2.2.2.2.2.2.2.1,.int .u64 x41.2.2.2.2.2.2.2.2.2.2.2.2.1,.int .u64 x41.2.2.2.2.2.2.2.2.2.2.2.2.2.1] 83 w40 fun b42 w43=>
 AppS w43 (some ⟨b42,0,none⟩) 1 14 fun ns48=>
 AppV w43 83 14 112 z8.1.a z8.1.n z8.1.c ns48 1 fun a44 n45 c46 w47=>
 Rng .i64 (z8.2.1+1) ∧
 K10 ((⟨a44,n45,c46⟩:SlV),z8.2.1+1,()) w47))))
 (Rng .i64 (z8.2.1+1) ∧
 K10 (z8.1,z8.2.1+1,()) w20))
 (Rng .i64 (z8.2.1+1) ∧
 K10 (z8.1,z8.2.1+1,()) w15))
 (Rng .i64 (z8.2.1+1) ∧
 K10 (z8.1,z8.2.1+1,()) w15))
 (Rng .i64 (z3.2.1+1) ∧
 K5 (z8.1,z3.2.1+1,()) w9))
 (CallV Tryz.prog 126 #[.slice z3.1.a z3.1.n z3.1.c,.func (.func 127) #[] #[]] w4 [] fun (r49:Unit) w50=>
 K (z3.1,()) w50)
theorem pagemap_Map_In.vc (p0:Addr) (p1:Int) (w:World) (K:SlV×Unit→World→Prop) (h:pagemap_Map_In.P p0 p1 w K):CallV Tryz.prog 53 #[.pointer (some p0),.int .i64 p1] w [.one .sl] K:=by
 refine vcFun.of (A:=pagemap_Map_In.A) (wr:=false) okf_ok follows h Tryz.func53 ?_
 kernel_rfl
end Go.Proofs.YtbaojfchlhlaeaaGreat.Vc
namespace Go.Proofs.YtbaojfchlhlaeaaGreat.Vc
open Go Go.Eng Go.RowKit
structure Hh where
 k:Int
 n:Int
 c:Int
 l:Int
 e:Int
 t:Int
abbrev Hh.vs (h:Hh):List Value:=[.int .i64 h.k,.int .i64 h.n,.int .i64 h.c,.int .u32 h.l,.int .u64 h.e,.int .u64 h.t]
abbrev Hh.val (h:Hh):Value:=.agg #[.int .i64 h.k,.int .i64 h.n,.int .i64 h.c,.int .u32 h.l,.int .u64 h.e,.int .u64 h.t]
structure Sp where
 b:Int
 p:Int
 h:Hh
 o:Hh
abbrev Sp.vs (s:Sp):List Value:=[.int .i64 s.b,.int .i64 s.p,.int .i64 s.h.k,.int .i64 s.h.n,.int .i64 s.h.c,.int .u32 s.h.l,.int .u64 s.h.e,.int .u64 s.h.t,.int .i64 s.o.k,.int .i64 s.o.n,.int .i64 s.o.c,.int .u32 s.o.l,.int .u64 s.o.e,.int .u64 s.o.t]
abbrev Sp.val (s:Sp):Value:=.agg #[.int .i64 s.b,.int .i64 s.p,.int .i64 s.h.k,.int .i64 s.h.n,.int .i64 s.h.c,.int .u32 s.h.l,.int .u64 s.h.e,.int .u64 s.h.t,.int .i64 s.o.k,.int .i64 s.o.n,.int .i64 s.o.c,.int .u32 s.o.l,.int .u64 s.o.e,.int .u64 s.o.t]
abbrev Sp.tup (s:Sp):Int×Int×Int×Int×Int×Int×Int×Int×Int×Int×Int×Int×Int×Int×Unit:=(s.b,s.p,s.h.k,s.h.n,s.h.c,s.h.l,s.h.e,s.h.t,s.o.k,s.o.n,s.o.c,s.o.l,s.o.e,s.o.t,())
abbrev SH14:List SS:=[.int .i64,.int .i64,.int .i64,.int .i64,.int .i64,.int .u32,.int .u64,.int .u64,.int .i64,.int .i64,.int .i64,.int .u32,.int .u64,.int .u64]
def Hh0:Hh:=⟨0,0,0,0,0,0⟩
def Sp0:Sp:=⟨0,0,Hh0,Hh0⟩
def lesH (a b:Hh):Prop:=a.e<b.e∨a.e=b.e∧a.t<b.t
instance (a b:Hh):Decidable (lesH a b):=by unfold lesH;infer_instance
def nwrH (a b:Sp):Prop:=lesH b.h a.h∨¬ lesH a.h b.h∧lesH b.o a.o
instance (a b:Sp):Decidable (nwrH a b):=by unfold nwrH;infer_instance
section
variable {w:World}
theorem Less22_c {a b:Hh}:CallV Tryz.prog 195 #[a.val,b.val] w [.one .bool] fun r w'=>r.1=decide (lesH a b)∧Ext w w':=by
 apply head_Less.vc
 unfold head_Less.P
 have S:=Sep.start NoB w
 refine S.newB fun b1 _ S _ _=>?_
 refine S.newB fun b3 _ S _ _=>?_
 unfold lesH
 refine S.ld1 (j:=4) rfl rfl (S.ld0 (j:=4) rfl rfl (cond_ne (fun h=>?_) (fun h=>?_)))
 ·refine S.ld1 (j:=4) rfl rfl (S.ld0 (j:=4) rfl rfl ⟨decide_eq_decide.2 ⟨fun k=>.inl k,fun k=>k.elim id fun k=>absurd k.1 h⟩,S.ext⟩)
 ·refine S.ld1 (j:=5) rfl rfl (S.ld0 (j:=5) rfl rfl ⟨decide_eq_decide.2 ⟨fun k=>.inr ⟨h,k⟩,fun k=>k.elim (fun k=>by omega) fun k=>k.2⟩,S.ext⟩)
theorem Newer22_c {a b:Sp}:CallV Tryz.prog 171 #[a.val,b.val] w [.one .bool] fun r w'=>r.1=decide (nwrH a b)∧Ext w w':=by
 apply pagemap_Newer.vc
 unfold pagemap_Newer.P
 have S:=Sep.start NoB w
 refine S.newB fun b1 _ S _ _=>?_
 refine S.newB fun b3 _ S _ _=>?_
 refine S.lb0 (o:=2) rfl (S.lb1 (o:=2) rfl ?_)
 refine (Less22_c (a:=b.h) (b:=a.h)).mono ?_
 rintro ⟨(r:Bool),⟨⟩⟩ w2 ⟨h2,x2⟩
 dsimp only at h2 ⊢
 subst h2
 have S:=S.stepE x2
 unfold nwrH
 refine cond_d (fun h=>⟨(decide_eq_true (.inl h)).symm,S.ext⟩) (fun h=>?_)
 refine S.lb1 (o:=2) rfl (S.lb0 (o:=2) rfl ?_)
 refine (Less22_c (a:=a.h) (b:=b.h)).mono ?_
 rintro ⟨(r:Bool),⟨⟩⟩ w3 ⟨h3,x3⟩
 dsimp only at h3 ⊢
 subst h3
 have S:=S.stepE x3
 refine cond_d (fun h2=>⟨(decide_eq_false (fun k=>k.elim h fun k=>k.1 h2)).symm,S.ext⟩) (fun h2=>?_)
 refine S.lb0 (o:=8) rfl (S.lb1 (o:=8) rfl ?_)
 refine (Less22_c (a:=b.o) (b:=a.o)).mono ?_
 rintro ⟨(r:Bool),⟨⟩⟩ w4 ⟨h4,x4⟩
 dsimp only at h4 ⊢
 subst h4
 exact ⟨decide_eq_decide.2 ⟨fun k=>.inr ⟨h2,k⟩,fun k=>k.elim (fun k=>absurd k h) fun k=>k.2⟩,(S.stepE x4).ext⟩
end
end Go.Proofs.YtbaojfchlhlaeaaGreat.Vc
