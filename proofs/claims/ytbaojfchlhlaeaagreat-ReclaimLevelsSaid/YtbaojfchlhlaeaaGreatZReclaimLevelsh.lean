/- Texts in one: The contracts of the laws of layer 26: a sector written, without crashes; has each sector its last payload? Plain laws of layer 26 (reclaim): without crashes, what Level comes to. The law ReclaimFaults of layer 26: each call gives true, and what it read stays. Plain laws of layer 25 (stream): without faults there is room for each page; how often blocks are erased then. Plain laws of layer 26 (reclaim): without faults each page is put, and blocks are levelled. The plans of functions as plain statements, printed by wip/tools/vcgen.py; the kernel holds each to the code. The law ReclaimLevels of layer 26: each call gives true, and what it read stays. -/
import Derived.Test.YtbaojfchlhlaeaaGreatZReclaimLevelsg
set_option linter.unusedVariables false
set_option linter.unusedSimpArgs false
namespace Go.Proofs.YtbaojfchlhlaeaaGreat.Vc
open Go Go.Eng Go.RowKit
def lastT (ys:List Int) (y:Int):Nat→Int
 | 0=>-1
 | i+1=>if ys.getD i 0=y then (i:Int) else lastT ys y i
theorem lastT_bd (ys:List Int) (y:Int):∀ i,-1≤lastT ys y i∧lastT ys y i<(i:Int)
 | 0=>by show (-1:Int)≤-1∧(-1:Int)<0;decide
 | i+1=>by
  have:=lastT_bd ys y i
  unfold lastT
  split <;> omega
theorem lastT_app (ys:List Int) (z y:Int):∀ i,i≤ys.length→lastT (ys++[z]) y i=lastT ys y i
 | 0,_=>rfl
 | i+1,h=>by
  unfold lastT
  rw [lastT_app ys z y i (by omega),List.getD_eq_getElem?_getD,List.getElem?_append_left (by omega),← List.getD_eq_getElem?_getD]
theorem lastT_new (ys:List Int) (z y:Int):lastT (ys++[z]) y (ys++[z]).length=if z=y then (ys.length:Int) else lastT ys y ys.length:=by
 rw [List.length_append,List.length_singleton]
 show (if (ys++[z]).getD ys.length 0=y then _ else _)=_
 rw [List.getD_eq_getElem?_getD,List.getElem?_append_right (Nat.le_refl _),Nat.sub_self]
 show (if z=y then _ else _)=_
 rw [lastT_app ys z y ys.length (Nat.le_refl _)]
def Kp26 (g:Geo) (F:HasF) (ys:List Int) (z:Int):Prop:=∀ j:Nat,(j:Int)<z→(lastT ys j ys.length=-1∧F 0 j=none)∨∃ (i:Nat) (h:Hh) (P:List Int),lastT ys j ys.length=(i:Int)∧F 0 j=some (h,P)∧P.length=szP g∧P.getD 0 0=IntKind.u8.wrap (i:Int)
theorem Kp26.nil (g:Geo) (z:Int):Kp26 g noF [] z:=fun j _=>.inl ⟨rfl,rfl⟩
theorem Kp26.put {g:Geo} {F:HasF} {ys:List Int} {z lba:Int} (h:Kp26 g F ys z) (hl:0≤lba) {hd:Hd} {P:List Int} (h1:hd.n=0) (h2:hd.l=lba) (h3:hd.c=1) (hP:P.length=szP g) (h0:P.getD 0 0=IntKind.u8.wrap (ys.length:Int)):Kp26 g (updF F hd P) (ys++[lba]) z:=fun j hj=>by
 rw [lastT_new]
 unfold updF
 by_cases e:lba=(j:Int)
 ·rw [if_pos e,if_pos (show spk hd 0 j from ⟨h1.symm,by omega,by omega⟩)]
  exact .inr ⟨_,_,_,rfl,rfl,hP,h0⟩
 ·rw [if_neg e,if_neg (show ¬ spk hd 0 j from by rintro ⟨-,a,b⟩;omega)]
  exact h j hj
section
variable {E:Nat→Prop} {w0 w:World} {Rs:List Asr} {sp pp pm p q n:Nat} {g:Geo} {s:SD} {F:HasF}
theorem pgW26 (hR:Right g) (lba k:Int) {hd:Hd} (hr:hd.rng) (hH:HRight hd):(pgW g hd (pl26 g k) []).length=szP g∧(pgW g hd (pl26 g k) []).getD 0 0=IntKind.u8.wrap k:=by
 have hs:=hR.sec
 have hl:(pl26 g k).length=g.s.toNat:=by unfold pl26;rw [List.length_replicate]
 rw [pgW_is (by omega) hr hH (pl26_byt g k) Byt.nil (.inr (by rw [hl];omega)) (.inl rfl)]
 have hp:payL g (pl26 g k)=pl26 g k:=by unfold payL;rw [if_neg (by omega)]
 rw [hp]
 refine ⟨by rw [List.length_append,hl,markL_length _ (.inl rfl)];unfold szP;omega,?_⟩
 rw [List.getD_eq_getElem?_getD,List.getElem?_append_left (by omega)]
 unfold pl26
 rw [List.getElem?_replicate,if_pos (by omega)]
 rfl
theorem NI.do26 {T:Hh→List Int} (h:NI g n s) (hG:GD n s) (lba k:Int) (ho:s.C.ops+55051264≤1000000000000) :
  PutN g n T (nxtS s (hd26 lba)).1 (Vc.do26 g s lba k).1 (nxtS s (hd26 lba)).2 (pgW g (nxtS s (hd26 lba)).2 (pl26 g k) []) (Vc.do26 g s lba k).2:=by
 have hN:NI g n (nxtS s (hd26 lba)).1:=⟨(h.i.nxt (hd26 lba)).2,h.c⟩
 have hs:=h.i.pi.R.sec
 have hl:(pl26 g k).length=0∨((pl26 g k).length:Int)=g.s:=.inr (by unfold pl26;rw [List.length_replicate];omega)
 have hr:=nxt_rng h.i (hd26_rng lba)
 have hm:HRight (nxtS s (hd26 lba)).2:=⟨⟨by show (1:Int)≤1;decide,by show (1:Int)≤4;decide⟩,⟨by show (0:Int)≤0;decide,by show (0:Int)≤255;decide⟩,⟨by show (0:Int)≤1;decide,by show (1:Int)≤255;decide⟩⟩
 exact hN.put hG hr (fun _=>hm) (pl26_byt g k) Byt.nil hl (.inl rfl) (fun _=>pgW_cp (by omega) hr hm (pl26_byt g k) Byt.nil hl (.inl rfl)) ho
theorem KE.do26 {ys:List Int} {z lba k:Int} (hK:KE F s) (hF:Kp26 g F ys z) (h:NI g n s) (hG:GD n s) (hl:0≤lba∧lba≤65535) (hk:k=(ys.length:Int)) (hct:s.ct≤1000000) (ho:s.C.ops+55051264≤1000000000000) :
  ∃ F',KE F' (Vc.do26 g s lba k).1∧Kp26 g F' (if (Vc.do26 g s lba k).2=0 then ys++[lba] else ys) z∧(Vc.do26 g s lba k).1.ct=s.ct+1:=by
 have hD:=h.i.do26 lba k ho
 have hc0:=h.i.ct
 have hu:u64w (s.ct+1)=s.ct+1:=by
  have:u64w (s.ct+1)=(s.ct+1) % 18446744073709551616:=by simp [u64w,IntKind.wrap,IntKind.signed,IntKind.bits]
  unfold u64R at hc0
  omega
 have hct1:(Vc.do26 g s lba k).1.ct=s.ct+1:=by rw [hD.ct];exact hu
 have hlw:(nxtS s (hd26 lba)).2.l=lba:=by
  show IntKind.u32.wrap lba=lba
  rw [u32_wrap];omega
 refine ⟨_,hK.put (hd0:=hd26 lba) (P:=pgW g (nxtS s (hd26 lba)).2 (pl26 g k) []) (fun T=>h.do26 (T:=T) hG lba k ho) hD.ep hct1 ⟨hc0.1,by omega⟩,?_,hct1⟩
 have hr:=nxt_rng h.i (hd26_rng lba)
 have hm:HRight (nxtS s (hd26 lba)).2:=⟨⟨by show (1:Int)≤1;decide,by show (1:Int)≤4;decide⟩,⟨by show (0:Int)≤0;decide,by show (0:Int)≤255;decide⟩,⟨by show (0:Int)≤1;decide,by show (1:Int)≤255;decide⟩⟩
 obtain ⟨a1,a2⟩:=pgW26 h.i.pi.R lba k hr hm
 by_cases e:(Vc.do26 g s lba k).2=0
 ·rw [if_pos e,if_pos e]
  exact hF.put hl.1 rfl hlw rfl a1 (by rw [a2,hk])
 ·rw [if_neg e,if_neg e]
  exact hF
theorem kept26_c {f:SlP TF.T} {ys:List Int} {z:Int} {st:SlV} (h:SI g n s) (hon:s.C.off=false) (hK:KE F s) (hz:(getX s.X 0).n=z.toNat) (hz0:1≤z∧z≤65535) (hF:Kp26 g F ys z) (hI:∀ w',Sep E w0 w' (stS sp pp pm p q g s Rs)→Ints w' .i64 st.a st.n st.c ys) (S:Sep E w0 w (stS sp pp pm p q g s Rs)) :
  CallV Tryz.prog 67 #[.pointer (some ⟨sp,0,none⟩),.pointer (some ⟨p,0,none⟩),.agg (casV26 g f z st).toArray] w [.one .bool] fun r w'=>r.1=true∧Sep E w0 w' (stS sp pp pm p q g s Rs):=by
 apply law26_kept.vc
 unfold law26_kept.P
 have hyn:=(hI _ S).len
 have hlim:=(hI _ S).lim
 refine S.newB (vs:=casV26 g f z st) fun b1 w1 S f1 _=>?_
 refine Loop1 (fun (v:Int×Unit) w'=>∃ j:Nat,v.1=(j:Int)∧(j:Int)≤z∧Sep E w0 w' (BoxA b1 108 (casV26 g f z st)::stS sp pp pm p q g s Rs)) (fun (v:Int×Unit) _=>(z-v.1).toNat) ⟨0,rfl,by omega,S⟩ ?_
 clear S
 rintro ⟨(v:Int),⟨⟩⟩ w4 ⟨j,hv,hj,S⟩
 dsimp only at hv S ⊢
 subst hv
 refine S.ld0 (j:=7) rfl rfl (cond_d (fun hlt=>?_) (fun hge=>⟨rfl,S.tail⟩))
 have hlt:(j:Int)<z:=hlt
 refine Loop1 (fun (v:Int×Int×Unit) w'=>∃ i:Nat,v.2.1=(i:Int)∧i≤ys.length∧v.1=lastT ys (j:Int) i∧Sep E w0 w' (BoxA b1 108 (casV26 g f z st)::stS sp pp pm p q g s Rs)) (fun (v:Int×Int×Unit) _=>((ys.length:Int)-v.2.1).toNat) ⟨0,rfl,Nat.zero_le _,rfl,S⟩ ?_
 clear S
 rintro ⟨(a:Int),(v:Int),⟨⟩⟩ w8 ⟨i,hv,hi,ha,S⟩
 dsimp only at hv ha S ⊢
 subst hv;subst ha
 have hbd:=lastT_bd ys (j:Int) i
 refine S.ld0 (j:=8) rfl rfl (cond_d (fun hl=>?_) (fun hg=>?_))
 ·have hl:(i:Int)<((st.n:Nat):Int):=hl
  refine S.ld0 (j:=8) rfl rfl ((hI _ S.tail).idx (by omega) hl ?_)
  have e:lastT ys (j:Int) (i+1)=if ys.getD i 0=(j:Int) then (i:Int) else lastT ys (j:Int) i:=rfl
  rw [Int.toNat_natCast]
  refine cond_eq (fun hq=>?_) (fun hq=>?_)
  ·exact ⟨Rng.i64 (by omega) (by omega),⟨i+1,by push_cast;rfl,by omega,by rw [e,if_pos hq],S⟩,by omega⟩
  ·exact ⟨Rng.i64 (by omega) (by omega),⟨i+1,by push_cast;rfl,by omega,by rw [e,if_neg hq],S⟩,by omega⟩
 have hg:¬ ((i:Int)<((st.n:Nat):Int)):=hg
 have hie:i=ys.length:=by omega
 subst hie
 clear hi hg
 have S1:Sep E w0 w8 (stS sp pp pm p q g s (BoxA b1 108 (casV26 g f z st)::Rs)):=S.fro [1,1,1,1,1] rfl
 refine (Map25_c S1).mono ?_
 rintro ⟨r,⟨⟩⟩ w9 ⟨h9,rfl⟩
 dsimp only at h9 ⊢
 subst h9
 refine (Get_m (ns:=0) (i:=(j:Int)) h.xo.four (S1.fro [1] rfl)).mono ?_
 rintro ⟨r,(r2:Bool),⟨⟩⟩ w10 ⟨h10,h11,x10⟩
 dsimp only at h10 h11 ⊢
 subst h10;subst h11
 have S:=S.stepE x10
 refine S.newB fun b18 w11 S f11 _=>S.st0 (by rfl) fun w12 S f12=>?_
 have nx:∀ {w':World},Sep E w0 w' (BoxA b1 108 (casV26 g f z st)::stS sp pp pm p q g s Rs)→Rng .i64 ((j:Int)+1)∧(∃ j':Nat,(j:Int)+1=(j':Int)∧(j':Int)≤z∧Sep E w0 w' (BoxA b1 108 (casV26 g f z st)::stS sp pp pm p q g s Rs))∧(z-((j:Int)+1)).toNat<(z-(j:Int)).toNat:=fun S=>⟨Rng.i64 (by omega) (by omega),⟨j+1,by push_cast;rfl,by push_cast;omega,S⟩,by omega⟩
 rcases hK.get h.xo (m:=0) (j:=j) (by decide) (by rw [hz];omega) with ⟨g1,g2⟩ | ⟨c,P,g1,g2,g3,g4,g5⟩
 ·rcases hF j hlt with ⟨k1,k2⟩ | ⟨i,hh,P,k1,k2,-⟩
  ·rw [g2,k1]
   refine cond_f rfl (cond_t rfl ?_)
   exact nx S.tail
  ·rw [g1] at k2;cases k2
 ·rcases hF j hlt with ⟨k1,k2⟩ | ⟨i,hh,P',k1,k2,k3,k4⟩
  ·rw [g3] at k2;cases k2
  rw [g3] at k2
  cases k2
  have k1':lastT ys (j:Int) ys.length=(i:Int):=k1
  rw [g1,g2,k1']
  refine cond_f (by simp) (cond_f rfl ?_)
  rw [g1,g2,if_pos rfl] at S
  have hxb:=h.l.xb _ g5
  have hnn:=h.pi.nn
  have hgg:=h.pi.gg
  have hin:inC s.C c.s.b c.s.p:=by
   have e1:(4≤c.s.b∧c.s.b<4+(n:Int))∧(1≤c.s.p∧c.s.p<g.p):=hxb
   unfold inC;rw [hgg];omega
  have hrd:readC s.C c.s.b c.s.p=0:=by unfold readC;rw [hon,if_neg Bool.false_ne_true,if_pos hin]
  refine S.lb0 (o:=0) rfl ?_
  refine (Read_e (bl:=c.s.b) (pa:=c.s.p) h.pi.ok (S.fro [6] rfl)).mono ?_
  rintro ⟨⟨ra,rn,rc⟩,(e:Int),⟨⟩⟩ w13 ⟨h13,-,hR⟩
  dsimp only at h13 hR ⊢
  rw [hrd] at h13
  subst h13
  have R:=hR hrd
  rw [g4] at R
  have hln:P.length=rn:=R.ints.len
  have S:=S.stepE R.ext
  refine cond_f rfl (cond_f ?_ ?_)
  ·have:((rn:Nat):Int)≠0:=by
    have hnum:=h.pi.ok.num
    unfold szP at k3
    rw [hgg] at hnum
    omega
   simpa using this
  ·have hp:(0:Int)<((rn:Nat):Int):=by
    have hnum:=h.pi.ok.num
    unfold szP at k3
    rw [hgg] at hnum
    omega
   refine R.ints.idx (i:=0) (by decide) hp (cond_f ?_ ?_)
   ·show (P.getD 0 0 != IntKind.u8.wrap (i:Int))=false
    rw [k4];simp
   ·exact nx S.tail
end
end Go.Proofs.YtbaojfchlhlaeaaGreat.Vc
namespace Go.Proofs.YtbaojfchlhlaeaaGreat.Vc
open Go Go.Eng Go.RowKit
section
variable {g:Geo} {n:Nat} {s t:SD} {b:Int}
theorem NI.bot (h:NI g n s) (hG:GD n s) (hb:0≤b∧b<(n:Int)) (ho:s.C.ops+215042≤1000000000000) :
  NI g n (botS s b).1∧(∀ T,StN g n T s (botS s b).1)∧((botS s b).2=0∨(botS s b).2=5∨(botS s b).2=17∨((botS s b).2=15∧(botS s b).1.ro=true)):=by
 obtain ⟨N1,-,e1,-,h1⟩:=h.emt (T:=fun _=>[]) hG hb (by omega)
 have S1:=fun T=>(h.emt (T:=T) hG hb (by omega)).2.1
 have a1:=(h.i.emt (b:=b) (by omega)).1
 unfold botS
 split
 ·rename_i he
  exact ⟨N1,S1,.inr (.inr (.inr (e1.resolve_left he)))⟩
 ·rename_i he
  have he:(emtS s b).2=0:=Classical.byContradiction he
  have hh:=h1 he
  have o2:=a1.o2
  obtain ⟨N2,-,e2,-⟩:=N1.dstN (T:=fun _=>[]) hb hh (by omega)
  have S2:=fun T=>(N1.dstN (T:=T) hb hh (by omega)).2.1
  exact ⟨N2,fun T=>(S1 T).trans (S2 T),by omega⟩
theorem NI.lvl {wear:Int}:∀ (k:Nat) {s:SD},NI g n s→GD n s→s.C.ops+lvC k≤1000000000000 →
  NI g n (lvlP wear k s).1∧(∀ T,StN g n T s (lvlP wear k s).1)∧((lvlP wear k s).2=0∨((lvlP wear k s).2=15∧(lvlP wear k s).1.ro=true))
 | 0,s,h,_,_=>⟨h,fun _=>.refl h,.inl rfl⟩
 | k+1,s,h,hG,ho=>by
  have e:=lvCs k
  unfold lvlP
  split
  ·rename_i hr
   exact ⟨h,fun _=>.refl h,.inr ⟨rfl,hr⟩⟩
  ·split
   ·exact ⟨h,fun _=>.refl h,.inl rfl⟩
   ·rename_i hu
    have hl:=unl_low (L:=s.L) (wear:=wear) (by simpa using hu)
    have hlt:=(low_top s.L hl).1
    rw [h.i.ln] at hlt
    obtain ⟨N1,S1,e1⟩:=h.bot hG (b:=lowT s.L) ⟨hl,hlt⟩ (by omega)
    have h1:=h.i.bot (b:=lowT s.L) ⟨hl,hlt⟩ (by omega)
    have o2:=h1.o2
    split
    ·rename_i hq
     refine ⟨N1,S1,.inr ?_⟩
     rcases e1 with k | k | k | k
     ·omega
     ·omega
     ·omega
     ·exact k
    ·obtain ⟨N2,S2,e2⟩:=NI.lvl (wear:=wear) k N1 ((S1 fun _=>[]).gd hG) (by omega)
     exact ⟨N2,fun T=>(S1 T).trans (S2 T),e2⟩
theorem lvl_ec {wear:Int} (h:NI g n s) (hG:GD n s) (hw:1≤wear) (ho:s.C.ops+825761280≤1000000000000) :
  NI g n (lvlS wear s).1∧(∀ T,StN g n T s (lvlS wear s).1)∧((lvlS wear s).2=0∨((lvlS wear s).2=15∧(lvlS wear s).1.ro=true))∧St g n 825761280 s (lvlS wear s).1:=by
 have hno:=h.i.no
 have hk:64*s.L.length≤3840:=by rw [h.i.ln];omega
 have hc:=lvC_le hk
 unfold lvlS
 rw [if_neg (by omega)]
 obtain ⟨a,b,c⟩:=NI.lvl (wear:=wear) (64*s.L.length) h hG (by omega)
 exact ⟨a,b,c,(SI.lvl (wear:=wear) (64*s.L.length) h.i (by omega)).up hc⟩
end
end Go.Proofs.YtbaojfchlhlaeaaGreat.Vc
namespace Go.Proofs.YtbaojfchlhlaeaaGreat.Vc
open Go Go.Eng Go.RowKit
def opK26 (i:Nat):Nat:=880812544*i
theorem opK26s (i:Nat):opK26 (i+1)=opK26 i+880812544:=Nat.mul_succ _ _
theorem opK26_le {i:Nat} (h:i≤200):opK26 i≤176162508800:=Nat.mul_le_mul (Nat.le_refl 880812544) h
end Go.Proofs.YtbaojfchlhlaeaaGreat.Vc
namespace Go.Proofs.YtbaojfchlhlaeaaGreat.Vc
open Go Go.Eng Go.RowKit
def bigP (X:List (SlP Ce)) (L:List Blk) (ns:Int):Nat→List (Int×Int)
 | 0=>[]
 | i+1=>(if ownB ns (gx L i)=true then inP X (4+(i:Int)) else [])++bigP X L ns i
theorem bigP_mem {X:List (SlP Ce)} {L:List Blk} {ns:Int} {k:Int×Int}:∀ i,k∈bigP X L ns i→∃ j,j<i∧ownB ns (gx L j)=true∧k∈inP X (4+(j:Int))
 | 0,h=>(List.not_mem_nil h).elim
 | i+1,h=>by
  rcases List.mem_append.1 h with h | h
  ·split at h
   ·rename_i ho
    exact ⟨i,Nat.lt_succ_self i,ho,h⟩
   ·exact (List.not_mem_nil h).elim
  ·obtain ⟨j,h1,h2⟩:=bigP_mem i h
   exact ⟨j,by omega,h2⟩
theorem bigP_nd (X:List (SlP Ce)) (L:List Blk) (ns:Int):∀ i,(bigP X L ns i).Nodup
 | 0=>List.nodup_nil
 | i+1=>by
  refine List.nodup_append.2 ⟨?_,bigP_nd X L ns i,fun a ha b hb e=>?_⟩
  ·split
   ·exact so_nd (inP_so _ _)
   ·exact List.nodup_nil
  ·subst e
   split at ha
   ·obtain ⟨j,h1,-,h3⟩:=bigP_mem i hb
    have a1:=(inP_mem.1 ha).1
    have a2:=(inP_mem.1 h3).1
    omega
   ·exact List.not_mem_nil ha
theorem bigP_len {X:List (SlP Ce)} {L:List Blk} {ns m:Int} (hm:0≤m):∀ i,(∀ j,j<i→ownB ns (gx L j)=true→m≤((inP X (4+(j:Int))).length:Int))→manyT L (ownB ns) i*m≤((bigP X L ns i).length:Int)
 | 0,_=>by show 0*m≤0;omega
 | i+1,h=>by
  have ih:=bigP_len (X:=X) (L:=L) (ns:=ns) hm i fun j hj=>h j (by omega)
  have h1:=h i (Nat.lt_succ_self i)
  unfold manyT bigP
  rw [List.length_append]
  push_cast
  by_cases e:ownB ns (gx L i)=true
  ·rw [if_pos e,if_pos e,Int.add_mul]
   have:=h1 e
   omega
  ·rw [if_neg e,if_neg e]
   show _≤(0:Int)+_
   omega
section
variable {g:Geo} {n:Nat} {s t:SD} {b ns:Int}
theorem big_le (h:SI g n s) (hn:0≤ns∧ns<4):(bigP s.X s.L ns n).length≤(getX s.X ns).n:=by
 have hsub:∀ k∈bigP s.X s.L ns n,k∈(getX s.X ns).l.map Ce.pl:=fun k hk=>by
  obtain ⟨j,h1,h2,h3⟩:=bigP_mem n hk
  obtain ⟨q1,q2,q3⟩:=inP_mem.1 h3
  obtain ⟨m,jj,c,hm,hj,hc,rfl⟩:=cntX_ex h.xo.four q3
  have ow:=h.l.ow m jj c hm hj hc
  have:(c.s.b-4).toNat=j:=by
   have:c.s.b=4+(j:Int):=q1
   omega
  rw [this,(own_is h2).2.2] at ow
  subst ow
  exact List.mem_map.2 ⟨c,List.mem_of_getElem? hj,rfl⟩
 have:=nodup_sub _ _ (bigP_nd s.X s.L ns n) hsub
 rw [List.length_map,(h.xo.get ns).1] at this
 exact this
theorem cei_up2 {u m:Int} (hu:0<u):m≤cei m u*u:=by
 unfold cei
 have h:=Int.emod_add_mul_ediv (m+u-1) u
 have h2:=Int.emod_lt_of_pos (m+u-1) hu
 rw [Int.mul_comm]
 omega
theorem vict_room (h:NI g n s) (hn:0≤ns∧ns<4) (hz:1≤(getX s.X ns).n) (hh:quoS s ns-1≤manyT s.L (ownB ns) n):0≤victT s.L ns (-1) n∧(gx s.L (victT s.L ns (-1) n).toNat).li<g.p-1:=by
 have hno:=h.i.no
 have hgg:=h.i.pi.gg
 have hcb:=cei_bd (u:=g.p-1) (m:=((getX s.X ns).n:Int)) (by omega) (by omega)
 have hcu:=cei_up2 (u:=g.p-1) (m:=((getX s.X ns).n:Int)) (by omega)
 unfold quoS quo at hh
 rw [hgg] at hh
 have hbig:=big_le h.i hn
 rcases bestT_least (L:=s.L) (m:=fun i x=>decide ((i:Int)≠-1) && ownB ns x) (key:=fun x=>x.li) (ah:=fun x y=>decide (x.li<y.li)) (fun _ _=>rfl) n with ⟨-,k⟩ | ⟨a,k1,k2,k3,k4⟩
 ·exfalso
  have:∀ i,i≤n→manyT s.L (ownB ns) i=0:=fun i=>by
   induction i with
   | zero=>exact fun _=>rfl
   | succ i ih=>
    intro hi
    have:=k i (by omega)
    dsimp only at this
    rw [decide_eq_true (by omega),Bool.true_and] at this
    unfold manyT
    rw [if_neg (by rw [this];exact Bool.false_ne_true)]
    exact ih (by omega)
  have:=this n (Nat.le_refl n)
  omega
 ·have ev:victT s.L ns (-1) n=(a:Int):=k1
  rw [ev]
  refine ⟨by omega,?_⟩
  rw [Int.toNat_natCast]
  refine Classical.byContradiction fun hc=>?_
  have hl:=bigP_len (X:=s.X) (L:=s.L) (ns:=ns) (m:=g.p-1) (by omega) n fun j hj ho=>by
   have:(gx s.L a).li≤(gx s.L j).li:=(k4 j hj (by show (decide ((j:Int)≠-1) && ownB ns (gx s.L j))=true;rw [decide_eq_true (by omega),Bool.true_and];exact ho)).1
   rw [←h.i.l.li j hj]
   omega
  have hm:(cei ((getX s.X ns).n:Int) (g.p-1)+1)*(g.p-1)≤manyT s.L (ownB ns) n*(g.p-1):=Int.mul_le_mul_of_nonneg_right (by omega) (by omega)
  rw [Int.add_mul] at hm
  omega
def ErU (n:Nat) (d:Int) (L L':List Blk):Prop:=∀ i,i<n→(gx L i).er≤(gx L' i).er∧(gx L' i).er≤(gx L i).er+d
theorem ErU.trans {d e:Int} {L M N:List Blk} (h:ErU n d L M) (k:ErU n e M N):ErU n (d+e) L N:=fun i hi=>by
 have:=h i hi
 have:=k i hi
 omega
theorem ErU.eq {d:Int} (hd:0≤d) {L M:List Blk} (h:∀ i,(gx M i).er=(gx L i).er):ErU n d L M:=fun i hi=>by
 rw [h i];omega
theorem chz_er {L:List Blk} {b:Int} {φ:Blk→Blk} (hφ:∀ x,(φ x).er=x.er) (i:Nat):(gx (chL b L.length φ L) i).er=(gx L i).er:=by
 rw [gx_ch rfl]
 split
 ·exact hφ _
 ·rfl
theorem clos_er (s:SD) (ns:Int) (i:Nat):(gx (closP s ns).L i).er=(gx s.L i).er:=by
 unfold closP
 split
 ·show (gx (chL (frG s ns) s.L.length rB s.L) i).er=_
  exact chz_er (φ:=rB) (fun _=>rfl) i
 ·rfl
theorem emz_er {b:Int} (hl:s.L.length=n) (k:EmZ n s t b ns):ErU n 1 s.L t.L:=fun i hi=>by
 rcases k.L with e | ⟨to,t1,t2,t3,t4,t5,t6,t7,t8,t9,t10,t11⟩
 ·rw [e,gx_ch hl]
  split
  ·show (gx s.L i).er≤(gx s.L i).er∧(gx s.L i).er≤_;omega
  ·omega
 ·by_cases e1:i=b.toNat
  ·rw [e1,t6]
   show (gx s.L b.toNat).er≤(gx s.L b.toNat).er∧(gx s.L b.toNat).er≤_
   omega
  ·by_cases e2:i=to
   ·rw [e2,t11]
    split <;> omega
   ·rw [t5 i e1 e2];omega
theorem opn_er (hl:s.L.length=n) {L':List Blk} {p:Int} (e:L'=chL p n (hB ns) (if (gx s.L p.toNat).cl=true then s.L else chL p n eB s.L)):ErU n 1 s.L L':=fun i hi=>by
 have hl2:(if (gx s.L p.toNat).cl=true then s.L else chL p n eB s.L).length=n:=by
  split
  ·exact hl
  ·rw [chL_len];exact hl
 have key:(gx s.L i).er≤(gx (if (gx s.L p.toNat).cl=true then s.L else chL p n eB s.L) i).er∧(gx (if (gx s.L p.toNat).cl=true then s.L else chL p n eB s.L) i).er≤(gx s.L i).er+1:=by
  split
  ·omega
  ·rw [gx_ch hl]
   split
   ·show (gx s.L i).er≤(gx s.L i).er+1∧(gx s.L i).er+1≤_;omega
   ·omega
 rw [e,gx_ch hl2]
 split
 ·exact key
 ·exact key
theorem room_ok (h:NI g n s) (hz:ZI n s) (hG:GD n s) (hR:RM n s) (hn:0≤ns∧ns<4) (hsz:1≤(getX s.X ns).n) (hp:s.C.ops+215040≤1000000000000) :
  ErU n 1 s.L (roomP s ns).1.L∧(¬ fulP (roomP s ns).1 ns∨(frG (roomP s ns).1 ns<0∧manyT (roomP s ns).1.L (ownB ns) n<quoS (roomP s ns).1 ns-1))∧(manyT (closP s ns).L (ownB ns) n<quoS s ns-1→¬ fulP (roomP s ns).1 ns):=by
 obtain ⟨N1,S1⟩:=h.clos (T:=fun _=>[]) hn
 have hno:=h.i.no
 have hcl:=h.i.clos hn
 have hc:=clos_f s ns
 have Z1:=clos_zf h hz ns
 have hG1:=S1.gd hG
 have hk:=pick_zf N1 Z1 hG1 (hR.of h.i N1.i hcl.sz)
 have hI:=h.i.room hn hp
 have hheld:heldS (closP s ns) ns=manyT (closP s ns).L (ownB ns) n:=by unfold heldS;rw [N1.i.ln]
 have hq:quoS (closP s ns) ns=quoS s ns:=by unfold quoS;rw [hc.1,hc.2.2.1]
 have hfr:frG (closP s ns) ns=-1:=by
  show (closP s ns).fr.getD ns.toNat 0=-1
  rw [hc.2.2.2.1,List.getD_eq_getElem?_getD,List.getElem?_set_self (by rw [h.i.fl];omega)]
  rfl
 have er0:ErU n 0 s.L (closP s ns).L:=.eq (Int.le_refl _) (clos_er s ns)
 have hqr:quoS (roomP s ns).1 ns=quoS s ns:=by unfold quoS;rw [hI.i.pi.gg,h.i.pi.gg,hI.sz]
 rw [hqr]
 unfold roomP at hI ⊢
 by_cases hcase:quoS s ns-1≤heldS (closP s ns) ns
 ·rw [if_pos hcase] at hI ⊢
  rw [hheld] at hcase
  have e:s.L.length=n:=h.i.ln
  rw [e] at hI ⊢
  obtain ⟨v1,v2⟩:=vict_room N1 hn (by rw [hc.2.2.1];exact hsz) (by rw [hq];exact hcase)
  have hw:=own_is (vict_is (ns:=ns) (bu:=-1) N1.i.ln (by rw [N1.i.ln];exact v1))
  rw [N1.i.ln] at hw
  have hv:=(vict_bd (L:=(closP s ns).L) (ns:=ns) (bu:=-1)).2
  rw [N1.i.ln] at hv
  generalize victT (closP s ns).L ns (-1) n=v at v1 v2 hw hv hI ⊢
  obtain ⟨e1,e2⟩:=emp_zf N1 Z1 hk hn ⟨v1,hv⟩ hw.2.2 (by rw [hc.1];exact hp)
  have eF:=e2.fr hfr
  refine ⟨by have:=er0.trans (emz_er N1.i.ln e2);rwa [Int.zero_add] at this,?_,fun k=>by omega⟩
  rcases eF with ⟨f1,f2⟩ | ⟨to,f1,f0,f3⟩
  ·right
   refine ⟨f1,?_⟩
   have:=manyT_lt (L:=(empP (closP s ns) v ns).1.L) (L':=(closP s ns).L) (m:=ownB ns) (b:=v.toNat) n (by omega) (fun j hj k=>by
    rw [f2,gx_ch N1.i.ln] at k
    split at k
    ·have:=own_he k;cases this
    ·exact k) (by rw [f2,gx_eq N1.i.ln ⟨v1,hv⟩];rfl) (by unfold ownB;rw [hw.1,hw.2.1,hw.2.2];simp)
   have hcap:=(hG1 Z1.ro).2 ns
   have:capS (closP s ns) ns=quoS s ns-1:=by
    unfold capS
    rw [hq,hc.2.2.1,if_neg (by omega)]
   omega
  ·left
   unfold fulP
   rw [f1,f3,hI.i.pi.gg]
   omega
 ·rw [if_neg hcase] at hI ⊢
  obtain ⟨z1,z2,z3,z4,z5⟩:=opnS_zf N1 Z1 hk hn true (by rw [hc.1];omega)
  obtain ⟨N2,-⟩:=N1.opn hn true (by rw [hc.1];omega)
  have hp0:0≤pickT (closP s ns).L n∧pickT (closP s ns).L n<(n:Int):=⟨hk,by
   have:=(bestT_bd (L:=(closP s ns).L) (m:=fun _ x=>freeB x) (ah:=fun x y=>decide (x.er<y.er)) n).2
   exact this⟩
  dsimp only at hI ⊢
  rw [if_pos z1,z1] at hI ⊢
  have Z2:ZI n (frS (opnS ns true (closP s ns)).1 ns (opnS ns true (closP s ns)).2.1):=⟨z5.pl,z5.ro,z5.nb⟩
  rw [Z2.left N2.i.ln (sp0 N2.i.pi)] at hI ⊢
  have hfu:¬ fulP (frS (opnS ns true (closP s ns)).1 ns (opnS ns true (closP s ns)).2.1) ns:=by
   have ef:frG (frS (opnS ns true (closP s ns)).1 ns (opnS ns true (closP s ns)).2.1) ns=pickT (closP s ns).L n:=by
    show ((opnS ns true (closP s ns)).1.fr.set ns.toNat _).getD ns.toNat 0=_
    rw [List.getD_eq_getElem?_getD,List.getElem?_set_self (by rw [N2.i.fl];omega)]
    exact z2
   unfold fulP
   rw [ef]
   have hg2:(frS (opnS ns true (closP s ns)).1 ns (opnS ns true (closP s ns)).2.1).C.g=g:=N2.i.pi.gg
   rw [hg2]
   show ¬ (_∨g.p-1≤(gx (opnS ns true (closP s ns)).1.L (pickT (closP s ns).L n).toNat).us)
   rw [z3,gx_eq (by split;exact N1.i.ln;rw [chL_len];exact N1.i.ln) hp0]
   show ¬ (_∨g.p-1≤(0:Int))
   omega
  exact ⟨by have:=er0.trans (opn_er (ns:=ns) N1.i.ln z3);rwa [Int.zero_add] at this,.inl hfu,fun _=>hfu⟩
end
end Go.Proofs.YtbaojfchlhlaeaaGreat.Vc
namespace Go.Proofs.YtbaojfchlhlaeaaGreat.Vc
open Go Go.Eng Go.RowKit
section
variable {g:Geo} {n:Nat} {s t:SD} {b ns:Int}
theorem ded1_er (s:SD) (k:Int×Int) (i:Nat):(gx (ded1 s k).L i).er=(gx s.L i).er:=by
 unfold ded1
 dsimp only
 split
 ·show (gx (chL (k.1-4) (chL (k.1-4) s.L.length (cB (-1)) s.L).length rB (chL (k.1-4) s.L.length (cB (-1)) s.L)) i).er=_
  rw [chz_er (φ:=rB) (fun _=>rfl)]
  exact chz_er (φ:=cB (-1)) (fun _=>rfl) i
 ·show (gx (chL (k.1-4) s.L.length (cB (-1)) s.L) i).er=_
  exact chz_er (φ:=cB (-1)) (fun _=>rfl) i
theorem ded_er:∀ (l:List (Int×Int)) (s:SD) (i:Nat),(gx (dedP l s).L i).er=(gx s.L i).er
 | [],s,i=>rfl
 | k::l,s,i=>(ded_er l (ded1 s k) i).trans (ded1_er s k i)
theorem lnd_er (s:SD) (hd:Hd) (at_:Int×Int) (i:Nat):(gx (lndP s hd at_).L i).er=(gx s.L i).er:=by
 refine (ded_er _ _ i).trans ?_
 unfold lnd1
 split
 ·show (gx (chL (at_.1-4) s.L.length (cB 1) s.L) i).er=_
  exact chz_er (φ:=cB 1) (fun _=>rfl) i
 ·rfl
theorem wr_ok (hn:0≤ns∧ns<4) {hd:Hd} {xs tg:List Int} (hr:hd.rng) (hR:HRight hd) (bx:Byt xs) (bt:Byt tg) (lx:xs.length=0∨(xs.length:Int)=g.s) (lt:tg.length=0∨tg.length=32) (h:NI g n s) (hz:ZI n s) (hG:GD n s) (hM:RM n s) (hsz:1≤(getX s.X ns).n) (ho:s.C.ops+55051264≤1000000000000) :
  (wrP ns hd xs tg 256 s).2.2=0∧ErU n 2 s.L (wrP ns hd xs tg 256 s).1.L:=by
 have nf:∀ (k:Nat) {u:SD},NI g n u→ZI n u→GD n u→u.C.ops+2≤1000000000000→¬ fulP u ns→(wrP ns hd xs tg (k+1) u).2.2=0∧ErU n 0 u.L (wrP ns hd xs tg (k+1) u).1.L:=fun k u hu hzu hGu hou hf=>by
  obtain ⟨N1,S1,e1,r1,p1⟩:=hu.wr1 (T:=fun _=>[]) hn hf hGu hzu.ro hr hR bx bt lx lt hou
  obtain ⟨h1,x1,f1,l1⟩:=hu.i.wr1 hn hf (hd:=hd) hr bx bt (xs:=xs) (tg:=tg) hou
  have w0:(Vc.wr1 u ns hd xs tg).2≠5∧(Vc.wr1 u ns hd xs tg).1.C.pl=[]:=wrt0 hzu.pl _ _ _ _ _ _
  unfold wrP
  dsimp only
  rw [if_neg hf,if_pos (e1.resolve_right w0.1)]
  refine ⟨rfl,.eq (Int.le_refl _) fun i=>?_⟩
  dsimp only
  rw [l1,gx_ch hu.i.ln]
  split <;> rfl
 by_cases hf:fulP s ns
 case neg=>
  obtain ⟨a,b⟩:=nf 255 h hz hG (by omega) hf
  refine ⟨a,fun i hi=>?_⟩
  have:=b i hi
  show _≤(gx (wrP ns hd xs tg (255+1) s).1.L i).er∧(gx (wrP ns hd xs tg (255+1) s).1.L i).er≤_
  omega
 obtain ⟨z1,z2⟩:=room_zf h hz hG hM hn (by omega)
 obtain ⟨N1,S1,-,-⟩:=h.room (T:=fun _=>[]) hn hsz (by omega)
 have h1:=h.i.room hn (by omega)
 have o1:=h1.o2
 have G1:=S1.gd hG
 have M1:=hM.of h.i N1.i h1.sz
 obtain ⟨u1,u2,-⟩:=room_ok h hz hG hM hn hsz (by omega)
 have e1:wrP ns hd xs tg 256 s=wrP ns hd xs tg 255 (roomP s ns).1:=by
  show wrP ns hd xs tg (255+1) s=_
  conv=>lhs;unfold wrP
  rw [if_pos hf,if_neg (by rw [z1];decide)]
 rw [e1]
 by_cases hf2:fulP (roomP s ns).1 ns
 case neg=>
  obtain ⟨a,b⟩:=nf 254 N1 z2 G1 (by omega) hf2
  refine ⟨a,fun i hi=>?_⟩
  have:=b i hi
  have:=u1 i hi
  show _≤(gx (wrP ns hd xs tg (254+1) (roomP s ns).1).1.L i).er∧(gx (wrP ns hd xs tg (254+1) (roomP s ns).1).1.L i).er≤_
  omega
 obtain ⟨f1,f2⟩:=u2.resolve_left (fun k=>k hf2)
 have hsz1:1≤(getX (roomP s ns).1.X ns).n:=by rw [h1.sz];exact hsz
 generalize (roomP s ns).1=t at z2 N1 h1 o1 G1 M1 u1 hf2 f1 f2 hsz1 ⊢
 obtain ⟨y1,y2⟩:=room_zf N1 z2 G1 M1 hn (by omega)
 obtain ⟨N2,S2,-,-⟩:=N1.room (T:=fun _=>[]) hn hsz1 (by omega)
 have h2:=N1.i.room hn (by omega)
 have o2:=h2.o2
 obtain ⟨v1,-,v3⟩:=room_ok N1 z2 G1 M1 hn hsz1 (by omega)
 have ecl:closP t ns=frS t ns (-1):=by
  unfold closP
  rw [if_neg (fun k=>by omega)]
 have nf2:=v3 (by rw [ecl];exact f2)
 have e2:wrP ns hd xs tg 255 t=wrP ns hd xs tg 254 (roomP t ns).1:=by
  show wrP ns hd xs tg (254+1) t=_
  conv=>lhs;unfold wrP
  rw [if_pos hf2,if_neg (by rw [y1];decide)]
 rw [e2]
 obtain ⟨a,b⟩:=nf 253 N2 y2 (S2.gd G1) (by omega) nf2
 refine ⟨a,fun i hi=>?_⟩
 have:=b i hi
 have:=u1 i hi
 have:=v1 i hi
 show _≤(gx (wrP ns hd xs tg (253+1) (roomP t ns).1).1.L i).er∧(gx (wrP ns hd xs tg (253+1) (roomP t ns).1).1.L i).er≤_
 omega
theorem put_ok {hd:Hd} {xs tg:List Int} (hr:hd.rng) (hm:mayP s hd) (hR:HRight hd) (bx:Byt xs) (bt:Byt tg) (lx:xs.length=0∨(xs.length:Int)=g.s) (lt:tg.length=0∨tg.length=32) (h:NI g n s) (hz:ZI n s) (hG:GD n s) (hM:RM n s) (ho:s.C.ops+55051264≤1000000000000) :
  (putS s hd xs tg).2=0∧ErU n 2 s.L (putS s hd xs tg).1.L:=by
 have hn:=may_ns hm
 obtain ⟨a,b⟩:=wr_ok (ns:=hd.n) hn hr hR bx bt lx lt h hz hG hM (by have:=hm.2.1;have:=hm.2.2.1;omega) ho
 unfold putS
 rw [if_neg (fun k=>k hm),if_neg (by rw [hz.ro];exact Bool.false_ne_true)]
 dsimp only
 rw [if_neg (by rw [a];decide)]
 refine ⟨rfl,fun i hi=>?_⟩
 dsimp only
 rw [lnd_er]
 exact b i hi
def sumE (L:List Blk):Nat→Int
 | 0=>0
 | i+1=>sumE L i+(gx L i).er
theorem sumE_le {L M:List Blk}:∀ i,(∀ j,j<i→(gx L j).er≤(gx M j).er)→sumE L i≤sumE M i
 | 0,_=>Int.le_refl _
 | i+1,h=>by
  have:=sumE_le i fun j hj=>h j (by omega)
  have:=h i (Nat.lt_succ_self i)
  unfold sumE
  omega
theorem sumE_lt {L M:List Blk} {b:Nat}:∀ i,b<i→(∀ j,j<i→(gx L j).er≤(gx M j).er)→(gx L b).er+1≤(gx M b).er→sumE L i+1≤sumE M i
 | 0,hb,_,_=>by omega
 | i+1,hb,h,h1=>by
  have h2:=h i (Nat.lt_succ_self i)
  unfold sumE
  by_cases e:b=i
  ·subst e
   have:=sumE_le (L:=L) (M:=M) b fun j hj=>h j (by omega)
   omega
  ·have:=sumE_lt (L:=L) (M:=M) (b:=b) i (by omega) (fun j hj=>h j (by omega)) h1
   omega
theorem sumE_bd {L:List Blk} {lo hi:Int}:∀ i,(∀ j,j<i→lo≤(gx L j).er∧(gx L j).er≤hi)→(i:Int)*lo≤sumE L i∧sumE L i≤(i:Int)*hi
 | 0,_=>by show ((0:Nat):Int)*lo≤0∧(0:Int)≤((0:Nat):Int)*hi;simp
 | i+1,h=>by
  have h1:=sumE_bd (L:=L) i fun j hj=>h j (by omega)
  have h2:=h i (Nat.lt_succ_self i)
  unfold sumE
  push_cast
  rw [Int.add_mul,Int.add_mul]
  omega
theorem low_zf (hl:s.L.length=n) (hz:ZI n s) (h0:0<n):(0≤lowT s.L∧lowT s.L<(n:Int))∧(∀ i,i<n→(gx s.L (lowT s.L).toNat).er≤(gx s.L i).er)∧(0≤topT s.L∧topT s.L<(n:Int))∧(∀ i,i<n→(gx s.L i).er≤(gx s.L (topT s.L).toNat).er):=by
 have good:∀ j,j<n→(!(gx s.L j).ba)=true:=fun j hj=>by rw [hz.nb j hj];rfl
 have low:=low_is s.L
 have top:=top_is s.L
 rw [hl] at low top
 rcases low with ⟨-,k⟩ | ⟨a,a1,a2,a3,a4⟩
 ·have:(!(gx s.L 0).ba)=false:=k 0 h0
  rw [good 0 h0] at this;cases this
 ·rcases top with ⟨-,k⟩ | ⟨c,c1,c2,c3,c4⟩
  ·have:(!(gx s.L 0).ba)=false:=k 0 h0
   rw [good 0 h0] at this;cases this
  ·have a2:a<n:=a2
   have c2:c<n:=c2
   rw [a1,c1,Int.toNat_natCast,Int.toNat_natCast]
   exact ⟨⟨by omega,by omega⟩,fun i hi=>(a4 i hi (good i hi)).1,⟨by omega,by omega⟩,fun i hi=>by
    have:0-(gx s.L c).er≤0-(gx s.L i).er:=(c4 i hi (good i hi)).1
    omega⟩
theorem by_zf (hl:s.L.length=n) (hz:ZI n s) (h0:0<n):byL s.L=(gx s.L (topT s.L).toNat).er-(gx s.L (lowT s.L).toNat).er:=by
 have:=(low_zf hl hz h0).1
 unfold byL
 rw [if_neg (by omega)]
theorem bot_zf (h:NI g n s) (hz:ZI n s) (hG:GD n s) (hM:RM n s) (hb:0≤b∧b<(n:Int)) (ho:s.C.ops+215042≤1000000000000) :
  (botS s b).2=0∧ZI n (botS s b).1∧(gx (botS s b).1.L b.toNat).he=false∧(gx (botS s b).1.L b.toNat).er=(gx s.L b.toNat).er+1 ∧
  ((∀ i,i<n→i≠b.toNat→(gx (botS s b).1.L i).er=(gx s.L i).er)∨∃ to:Nat,to<n∧(to:Int)=pickT s.L n∧(∀ i,i<n→i≠b.toNat→i≠to→(gx (botS s b).1.L i).er=(gx s.L i).er)∧(gx s.L to).er≤(gx (botS s b).1.L to).er∧(gx (botS s b).1.L to).er≤(gx s.L to).er+1):=by
 obtain ⟨N1,-,-,-,h1⟩:=h.emt (T:=fun _=>[]) hG hb (by omega)
 obtain ⟨e1,e2⟩:=emtS_zf h hz hG hM hb (by omega)
 have hln:=N1.i.ln
 unfold botS
 rw [if_neg (by rw [e1];decide)]
 rcases e2 with ⟨k1,k2⟩ | ⟨-,k⟩
 ·rw [k2]
  obtain ⟨d1,d2,d3⟩:=dstS_zf h hz hb
  refine ⟨d1,d3,?_,?_,.inl fun i hi hne=>?_⟩
  ·rw [d2,gx_eq h.i.ln hb];rfl
  ·rw [d2,gx_eq h.i.ln hb];rfl
  ·rw [d2,gx_ne h.i.ln hne]
 ·obtain ⟨d1,d2,d3⟩:=dstS_zf N1 k.z hb
  have eb:(gx (emtS s b).1.L b.toNat).er=(gx s.L b.toNat).er:=by
   rcases k.L with e | ⟨to,t1,t2,t3,t4,t5,t6,t7,t8,t9,t10,t11⟩
   ·rw [e,gx_eq h.i.ln hb];rfl
   ·rw [t6];rfl
  refine ⟨d1,d3,?_,?_,?_⟩
  ·rw [d2,gx_eq hln hb];rfl
  ·rw [d2,gx_eq hln hb]
   show (gx (emtS s b).1.L b.toNat).er+1=_
   rw [eb]
  ·rcases k.L with e | ⟨to,t1,t2,t3,t4,t5,t6,t7,t8,t9,t10,t11⟩
   ·left
    intro i hi hne
    rw [d2,gx_ne hln hne,e,gx_ne h.i.ln hne]
   ·right
    refine ⟨to,t1,t4,fun i hi hne hnt=>?_,?_,?_⟩
    ·rw [d2,gx_ne hln hne,t5 i hne hnt]
    ·rw [d2,gx_ne hln t3,t11];split <;> omega
    ·rw [d2,gx_ne hln t3,t11];split <;> omega
def FrL (n:Nat) (L:List Blk):Prop:=∃ c,c<n∧(gx L c).he=false∧∀ i,i<n→(gx L c).er≤(gx L i).er+1
theorem lvl_zf {wear M lo:Int} (hw:1≤wear) (h0:0<n):∀ (k:Nat) {s:SD},NI g n s→ZI n s→GD n s→RM n s→(∀ i,i<n→(gx s.L i).er≤M)→(FrL n s.L∨∀ i,i<n→(gx s.L i).er+1≤M)→(n:Int)*M+1≤sumE s.L n+(k:Int)→s.C.ops+lvC k≤1000000000000 →
  unlB (lvlP wear k s).1.L wear=false∧ZI n (lvlP wear k s).1
 | 0,s,h,hz,_,_,hu,_,hs,_=>by
  exfalso
  have:=(sumE_bd (L:=s.L) (lo:=(gx s.L (lowT s.L).toNat).er) (hi:=M) n fun j hj=>⟨(low_zf h.i.ln hz h0).2.1 j hj,hu j hj⟩).2
  omega
 | k+1,s,h,hz,hG,hM,hu,hf,hs,ho=>by
  have e:=lvCs k
  unfold lvlP
  rw [if_neg (by rw [hz.ro];exact Bool.false_ne_true)]
  by_cases hun:unlB s.L wear=false
  ·rw [if_pos hun]
   exact ⟨hun,hz⟩
  rw [if_neg hun]
  have hun:unlB s.L wear=true:=by simpa using hun
  obtain ⟨⟨l1,l2⟩,l3,l4,l5⟩:=low_zf h.i.ln hz h0
  have hby:=by_zf h.i.ln hz h0
  have hlt:wear<byL s.L:=by
   unfold unlB at hun
   rw [Bool.and_eq_true] at hun
   exact of_decide_eq_true hun.2
  obtain ⟨b1,b2,b3,b4,b5⟩:=bot_zf h hz hG hM ⟨l1,l2⟩ (by omega)
  obtain ⟨N1,S1,-⟩:=h.bot hG (b:=lowT s.L) ⟨l1,l2⟩ (by omega)
  have h1:=h.i.bot (b:=lowT s.L) ⟨l1,l2⟩ (by omega)
  have o2:=h1.o2
  rw [if_neg (by rw [b1];rintro (k | k) <;> cases k)]
  have htop:=hu (topT s.L).toNat (by omega)
  have hgrow:∀ i,i<n→(gx s.L i).er≤(gx (botS s (lowT s.L)).1.L i).er:=fun i hi=>by
   by_cases e1:i=(lowT s.L).toNat
   ·rw [e1,b4];omega
   ·rcases b5 with k | ⟨to,k1,k2,k3,k4,k5⟩
    ·rw [k i hi e1];exact Int.le_refl _
    ·by_cases e2:i=to
     ·rw [e2];exact k4
     ·rw [k3 i hi e1 e2];exact Int.le_refl _
  have hup:∀ i,i<n→(gx (botS s (lowT s.L)).1.L i).er≤M:=fun i hi=>by
   by_cases e1:i=(lowT s.L).toNat
   ·rw [e1,b4];omega
   ·rcases b5 with k | ⟨to,k1,k2,k3,k4,k5⟩
    ·rw [k i hi e1];exact hu i hi
    ·by_cases e2:i=to
     ·rw [e2]
      rcases hf with ⟨c,c1,c2,c3⟩ | hf
      ·have hpk:(gx s.L to).er≤(gx s.L c).er:=by
        have hcf:freeB (gx s.L c)=true:=by unfold freeB;rw [c2,hz.nb c c1];rfl
        rcases bestT_least (L:=s.L) (m:=fun _ x=>freeB x) (key:=fun x=>x.er) (ah:=fun x y=>decide (x.er<y.er)) (fun _ _=>rfl) n with ⟨-,q⟩ | ⟨a,q1,q2,q3,q4⟩
        ·have:=q c c1
         dsimp only at this
         rw [hcf] at this;cases this
        ·have ea:(to:Int)=(a:Int):=k2.trans q1
         have ea:to=a:=by omega
         rw [ea]
         exact (q4 c c1 hcf).1
       have:=c3 (lowT s.L).toNat (by omega)
       omega
      ·have:=hf to k1
       omega
     ·rw [k3 i hi e1 e2];exact hu i hi
  refine lvl_zf hw h0 (lo:=lo) k N1 b2 ((S1 fun _=>[]).gd hG) (hM.of h.i N1.i h1.sz) hup (.inl ⟨(lowT s.L).toNat,by omega,b3,fun i hi=>?_⟩) ?_ (by omega)
  ·rw [b4]
   have:=l3 i hi
   have:=hgrow i hi
   omega
  ·have:=sumE_lt (L:=s.L) (M:=(botS s (lowT s.L)).1.L) (b:=(lowT s.L).toNat) n (by omega) hgrow (by rw [b4];exact Int.le_refl _)
   push_cast at hs
   omega
theorem level_zf {wear:Int} (hw:1≤wear∧wear≤9) (h:NI g n s) (hz:ZI n s) (hG:GD n s) (hM:RM n s) (hby:byL s.L≤60) (ho:s.C.ops+825761280≤1000000000000) :
  (lvlS wear s).2=0∧unlB (lvlS wear s).1.L wear=false∧ZI n (lvlS wear s).1∧byL (lvlS wear s).1.L≤wear:=by
 have hno:=h.i.no
 have h0:0<n:=by
  have:=h.i.pi.R.2.2
  have:=h.i.pi.nn
  have hk:=h.i.pi.R.1
  unfold Kept at hk
  omega
 have hk:64*s.L.length≤3840:=by rw [h.i.ln];omega
 have hc:=lvC_le hk
 obtain ⟨N,-,e,-⟩:=lvl_ec h hG hw.1 ho
 have hby':=by_zf h.i.ln hz h0
 obtain ⟨⟨l1,l2⟩,l3,l4,l5⟩:=low_zf h.i.ln hz h0
 have key:unlB (lvlS wear s).1.L wear=false∧ZI n (lvlS wear s).1:=by
  unfold lvlS
  rw [if_neg (by omega)]
  refine lvl_zf (M:=(gx s.L (topT s.L).toNat).er+1) (lo:=0) hw.1 h0 (64*s.L.length) h hz hG hM (fun i hi=>by have:=l5 i hi;omega) (.inr fun i hi=>by have:=l5 i hi;omega) ?_ (by omega)
  have hlo:=(sumE_bd (L:=s.L) (lo:=(gx s.L (lowT s.L).toNat).er) (hi:=(gx s.L (topT s.L).toNat).er) n fun j hj=>⟨l3 j hj,l5 j hj⟩).1
  rw [h.i.ln]
  have hle:(gx s.L (topT s.L).toNat).er+1≤(gx s.L (lowT s.L).toNat).er+61:=by omega
  have h1:(n:Int)*((gx s.L (topT s.L).toNat).er+1)≤(n:Int)*((gx s.L (lowT s.L).toNat).er+61):=Int.mul_le_mul_of_nonneg_left hle (by omega)
  have h2:(n:Int)*((gx s.L (lowT s.L).toNat).er+61)=(n:Int)*(gx s.L (lowT s.L).toNat).er+(n:Int)*61:=Int.mul_add _ _ _
  rw [h2] at h1
  push_cast
  omega
 refine ⟨e.resolve_right fun k=>?_,key.1,key.2,?_⟩
 ·rw [key.2.ro] at k;cases k.2
 ·have:=key.1
  unfold unlB at this
  rw [decide_eq_true hw.1,Bool.true_and] at this
  have:=of_decide_eq_false this
  omega
theorem by_up {t:SD} (hs:ZI n s) (ht:ZI n t) (ls:s.L.length=n) (lt:t.L.length=n) (h0:0<n) {d:Int} (hu:ErU n d s.L t.L):byL t.L≤byL s.L+d:=by
 rw [by_zf lt ht h0,by_zf ls hs h0]
 obtain ⟨⟨a1,a2⟩,a3,⟨a4,a5⟩,a6⟩:=low_zf ls hs h0
 obtain ⟨⟨b1,b2⟩,b3,⟨b4,b5⟩,b6⟩:=low_zf lt ht h0
 have h1:=hu (topT t.L).toNat (by omega)
 have h2:=hu (lowT t.L).toNat (by omega)
 have h3:=a6 (topT t.L).toNat (by omega)
 have h4:=a3 (lowT t.L).toNat (by omega)
 omega
end
end Go.Proofs.YtbaojfchlhlaeaaGreat.Vc
namespace Go.Proofs.YtbaojfchlhlaeaaGreat.Vc
open Go Go.Eng
def law26_ReclaimLevels.A:Ann:=.two .no (.two .no (.two .no (.two .no (.two (.two .no (.one (.loop [4,8,28,29,30,31,32,33,34,35,36,37,38,39,40,41,42,43,44,45,46,47,48,49,50,51,52,53,54,55,56,57,58,59,60,61,62,63,64,65,66,67,68,69,70,71] [(8,.one (.int .i64))] (.two .no (.two (.one (.two (.two (.draw (.take 0 (.take 1 (.take 2 (.take 3 (.take 4 (.take 5 (.eff 6 (.take 7 (.done)))))))))) .no) (.two (.draw (.take 0 (.take 1 (.take 2 (.take 3 (.take 4 (.take 5 (.take 6 (.take 7 (.take 8 (.eff 9 (.take 10 (.take 11 (.take 12 (.take 13 (.eff 14 (.take 15 (.take 16 (.take 17 (.take 18 (.take 19 (.eff 20 (.take 21 (.take 22 (.take 23 (.take 26 (.eff 24 (.eff 25 (.take 27 (.take 28 (.done))))))))))))))))))))))))))))))) .no))) .no))))) .no))))
def law26_ReclaimLevels.P (p0_0 p0_1 p0_2 p0_3 p0_4 p0_5:Int) (a0_6:Option Addr) (n0_6 c0_6:Nat) (p0_7:Int) (a0_8:Option Addr) (n0_8 c0_8:Nat) (p1:Int) (w:World) (K:Bool×Unit→World→Prop):Prop:=
 NewV #[.int .i64 p0_0,.int .i64 p0_1,.int .i64 p0_2,.int .i64 p0_3,.int .i64 p0_4,.int .i64 p0_5,.slice a0_6 n0_6 c0_6,.int .i64 p0_7,.slice a0_8 n0_8 c0_8] 108 w fun b1 w2=>
 LoadA w2 ⟨b1,0,none⟩ [.int .i64,.int .i64,.int .i64,.int .i64,.int .i64,.int .i64,.sl,.int .i64,.sl] fun (x3:Int×Int×Int×Int×Int×Int×SlV×Int×SlV×Unit)=>
 CallV Tryz.prog 56 #[.agg #[.int .i64 x3.1,.int .i64 x3.2.1,.int .i64 x3.2.2.1,.int .i64 x3.2.2.2.1,.int .i64 x3.2.2.2.2.1,.int .i64 x3.2.2.2.2.2.1,.slice x3.2.2.2.2.2.2.1.a x3.2.2.2.2.2.2.1.n x3.2.2.2.2.2.2.1.c,.int .i64 x3.2.2.2.2.2.2.2.1,.slice x3.2.2.2.2.2.2.2.2.1.a x3.2.2.2.2.2.2.2.2.1.n x3.2.2.2.2.2.2.2.2.1.c]] w2 [.one .bool] fun (r4:Bool×Unit) w5=>
 cond (!r4.1)
 (CallV Tryz.prog 57 #[] w5 [.one .bool] fun (r6:Bool×Unit) w7=>
 K (r6.1,()) w7)
 (LoadS w5 ⟨b1,6,none⟩ .sl fun (x8:SlV)=>
 cond (decide (((x8.n:Nat):Int)>0))
 (CallV Tryz.prog 57 #[] w5 [.one .bool] fun (r9:Bool×Unit) w10=>
 K (r9.1,()) w10)
 (LoadA w5 ⟨b1,0,none⟩ [.int .i64,.int .i64,.int .i64,.int .i64,.int .i64,.int .i64,.sl,.int .i64,.sl] fun (x11:Int×Int×Int×Int×Int×Int×SlV×Int×SlV×Unit)=>
 CallV Tryz.prog 58 #[.agg #[.int .i64 x11.1,.int .i64 x11.2.1,.int .i64 x11.2.2.1,.int .i64 x11.2.2.2.1,.int .i64 x11.2.2.2.2.1,.int .i64 x11.2.2.2.2.2.1,.slice x11.2.2.2.2.2.2.1.a x11.2.2.2.2.2.2.1.n x11.2.2.2.2.2.2.1.c,.int .i64 x11.2.2.2.2.2.2.2.1,.slice x11.2.2.2.2.2.2.2.2.1.a x11.2.2.2.2.2.2.2.2.1.n x11.2.2.2.2.2.2.2.2.1.c]] w5 [.one .ptr,.one .ptr] fun (r12:(Option Addr)×(Option Addr)×Unit) w13=>
 9≠(0:Int) ∧
 Rng .i64 ((IntKind.i64.wrap (Int.tmod p1 9))+1) ∧
 LoopV [.one (.int .i64)] ((0:Int),()) w13 fun (z14:Int×Unit) w15 (K16:Int×Unit→World→Prop)=>
 LoadS w15 ⟨b1,8,none⟩ .sl fun (x17:SlV)=>
 cond (decide (z14.1<((x17.n:Nat):Int)))
 (DrawV fun D18=>
 (D18 b1∧LoadA w15.drew ⟨b1,0,none⟩ [.int .i64,.int .i64,.int .i64,.int .i64,.int .i64,.int .i64,.sl,.int .i64,.sl] fun (x19:Int×Int×Int×Int×Int×Int×SlV×Int×SlV×Unit)=>
 (D18 b1∧LoadS w15.drew ⟨b1,8,none⟩ .sl fun (x20:SlV)=>
 (0≤z14.1∧z14.1<((x20.n:Nat):Int))∧∃ q21:Addr,x20.a=some q21 ∧
 (D18 (q21.add (z14.1.toNat*1)).block∧LoadS w15.drew (q21.add (z14.1.toNat*1)) (.int .i64) fun (x22:Int)=>
 CallV Tryz.prog 59 #[.agg #[.int .i64 x19.1,.int .i64 x19.2.1,.int .i64 x19.2.2.1,.int .i64 x19.2.2.2.1,.int .i64 x19.2.2.2.2.1,.int .i64 x19.2.2.2.2.2.1,.slice x19.2.2.2.2.2.2.1.a x19.2.2.2.2.2.2.1.n x19.2.2.2.2.2.2.1.c,.int .i64 x19.2.2.2.2.2.2.2.1,.slice x19.2.2.2.2.2.2.2.2.1.a x19.2.2.2.2.2.2.2.2.1.n x19.2.2.2.2.2.2.2.2.1.c],.int .i64 x22] w15.drew [.one .bool] fun (r23:Bool×Unit) w24=>
 KeepOn D18 w15.drew w24 ∧
 cond (!r23.1)
 (Rng .i64 (z14.1+1) ∧
 K16 (z14.1+1,()) w24)
 (DrawV fun D25=>
 (D25 b1∧LoadA w24.drew ⟨b1,0,none⟩ [.int .i64,.int .i64,.int .i64,.int .i64,.int .i64,.int .i64] fun (x26:Int×Int×Int×Int×Int×Int×Unit)=>
 (D25 b1∧LoadS w24.drew ⟨b1,8,none⟩ .sl fun (x27:SlV)=>
 (0≤z14.1∧z14.1<((x27.n:Nat):Int))∧∃ q28:Addr,x27.a=some q28 ∧
 (D25 (q28.add (z14.1.toNat*1)).block∧LoadS w24.drew (q28.add (z14.1.toNat*1)) (.int .i64) fun (x29:Int)=>
 CallV Tryz.prog 60 #[.pointer r12.1,.agg #[.int .i64 x26.1,.int .i64 x26.2.1,.int .i64 x26.2.2.1,.int .i64 x26.2.2.2.1,.int .i64 x26.2.2.2.2.1,.int .i64 x26.2.2.2.2.2.1],.int .i64 x29,.int .i64 z14.1] w24.drew [.one (.int .i64)] fun (r30:Int×Unit) w31=>
 KeepOn D25 w24.drew w31 ∧
 cond (r30.1 != 0)
 (K (false,()) w31)
 (CallV Tryz.prog 66 #[.pointer r12.1,.int .i64 ((IntKind.i64.wrap (Int.tmod p1 9))+1)] w31 [.one (.int .i64)] fun (r32:Int×Unit) w33=>
 KeepOn D25 w24.drew w33 ∧
 cond (r32.1 != 0)
 (K (false,()) w33)
 (CallV Tryz.prog 62 #[.pointer r12.1,.int .i64 ((IntKind.i64.wrap (Int.tmod p1 9))+1)] w33 [.one .bool] fun (r34:Bool×Unit) w35=>
 KeepOn D25 w24.drew w35 ∧
 cond r34.1
 (K (false,()) w35)
 (CallV Tryz.prog 64 #[.pointer r12.1] w35 [.one .sl] fun (r36:SlV×Unit) w37=>
 KeepOn D25 w24.drew w37 ∧
 CallV Tryz.prog 63 #[.slice r36.1.a r36.1.n r36.1.c] w37 [.one (.int .i64)] fun (r38:Int×Unit) w39=>
 KeepOn D25 w24.drew w39 ∧
 cond (decide (r38.1>((IntKind.i64.wrap (Int.tmod p1 9))+1)))
 (K (false,()) w39)
 (Rng .i64 (z14.1+1) ∧
 K16 (z14.1+1,()) w39))))))))))))
 (LoadA w15 ⟨b1,0,none⟩ [.int .i64,.int .i64,.int .i64,.int .i64,.int .i64,.int .i64,.sl,.int .i64,.sl] fun (x40:Int×Int×Int×Int×Int×Int×SlV×Int×SlV×Unit)=>
 CallV Tryz.prog 67 #[.pointer r12.1,.pointer r12.2.1,.agg #[.int .i64 x40.1,.int .i64 x40.2.1,.int .i64 x40.2.2.1,.int .i64 x40.2.2.2.1,.int .i64 x40.2.2.2.2.1,.int .i64 x40.2.2.2.2.2.1,.slice x40.2.2.2.2.2.2.1.a x40.2.2.2.2.2.2.1.n x40.2.2.2.2.2.2.1.c,.int .i64 x40.2.2.2.2.2.2.2.1,.slice x40.2.2.2.2.2.2.2.2.1.a x40.2.2.2.2.2.2.2.2.1.n x40.2.2.2.2.2.2.2.2.1.c]] w15 [.one .bool] fun (r41:Bool×Unit) w42=>
 cond r41.1
 (CallV Tryz.prog 57 #[] w42 [.one .bool] fun (r43:Bool×Unit) w44=>
 K (r43.1,()) w44)
 (K (false,()) w42))))
theorem law26_ReclaimLevels.vc (p0_0 p0_1 p0_2 p0_3 p0_4 p0_5:Int) (a0_6:Option Addr) (n0_6 c0_6:Nat) (p0_7:Int) (a0_8:Option Addr) (n0_8 c0_8:Nat) (p1:Int) (w:World) (K:Bool×Unit→World→Prop) (h:law26_ReclaimLevels.P p0_0 p0_1 p0_2 p0_3 p0_4 p0_5 a0_6 n0_6 c0_6 p0_7 a0_8 n0_8 c0_8 p1 w K):CallV Tryz.prog 9 #[.agg #[.int .i64 p0_0,.int .i64 p0_1,.int .i64 p0_2,.int .i64 p0_3,.int .i64 p0_4,.int .i64 p0_5,.slice a0_6 n0_6 c0_6,.int .i64 p0_7,.slice a0_8 n0_8 c0_8],.int .u8 p1] w [.one .bool] K:=by
 refine vcFun.of (A:=law26_ReclaimLevels.A) (wr:=false) okf_ok follows h Tryz.func9 ?_
 kernel_rfl
end Go.Proofs.YtbaojfchlhlaeaaGreat.Vc
namespace Go.Proofs.YtbaojfchlhlaeaaGreat.Vc
open Go Go.Eng Go.RowKit
theorem Kp26.skip {g:Geo} {F:HasF} {ys:List Int} {z y:Int} (h:Kp26 g F ys z) (hy:¬ (0≤y∧y<z)):Kp26 g F (ys++[y]) z:=fun j hj=>by
 rw [lastT_new,if_neg (by omega)]
 exact h j hj
theorem s00_M26 {g:Geo} {pl:List FD} {X:List (SlP Ce)} {z:Int} (hX:New0 X z.toNat 0) (hz:fitE g [z]=0):RM (nG g) (s00 g pl X):=by
 obtain ⟨hR,hz',-,hs⟩:=fitE_zero.1 hz
 have a:=hz' z List.mem_cons_self
 have hk:=hR.1
 unfold Kept at hk
 unfold qs qs at hs
 have e:∀ m,capS (s00 g pl X) m=if m=0 then quo g z-1 else 0:=fun m=>by
  unfold capS quoS
  show (if (getX X m).n=0 then 0 else quo g ((getX X m).n:Int)-1)=_
  rw [hX.n]
  by_cases e0:m=0
  ·rw [if_pos e0,if_pos e0,if_neg (by omega),Int.toNat_of_nonneg (by omega)]
  ·rw [if_neg e0,if_neg e0]
   by_cases e1:m=1
   ·rw [if_pos e1,if_pos rfl]
   ·rw [if_neg e1,if_pos rfl]
 unfold RM
 rw [e,e,e,e]
 have hn:((nG g:Nat):Int)=g.b-4:=by unfold nG;omega
 rw [hn,if_pos rfl,if_neg (by decide),if_neg (by decide),if_neg (by decide)]
 omega
theorem lin_ints {w:World} {x:SlP Int} (h:LIn.rd w All x):Ints w .i64 x.a x.n x.c x.l:=by
 obtain ⟨h1,h2,h3,h4,-⟩:=h
 have hm:maxLen=9223372036854775807:=by decide
 refine ⟨h1,h2,by omega,?_⟩
 have e:∀ l:List Int,l.flatMap (Ty.vs (.int .i64))=l.map (Value.int .i64):=fun l=>by
  induction l with
  | nil=>rfl
  | cons x l ih=>
   show Value.int .i64 x::l.flatMap _=_
   rw [ih];rfl
 have:=h4.rdc
 rw [e] at this
 exact this
theorem ReclaimLevels_law {w:World} {g:Geo} {f:SlP TF.T} {st:SlP Int} {z wear:Int} (hw:0≤wear∧wear<256) (hf:LF.rd w All f) (hs:LIn.rd w All st) :
  CallV Tryz.prog 9 #[.agg (casV26 g f z ⟨st.a,st.n,st.c⟩).toArray,.int .u8 wear] w [.one .bool] fun r w'=>r.1=true∧Ext w w':=by
 apply law26_ReclaimLevels.vc
 unfold law26_ReclaimLevels.P
 have S:=Sep.start NoB w
 refine S.newB (vs:=casV26 g f z ⟨st.a,st.n,st.c⟩) fun b1 w1 S f1 _=>S.la0 rfl ?_
 refine (light26_c (g:=g) (f:=f) (z:=z) (st:=⟨st.a,st.n,st.c⟩) (Ty.rd_ext S.ext _ hf)).mono ?_
 rintro ⟨(r:Bool),⟨⟩⟩ w2 ⟨h2,x2⟩
 dsimp only at h2 ⊢
 have S:=S.stepE x2
 refine cond_of (fun hr=>?_) (fun hr=>?_)
 ·exact awake26_c.mono fun r w5 ⟨h5,x5⟩=>⟨h5,S.ext.trans x5⟩
 have hL:=h2 (by cases r;cases hr;rfl)
 refine S.ld0 (j:=6) rfl rfl (cond_d (fun hp=>?_) (fun hp=>?_))
 ·exact awake26_c.mono fun r w5 ⟨h5,x5⟩=>⟨h5,S.ext.trans x5⟩
 have hpl:fds f=[]:=by
  refine List.length_eq_zero_iff.1 ?_
  rw [LF_len hf]
  have hp:¬ ((f.n:Nat):Int)>0:=hp
  omega
 have hz:=(fitE_zero.1 hL.z).2.1 z List.mem_cons_self
 have hg:LG g:=⟨hL.b,by have:=hL.p;omega,hL.s⟩
 refine S.la0 rfl ?_
 refine (made26_c (g:=g) (f:=f) (z:=z) (st:=⟨st.a,st.n,st.c⟩) (Ty.rd_ext S.ext _ hf) hL.R hL.F hg hz).mono ?_
 rintro ⟨sv,cv,⟨⟩⟩ w4 ⟨sp,pp,pm,p,q,X,h1,h2,hX,S4⟩
 dsimp only at h1 h2 ⊢
 subst h1;subst h2
 have S:Sep NoB w w4 (stS sp pp pm p q g (s00 g (fds f) X) [BoxA b1 108 (casV26 g f z ⟨st.a,st.n,st.c⟩)]):=S.frame0 S4
 clear S4
 rw [hpl] at S
 obtain ⟨hI,hG⟩:NI g (nG g) (s00 g [] X)∧GD (nG g) (s00 g [] X):=s00_N hL.R hg (fun F hF=>(List.not_mem_nil hF).elim) hX (fun F hF=>(List.not_mem_nil hF).elim)
 have hK0:KE noF (s00 g [] X):=KE.new hX
 have hM0:RM (nG g) (s00 g [] X):=s00_M26 hX hL.z
 have hZ0:ZI (nG g) (s00 g [] X):=⟨rfl,rfl,fun i hi=>by rw [show gx (s00 g [] X).L i=Blk.new from rep_gx (nG g) hi];rfl⟩
 have hnG0:0<nG g:=by
  have:=hL.R.2.2
  have hk:=hL.R.1
  unfold Kept at hk
  unfold nG
  omega
 have hB0:byL (s00 g [] X).L≤9:=by
  rw [by_zf hI.i.ln hZ0 hnG0]
  obtain ⟨⟨a1,a2⟩,-,⟨a4,a5⟩,-⟩:=low_zf hI.i.ln hZ0 hnG0
  rw [show gx (s00 g [] X).L (topT (s00 g [] X).L).toNat=Blk.new from rep_gx (nG g) (by omega),show gx (s00 g [] X).L (lowT (s00 g [] X).L).toNat=Blk.new from rep_gx (nG g) (by omega)]
  decide
 have hl:st.l.length=st.n:=hs.1
 have hn:=hL.n
 have hwe:1≤IntKind.i64.wrap (Int.tmod wear 9)+1∧IntKind.i64.wrap (Int.tmod wear 9)+1≤9:=by
  have h1:Int.tmod wear 9=wear % 9:=Int.tmod_eq_emod_of_nonneg hw.1
  have h2:IntKind.i64.wrap (Int.tmod wear 9)=Int.tmod wear 9:=by
   rw [h1]
   exact i64_wrap (by omega) (by omega)
  omega
 generalize IntKind.i64.wrap (Int.tmod wear 9)+1=wr at hwe ⊢
 refine ⟨by decide,Rng.i64 (by omega) (by omega),?_⟩
 refine Loop1 (fun (v:Int×Unit) w'=>∃ (i:Nat) (t:SD) (F:HasF),v.1=(i:Int)∧i≤st.n∧NI g (nG g) t∧ZI (nG g) t∧GD (nG g) t∧RM (nG g) t∧KE F t∧Kp26 g F (st.l.take i) z∧byL t.L≤9∧t.ct≤(i:Int)∧t.C.ops≤opK26 i∧(∀ m,(getX t.X m).n=(getX X m).n) ∧
   Sep NoB w w' (stS sp pp pm p q g t [BoxA b1 108 (casV26 g f z ⟨st.a,st.n,st.c⟩)])) (fun (v:Int×Unit) _=>((st.n:Int)-v.1).toNat)
  ⟨0,s00 g [] X,noF,rfl,Nat.zero_le _,hI,hZ0,hG,hM0,hK0,by rw [List.take_zero];exact Kp26.nil g z,hB0,by show (0:Int)≤0;decide,Nat.zero_le _,fun _=>rfl,S⟩ ?_
 clear S hI hG hK0 hM0 hZ0 hB0
 rintro ⟨(v:Int),⟨⟩⟩ w8 ⟨i,t,F,hv,hi,ht,hZ,hG,hM,hK,hF,hB,hct,hop,hsz,S⟩
 dsimp only at hv
 subst hv
 refine S.ld5 (j:=8) rfl rfl (cond_d (fun hlt=>?_) (fun hge=>?_))
 ·have hlt:(i:Int)<((st.n:Nat):Int):=hlt
  have hos:=opK26s i
  have hol:=opK26_le (i:=i) (by omega)
  have hb0:=S.lt 5 rfl
  obtain ⟨qa,y,hq,hy,hc,hr,hGq,hqb⟩:=Ty.nth (LIn.rd_mono (G':=fun k=>k<w.heap.size) (fun k _ hk=>hk) hs) (i:=(i:Int)) (by omega) hlt (by decide)
  have hsz2:w.heap.size≤w8.heap.size:=S.ext.size
  have hy0:st.l[i]? = some y:=by rw [Int.toNat_natCast] at hy;exact hy
  have htk:st.l.take (i+1)=st.l.take i++[y]:=by
   have hil:i<st.l.length:=by omega
   rw [List.take_succ_eq_append_getElem hil]
   rw [List.getElem?_eq_getElem hil] at hy0
   rw [Option.some.inj hy0]
  refine S.reg fun D hD hkeep S' U=>?_
  refine ⟨hD _ hb0,S'.la5 rfl ⟨hD _ hb0,S'.ld5 (j:=8) rfl rfl ⟨⟨by omega,hlt⟩,qa,hq,by rw [add_block];exact hD _ (by omega),y,(S'.ext.cells hc).get (j:=0) rfl,?_⟩⟩⟩
  refine (right26_c (g:=g) (f:=f) (z:=z) (lba:=y) (st:=⟨st.a,st.n,st.c⟩)).mono ?_
  rintro ⟨(r:Bool),⟨⟩⟩ w9 ⟨h9,x9⟩
  dsimp only at h9 ⊢
  subst h9
  have S:=S'.stepE x9
  refine ⟨hkeep _ (U.stepE x9).fr,cond_of (fun hr=>?_) (fun hr=>?_)⟩
  ·have hny:¬ (0≤y∧y<z):=fun k=>by
    rw [decide_eq_true k.1,decide_eq_true k.2] at hr
    cases hr
   exact ⟨Rng.i64 (by omega) (by omega),⟨i+1,t,F,by push_cast;rfl,by omega,ht,hZ,hG,hM,hK,by rw [htk];exact hF.skip hny,hB,by push_cast;omega,by omega,hsz,S⟩,by omega⟩
  have hyz:0≤y∧y<z:=by
   have:(decide (0≤y) && decide (y<z))=true:=by
    cases h:(decide (0≤y) && decide (y<z))
    ·rw [h] at hr;cases hr
    ·rfl
   rw [Bool.and_eq_true] at this
   exact ⟨of_decide_eq_true this.1,of_decide_eq_true this.2⟩
  have S:Sep NoB w w9 ([boxSt sp pp pm g t,mapE pm t.X,polE pp p q g t.O,ledE q t.L,chipE p t.C]++[BoxA b1 108 (casV26 g f z ⟨st.a,st.n,st.c⟩)]):=S
  refine Sep.regC [boxSt sp pp pm g t,mapE pm t.X,polE pp p q g t.O,ledE q t.L,chipE p t.C] S fun G D hG2 T S hDt hDo hkeep back=>?_
  have T:Sep G w9.drew w9.drew (stS sp pp pm p q g t []):=T
  have hb:=hDt 0 _ _ _ rfl
  have hDq:=hDo _ hGq (fun x=>x)
  refine ⟨hb,S.lb5 (o:=0) rfl ⟨hb,S.ld5 (j:=8) rfl rfl ⟨⟨by omega,hlt⟩,qa,hq,by rw [add_block];exact hDq,y,(S.ext.cells hc).get (j:=0) rfl,?_⟩⟩⟩
  refine (write26_c (lba:=y) (k:=(i:Int)) ht.i (by omega) T).mono ?_
  rintro ⟨(r:Int),⟨⟩⟩ w10 ⟨h10,T⟩
  dsimp only at h10 T ⊢
  subst h10
  have hD2:=ht.i.do26 y (i:Int) (by omega)
  have o2:=hD2.o2
  have o3:(nxtS t (hd26 y)).1.C.ops=t.C.ops:=rfl
  have P:=ht.do26 (T:=fun _=>[]) hG y (i:Int) (by omega)
  obtain ⟨F',hK',hF',hct'⟩:=KE.do26 (z:=z) hK hF ht hG (lba:=y) (k:=(i:Int)) ⟨hyz.1,Int.le_trans (Int.le_of_lt hyz.2) hz.2⟩ (by rw [List.length_take];omega) (by omega) (by omega)
  have hsz':=hD2.sz
  have hN0:NI g (nG g) (nxtS t (hd26 y)).1:=⟨(ht.i.nxt (hd26 y)).2,ht.c⟩
  have hZN:ZI (nG g) (nxtS t (hd26 y)).1:=⟨hZ.pl,hZ.ro,hZ.nb⟩
  have hse:=ht.i.pi.R.sec
  have hpl26:(pl26 g (i:Int)).length=0∨((pl26 g (i:Int)).length:Int)=g.s:=.inr (by unfold pl26;rw [List.length_replicate];omega)
  have hrr:=nxt_rng ht.i (hd26_rng y)
  have hHR:HRight (nxtS t (hd26 y)).2:=⟨⟨by show (1:Int)≤1;decide,by show (1:Int)≤4;decide⟩,⟨by show (0:Int)≤0;decide,by show (0:Int)≤255;decide⟩,⟨by show (0:Int)≤1;decide,by show (1:Int)≤255;decide⟩⟩
  have hlw:(nxtS t (hd26 y)).2.l=y:=by
   show IntKind.u32.wrap y=y
   have hy1:=hyz.1
   have hy2:=Int.lt_of_lt_of_le hyz.2 hz.2
   rw [u32_wrap]
   exact Int.emod_eq_of_lt hy1 (Int.lt_trans hy2 (by decide))
  have hmay:mayP (nxtS t (hd26 y)).1 (nxtS t (hd26 y)).2:=by
   have hs0:(getX t.X 0).n=z.toNat:=by rw [hsz,hX.n,if_pos rfl]
   refine ⟨.inl rfl,by show (1:Int)≤1;decide,?_,?_⟩
   ·show (1:Int)≤((getX t.X 0).n:Int)
    rw [hs0];omega
   ·rw [hlw]
    show y≤((getX t.X 0).n:Int)-1
    rw [hs0]
    have:=hyz.2
    have h1:((z.toNat:Nat):Int)=z:=Int.toNat_of_nonneg (by omega)
    rw [h1]
    exact Int.le_sub_one_of_lt this
  obtain ⟨ok1,ok2⟩:=put_ok hrr hmay hHR (pl26_byt g (i:Int)) Byt.nil hpl26 (.inl rfl) hN0 hZN hG hM (by show t.C.ops+_≤_;omega)
  have hZ1:=put_zf hN0 hZN hG hM hrr (fun _=>hHR) (pl26_byt g (i:Int)) Byt.nil hpl26 (.inl rfl) (by show t.C.ops+_≤_;omega)
  have ok1:(Vc.do26 g t y (i:Int)).2=0:=ok1
  have ok2:ErU (nG g) 2 t.L (Vc.do26 g t y (i:Int)).1.L:=ok2
  have hZ1:ZI (nG g) (Vc.do26 g t y (i:Int)).1:=hZ1
  have hN1:=P.ni
  have hG1:=P.gd hG
  have hM1:RM (nG g) (Vc.do26 g t y (i:Int)).1:=hM.of ht.i hN1.i hsz'
  clear P hN0 hZN
  generalize Vc.do26 g t y (i:Int)=D2 at hD2 o2 hK' hF' hct' hsz' hN1 hG1 hM1 hZ1 ok1 ok2 T ⊢
  rw [if_pos ok1,← htk] at hF'
  have hby1:=by_up hZ hZ1 ht.i.ln hN1.i.ln hnG0 ok2
  refine ⟨hkeep _ T.fr,cond_f (by rw [ok1];rfl) ?_⟩
  obtain ⟨v1,v2,v3,v4⟩:=level_zf hwe hN1 hZ1 hG1 hM1 (by omega) (by omega)
  obtain ⟨N,SN,-,sT⟩:=lvl_ec hN1 hG1 hwe.1 (by omega)
  refine (Level26_c (wear:=wr) hN1.i (by omega) T).mono ?_
  rintro ⟨(r:Int),⟨⟩⟩ w11 ⟨h11,T⟩
  dsimp only at h11 T ⊢
  subst h11
  refine ⟨hkeep _ T.fr,cond_f (by rw [v1];rfl) ?_⟩
  have o4:=sT.o2
  generalize lvlS wr D2.1=D3 at v1 v2 v3 v4 N SN sT o4 T ⊢
  refine (Unlike26_c (wear:=wr) N.i T).mono ?_
  rintro ⟨(r:Bool),⟨⟩⟩ w12 ⟨h12,x12⟩
  dsimp only at h12 ⊢
  rw [v2] at h12
  subst h12
  have T:=T.stepE x12
  refine ⟨hkeep _ T.fr,cond_f rfl ?_⟩
  refine (blocks26_c N.i T).mono ?_
  rintro ⟨⟨ba,bn,bc⟩,⟨⟩⟩ w13 ⟨h13,T⟩
  dsimp only at h13 T ⊢
  subst h13
  refine ⟨hkeep _ T.fr,?_⟩
  have hln:=N.i.ln
  have T':=T
  rw [←hln] at T'
  have hdf:=Differ26_c (L:=D3.1.L) (a:=ba) (c:=bc) N.i.len6 N.i.er2 T'
  rw [hln] at hdf
  refine hdf.mono ?_
  rintro ⟨(r:Int),⟨⟩⟩ w14 ⟨h14,x14⟩
  dsimp only at h14 ⊢
  subst h14
  have T:=T.stepE x14
  refine ⟨hkeep _ T.fr,cond_f (decide_eq_false (by omega)) ?_⟩
  have S:Sep NoB w w14 (stS sp pp pm p q g D3.1 [BoxA b1 108 (casV26 g f z ⟨st.a,st.n,st.c⟩)]):=back _ _ T.tail
  exact ⟨Rng.i64 (by omega) (by omega),⟨i+1,D3.1,F',by push_cast;rfl,by omega,N,v3,(SN fun _=>[]).gd hG1,hM1.of hN1.i N.i sT.sz,hK'.st SN sT.ep sT.ct,hF',by omega,by rw [sT.ct,hct'];push_cast;omega,by omega,fun m=>(sT.sz m).trans ((hsz' m).trans (hsz m)),S⟩,by omega⟩
 have hge:¬ (i:Int)<((st.n:Nat):Int):=hge
 rw [List.take_of_length_le (by omega)] at hF
 refine S.la5 rfl ?_
 refine (kept26_c (f:=f) (ys:=st.l) (st:=⟨st.a,st.n,st.c⟩) ht.i ht.c.nf.1 hK (by rw [hsz,hX.n,if_pos rfl]) hz hF (fun w' S=>(lin_ints hs).ext S.ext) S).mono ?_
 rintro ⟨(r:Bool),⟨⟩⟩ w9 ⟨h9,S⟩
 dsimp only at h9 S ⊢
 subst h9
 refine cond_t rfl ?_
 exact awake26_c.mono fun r w10 ⟨h10,x10⟩=>⟨h10,S.ext.trans x10⟩
theorem ReclaimLevels_of {w:World} {x:TCs26.T} {wear:Int} (g0:TCs26.ok w x) (g1:Rng .u8 wear) :
  CallV Tryz.prog 9 #[.agg (TCs26.vs x).toArray,.int .u8 wear] w [.one .bool] fun r w'=>r.1=true∧Ext w w':=by
 obtain ⟨⟨b,p,s,sp,wr,ro,⟨⟩⟩,f,z,l,⟨⟩⟩:=x
 exact ReclaimLevels_law (g:=⟨b,p,s,sp,wr,ro⟩) (f:=f) (st:=l) (z:=z) (rng_u8 g1) (LF.rd_of g0.2.1) (LIn.rd_of g0.2.2.2.1)
end Go.Proofs.YtbaojfchlhlaeaaGreat.Vc
