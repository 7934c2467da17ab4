/- Texts in one: A plan of what Go's operations ask, as plain statements; partial frames, shapes of values, and the plan of one operation. What an operation that only reads yields, as a plain statement; and that the machine does so. The reading operations of the model, all of them: what they yield, and that the machine does so. Slicing, building, converting; the plan of any reading operation. The plan of any reading operation, in one word. The operations that make or write memory, and calls: their plan, and that the machine does so. The plan of a whole function's code, and that the machine follows it. The plan of code is followed by the machine; a function's contract out of its plan. Small laws on memory for proofs over plans: what stays, slices that are read, slices that a call owns. Laws of append, store and make on slices that a call owns. The functions that may be called, and the order in which regions run. The plans of functions as plain statements, printed by wip/tools/vcgen.py; the kernel holds each to the code. The contracts of layer 1 (octet): reading functions. Plain laws of numbers and lists for layer 1. The contracts of layer 1 (octet), numbers and fills. The contracts of layer 1 (octet): numbers out of bytes, both ways round. The contracts of layer 1 (octet): byte by byte. Values of several cells in memory of their own: read and written whole, and cell by cell. Plain laws of bits of bytes, for layer 12 (fault). -/
import Derived.WalkKit
import Derived.OrdersHeld
import Derived.Deep.AppendSrc
import Derived.Deep.Upon
import Derived.Laws.BytesString
import Derived.Deep.LoopGhost
import Derived.Scope
import Derived.Test.YtbaojfchlhlaeaaGreatProg
import Derived.KernelRfl
import Derived.SizedLaws
import Derived.ChangeSlices
import Derived.ChangeShapes
import Derived.ShutString
import Derived.ChangeArms
import Derived.DataReads
import Derived.OpenShut
import Derived.Test.YtbaojfchlhlaeaaGreatChecked
import Derived.Tactics
import Derived.Tactics2
import Derived.Laws.Small
import Derived.Laws.StructEq
import Derived.Laws.Tables
import Derived.WideKeyRuns
import Derived.Shelf.SlSortCmp.NoneTotal
import Derived.Shelf.SlSortCmp.SmallK
set_option linter.unusedVariables false
set_option linter.unusedSimpArgs false
namespace Go.Eng
open Go
def PF:=Nat->Option Value
def PF.empty:PF:=λ_=>none
def PF.put (f:PF) (d:Nat) (v:Value):PF:=λi=>cond (Nat.beq i d) (some v) (f i)
def PF.forget (f:PF) (ws:List Nat):PF:=λi=>cond (ws.elem i) none (f i)
def PF.ofList:Nat->List Value->PF
 | _,[]=>PF.empty
 | k,v::l=>(PF.ofList (k+1) l).put k v
structure Fits (n:Nat) (f:PF) (a:Act):Prop where
 size:a.tmps.size=n
 defers:a.defers=[]
 get:∀ i v,f i=some v->a.tmps[i]? = some v
def ev (f:PF):Operand->Option Value
 | .tmp t=>f t
 | .const v=>some v
 | .global g=>some (.pointer (some ⟨g,0,none⟩))
 | .func g=>some (.func (.func g) #[] #[])
theorem Fits.ev {n:Nat} {f:PF} {a:Act} (h:Fits n f a) {x:Operand} {v:Value} (he:ev f x=some v):a.eval x=v:=by
 cases x with
 | tmp t=>simp only [Eng.ev] at he;have:=h.get t v he;simp [Act.eval,this]
 | const u=>simp only [Eng.ev,Option.some.injEq] at he;subst he;rfl
 | global g=>simp only [Eng.ev,Option.some.injEq] at he;subst he;rfl
 | func g=>simp only [Eng.ev,Option.some.injEq] at he;subst he;rfl
theorem Fits.put {n:Nat} {f:PF} {a:Act} (h:Fits n f a) {d:Nat} (hd:d<n) (v:Value):Fits n (f.put d v) (a.put (some d) v):=by
 refine ⟨by simp [Act.put,h.size],by simp [Act.put,h.defers],λi u hu=>?_⟩
 simp only [Act.put]
 unfold PF.put at hu
 by_cases e:i=d
 ·subst e
  have hb:Nat.beq i i=true:=Nat.beq_refl i
  rw [hb] at hu
  simp only [cond_true,Option.some.injEq] at hu
  subst hu
  rw [Array.getElem?_setIfInBounds]
  simp [h.size,hd]
 ·have hb:Nat.beq i d=false:=by
   cases hb:Nat.beq i d
   ·rfl
   ·exact absurd (Nat.eq_of_beq_eq_true hb) e
  rw [hb] at hu
  simp only [cond_false] at hu
  rw [Array.getElem?_setIfInBounds,if_neg (λx=>e x.symm)]
  exact h.get i u hu
theorem Fits.forget {n:Nat} {f:PF} {a:Act} (h:Fits n f a) (ws:List Nat):Fits n (f.forget ws) a:=by
 refine ⟨h.size,h.defers,λi u hu=>?_⟩
 unfold PF.forget at hu
 cases hb:ws.elem i
 ·rw [hb] at hu;exact h.get i u hu
 ·rw [hb] at hu;cases hu
def setK (n:Nat) (f:PF) (dst:Option Nat) (v:Value) (K:PF->Prop):Prop:=
 match dst with
 | none=>K f
 | some d=>cond (Nat.blt d n) (K (f.put d v)) False
theorem setK.out {n:Nat} {f:PF} {a:Act} (h:Fits n f a) {dst:Option Nat} {v:Value} {K:PF->Prop} (hk:setK n f dst v K) :
  ∃ f',Fits n f' (a.put dst v)/\K f':=by
 cases dst with
 | none=>exact ⟨f,h,hk⟩
 | some d=>
  unfold setK at hk
  cases hb:Nat.blt d n
  ·simp only [hb,cond_false] at hk
  ·simp only [hb,cond_true] at hk
   exact ⟨f.put d v,h.put (by simpa [Nat.blt_eq] using hb) v,hk⟩
structure SlV where
 a:Option Addr
 n:Nat
 c:Nat
inductive SS where
 | int (k:IntKind) | bool | str | sl | ptr | map | fn | any
def SS.T:SS->Type
 | .int _=>Int
 | .bool=>Bool
 | .str=>ByteArray
 | .sl=>SlV
 | .ptr=>Option Addr
 | .map=>Option Nat
 | .fn=>FuncId×Array Value×Array Value
 | .any=>Value
def SS.v:(h:SS)->h.T->Value
 | .int k,x=>.int k x
 | .bool,x=>.bool x
 | .str,x=>.string x
 | .sl,x=>.slice (SlV.a x) (SlV.n x) (SlV.c x)
 | .ptr,x=>.pointer x
 | .map,x=>.map x
 | .fn,x=>.func (.func (Prod.fst x)) (Prod.fst (Prod.snd x)) (Prod.snd (Prod.snd x))
 | .any,x=>x
def SS.rd:(h:SS)->Value->Option h.T
 | .int k,.int k' x=>if k=k' then some x else none
 | .bool,.bool x=>some x
 | .str,.string x=>some x
 | .sl,.slice a n c=>some (⟨a,n,c⟩:SlV)
 | .ptr,.pointer x=>some x
 | .map,.map x=>some x
 | .fn,.func (.func g) fs cs=>some (g,fs,cs)
 | .any,x=>some x
 | _,_=>none
def Tup:List SS->Type
 | []=>Unit
 | h::t=>h.T×Tup t
def tupV:(l:List SS)->Tup l->List Value
 | [],_=>[]
 | h::t,x=>h.v x.1::tupV t x.2
def tupR:(l:List SS)->List Value->Option (Tup l)
 | [],[]=>some ()
 | h::t,v::vs=>
  match h.rd v,tupR t vs with
  | some x,some y=>some (x,y)
  | _,_=>none
 | _,_=>none
theorem SS.rd_v:∀ {h:SS} {v:Value} {x:h.T},h.rd v=some x->v=h.v x:=by
 intro h v x e
 cases h <;> cases v <;> first
  | (cases e;done)
  | (cases e;rfl)
  | (rename_i c fs cs;cases c <;> first | (cases e;done) | (cases e;rfl))
  | (simp only [SS.rd] at e;split at e;(rename_i hk;subst hk;cases e;rfl);(cases e))
theorem tupR_v:∀ {l:List SS} {vs:List Value} {x:Tup l},tupR l vs=some x->vs=tupV l x
 | [],[],_,_=>rfl
 | [],_::_,_,e=>by simp [tupR] at e
 | _::_,[],_,e=>by simp [tupR] at e
 | h::t,v::vs,x,e=>by
  simp only [tupR] at e
  cases h1:h.rd v with
  | none=>simp [h1] at e
  | some a=>
   cases h2:tupR t vs with
   | none=>simp [h1,h2] at e
   | some b=>
    simp only [h1,h2] at e
    cases e
    simp only [tupV]
    rw [<-tupR_v h2,SS.rd_v h1]
inductive Sh where
 | one (q:SS) | agg (l:List SS)
def Sh.T:Sh->Type
 | .one q=>q.T
 | .agg l=>Tup l
def Sh.v:(h:Sh)->h.T->Value
 | .one q,x=>q.v x
 | .agg l,x=>.agg (tupV l x).toArray
def Sh.rd:(h:Sh)->Value->Option h.T
 | .one q,v=>q.rd v
 | .agg l,.agg cs=>tupR l cs.toList
 | _,_=>none
theorem Sh.rd_v:∀ {h:Sh} {v:Value} {x:h.T},h.rd v=some x->v=h.v x
 | .one q,_,_,e=>SS.rd_v (h:=q) e
 | .agg l,.agg cs,x,e=>by
  have h:=tupR_v (l:=l) (vs:=cs.toList) (x:=x) e
  show Value.agg cs=.agg (tupV l x).toArray
  rw [<-h]
def RT:List Sh->Type
 | []=>Unit
 | h::t=>h.T×RT t
def valsR:(l:List Sh)->RT l->List Value
 | [],_=>[]
 | h::t,x=>h.v x.1::valsR t x.2
def packV:(l:List Sh)->RT l->Value
 | [h],x=>h.v x.1
 | l,x=>.tuple (valsR l x).toArray
def ssOf (d:Option TypeDesc):SS:=
 match d with
 | some (.int k)=>.int k
 | some .bool=>.bool
 | some .string=>.str
 | some (.slice _)=>.sl
 | some (.pointer _)=>.ptr
 | some (.map _ _)=>.map
 | some (.func _ _ _)=>.fn
 | _=>.any
def flat (P:Program):Nat->TypeId->List SS
 | 0,_=>[]
 | d+1,t=>
  match P.underlying t with
  | some (.struct fs)=>fs.toList.flatMap λf=>flat P d f.type
  | some (.array n e)=>(List.replicate n (flat P d e)).flatten
  | u=>[ssOf u]
def shT (P:Program) (t:TypeId):Sh:=
 match P.underlying t with
 | some (.struct fs)=>.agg (fs.toList.flatMap λf=>flat P 8 f.type)
 | some (.array n e)=>.agg (List.replicate n (flat P 8 e)).flatten
 | u=>.one (ssOf u)
def resSh (P:Program) (t:TypeId):List Sh:=
 match P.underlying t with
 | some (.tuple ts)=>ts.toList.map (shT P)
 | _=>[shT P t]
def CellsAt (w:World) (p:Addr) (vs:List Value):Prop:=∀ j v,vs[j]? = some v->w.cell? (p.add j)=some v
def Free (w:World) (p:Addr) (n:Nat):Prop:=∀ j,j<n->(w.cell? (p.add j)).isSome=true/\w.frozen? (p.add j)=false
def LoadS (w:World) (p:Addr) (h:SS) (K:h.T->Prop):Prop:=∃ x:h.T,w.cell? p=some (h.v x)/\K x
def LoadA (w:World) (p:Addr) (l:List SS) (K:Tup l->Prop):Prop:=∃ x:Tup l,CellsAt w p (tupV l x)/\K x
def NewV (c:Array Value) (e:TypeId) (w:World) (K:Nat->World->Prop):Prop:=∀ b w',b=w.heap.size->w'=w.alloc (.cells c e)->K b w'
def StoreV (w:World) (p:Addr) (vs:List Value) (K:World->Prop):Prop:=
 p.spot=none/\Free w p vs.length/\∀ w',w'=w.setCells p.block p.off vs->K w'
def CallV (P:Program) (f:FuncId) (args:Array Value) (w:World) (l:List Sh) (K:RT l->World->Prop):Prop:=
 Calls P f args w λe w'=>∃ x:RT l,e=.returned (packV l x)/\K x w'
def Rng (k:IntKind) (z:Int):Prop:=k.min<=z/\z<=k.max
theorem CallV.mono {P:Program} {f:FuncId} {args:Array Value} {w:World} {l:List Sh} {K K':RT l->World->Prop}
  (h:CallV P f args w l K) (hk:∀ x w',K x w'->K' x w'):CallV P f args w l K':=
 Calls.mono h λ_ _ ⟨x,he,hx⟩=>⟨x,he,hk _ _ hx⟩
def PtrK (a:Option Addr) (K:Addr->Prop):Prop:=match a with | some p=>K p | none=>False
theorem PtrK.of {a:Option Addr} {p:Addr} {K:Addr->Prop} (h:a=some p) (hk:K p):PtrK a K:=by subst h;exact hk
theorem PtrK.out {a:Option Addr} {K:Addr->Prop} (h:PtrK a K):∃ p,a=some p/\K p:=by
 cases a with
 | none=>exact h.elim
 | some p=>exact ⟨p,rfl,h⟩
def evL (f:PF):List Operand->Option (List Value)
 | []=>some []
 | x::xs=>
  match ev f x,evL f xs with
  | some v,some vs=>some (v::vs)
  | _,_=>none
theorem Fits.evL {n:Nat} {f:PF} {a:Act} (h:Fits n f a):∀ {xs:List Operand} {vs:List Value},Eng.evL f xs=some vs->xs.map a.eval=vs
 | [],_,e=>by simp [Eng.evL] at e;simp [<-e]
 | x::xs,vs,e=>by
  simp only [Eng.evL] at e
  cases h1:Eng.ev f x with
  | none=>simp [h1] at e
  | some v=>
   cases h2:Eng.evL f xs with
   | none=>simp [h1,h2] at e
   | some us=>
    simp only [h1,h2,Option.some.injEq] at e
    subst e
    simp [h.ev h1,h.evL h2]
def evP (f:PF):List (Nat×Operand)->Option (List (Nat×Value))
 | []=>some []
 | (i,x)::xs=>
  match ev f x,evP f xs with
  | some v,some vs=>some ((i,v)::vs)
  | _,_=>none
theorem Fits.evP {n:Nat} {f:PF} {a:Act} (h:Fits n f a):∀ {xs:List (Nat×Operand)} {vs:List (Nat×Value)},Eng.evP f xs=some vs->xs.map (λp=>(p.1,a.eval p.2))=vs
 | [],_,e=>by simp [Eng.evP] at e;simp [<-e]
 | (i,x)::xs,vs,e=>by
  simp only [Eng.evP] at e
  cases h1:Eng.ev f x with
  | none=>simp [h1] at e
  | some v=>
   cases h2:Eng.evP f xs with
   | none=>simp [h1,h2] at e
   | some us=>
    simp only [h1,h2,Option.some.injEq] at e
    subst e
    simp [h.ev h1,h.evP h2]
def arV (wr:Bool) (k:IntKind) (z:Int) (V:Value->Prop):Prop:=cond (wr || !k.signed) (V (.int k (k.wrap z))) (Rng k z/\V (.int k z))
theorem wrap_rng {k:IntKind} {z:Int} (h:Rng k z):k.wrap z=z:=by
 obtain ⟨h1,h2⟩:=h
 cases k <;> simp [IntKind.min,IntKind.max,IntKind.signed,IntKind.bits] at h1 h2 <;> simp [IntKind.wrap,IntKind.signed,IntKind.bits] <;> (try split) <;> omega
theorem arV.out {wr:Bool} {k:IntKind} {z:Int} {V:Value->Prop} (h:arV wr k z V):V (.int k (k.wrap z)):=by
 unfold arV at h
 cases hc:(wr || !k.signed)
 ·rw [hc] at h;simp only [cond_false] at h;rw [wrap_rng h.1];exact h.2
 ·rw [hc] at h;simpa only [cond_true] using h
def rInt (wr:Bool) (op:BinOp) (k k':IntKind) (x y:Int) (V:Value->Prop):Prop:=
 match op with
 | .shl=>0<=y/\V (.int k (k.wrap (x*2 ^ (Nat.min y.toNat k.bits))))
 | .shr=>0<=y/\V (.int k (x.fdiv (2 ^ (Nat.min y.toNat k.bits))))
 | .add=>cond (decide (k=k')) (arV wr k (x+y) V) False
 | .sub=>cond (decide (k=k')) (arV wr k (x-y) V) False
 | .mul=>cond (decide (k=k')) (arV wr k (x*y) V) False
 | .quo=>cond (decide (k=k')) (y≠0/\Rng k (x.tdiv y)/\V (.int k (x.tdiv y))) False
 | .rem=>cond (decide (k=k')) (y≠0/\V (.int k (x.tmod y))) False
 | .and=>cond (decide (k=k')) (V (.int k (Go.bits .and k x y))) False
 | .or=>cond (decide (k=k')) (V (.int k (Go.bits .or k x y))) False
 | .xor=>cond (decide (k=k')) (V (.int k (Go.bits .xor k x y))) False
 | .andNot=>cond (decide (k=k')) (V (.int k (Go.bits .andNot k x y))) False
 | .eql=>cond (decide (k=k')) (V (.bool (x == y))) False
 | .neq=>cond (decide (k=k')) (V (.bool (x != y))) False
 | .lss=>cond (decide (k=k')) (V (.bool (decide (x<y)))) False
 | .leq=>cond (decide (k=k')) (V (.bool (decide (x<=y)))) False
 | .gtr=>cond (decide (k=k')) (V (.bool (decide (x>y)))) False
 | .geq=>cond (decide (k=k')) (V (.bool (decide (x≥y)))) False
def rStr (op:BinOp) (x y:ByteArray) (V:Value->Prop):Prop:=
 match op with
 | .add=>((x.size+y.size:Nat):Int)<=9223372036854775807/\V (.string (x++y))
 | .eql=>V (.bool (x.toList == y.toList))
 | .neq=>V (.bool (!(x.toList == y.toList)))
 | _=>False
def eqP (op:BinOp) (r:Bool) (V:Value->Prop):Prop:=
 match op with
 | .eql=>V (.bool r)
 | .neq=>V (.bool (!r))
 | _=>False
def AggEq (P:Program) (t:TypeId) (xs ys:Array Value) (K:Bool->Prop):Prop:=
 ∃ r:Bool,(∀ w,(Op.equalIn 10000 t (.agg xs) (.agg ys)).run P w=.ok r w)/\P.eqGuardType P.depth t=false/\K r
def rBin (P:Program) (wr:Bool) (op:BinOp) (t:TypeId) (a b:Value) (V:Value->Prop):Prop:=
 match a,b with
 | .int k x,.int k' y=>rInt wr op k k' x y V
 | .string x,.string y=>rStr op x y V
 | .bool x,.bool y=>(match P.underlying t with | some .bool=>eqP op (x == y) V | _=>False)
 | .pointer x,.pointer none=>(match P.underlying t with | some (.pointer _)=>eqP op x.isNone V | _=>False)
 | .pointer none,.pointer y=>(match P.underlying t with | some (.pointer _)=>eqP op y.isNone V | _=>False)
 | .slice x _ _,.slice none _ _=>(match P.underlying t with | some (.slice _)=>eqP op x.isNone V | _=>False)
 | .map x,.map none=>(match P.underlying t with | some (.map _ _)=>eqP op x.isNone V | _=>False)
 | .agg xs,.agg ys=>AggEq P t xs ys λr=>eqP op r V
 | _,_=>False
theorem run_binOp_int {P:Program} {wr:Bool} {op:BinOp} {t:TypeId} {k k':IntKind} {x y:Int} {V:Value->Prop} (h:rInt wr op k k' x y V) :
  ∃ v,V v/\∀ w,(binOp op t (.int k x) (.int k' y)).run P w=.ok v w:=by
 cases op
 case shl=>exact ⟨_,h.2,λw=>by simp [binOp,Op.shift,Int.not_lt.2 h.1]⟩
 case shr=>exact ⟨_,h.2,λw=>by simp [binOp,Op.shift,Int.not_lt.2 h.1]⟩
 all_goals
  simp only [rInt] at h
  cases hk:decide (k=k')
  ·rw [hk] at h;exact h.elim
  rw [hk] at h
  simp only [cond_true] at h
  have hk:=of_decide_eq_true hk
  subst hk
 case add=>exact ⟨_,h.out,λw=>by simp [binOp,Op.intArith]⟩
 case sub=>exact ⟨_,h.out,λw=>by simp [binOp,Op.intArith]⟩
 case mul=>exact ⟨_,h.out,λw=>by simp [binOp,Op.intArith]⟩
 case quo=>exact ⟨_,h.2.2,λw=>by simp [binOp,Op.intDiv,h.1,wrap_rng h.2.1]⟩
 case rem=>exact ⟨_,h.2,λw=>by simp [binOp,Op.intDiv,h.1]⟩
 case and=>exact ⟨_,h,λw=>by simp [binOp,intBits_and]⟩
 case or=>exact ⟨_,h,λw=>by simp [binOp,intBits_or]⟩
 case xor=>exact ⟨_,h,λw=>by simp [binOp,intBits_xor]⟩
 case andNot=>exact ⟨_,h,λw=>by simp [binOp,intBits_andNot]⟩
 all_goals exact ⟨_,h,λw=>by simp [binOp,Op.intCmp]⟩
section
variable {P:Program} {t:TypeId} (w:World) (d:Nat)
theorem eqIn_bool (hu:P.underlying t=some .bool) (a b:Bool):(Op.equalIn (d+1) t (.bool a) (.bool b)).run P w=.ok (a == b) w:=by
 simp [Op.equalIn,run_underlying hu]
theorem eqIn_ptr {e:TypeId} (hu:P.underlying t=some (.pointer e)) (a:Option Addr):(Op.equalIn (d+1) t (.pointer a) (.pointer none)).run P w=.ok a.isNone w:=by
 cases a <;> simp [Op.equalIn,run_underlying hu]
theorem eqIn_ptr' {e:TypeId} (hu:P.underlying t=some (.pointer e)) (a:Option Addr):(Op.equalIn (d+1) t (.pointer none) (.pointer a)).run P w=.ok a.isNone w:=by
 simp [Op.equalIn,run_underlying hu]
theorem eqIn_sl {e:TypeId} (hu:P.underlying t=some (.slice e)) (a:Option Addr) (n c n' c':Nat):(Op.equalIn (d+1) t (.slice a n c) (.slice none n' c')).run P w=.ok a.isNone w:=by
 cases a <;> simp [Op.equalIn,run_underlying hu]
theorem eqIn_map {k e:TypeId} (hu:P.underlying t=some (.map k e)) (a:Option Nat):(Op.equalIn (d+1) t (.map a) (.map none)).run P w=.ok a.isNone w:=by
 cases a <;> simp [Op.equalIn,run_underlying hu]
theorem binOp_eq_of {op:BinOp} {x y:Value} {r:Bool} {V:Value->Prop} (h:eqP op r V) (hx:∀ k n,x≠.int k n) (hx2:∀ s,x≠.string s) (hx3:∀ k n,x≠.float k n) (hx4:∀ k n m,x≠.complex k n m)
  (he:∀ w,(Op.equalIn 10000 t x y).run P w=.ok r w):∃ v,V v/\∀ w,(binOp op t x y).run P w=.ok v w:=by
 cases op <;> simp only [eqP] at h
 case eql=>
  refine ⟨_,h,λw=>?_⟩
  have hb:binOp .eql t x y=(do pure (.bool (<-Op.equal t x y))):=by
   cases x <;> first | rfl | exact absurd rfl (hx _ _) | exact absurd rfl (hx2 _) | exact absurd rfl (hx3 _ _) | exact absurd rfl (hx4 _ _ _)
  rw [hb,Sem.run_bind]
  show ((Op.equalIn 10000 t x y).run P w).andThen _=_
  rw [he];rfl
 case neq=>
  refine ⟨_,h,λw=>?_⟩
  have hb:binOp .neq t x y=(do pure (.bool (!(<-Op.equal t x y)))):=by
   cases x <;> first | rfl | exact absurd rfl (hx _ _) | exact absurd rfl (hx2 _) | exact absurd rfl (hx3 _ _) | exact absurd rfl (hx4 _ _ _)
  rw [hb,Sem.run_bind]
  show ((Op.equalIn 10000 t x y).run P w).andThen _=_
  rw [he];rfl
end
theorem run_rBin {P:Program} {wr:Bool} {op:BinOp} {t:TypeId} {x y:Operand} {a b:Value} {V:Value->Prop} (h:rBin P wr op t a b V) :
  ∃ v,V v/\∀ w,(do eqGuard op t x y a b;binOp op t a b).run P w=.ok v w:=by
 have hg:∀ (a b:Value),(∀ xs ys,a=.agg xs->b≠.agg ys)->(a=.nilIface->b≠.nilIface)->∀ w,(eqGuard op t x y a b).run P w=.ok () w:=by
  clear h
  intro a b h1 h2 w
  cases op <;> try rfl
  all_goals
   cases a <;> cases b <;> first | rfl | exact absurd rfl (h2 rfl) | exact absurd rfl (h1 _ _ rfl)
 have fin:∀ {a b:Value},(∀ w,(eqGuard op t x y a b).run P w=.ok () w)->(∃ v,V v/\∀ w,(binOp op t a b).run P w=.ok v w) ->
   ∃ v,V v/\∀ w,(do eqGuard op t x y a b;binOp op t a b).run P w=.ok v w:=by
  rintro a b h1 ⟨v,hv,h2⟩
  exact ⟨v,hv,λw=>by rw [Sem.run_bind,h1];exact h2 w⟩
 unfold rBin at h
 split at h
 ·exact fin (hg _ _ (by simp) (by simp)) (run_binOp_int h)
 ·rename_i x' y'
  refine fin (hg _ _ (by simp) (by simp)) ?_
  cases op <;> simp only [rStr] at h
  case add=>
   refine ⟨_,h.2,λw=>?_⟩
   have h1:¬ ((x'.size+y'.size:Nat):Int)>IntKind.i64.max:=by
    have:=h.1
    simp [IntKind.max,IntKind.signed,IntKind.bits] at *
    omega
   simp only [binOp,Op.stringOp,if_neg h1]
   rfl
  case eql=>exact ⟨_,h,λw=>by simp [binOp,Op.stringOp]⟩
  case neq=>exact ⟨_,h,λw=>by simp [binOp,Op.stringOp]⟩
 ·split at h
  ·rename_i hu
   exact fin (hg _ _ (by simp) (by simp)) (binOp_eq_of h (by simp) (by simp) (by simp) (by simp) λw=>eqIn_bool w 9999 hu _ _)
  ·exact h.elim
 ·split at h
  ·rename_i hu
   exact fin (hg _ _ (by simp) (by simp)) (binOp_eq_of h (by simp) (by simp) (by simp) (by simp) λw=>eqIn_ptr w 9999 hu _)
  ·exact h.elim
 ·split at h
  ·rename_i hu
   exact fin (hg _ _ (by simp) (by simp)) (binOp_eq_of h (by simp) (by simp) (by simp) (by simp) λw=>eqIn_ptr' w 9999 hu _)
  ·exact h.elim
 ·split at h
  ·rename_i hu
   exact fin (hg _ _ (by simp) (by simp)) (binOp_eq_of h (by simp) (by simp) (by simp) (by simp) λw=>eqIn_sl w 9999 hu _ _ _ _ _)
  ·exact h.elim
 ·split at h
  ·rename_i hu
   exact fin (hg _ _ (by simp) (by simp)) (binOp_eq_of h (by simp) (by simp) (by simp) (by simp) λw=>eqIn_map w 9999 hu _)
  ·exact h.elim
 ·obtain ⟨r,hr,hgd,h⟩:=h
  refine fin (λw=>run_eqGuard_agg w op t x y _ _ hgd) (binOp_eq_of h (by simp) (by simp) (by simp) (by simp) hr)
 ·exact h.elim
def rUn (wr:Bool) (op:UnOp) (a:Value) (V:Value->Prop):Prop:=
 match op,a with
 | .neg,.int k x=>arV wr k (0-x) V
 | .xor,.int k x=>V (.int k (Go.bits .xor k (if k.signed then -1 else k.max) x))
 | .not,.bool b=>V (.bool (!b))
 | _,_=>False
theorem run_rUn {P:Program} {wr:Bool} {op:UnOp} {a:Value} {V:Value->Prop} (h:rUn wr op a V) :
  ∃ v,V v/\∀ w,(Op.unary op a).run P w=.ok v w:=by
 unfold rUn at h
 split at h
 ·exact ⟨_,h.out,λw=>by simp [Op.unary,Op.intArith]⟩
 ·exact ⟨_,h,λw=>by simp [Op.unary,intBits_xor]⟩
 ·exact ⟨_,h,λw=>by simp [Op.unary]⟩
 ·exact h.elim
def szOf (P:Program) (t:TypeId):Option Nat:=(P.info? t).map (·.size)
theorem run_sizeOf' {P:Program} {t:TypeId} {n:Nat} (h:szOf P t=some n) (w:World):(sizeOf t).run P w=.ok n w:=by
 unfold szOf at h
 cases hi:P.info? t with
 | none=>simp [hi] at h
 | some i=>simp [hi] at h;subst h;simp [sizeOf,typeInfo,program,Sem.run,hi]
def isAggD:TypeDesc->Bool
 | .struct _ | .array _ _=>true
 | _=>false
theorem run_isAgg' {P:Program} {t:TypeId} {d:TypeDesc} (h:P.underlying t=some d) (w:World):(isAgg t).run P w=.ok (isAggD d) w:=by
 cases d <;> simp [isAgg,run_underlying h,isAggD]
def Grd:=Addr->Prop->Prop
def Grd.no:Grd:=λ_ X=>X
def Grd.on (D:Nat->Prop):Grd:=λp X=>D p.block/\X
def Grd.Ok (G:Grd) (w0 w:World):Prop:=∀ p X,G p X->X/\w.heap[p.block]? = w0.heap[p.block]?
theorem Grd.Ok.no (w:World):Grd.no.Ok w w:=λ_ _ h=>⟨h,rfl⟩
theorem cell_same {w w':World} {p:Addr} (h:w'.heap[p.block]? = w.heap[p.block]?):w'.cell? p=w.cell? p:=by
 unfold World.cell?;rw [h]
theorem add_block (p:Addr) (j:Nat):(p.add j).block=p.block:=by unfold Addr.add;split <;> rfl
theorem cells_same {w w':World} {p:Addr} {vs:List Value} (h:w'.heap[p.block]? = w.heap[p.block]?) (hc:CellsAt w p vs):CellsAt w' p vs:=
 λj v hv=>(cell_same (p:=p.add j) (by rw [add_block];exact h)).trans (hc j v hv)
def rLoad (P:Program) (t:TypeId) (G:Grd) (w:World) (p:Addr) (V:Value->Prop):Prop:=
 match P.underlying t,szOf P t with
 | some (.struct fs),some n=>(match flat P 8 t with | l=>cond (Nat.beq l.length n) (G p (LoadA w p l λx=>V (.agg (tupV l x).toArray))) False)
 | some (.array k e),some n=>(match flat P 8 t with | l=>cond (Nat.beq l.length n) (G p (LoadA w p l λx=>V (.agg (tupV l x).toArray))) False)
 | some d,some n=>G p (LoadS w p (ssOf (some d)) λx=>V ((ssOf (some d)).v x))
 | _,_=>False
theorem tupV_length:∀ (l:List SS) (x:Tup l),(tupV l x).length=l.length
 | [],_=>rfl
 | _::t,x=>by simp [tupV,tupV_length t x.2]
theorem run_loadVar_agg {P:Program} {t:TypeId} {d:TypeDesc} (hu:P.underlying t=some d) (hd:isAggD d=true) {n:Nat} (hs:szOf P t=some n) {w:World} {p:Addr} {vs:List Value} (hl:vs.length=n) (hc:CellsAt w p vs) :
  (loadVar t p).run P w=.ok (.agg vs.toArray) w:=by
 subst hl
 simp [loadVar,run_isAgg' hu,hd,run_sizeOf' hs,run_loadCells_list w p vs hc]
theorem run_loadVar_one {P:Program} {t:TypeId} {d:TypeDesc} (hu:P.underlying t=some d) (hd:isAggD d=false) {w:World} {p:Addr} {v:Value} (hc:w.cell? p=some v) :
  (loadVar t p).run P w=.ok v w:=by
 simp [loadVar,run_isAgg' hu,hd,load,Sem.run,hc]
theorem run_rLoad {P:Program} {t:TypeId} {G:Grd} {w0:World} {p:Addr} {V:Value->Prop} (h:rLoad P t G w0 p V) {S:World->Prop} (hS:∃ w,S w) (hG:∀ w,S w->G.Ok w0 w) :
  ∃ v,V v/\∀ w,S w->(loadVar t p).run P w=.ok v w:=by
 obtain ⟨ws,hws⟩:=hS
 unfold rLoad at h
 cases hu:P.underlying t with
 | none=>simp [hu] at h
 | some d=>
  cases hs:szOf P t with
  | none=>cases d <;> simp [hu,hs] at h
  | some n=>
   have agg:∀ (hd:isAggD d=true),(cond (Nat.beq (flat P 8 t).length n) (G p (LoadA w0 p (flat P 8 t) λx=>V (.agg (tupV (flat P 8 t) x).toArray))) False) ->
     ∃ v,V v/\∀ w,S w->(loadVar t p).run P w=.ok v w:=by
    intro hd h
    cases hb:Nat.beq (flat P 8 t).length n
    ·rw [hb] at h;exact h.elim
    ·rw [hb] at h
     obtain ⟨x,hc,hv⟩:=(hG ws hws p _ h).1
     exact ⟨_,hv,λw hk=>run_loadVar_agg hu hd hs (by rw [tupV_length];exact Nat.eq_of_beq_eq_true hb) (cells_same (hG w hk p _ h).2 hc)⟩
   have one:∀ (hd:isAggD d=false),(G p (LoadS w0 p (ssOf (some d)) λx=>V ((ssOf (some d)).v x))) ->
     ∃ v,V v/\∀ w,S w->(loadVar t p).run P w=.ok v w:=by
    intro hd h
    obtain ⟨x,hc,hv⟩:=(hG ws hws p _ h).1
    exact ⟨_,hv,λw hk=>run_loadVar_one hu hd (by rw [cell_same (hG w hk p _ h).2];exact hc)⟩
   cases d <;> simp only [hu,hs] at h <;> first | exact agg rfl h | exact one rfl h
def fieldK (P:Program) (s:TypeId) (j:Nat) (K:Nat->TypeId->Prop):Prop:=
 match P.underlying s with
 | some (.struct fs)=>
  match fs.toList[j]? with
  | some fd=>K fd.offset fd.type
  | none=>False
 | _=>False
theorem run_fieldAt' {P:Program} {s:TypeId} {j:Nat} {p:Addr} {V:Value->Prop}
  (h:fieldK P s j λoff ft=>match szOf P ft with | some (n+1)=>V (.pointer (some (p.add off))) | _=>False) :
  ∃ v,V v/\∀ w,(Instr.fieldAt s (.pointer (some p)) j).run P w=.ok v w:=by
 unfold fieldK at h
 split at h
 ·rename_i fs hu
  split at h
  ·rename_i fd hf
   split at h
   ·rename_i n hs
    refine ⟨_,h,λw=>?_⟩
    have hf':fs[j]? = some fd:=by rw [<-Array.getElem?_toList];exact hf
    simp [Instr.fieldAt,run_underlying hu,hf',Instr.sureAddr,fieldPlace,run_sizeOf' hs]
   ·exact h.elim
  ·exact h.elim
 ·exact h.elim
def rIndexAt (P:Program) (t:TypeId) (x ix:Value) (V:Value->Prop):Prop:=
 match P.underlying t,x,ix with
 | some (.slice e),.slice a n _,.int _ i=>
  (match szOf P e with
   | some sz=>(0<=i/\i<(n:Int))/\∃ q,a=some q/\V (.pointer (some (q.add (i.toNat*sz))))
   | none=>False)
 | some (.array n e),.pointer a,.int _ i=>
  PtrK a λp=>(match szOf P e with
   | some sz=>(0<=i/\i<(n:Int))/\V (.pointer (some (p.add (i.toNat*sz))))
   | none=>False)
 | _,_,_=>False
theorem run_rIndexAt {P:Program} {t:TypeId} {x ix:Value} {V:Value->Prop} (h:rIndexAt P t x ix V) :
  ∃ v,V v/\∀ w,(Instr.indexAt t x ix).run P w=.ok v w:=by
 unfold rIndexAt at h
 split at h
 ·rename_i hu
  split at h
  ·rename_i sz hs
   obtain ⟨hb,q,rfl,hv⟩:=h
   exact ⟨_,hv,λw=>by simp [Instr.indexAt,asIntOf,run_underlying hu,hb,run_sizeOf' hs]⟩
  ·exact h.elim
 ·rename_i hu
  obtain ⟨p,rfl,h2⟩:=h.out
  have h:=h2
  split at h
  ·rename_i sz hs
   obtain ⟨hb,hv⟩:=h
   exact ⟨_,hv,λw=>by simp [Instr.indexAt,asIntOf,run_underlying hu,Instr.sureAddr,hb,run_sizeOf' hs]⟩
  ·exact h.elim
 ·exact h.elim
def partK (P:Program) (t:TypeId) (cs:List Value) (off:Nat) (V:Value->Prop):Prop:=
 match P.underlying t,szOf P t with
 | some (.struct _),some n=>V (.agg ((cs.drop off).take n).toArray)
 | some (.array _ _),some n=>V (.agg ((cs.drop off).take n).toArray)
 | some _,some _=>(match cs[off]? with | some v=>V v | none=>False)
 | _,_=>False
theorem run_partK {P:Program} {t:TypeId} {cs:Array Value} {off:Nat} {V:Value->Prop} (h:partK P t cs.toList off V) :
  ∃ v,V v/\∀ w,(part t cs off).run P w=.ok v w:=by
 unfold partK at h
 cases hu:P.underlying t with
 | none=>simp [hu] at h
 | some d=>
  cases hs:szOf P t with
  | none=>cases d <;> simp [hu,hs] at h
  | some n=>
   have agg:∀ (hd:isAggD d=true),V (.agg ((cs.toList.drop off).take n).toArray)->∃ v,V v/\∀ w,(part t cs off).run P w=.ok v w:=by
    intro hd h
    refine ⟨_,h,λw=>?_⟩
    have he:cs.extract off (off+n)=((cs.toList.drop off).take n).toArray:=by
     apply Array.ext'
     simp [Array.toList_extract,List.extract_eq_take_drop]
    simp [part,run_isAgg' hu,hd,run_sizeOf' hs,he]
   have one:∀ (hd:isAggD d=false),(match cs.toList[off]? with | some v=>V v | none=>False)->∃ v,V v/\∀ w,(part t cs off).run P w=.ok v w:=by
    intro hd h
    split at h
    ·rename_i v hc
     refine ⟨_,h,λw=>?_⟩
     have hc':cs[off]? = some v:=by rw [<-Array.getElem?_toList];exact hc
     simp [part,run_isAgg' hu,hd,hc']
    ·exact h.elim
   cases d <;> simp only [hu,hs] at h <;> first | exact agg rfl h | exact one rfl h
def rIndex (P:Program) (t:TypeId) (x ix:Value) (V:Value->Prop):Prop:=
 match P.underlying t,x,ix with
 | some (.array n e),.agg cs,.int _ i=>
  (match P.underlying e,szOf P e with
   | some (.struct _),some sz=>(0<=i/\i<(n:Int))/\∃ y:Tup (flat P 8 e),((cs.toList.drop (i.toNat*sz)).take sz)=tupV _ y/\V (.agg (tupV _ y).toArray)
   | some (.array _ _),some sz=>(0<=i/\i<(n:Int))/\∃ y:Tup (flat P 8 e),((cs.toList.drop (i.toNat*sz)).take sz)=tupV _ y/\V (.agg (tupV _ y).toArray)
   | some d,some sz=>(0<=i/\i<(n:Int))/\∃ y:(ssOf (some d)).T,cs.toList[i.toNat*sz]? = some ((ssOf (some d)).v y)/\V ((ssOf (some d)).v y)
   | _,_=>False)
 | some .string,.string s,.int _ i=>(0<=i/\i<(s.size:Int))/\∃ b:UInt8,s[i.toNat]? = some b/\V (.int .u8 b.toNat)
 | _,_,_=>False
theorem run_rIndex {P:Program} {t:TypeId} {x ix:Value} {V:Value->Prop} (h:rIndex P t x ix V) :
  ∃ v,V v/\∀ w,(Instr.index t x ix).run P w=.ok v w:=by
 unfold rIndex at h
 split at h
 ·rename_i n e cs k i hu
  cases hue:P.underlying e with
  | none=>simp [hue] at h
  | some d=>
   cases hs:szOf P e with
   | none=>cases d <;> simp [hue,hs] at h
   | some sz=>
    have agg:∀ (hd:isAggD d=true),((0<=i/\i<(n:Int))/\∃ y:Tup (flat P 8 e),((cs.toList.drop (i.toNat*sz)).take sz)=tupV _ y/\V (.agg (tupV _ y).toArray)) ->
      ∃ v,V v/\∀ w,(Instr.index t (.agg cs) (.int k i)).run P w=.ok v w:=by
     rintro hd ⟨hb,y,hy,hv⟩
     have hp:partK P e cs.toList (i.toNat*sz) (λu=>u=.agg (tupV _ y).toArray):=by
      unfold partK
      cases d <;> simp only [isAggD,Bool.false_eq_true] at hd <;> simp only [hue,hs,hy]
     obtain ⟨v,rfl,hr⟩:=run_partK hp
     exact ⟨_,hv,λw=>by simp [Instr.index,asIntOf,run_underlying hu,hb,run_sizeOf' hs,hr]⟩
    have one:∀ (hd:isAggD d=false),((0<=i/\i<(n:Int))/\∃ y:(ssOf (some d)).T,cs.toList[i.toNat*sz]? = some ((ssOf (some d)).v y)/\V ((ssOf (some d)).v y)) ->
      ∃ v,V v/\∀ w,(Instr.index t (.agg cs) (.int k i)).run P w=.ok v w:=by
     rintro hd ⟨hb,y,hy,hv⟩
     have hp:partK P e cs.toList (i.toNat*sz) (λu=>u=(ssOf (some d)).v y):=by
      unfold partK
      cases d <;> simp only [isAggD,Bool.true_eq_false] at hd <;> simp only [hue,hs,hy]
     obtain ⟨v,rfl,hr⟩:=run_partK hp
     exact ⟨_,hv,λw=>by simp [Instr.index,asIntOf,run_underlying hu,hb,run_sizeOf' hs,hr]⟩
    cases d <;> simp only [hue,hs] at h <;> first | exact agg rfl h | exact one rfl h
 ·rename_i s k i hu
  obtain ⟨hb,b,hs,hv⟩:=h
  exact ⟨_,hv,λw=>by simp [Instr.index,asIntOf,run_underlying hu,hb.1,hs]⟩
 ·exact h.elim
def optI (f:PF):Option Operand->Option (Option Int)
 | none=>some none
 | some x=>match ev f x with | some (.int _ i)=>some (some i) | _=>none
theorem Fits.optI {n:Nat} {f:PF} {a:Act} (h:Fits n f a) {x:Option Operand} {r:Option Int} (e:Eng.optI f x=some r) :
  (r=none/\x.map a.eval=none)\/∃ i k,r=some i/\x.map a.eval=some (.int k i):=by
 cases x with
 | none=>simp [Eng.optI] at e;exact .inl ⟨e.symm,rfl⟩
 | some o=>
  simp only [Eng.optI] at e
  split at e
  ·rename_i k i he
   simp only [Option.some.injEq] at e
   exact .inr ⟨i,k,e.symm,by simp [h.ev he]⟩
  ·cases e
def bndK (len cap:Nat) (lo hi mx:Option Int) (K:Nat->Nat->Nat->Prop):Prop:=
 match mx,hi,lo with
 | some m,some h,some l=>(0<=l/\l<=h/\h<=m/\m<=(cap:Int))/\K l.toNat h.toNat m.toNat
 | some m,some h,none=>(0<=h/\h<=m/\m<=(cap:Int))/\K 0 h.toNat m.toNat
 | none,some h,some l=>(0<=l/\l<=h/\h<=(cap:Int))/\K l.toNat h.toNat cap
 | none,some h,none=>(0<=h/\h<=(cap:Int))/\K 0 h.toNat cap
 | none,none,some l=>(0<=l/\l<=(len:Int))/\K l.toNat len cap
 | none,none,none=>K 0 len cap
 | some _,none,_=>False
theorem run_sliceBound {P:Program} {k:IntKind} {i:Int} {y:Nat} {c:BoundsCode} (h0:0<=i) (h1:i<=(y:Int)) (w:World) :
  (Instr.sliceBound (.int k i) y c).run P w=.ok i.toNat w:=by
 simp [Instr.sliceBound,asIntOf,h0,h1]
theorem run_bounds {P:Program} {f:PF} {n:Nat} {a:Act} (hf:Fits n f a) {b:Bool} {len cap:Nat} {lo hi mx:Option Operand} {l h m:Option Int}
  (el:optI f lo=some l) (eh:optI f hi=some h) (em:optI f mx=some m) {K:Nat->Nat->Nat->Prop} (hk:bndK len cap l h m K) :
  ∃ l' h' m',K l' h' m'/\∀ w,(Instr.sliceBounds b len cap (lo.map a.eval) (hi.map a.eval) (mx.map a.eval)).run P w=.ok (l',h',m') w:=by
 rcases hf.optI el with ⟨rfl,e1⟩ | ⟨i,k,rfl,e1⟩ <;> rcases hf.optI eh with ⟨rfl,e2⟩ | ⟨j,k2,rfl,e2⟩ <;> rcases hf.optI em with ⟨rfl,e3⟩ | ⟨q,k3,rfl,e3⟩ <;> simp only [bndK] at hk
 ·exact ⟨_,_,_,hk,λw=>by rw [e1,e2,e3];rfl⟩
 ·obtain ⟨⟨h1,h2⟩,hk⟩:=hk
  refine ⟨_,_,_,hk,λw=>?_⟩
  rw [e1,e2,e3]
  simp only [Instr.sliceBounds,Sem.run_bind,Sem.run_pure,Result.andThen_ok,run_sliceBound h1 h2]
 ·obtain ⟨⟨h1,h2,h3⟩,hk⟩:=hk
  refine ⟨_,_,_,hk,λw=>?_⟩
  rw [e1,e2,e3]
  simp only [Instr.sliceBounds,Sem.run_bind,Sem.run_pure,Result.andThen_ok,run_sliceBound (show 0<=q by omega) h3,run_sliceBound (y:=q.toNat) h1 (by omega)]
 ·obtain ⟨⟨h1,h2⟩,hk⟩:=hk
  refine ⟨_,_,_,hk,λw=>?_⟩
  rw [e1,e2,e3]
  simp only [Instr.sliceBounds,Sem.run_bind,Sem.run_pure,Result.andThen_ok,run_sliceBound h1 h2]
 ·obtain ⟨⟨h1,h2,h3⟩,hk⟩:=hk
  refine ⟨_,_,_,hk,λw=>?_⟩
  rw [e1,e2,e3]
  simp only [Instr.sliceBounds,Sem.run_bind,Sem.run_pure,Result.andThen_ok,run_sliceBound (show 0<=j by omega) h3,run_sliceBound (y:=j.toNat) h1 (by omega)]
 ·obtain ⟨⟨h1,h2,h3,h4⟩,hk⟩:=hk
  refine ⟨_,_,_,hk,λw=>?_⟩
  rw [e1,e2,e3]
  simp only [Instr.sliceBounds,Sem.run_bind,Sem.run_pure,Result.andThen_ok,run_sliceBound (show 0<=q by omega) h4,run_sliceBound (y:=q.toNat) (show 0<=j by omega) (by omega),run_sliceBound (y:=j.toNat) h1 (by omega)]
def SubK (a:Option Addr) (l m sz:Nat) (K:Option Addr->Prop):Prop:=∀ a',a'=(if m=l then a else a.map (·.add (l*sz)))->K a'
def rSlice (P:Program) (t:TypeId) (x:Value) (lo hi mx:Option Int) (V:Value->Prop):Prop:=
 match P.underlying t,x with
 | some (.slice e),.slice a n c=>
  (match szOf P e with
   | some sz=>bndK n c lo hi mx λl h m=>SubK a l m sz λa'=>V (.slice a' (h-l) (m-l))
   | none=>False)
 | some (.array n e),.pointer a=>
  PtrK a λp=>(match szOf P e with
   | some sz=>bndK n n lo hi mx λl h m=>SubK (some p) l m sz λa'=>V (.slice a' (h-l) (m-l))
   | none=>False)
 | some .string,.string s=>
  (match mx with
   | none=>bndK s.size s.size lo hi none λl h _=>V (.string (s.extract l h))
   | some _=>False)
 | _,_=>False
theorem run_rSlice {P:Program} {f:PF} {n:Nat} {a:Act} (hf:Fits n f a) {t:TypeId} {x:Value} {lo hi mx:Option Operand} {l h m:Option Int}
  (el:optI f lo=some l) (eh:optI f hi=some h) (em:optI f mx=some m) {V:Value->Prop} (hk:rSlice P t x l h m V) :
  ∃ v,V v/\∀ w,(Instr.sliceAt t x (lo.map a.eval) (hi.map a.eval) (mx.map a.eval)).run P w=.ok v w:=by
 unfold rSlice at hk
 split at hk
 ·rename_i e ad len cap hu
  split at hk
  ·rename_i sz hs
   obtain ⟨l',h',m',hv,hr⟩:=run_bounds (P:=P) (b:=true) hf el eh em hk
   exact ⟨_,hv _ rfl,λw=>by simp [Instr.sliceAt,Instr.slice,run_underlying hu,hr,run_sizeOf' hs]⟩
  ·exact hk.elim
 ·rename_i e ap hu
  obtain ⟨p,rfl,hk2⟩:=hk.out
  have hk:=hk2
  split at hk
  ·rename_i sz hs
   obtain ⟨l',h',m',hv,hr⟩:=run_bounds (P:=P) (b:=false) hf el eh em hk
   refine ⟨_,hv _ rfl,λw=>?_⟩
   simp [Instr.sliceAt,run_underlying hu,hr,run_sizeOf' hs,Instr.sureAddr]
   split <;> rfl
  ·exact hk.elim
 ·rename_i s hu
  split at hk
  ·rcases hf.optI em with ⟨_,e3⟩ | ⟨q,k3,h1,e3⟩
   ·obtain ⟨l',h',m',hv,hr⟩:=run_bounds (P:=P) (b:=false) (mx:=none) hf el eh rfl hk
    exact ⟨_,hv,λw=>by rw [e3];simp [Instr.sliceAt,Instr.slice,run_underlying hu];simp at hr;simp [hr]⟩
   ·cases h1
  ·exact hk.elim
 ·exact hk.elim
def fillL (place:Nat->Option (Nat×Nat)) (cells:List Value):List (Nat×Value)->Option (List Value)
 | []=>some cells
 | (i,v)::rest=>
  match place i with
  | none=>none
  | some (off,size)=>
   match v.cells.toList with
   | vs=>cond (Nat.beq vs.length size && Nat.ble (off+vs.length) cells.length) (fillL place (cells.take off++(vs++cells.drop (off+vs.length))) rest) none
theorem foldl_set (off:Nat):∀ (vs:List Value) (k:Nat) (cs:Array Value),off+k+vs.length<=cs.size ->
  ((vs.zipIdx k).foldl (λ(cs:Array Value) (p:Value×Nat)=>cs.setIfInBounds (off+p.2) p.1) cs).toList=cs.toList.take (off+k)++(vs++cs.toList.drop (off+k+vs.length))
 | [],k,cs,h=>by simp
 | v::vs,k,cs,h=>by
  simp only [List.length_cons] at h
  rw [List.zipIdx_cons,List.foldl_cons,foldl_set off vs (k+1) _ (by simp;omega)]
  simp only [Array.toList_setIfInBounds]
  have hk:off+k<cs.toList.length:=by simp;omega
  rw [show off+(k+1)=off+k+1 by omega,List.take_succ_eq_append_getElem (by simp;omega),List.take_set_of_le (by omega)]
  rw [List.getElem_set_self,List.append_assoc,List.drop_set_of_lt (by omega)]
  simp only [List.cons_append,List.nil_append,List.length_cons]
  rw [show off+k+1+vs.length=off+k+(vs.length+1) by omega]
theorem fill_of_fillL {place:Nat->Option (Nat×Nat)}:∀ {parts:List (Nat×Value)} {cs:Array Value} {r:List Value},fillL place cs.toList parts=some r->Instr.fill place cs parts=some r.toArray
 | [],cs,r,h=>by simp [fillL] at h;subst h;simp [Instr.fill]
 | (i,v)::rest,cs,r,h=>by
  simp only [fillL] at h
  simp only [Instr.fill]
  split at h
  ·cases h
  ·rename_i off size hp
   rw [hp]
   simp only
   cases hc:(Nat.beq v.cells.toList.length size && Nat.ble (off+v.cells.toList.length) cs.toList.length)
   ·rw [hc] at h;cases h
   ·rw [hc] at h
    simp only [Bool.and_eq_true] at hc
    have h1:=Nat.eq_of_beq_eq_true hc.1
    have h2:=Nat.le_of_ble_eq_true hc.2
    simp only [Array.length_toList] at h1 h2
    have hn:¬ ((decide (v.cells.size≠size) || decide (off+v.cells.size>cs.size))=true):=by simp;omega
    rw [if_neg (by simpa using hn)]
    apply fill_of_fillL
    simp only [cond_true] at h
    rw [<-h]
    congr 1
    have hz:(v.cells.zipIdx.foldl (λ(cs:Array Value) (x:Value×Nat)=>match x with | (c,j)=>cs.setIfInBounds (off+j) c) cs).toList=cs.toList.take (off+0)++(v.cells.toList++cs.toList.drop (off+0+v.cells.toList.length)):=by
     rw [<-Array.foldl_toList,Array.toList_zipIdx]
     exact foldl_set off v.cells.toList 0 cs (by simp;omega)
    rw [hz]
    simp
def placesL (P:Program):List Field->List (Option (Nat×Nat))
 | []=>[]
 | fd::fs=>(match szOf P fd.type with | some n=>some (fd.offset,n) | none=>none)::placesL P fs
def zeroL (P:Program) (t:TypeId):Option (List Value):=
 match P.info? t with
 | some i=>match i.zero with | some z=>some z.cells.toList | none=>none
 | none=>none
def allSome:List (Option (Nat×Nat))->Bool
 | []=>true
 | some _::l=>allSome l
 | none::_=>false
def rBuild (P:Program) (t:TypeId) (parts:List (Nat×Value)) (V:Value->Prop):Prop:=
 match P.underlying t,zeroL P t with
 | some (.struct fs),some z=>
  (match placesL P fs.toList with
   | pl=>cond (allSome pl) (match fillL (λi=>(pl[i]?).bind id) z parts with | some r=>V (.agg r.toArray) | none=>False) False)
 | some (.array _ e),some z=>
  (match szOf P e with
   | some n=>(match fillL (λi=>some (i*n,n)) z parts with | some r=>V (.agg r.toArray) | none=>False)
   | none=>False)
 | _,_=>False
theorem run_zero' {P:Program} {t:TypeId} {z:List Value} (h:zeroL P t=some z) (w:World):∃ v,v.cells=z.toArray/\(zeroValue t).run P w=.ok v w/\∃ i,P.info? t=some i/\i.zero=some v:=by
 unfold zeroL at h
 split at h
 ·rename_i i hi
  split at h
  ·rename_i v hv
   simp only [Option.some.injEq] at h
   exact ⟨v,by rw [<-h],by simp [zeroValue,typeInfo,program,Sem.run,hi,hv],i,hi,hv⟩
  ·cases h
 ·cases h
theorem run_places {P:Program} (w:World):∀ (fs:List Field),allSome (placesL P fs)=true ->
  ∃ r,(fs.mapM λf=>do pure (f.offset,<- sizeOf f.type):Sem (List (Nat×Nat))).run P w=.ok r w/\r.map some=placesL P fs
 | [],_=>⟨[],by simp [List.mapM_nil],rfl⟩
 | fd::fs,h=>by
  simp only [placesL] at h
  cases hs:szOf P fd.type with
  | none=>simp [hs,allSome] at h
  | some n=>
   simp only [hs,allSome] at h
   obtain ⟨r,hr,he⟩:=run_places w fs h
   refine ⟨(fd.offset,n)::r,?_,by simp [placesL,hs,he]⟩
   simp only [List.mapM_cons,Sem.run_bind,run_sizeOf' hs,Result.andThen_ok,Sem.run_pure] at hr ⊢
   simp only [hr,Result.andThen_ok]
theorem run_rBuild {P:Program} {t:TypeId} {parts:List (Nat×Value)} {V:Value->Prop} (h:rBuild P t parts V) :
  ∃ v,V v/\∀ w,(Instr.build t parts.toArray).run P w=.ok v w:=by
 unfold rBuild at h
 split at h
 ·rename_i fs z hu hz
  cases hall:allSome (placesL P fs.toList)
  ·simp [hall] at h
  ·simp only [hall,cond_true] at h
   split at h
   ·rename_i r hfl
    refine ⟨_,h,λw=>?_⟩
    obtain ⟨zv,hzc,hzr,_⟩:=run_zero' hz w
    obtain ⟨pl,hpl,hpe⟩:=run_places w fs.toList hall
    have hpl':(fs.mapM λf=>do pure (f.offset,<- sizeOf f.type):Sem (Array (Nat×Nat))).run P w=.ok pl.toArray w:=by
     rw [Array.mapM_eq_mapM_toList]
     simp only [Sem.run_map,hpl,Result.andThen_ok]
    have hfl':=fill_of_fillL (cs:=z.toArray) (by simpa using hfl)
    have hpe':(λ(i:Nat)=>((placesL P fs.toList)[i]?).bind id)=λ(i:Nat)=>pl.toArray[i]?:=by
     funext i
     rw [<-hpe]
     simp
     cases pl[i]? <;> rfl
    rw [hpe'] at hfl'
    simp only [Instr.build,Sem.run_bind,hzr,Result.andThen_ok,run_underlying hu,hpl',hzc]
    simp only [hfl']
    rfl
   ·exact h.elim
 ·rename_i e z hu hz
  split at h
  ·rename_i n hs
   split at h
   ·rename_i r hfl
    refine ⟨_,h,λw=>?_⟩
    obtain ⟨zv,hzc,hzr,_⟩:=run_zero' hz w
    have hfl':=fill_of_fillL (cs:=z.toArray) (by simpa using hfl)
    simp only [Instr.build,Sem.run_bind,hzr,Result.andThen_ok,run_underlying hu,run_sizeOf' hs,hzc]
    simp only [hfl']
    rfl
   ·exact h.elim
  ·exact h.elim
 ·exact h.elim
def rConv (P:Program) (s d:TypeId) (x:Value) (G:Grd) (w0:World) (V:Value->Prop):Prop:=
 match P.underlying s,P.underlying d,x with
 | some (.int _),some (.int k),.int _ n=>V (.int k (k.wrap n))
 | some .string,some .string,.string z=>V (.string z)
 | some (.slice e),some .string,.slice a n _=>
  (match P.underlying e with
   | some (.int .u8)=>∃ ns:List Int,ns.length=n/\((a=none/\n=0)\/∃ p,a=some p/\G p (CellsAt w0 p (ns.map (Value.int .u8))))/\V (.string (ns.foldl (λr m=>r.push (UInt8.ofNat m.toNat)) ByteArray.empty))
   | _=>False)
 | _,_,_=>False
theorem run_rConv {P:Program} {s d:TypeId} {x:Value} {G:Grd} {w0:World} {V:Value->Prop} (h:rConv P s d x G w0 V) {S:World->Prop} (hS:∃ w,S w) (hG:∀ w,S w->G.Ok w0 w) :
  ∃ v,V v/\∀ w,S w->(convert s d x).run P w=.ok v w:=by
 obtain ⟨ws,hws⟩:=hS
 unfold rConv at h
 split at h
 ·rename_i h1 h2
  exact ⟨_,h,λw _=>by simp [convert,run_underlying h1,run_underlying h2,Conv.intToInt]⟩
 ·rename_i h1 h2
  exact ⟨_,h,λw _=>by simp [convert,run_underlying h1,run_underlying h2]⟩
 ·rename_i e a n c h1 h2
  split at h
  ·rename_i h3
   obtain ⟨ns,hl,hc,hv⟩:=h
   refine ⟨_,hv,λw hk=>?_⟩
   rcases hc with ⟨rfl,hn⟩ | ⟨p,rfl,hc⟩
   ·have:ns=[]:=List.length_eq_zero_iff.1 (by omega)
    subst this
    simp [convert,run_underlying h1,run_underlying h2,run_underlying h3,Conv.bytesToString]
   ·have hcs:=run_loadCells_list (P:=P) w p (ns.map (Value.int .u8)) (cells_same (hG w hk p _ hc).2 (hG w hk p _ hc).1)
    rw [List.length_map,hl] at hcs
    simp [convert,run_underlying h1,run_underlying h2,run_underlying h3,run_bytesToString w p n c ns hcs]
  ·exact h.elim
 ·exact h.elim
def rExtract (x:Value) (i:Nat) (V:Value->Prop):Prop:=
 match x with
 | .tuple vs=>(match vs.toList[i]? with | some v=>V v | none=>False)
 | _=>False
def lenV (P:Program) (t:TypeId) (x:Value) (V:Value->Prop):Prop:=
 match P.underlying t,x with
 | some .string,.string s=>V (.int .i64 (s.size:Int))
 | some (.slice _),.slice _ n _=>V (.int .i64 (n:Int))
 | some (.array n _),_=>V (.int .i64 (n:Int))
 | _,_=>False
theorem run_lenV {P:Program} {t ty:TypeId} {x:Value} {V:Value->Prop} (h:lenV P t x V) :
  ∃ v,V v/\∀ w,(Builtin.len_ #[t] ty #[x]).run P w=.ok v w:=by
 unfold lenV at h
 split at h
 ·rename_i hu;exact ⟨_,h,λw=>by simp [Builtin.len_,run_underlying hu,goInt]⟩
 ·rename_i hu;exact ⟨_,h,λw=>by simp [Builtin.len_,run_underlying hu,goInt]⟩
 ·rename_i hu;exact ⟨_,h,λw=>by simp [Builtin.len_,run_underlying hu,goInt]⟩
 ·exact h.elim
def NameI (t:Int) (K:Int->Prop):Prop:=∀ z,z=t->K z
def rBuiltin (P:Program) (b:Builtin) (ts:List TypeId) (vs:List Value) (V:Value->Prop):Prop:=
 match b,ts,vs with
 | .len,[t],[x]=>lenV P t x V
 | .min,_,[.int k x,.int k' y]=>NameI (min x y) λz=>V (.int k z)
 | .max,_,[.int k x,.int k' y]=>NameI (max x y) λz=>V (.int k z)
 | _,_,_=>False
theorem run_rBuiltin {P:Program} {b:Builtin} {ts:Array TypeId} {ty:TypeId} {vs:Array Value} {V:Value->Prop} (h:rBuiltin P b ts.toList vs.toList V) :
  ∃ v,V v/\∀ cs w,(builtin b ts ty cs vs).run P w=.ok (.value v) w:=by
 unfold rBuiltin at h
 split at h
 ·rename_i t x ht hv
  obtain ⟨v,h1,h2⟩:=run_lenV (ty:=ty) h
  refine ⟨v,h1,λcs w=>?_⟩
  have e1:ts=#[t]:=by apply Array.ext';simpa using ht
  have e2:vs=#[x]:=by apply Array.ext';simpa using hv
  subst e1;subst e2
  simp [builtin,h2]
 ·rename_i k x k' y hv
  refine ⟨_,h _ rfl,λcs w=>?_⟩
  have e2:vs=#[.int k x,.int k' y]:=by apply Array.ext';simpa using hv
  subst e2
  have e3:(if y<x then y else x)=min x y:=by split <;> omega
  simp [builtin,Builtin.min_,Builtin.min2,e3]
 ·rename_i k x k' y hv
  refine ⟨_,h _ rfl,λcs w=>?_⟩
  have e2:vs=#[.int k x,.int k' y]:=by apply Array.ext';simpa using hv
  subst e2
  have e3:(if y>x then y else x)=max x y:=by split <;> omega
  simp [builtin,Builtin.max_,Builtin.max2,e3]
 ·exact h.elim
def rOp (P:Program) (wr:Bool) (op:Op) (f:PF) (G:Grd) (w0:World) (V:Value->Prop):Prop:=
 match op with
 | .move x=>(match ev f x with | some v=>V v | none=>False)
 | .assign x=>(match ev f x with | some v=>V v | none=>False)
 | .pick c a b=>(match ev f c,ev f a,ev f b with | some (.bool t),some x,some y=>cond t (V x) (V y) | _,_,_=>False)
 | .load t x=>(match ev f x with | some (.pointer a)=>PtrK a λp=>rLoad P t G w0 p V | _=>False)
 | .nilCheck x=>(match ev f x with | some (.pointer a)=>PtrK a λp=>V (.pointer (some p)) | some (.func (.func g) fs cs)=>V (.func (.func g) fs cs) | _=>False)
 | .binOp o t x y _=>(match ev f x,ev f y with | some a,some b=>rBin P wr o t a b V | _,_=>False)
 | .unOp o _ x=>(match ev f x with | some a=>rUn wr o a V | none=>False)
 | .convert s d x=>(match ev f x with | some a=>rConv P s d a G w0 V | none=>False)
 | .makeFunc fn first cap=>(match evL f first.toList,evL f cap.toList with | some l,some m=>V (.func fn l.toArray m.toArray) | _,_=>False)
 | .slice t x lo hi mx=>(match ev f x,optI f lo,optI f hi,optI f mx with | some v,some l,some h,some m=>rSlice P t v l h m V | _,_,_,_=>False)
 | .fieldAddr s x j=>(match ev f x with | some (.pointer a)=>PtrK a λp=>fieldK P s j λoff ft=>(match szOf P ft with | some (n+1)=>V (.pointer (some (p.add off))) | _=>False) | _=>False)
 | .field t x j=>(match ev f x with | some (.agg cs)=>fieldK P t j λoff ft=>partK P ft cs.toList off V | _=>False)
 | .indexAddr t x i=>(match ev f x,ev f i with | some v,some u=>rIndexAt P t v u V | _,_=>False)
 | .index t x i=>(match ev f x,ev f i with | some v,some u=>rIndex P t v u V | _,_=>False)
 | .extract x i=>(match ev f x with | some v=>rExtract v i V | none=>False)
 | .build t parts=>(match evP f parts.toList with | some ps=>rBuild P t ps V | none=>False)
 | .call ⟨.builtin b,args,ts⟩=>(match evL f args.toList with | some vs=>rBuiltin P b ts.toList vs V | none=>False)
 | _=>False
theorem rOp.sound {P:Program} {wr:Bool} {o:Oper} {f:PF} {n:Nat} {a:Act} (hf:Fits n f a) {G:Grd} {w0:World} {V:Value->Prop} (h:rOp P wr o.op f G w0 V) {S:World->Prop} (hS:∃ w,S w) (hG:∀ w,S w->G.Ok w0 w) :
  ∃ v,V v/\∀ w,S w->(execOp a.eval o).run P w=.ok (.value v) w:=by
 obtain ⟨dst,op,ty,pos,after,guard⟩:=o
 simp only at h
 unfold rOp at h
 have lift:∀ {s:Sem Value},(∃ v,V v/\∀ w,s.run P w=.ok v w)->∃ v,V v/\∀ w,S w->(do pure (Next.value (<-s))).run P w=.ok (.value v) w:=
  λ⟨v,h1,h2⟩=>⟨v,h1,λw _=>by simp [h2]⟩
 have liftK:∀ {s:Sem Value},(∃ v,V v/\∀ w,S w->s.run P w=.ok v w)->∃ v,V v/\∀ w,S w->(do pure (Next.value (<-s))).run P w=.ok (.value v) w:=
  λ⟨v,h1,h2⟩=>⟨v,h1,λw hk=>by simp [h2 w hk]⟩
 split at h
 ·split at h
  ·rename_i v he;exact ⟨v,h,λw _=>by simp [execOp,hf.ev he]⟩
  ·exact h.elim
 ·split at h
  ·rename_i v he;exact ⟨v,h,λw _=>by simp [execOp,hf.ev he]⟩
  ·exact h.elim
 ·split at h
  ·rename_i t x y h1 h2 h3
   cases t
   ·exact ⟨y,h,λw _=>by simp [execOp,hf.ev h1,hf.ev h2,hf.ev h3,asBool]⟩
   ·exact ⟨x,h,λw _=>by simp [execOp,hf.ev h1,hf.ev h2,hf.ev h3,asBool]⟩
  ·exact h.elim
 ·split at h
  ·rename_i a he
   obtain ⟨p,rfl,h2⟩:=h.out
   have h:=h2
   have:=liftK (run_rLoad h hS hG)
   simpa [execOp,hf.ev he,Instr.loadAt,Instr.sureAddr] using this
  ·exact h.elim
 ·split at h
  ·rename_i a he;obtain ⟨p,rfl,h2⟩:=h.out;have h:=h2;exact ⟨_,h,λw _=>by simp [execOp,hf.ev he]⟩
  ·rename_i g fs cs he;exact ⟨_,h,λw _=>by simp [execOp,hf.ev he]⟩
  ·exact h.elim
 ·split at h
  ·rename_i u v h1 h2
   obtain ⟨r,hv,hr⟩:=run_rBin h
   refine ⟨r,hv,λw _=>?_⟩
   have:=hr w
   simp only [execOp,hf.ev h1,hf.ev h2]
   rw [Sem.run_bind,this]
   rfl
  ·exact h.elim
 ·split at h
  ·rename_i u he
   have:=lift (run_rUn (P:=P) h)
   simpa [execOp,hf.ev he] using this
  ·exact h.elim
 ·split at h
  ·rename_i u he
   have:=liftK (run_rConv h hS hG)
   simpa [execOp,hf.ev he] using this
  ·exact h.elim
 ·rename_i fn first cap
  split at h
  ·rename_i l m h1 h2
   refine ⟨_,h,λw _=>?_⟩
   have e1:first.map a.eval=l.toArray:=by apply Array.ext';rw [Array.toList_map];exact hf.evL h1
   have e2:cap.map a.eval=m.toArray:=by apply Array.ext';rw [Array.toList_map];exact hf.evL h2
   simp [execOp,Instr.makeFunc,e1,e2]
  ·exact h.elim
 ·split at h
  ·rename_i v l hh m h1 h2 h3 h4
   have:=lift (run_rSlice hf h2 h3 h4 h)
   simpa [execOp,hf.ev h1] using this
  ·exact h.elim
 ·split at h
  ·rename_i a he
   obtain ⟨p,rfl,h2⟩:=h.out
   have h:=h2
   have:=lift (run_fieldAt' h)
   simpa [execOp,hf.ev he] using this
  ·exact h.elim
 ·rename_i t x j
  split at h
  ·rename_i cs he
   unfold fieldK at h
   split at h
   ·rename_i fs hu
    split at h
    ·rename_i fd hfd
     obtain ⟨v,hv,hr⟩:=run_partK h
     have hf':fs[j]? = some fd:=by rw [<-Array.getElem?_toList];exact hfd
     exact ⟨v,hv,λw _=>by simp [execOp,hf.ev he,Instr.field,run_underlying hu,hf',asAgg,hr]⟩
    ·exact h.elim
   ·exact h.elim
  ·exact h.elim
 ·split at h
  ·rename_i u v h1 h2
   have:=lift (run_rIndexAt h)
   simpa [execOp,hf.ev h1,hf.ev h2] using this
  ·exact h.elim
 ·split at h
  ·rename_i u v h1 h2
   have:=lift (run_rIndex h)
   simpa [execOp,hf.ev h1,hf.ev h2] using this
  ·exact h.elim
 ·rename_i x i
  split at h
  ·rename_i v he
   unfold rExtract at h
   split at h
   ·rename_i vs
    split at h
    ·rename_i u hu
     have hu':vs[i]? = some u:=by rw [<-Array.getElem?_toList];exact hu
     exact ⟨u,h,λw _=>by simp [execOp,hf.ev he,Instr.extract,hu']⟩
    ·exact h.elim
   ·exact h.elim
  ·exact h.elim
 ·rename_i t parts
  split at h
  ·rename_i ps he
   have:=lift (run_rBuild h)
   have e1:parts.map (λ(x:Nat×Operand)=>(x.1,a.eval x.2))=ps.toArray:=by apply Array.ext';rw [Array.toList_map];exact hf.evP he
   simpa [execOp,e1] using this
  ·exact h.elim
 ·rename_i b args ts
  split at h
  ·rename_i vs he
   have e1:args.map a.eval=vs.toArray:=by apply Array.ext';rw [Array.toList_map];exact hf.evL he
   obtain ⟨v,hv,hr⟩:=run_rBuiltin (ts:=ts) (vs:=vs.toArray) (ty:=ty) (by simpa using h)
   refine ⟨v,hv,λw _=>?_⟩
   simp only [execOp,resolve,e1,Sem.run_bind,Sem.run_pure,Result.andThen_ok]
   exact hr _ w
  ·exact h.elim
 ·exact h.elim
def byOf (P:Program) (t:TypeId):Option Nat:=(P.info? t).map (·.bytes)
def RdC (w:World) (a:Option Addr) (vs:List Value):Prop:=(a=none/\vs=[])\/∃ p,a=some p/\CellsAt w p vs
def oneAll (vs:List Value):Prop:=∀ u∈vs,u.oneCell'=true
theorem zeros_eq (z:Array Value):∀ n:Nat,((List.range (n*z.size)).map λi=>z[i % z.size]!)=(List.replicate n z.toList).flatten
 | 0=>by simp
 | n+1=>by
  rw [Nat.add_mul,Nat.one_mul,List.range_add,List.map_append,zeros_eq z n,List.replicate_succ',List.flatten_append]
  congr 1
  simp only [List.map_map,List.flatten_cons,List.flatten_nil,List.append_nil]
  apply List.ext_getElem
  ·simp
  ·intro i h1 h2
   simp only [List.length_map,List.length_range] at h1
   simp only [List.getElem_map,List.getElem_range,Function.comp_apply]
   rw [Nat.mul_comm,Nat.mul_add_mod,Nat.mod_eq_of_lt h1]
   simp [h1]
theorem zeros_arr (z:Array Value) (n:Nat):((Array.range (n*z.size)).map λi=>z[i % z.size]!)=(List.replicate n z.toList).flatten.toArray:=by
 apply Array.ext'
 rw [Array.toList_map,Array.toList_range,zeros_eq]
theorem nextcap_le {need cap:Nat} (h:cap<need):Builtin.nextslicecap need cap<=2*need+256:=by
 unfold Builtin.nextslicecap
 split
 ·omega
 ·split
  ·omega
  ·have key:∀ r c,c<=2*need+256->Builtin.growBy need r c<=2*need+256:=by
    intro r
    induction r with
    | zero=>intro c hc;simpa [Builtin.growBy] using hc
    | succ r ih=>
     intro c hc
     simp only [Builtin.growBy]
     split
     ·exact hc
     ·exact ih _ (by omega)
   exact key _ _ (by omega)
def AppV (w:World) (e:TypeId) (sz by':Nat) (a:Option Addr) (n c:Nat) (news:List Value) (m:Nat) (K:Option Addr->Nat->Nat->World->Prop):Prop:=
 news.length=m*sz/\oneAll news/\(2*(n+m)+256)*by'<=281474976710656/\(n+m)<=9223372036854775807 /\
 ((m=0/\n<=c/\K a n c w) \/
  (∃ olds:List Value,olds.length=n*sz/\RdC w a olds /\
  (n+m<=c->∃ p,a=some p/\p.spot=none/\Free w (p.add (n*sz)) news.length/\K a (n+m) c (w.setCells p.block (p.off+n*sz) news)) /\
  (c<n+m->∀ (c':Nat) (rest:List Value),n+m<=c'->(olds++news++rest).length=c'*sz ->
   K (some ⟨w.heap.size,0,none⟩) (n+m) c' (w.drew.alloc (.cells (olds++news++rest).toArray e)))))
theorem RdC.first {P:Program} {w:World} {a:Option Addr} {vs:List Value} {n c sz:Nat} (h:RdC w a vs) (hl:vs.length=n*sz) :
  (Builtin.firstCells sz n (.slice a n c)).run P w=.ok vs.toArray w:=by
 rcases h with ⟨rfl,rfl⟩ | ⟨p,rfl,hc⟩
 ·exact run_firstCells_none w sz n n c
 ·exact run_firstCells_some w sz n p n c vs hl hc
theorem RdC.drew {w:World} {a:Option Addr} {vs:List Value} (h:RdC w a vs):RdC w.drew a vs:=h
theorem run_appV {P:Program} {ts tx e:TypeId} (ty:TypeId) {sz by':Nat} (hu:P.underlying ts=some (.slice e)) (hs:szOf P e=some sz) (hb:byOf P e=some by') {z:List Value} (hz:zeroL P e=some z) (hzs:z.length=sz)
  {w:World} {a:Option Addr} {n c m:Nat} {x:Value} {news:List Value} (hsrc:Src P sz tx x m news w) {K:Option Addr->Nat->Nat->World->Prop} (h:AppV w e sz by' a n c news m K) :
  ∃ a' n' c' w',K a' n' c' w'/\(Builtin.append_ #[ts,tx] ty #[.slice a n c,x]).run P w=.ok (.slice a' n' c') w':=by
 obtain ⟨hl,h1,hby,h63,h⟩:=h
 obtain ⟨zv,hzc,_,i,hi,hzi⟩:=run_zero' hz (default:World)
 have hsi:i.size=sz:=by simpa [szOf,hi] using hs
 have hbi:i.bytes=by':=by simpa [byOf,hi] using hb
 subst hsi;subst hbi
 rcases h with ⟨rfl,hnc,hk⟩ | ⟨olds,hol,hro,hroom,hgrow⟩
 ·have hnews:news=[]:=List.length_eq_zero_iff.1 (by omega)
  subst hnews
  exact ⟨_,_,_,_,hk,run_append_nothing w ts tx ty e i hu hi a n c hnc x hsrc⟩
 ·by_cases hc:n+m<=c
  ·obtain ⟨⟨b,off,sp⟩,rfl,hsp,hfree,hk⟩:=hroom hc
   simp only at hsp
   subst hsp
   have hadd:∀ j,((⟨b,off,none⟩:Addr).add (n*i.size)).add j=⟨b,off+n*i.size+j,none⟩:=by
    intro j;simp [Addr.add_lit]
   exact ⟨_,_,_,_,hk,run_append_room_src w ts tx ty e i hu hi b off n c x m news hsrc hc (λj hj=>by rw [<-hadd];exact (hfree j hj).1) (λj hj=>by rw [<-hadd];exact (hfree j hj).2)⟩
  ·have hfit:Builtin.nextslicecap (n+m) c*i.bytes<=281474976710656:=
    Nat.le_trans (Nat.mul_le_mul_right _ (nextcap_le (by omega))) hby
   have hr:=run_append_grow_src w ts tx ty e i zv hu hi hzi a n c olds (RdC.first hro.drew hol) x m news hsrc (by omega) (by omega) hfit
   generalize hg:grownCap w (n+m) c e=g at hr
   have hge:n+m<=g:=by
    rw [<-hg]
    unfold grownCap
    simp only [Question.cut]
    omega
   have hzero:Builtin.zeroCells zv.cells (g-(n+m))=(List.replicate (g-(n+m)) z).flatten.toArray:=by
    unfold Builtin.zeroCells
    rw [hzc]
    exact zeros_arr z.toArray _
   rw [hzero] at hr
   have hlen:(List.replicate (g-(n+m)) z).flatten.length=(g-(n+m))*i.size:=by
    simp [hzs]
   refine ⟨_,_,_,_,hgrow (by omega) g (List.replicate (g-(n+m)) z).flatten hge ?_,?_⟩
   ·simp only [List.length_append,hol,hl,hlen]
    rw [<-Nat.add_mul,<- Nat.add_mul]
    congr 1
    omega
   ·rw [hr]
    congr 3
    apply Array.ext'
    simp
def AppS (w:World) (b:Option Addr) (m sz:Nat) (K:List Value->Prop):Prop:=∃ news:List Value,news.length=m*sz/\RdC w b news/\K news
def AppArg (P:Program) (w:World) (tx:TypeId) (sz:Nat) (x:Value) (K:List Value->Nat->Prop):Prop:=
 match P.underlying tx,x with
 | some (.slice _),.slice b m _=>AppS w b m sz λnews=>K news m
 | some .string,.string s=>sz=1/\K (byteCells s) s.size
 | _,_=>False
def FreeK (w:World) (a:Option Addr) (vs:List Value) (K:World->Prop):Prop:=
 (vs=[]/\K w)\/∃ p,a=some p/\p.spot=none/\Free w p vs.length/\∀ w',w'=w.setCells p.block p.off vs->K w'
def CopyV (w:World) (a b:Option Addr) (k sz:Nat) (K:World->Prop):Prop:=∃ vs:List Value,vs.length=k*sz/\RdC w b vs/\oneAll vs/\FreeK w a vs K
def ClearV (w:World) (a:Option Addr) (n:Nat) (z:List Value) (K:World->Prop):Prop:=oneAll z/\FreeK w a (List.replicate n z).flatten K
def RunV (P:Program) (s:Sem Value) (w:World) (l:List Sh) (K:RT l->World->Prop):Prop:=∃ x w',s.run P w=.ok (packV l x) w'/\K x w'
def RunU (P:Program) (s:Sem Unit) (w:World) (K:World->Prop):Prop:=∃ w',s.run P w=.ok () w'/\K w'
def DelV (P:Program) (ts:List TypeId) (vs:List Value) (w:World) (K:World->Prop):Prop:=∃ w',(∀ ty,(Builtin.delete_ ts.toArray ty vs.toArray).run P w=.ok (.tuple #[]) w')/\K w'
def NewM (w:World) (K:Nat->World->Prop):Prop:=∀ b w',b=w.heap.size->w'=w.alloc (.map #[] 0)->K b w'
def eBuiltin (P:Program) (b:Builtin) (ts:List TypeId) (vs:List Value) (w:World) (V:Value->World->Prop):Prop:=
 match b,ts,vs with
 | .append,[t,tx],[.slice a n c,x]=>
  (match P.underlying t with
   | some (.slice e)=>
    (match szOf P e,byOf P e,zeroL P e with
    | some sz,some by',some z=>cond (Nat.beq z.length sz) (AppArg P w tx sz x λnews m=>AppV w e sz by' a n c news m λa' n' c' w'=>V (.slice a' n' c') w') False
    | _,_,_=>False)
   | _=>False)
 | .copy,[t,_],[.slice a n _,.slice b m _]=>
  (match P.underlying t with
   | some (.slice e)=>
    (match szOf P e with
    | some sz=>CopyV w a b (Nat.min m n) sz λw'=>V (.int .i64 (Nat.min m n:Nat)) w'
    | none=>False)
   | _=>False)
 | .clear,[t],[.slice a n _]=>
  (match P.underlying t with
   | some (.slice e)=>(match zeroL P e with | some z=>ClearV w a n z λw'=>V (.tuple #[]) w' | none=>False)
   | _=>False)
 | .delete,ts,vs=>DelV P ts vs w λw'=>V (.tuple #[]) w'
 | _,_,_=>False
def MkV (P:Program) (e:TypeId) (l c:Int) (w:World) (K:Nat->World->Prop):Prop:=
 match szOf P e,byOf P e,zeroL P e with
 | some sz,some by',some z=>cond (Nat.beq z.length sz) ((0<=l/\l<=c/\c<=9223372036854775807/\(by':Int)*c<=140737488355328)/\NewV (List.replicate c.toNat z).flatten.toArray e w K) False
 | _,_,_=>False
def eOp (P:Program) (ok:FuncId->Bool) (op:Op) (ty:TypeId) (f:PF) (w:World) (V:Value->World->Prop):Prop:=
 match op with
 | .alloc e=>(match zeroL P e with | some z=>NewV z.toArray e w λb w'=>V (.pointer (some ⟨b,0,none⟩)) w' | none=>False)
 | .box e x=>(match ev f x with | some v=>NewV v.cells e w λb w'=>V (.pointer (some ⟨b,0,none⟩)) w' | none=>False)
 | .buildSlice t len parts=>
  (match P.underlying t,evP f parts.toList with
   | some (.slice e),some ps=>
    (match szOf P e,zeroL P e with
    | some sz,some z=>
     cond (Nat.beq z.length sz && Nat.ble (len*sz) 16777216)
      (match fillL (λi=>some (i*sz,sz)) (List.replicate len z).flatten ps with
       | some r=>NewV r.toArray e w λb w'=>V (.slice (some ⟨b,0,none⟩) len len) w'
       | none=>False) False
    | _,_=>False)
   | _,_=>False)
 | .store t x y=>
  (match ev f x,ev f y,szOf P t with
   | some (.pointer a),some v,some n=>PtrK a λp=>(match v.cells.toList with | vs=>cond (Nat.beq vs.length n && vs.all (·.oneCell')) (StoreV w p vs λw'=>V undef w') False)
   | _,_,_=>False)
 | .makeSlice t l c=>
  (match P.underlying t,ev f l,ev f c with
   | some (.slice e),some (.int .i64 l),some (.int .i64 c)=>MkV P e l c w λb w'=>V (.slice (some ⟨b,0,none⟩) l.toNat c.toNat) w'
   | _,_,_=>False)
 | .call ⟨.value g,args,_⟩=>
  (match ev f g,evL f args.toList with
   | some (.func (.func g) first cap),some vs=>cond (ok g) (CallV P g (first.toList++(vs++cap.toList)).toArray w (resSh P ty) λx w'=>V (packV _ x) w') False
   | _,_=>False)
 | .call ⟨.builtin b,args,ts⟩=>(match evL f args.toList with | some vs=>eBuiltin P b ts.toList vs w V | none=>False)
 | .makeMap t none=>NewM w λb w'=>V (.map (some b)) w'
 | .makeMap t (some x)=>
  (match P.underlying t,ev f x with
   | some (.map _ _),some (.int .i64 _)=>NewM w λb w'=>V (.map (some b)) w'
   | _,_=>False)
 | .lookup t x y c=>(match ev f x,ev f y with | some a,some b=>RunV P (Instr.lookup t a b c) w (resSh P ty) λx w'=>V (packV _ x) w' | _,_=>False)
 | .mapEntry t x y=>(match P.underlying t,ev f x,ev f y with | some (.map _ e),some a,some b=>RunV P (Instr.mapEntry t a b) w [shT P e,.one (.int .i64)] λx w'=>V (packV _ x) w' | _,_,_=>False)
 | .mapUpdate t x y z=>(match ev f x,ev f y,ev f z with | some a,some b,some c=>RunU P (Instr.mapUpdate t a b c) w λw'=>V undef w' | _,_,_=>False)
 | .entryStore t x y z=>(match ev f x,ev f y,ev f z with | some a,some b,some c=>RunU P (Instr.entryStore t a b c) w λw'=>V undef w' | _,_,_=>False)
 | _=>False
theorem upon_ok {P:Program} {o:Oper} {a:Act} {w w':World} {next:Act->World->Prop} {Q:Exit->Act->World->Prop} {v:Value}
  (h:(execOp a.eval o).run P w=.ok (.value v) w') (hn:next (a.put o.dst v) w'):o.wp P a w next Q:=by
 unfold Oper.wp;rw [h];exact hn
theorem run_newRow' {P:Program} (e:TypeId) (c:Array Value) (w:World):(newRow e c).run P w=.ok ⟨w.heap.size,0,none⟩ (w.alloc (.cells c e)):=rfl
theorem run_buildSlice' {P:Program} {t e:TypeId} {len sz:Nat} {ps:List (Nat×Value)} {z r:List Value} (hu:P.underlying t=some (.slice e)) (hs:szOf P e=some sz) (hz:zeroL P e=some z) (hzs:z.length=sz)
  (hle:len*sz<=16777216) (hfl:fillL (λi=>some (i*sz,sz)) (List.replicate len z).flatten ps=some r) (w:World) :
  (Instr.buildSlice t len ps.toArray).run P w=.ok (.slice (some ⟨w.heap.size,0,none⟩) len len) (w.alloc (.cells r.toArray e)):=by
 obtain ⟨zv,hzc,hzr,_⟩:=run_zero' hz w
 have hn:¬ (len*sz>2 ^ 24):=by omega
 have hfl':=fill_of_fillL (cs:=(List.replicate len z).flatten.toArray) (by simpa using hfl)
 simp only [Instr.buildSlice,Sem.run_bind,run_underlying hu,Result.andThen_ok,run_sizeOf' hs]
 rw [if_neg hn]
 by_cases h0:len*sz=0
 ·have hnil:(List.replicate len z).flatten=[]:=by
   apply List.length_eq_zero_iff.1
   simp [hzs,h0]
  rw [hnil] at hfl'
  rw [if_pos h0]
  simp only [Sem.run_bind,Sem.run_pure,Result.andThen_ok,h0]
  have hr0:∀ g:Nat->Value,(Array.range 0).map g=([]:List Value).toArray:=λg=>by simp
  rw [hr0,hfl']
  rfl
 ·rw [if_neg h0]
  have:=zeros_arr z.toArray len
  simp only [List.size_toArray,hzs] at this
  simp only [Sem.run_bind,hzr,Result.andThen_ok,Sem.run_pure,hzc,List.size_toArray,hzs,this,hfl']
  rfl
theorem i64_wrap {z:Int} (h0:-9223372036854775808<=z) (h1:z<=9223372036854775807):IntKind.i64.wrap z=z:=
 wrap_rng ⟨by simpa [IntKind.min,IntKind.signed,IntKind.bits] using h0,by simpa [IntKind.max,IntKind.signed,IntKind.bits] using h1⟩
theorem run_makeSlice' {P:Program} {t e:TypeId} {sz by':Nat} {z:List Value} {l c:Int} (hu:P.underlying t=some (.slice e)) (hs:szOf P e=some sz) (hb:byOf P e=some by') (hz:zeroL P e=some z) (hzs:z.length=sz)
  (hl:0<=l) (hlc:l<=c) (hc63:c<=9223372036854775807) (hby:(by':Int)*c<=140737488355328) (w:World) :
  (Instr.makeSlice t (.int .i64 l) (.int .i64 c)).run P w=.ok (.slice (some ⟨w.heap.size,0,none⟩) l.toNat c.toNat) (w.alloc (.cells (List.replicate c.toNat z).flatten.toArray e)):=by
 obtain ⟨zv,hzc,hzr,i,hi,_⟩:=run_zero' hz w
 have hbi:i.bytes=by':=by simpa [byOf,hi] using hb
 subst hbi
 have wl:IntKind.i64.wrap l=l:=i64_wrap (by omega) (by omega)
 have wc:IntKind.i64.wrap c=c:=i64_wrap (by omega) hc63
 have hroom:¬ (c.toNat*i.bytes>2 ^ 47):=by
  have h3:((c.toNat*i.bytes:Nat):Int)<=140737488355328:=by
   rw [Int.natCast_mul,Int.toNat_of_nonneg (by omega),Int.mul_comm];exact hby
  omega
 have hc0:¬ ((decide (c<0) || decide ((i.bytes:Int)*c>2 ^ 48)) || decide (l<0) || decide (l>c))=true:=by
  simp only [Bool.or_eq_true,decide_eq_true_eq]
  omega
 simp only [Instr.makeSlice,Sem.run_bind,run_underlying hu,Result.andThen_ok,asInt,asIntOf,Sem.run_pure,typeInfo,program,Sem.run,hi,wl,wc]
 rw [if_neg hc0]
 have har:(askRoom (c.toNat*i.bytes)).run P w=.ok () w:=by
  unfold askRoom roomBytes
  rw [if_neg hroom]
  rfl
 simp only [Sem.run_bind,har,Sem.run_pure,Result.andThen_ok,run_sizeOf' hs]
 by_cases h0:c.toNat*sz=0
 ·have hnil:(List.replicate c.toNat z).flatten=[]:=by
   apply List.length_eq_zero_iff.1
   simp [hzs,h0]
  rw [if_pos h0,hnil]
  simp only [Sem.run_bind,Sem.run_pure,Result.andThen_ok,h0]
  have hr0:∀ g:Nat->Value,(Array.range 0).map g=([]:List Value).toArray:=λg=>by simp
  rw [hr0]
  rfl
 ·rw [if_neg h0]
  have:=zeros_arr z.toArray c.toNat
  simp only [List.size_toArray,hzs] at this
  simp only [Sem.run_bind,hzr,Result.andThen_ok,Sem.run_pure,hzc,List.size_toArray,hzs,this]
  rfl
theorem run_store' {P:Program} {w:World} {b o:Nat} {us:List Value} (hfr:Free w ⟨b,o,none⟩ us.length) (h1:oneAll us):(storeCells ⟨b,o,none⟩ us).run P w=.ok () (w.setCells b o us):=
 run_storeCells_cells (P:=P) b o us 0 w (λj hj=>by have:=(hfr j hj).1;simpa [Addr.add_lit] using this) (λj hj=>by have:=(hfr j hj).2;simpa [Addr.add_lit] using this) h1
theorem run_eBuiltin {P:Program} {b:Builtin} {ts:List TypeId} {vs:List Value} {w:World} {V:Value->World->Prop} (h:eBuiltin P b ts vs w V) :
  ∃ v w',V v w'/\∀ ty cs,(builtin b ts.toArray ty cs vs.toArray).run P w=.ok (.value v) w':=by
 unfold eBuiltin at h
 split at h
 ·rename_i t tx av nv cv x
  split at h
  ·rename_i e hu
   split at h
   ·rename_i sz by' z hs hb hz
    cases hc:Nat.beq z.length sz
    ·simp only [hc,cond_false] at h
    ·simp only [hc,cond_true] at h
     have hzs:=Nat.eq_of_beq_eq_true hc
     have fin:∀ {m:Nat} {news:List Value},Src P sz tx x m news w->AppV w e sz by' av nv cv news m (λa' n' c' w'=>V (.slice a' n' c') w') ->
       ∃ v w',V v w'/\∀ ty cs,(builtin .append [t,tx].toArray ty cs [.slice av nv cv,x].toArray).run P w=.ok (.value v) w':=by
      intro m news hsrc happ
      have hty:∀ ty,∃ a' n' c' w',V (.slice a' n' c') w'/\(Builtin.append_ #[t,tx] ty #[.slice av nv cv,x]).run P w=.ok (.slice a' n' c') w':=λty=>run_appV ty hu hs hb hz hzs hsrc happ
      obtain ⟨a',n',c',w',hk,hr⟩:=hty 0
      exact ⟨_,_,hk,λty cs=>by
       have hr':(Builtin.append_ #[t,tx] ty #[.slice av nv cv,x]).run P w=.ok (.slice a' n' c') w':=hr
       simp only [builtin,Sem.run_bind,hr',Result.andThen_ok,Sem.run_pure]⟩
     unfold AppArg at h
     split at h
     ·rename_i e' b m c' hux
      obtain ⟨news,hl,hrd,happ⟩:=h
      refine fin ?_ happ
      have h1:=happ.2.1
      rcases hrd with ⟨rfl,rfl⟩ | ⟨p,rfl,hcs⟩
      ·exact ⟨.inl ⟨_,hux⟩,λ_=>rfl,run_firstCells_none w sz m m c',run_firstCells_none w.drew sz m m c',hl,h1⟩
      ·exact Src.ofSlice w hux p m c' news hl hcs h1
     ·rename_i z' hux
      obtain ⟨rfl,happ⟩:=h
      exact fin (Src.ofString w hux _) happ
     ·exact h.elim
   ·exact h.elim
  ·exact h.elim
 ·rename_i t tx av nv cv b m cm
  split at h
  ·rename_i e hu
   split at h
   ·rename_i sz hs
    obtain ⟨us,hl,hrd,h1,hfree⟩:=h
    have hfirst:(Builtin.firstCells sz (Nat.min m nv) (.slice b m cm)).run P w=.ok us.toArray w:=by
     rcases hrd with ⟨rfl,rfl⟩ | ⟨p,rfl,hcs⟩
     ·exact run_firstCells_none w sz (Nat.min m nv) m cm
     ·exact run_firstCells_some w sz (Nat.min m nv) p m cm us hl hcs
    have hcopy:∀ ty w',((match av with | some p=>storeCells p us | none=>pure ()):Sem Unit).run P w=.ok () w' ->
      (Builtin.copy_ #[t,tx] ty #[.slice av nv cv,.slice b m cm]).run P w=.ok (.int .i64 (Nat.min m nv:Nat)) w':=by
     intro ty w' hst
     cases av with
     | none=>
      have:w'=w:=by simpa [Sem.run_pure] using hst.symm
      subst this
      simp only [Builtin.copy_,Sem.run_bind,run_underlying hu,Result.andThen_ok,run_sizeOf' hs,Builtin.lenOf,Sem.run_pure]
      simp [hfirst,run_underlying hu,run_sizeOf' hs,goInt]
     | some p=>
      simp [Builtin.copy_,run_underlying hu,run_sizeOf' hs,Builtin.lenOf,hfirst,hst,goInt]
    rcases hfree with ⟨rfl,hk⟩ | ⟨⟨pb,po,ps⟩,rfl,hsp,hfr,hk⟩
    ·refine ⟨_,_,hk,λty cs=>?_⟩
     simp only [builtin,Sem.run_bind]
     rw [hcopy ty w (by cases av <;> rfl)]
     rfl
    ·simp only at hsp
     subst hsp
     refine ⟨_,_,hk _ rfl,λty cs=>?_⟩
     simp only [builtin,Sem.run_bind]
     rw [hcopy ty _ (run_store' hfr h1)]
     rfl
   ·exact h.elim
  ·exact h.elim
 ·rename_i t av nv cv
  split at h
  ·rename_i e hu
   split at h
   ·rename_i z hz
    obtain ⟨h1,hfree⟩:=h
    obtain ⟨zv,hzc,hzr,_⟩:=run_zero' hz w
    have hzero:(Builtin.zeroCells zv.cells nv).toList=(List.replicate nv z).flatten:=by
     unfold Builtin.zeroCells
     rw [hzc,zeros_arr z.toArray nv]
    have hone:oneAll (List.replicate nv z).flatten:=by
     intro u hu
     obtain ⟨l,hl,hul⟩:=List.mem_flatten.1 hu
     rw [(List.mem_replicate.1 hl).2] at hul
     exact h1 u hul
    have hclear:∀ ty w',((match av with | some p=>storeCells p (List.replicate nv z).flatten | none=>pure ()):Sem Unit).run P w=.ok () w' ->
      (Builtin.clear_ #[t] ty #[.slice av nv cv]).run P w=.ok (.tuple #[]) w':=by
     intro ty w' hst
     cases av with
     | none=>
      have:w'=w:=by simpa [Sem.run_pure] using hst.symm
      subst this
      simp [Builtin.clear_,run_underlying hu]
     | some p=>
      cases nv with
      | zero=>
       have:w'=w:=by simpa [Sem.run_pure,storeCells] using hst.symm
       subst this
       simp [Builtin.clear_,run_underlying hu]
      | succ nv=>simp [Builtin.clear_,run_underlying hu,hzr,hzero,hst]
    rcases hfree with ⟨h0,hk⟩ | ⟨⟨pb,po,ps⟩,rfl,hsp,hfr,hk⟩
    ·refine ⟨_,_,hk,λty cs=>?_⟩
     simp only [builtin,Sem.run_bind]
     rw [hclear ty w (by cases av <;> first | rfl | (simp only [h0];rfl))]
     rfl
    ·simp only at hsp
     subst hsp
     refine ⟨_,_,hk _ rfl,λty cs=>?_⟩
     simp only [builtin,Sem.run_bind]
     rw [hclear ty _ (run_store' hfr hone)]
     rfl
   ·exact h.elim
  ·exact h.elim
 ·obtain ⟨w',hr,hk⟩:=h
  refine ⟨_,_,hk,λty cs=>?_⟩
  simp only [builtin,Sem.run_bind,hr ty,Result.andThen_ok,Sem.run_pure]
 ·exact h.elim
theorem eOp.sound {P:Program} {ok:FuncId->Bool} (hok:∀ g,ok g=true->∀ args w,(callFunc g args).run P w=.ok (.enter g args) w) {o:Oper} {f:PF} {n:Nat} {a:Act} (hf:Fits n f a) {w:World} {V:Value->World->Prop}
  {next:Act->World->Prop} {Q:Exit->Act->World->Prop} (hV:∀ v w',V v w'->next (a.put o.dst v) w') (h:eOp P ok o.op o.type f w V):o.wp P a w next Q:=by
 obtain ⟨dst,op,ty,pos,after,guard⟩:=o
 simp only at h hV
 unfold eOp at h
 split at h
 ·rename_i e
  split at h
  ·rename_i z hz
   obtain ⟨zv,hzc,hzr,_⟩:=run_zero' hz w
   refine upon_ok (w':=w.alloc (.cells z.toArray e)) ?_ (hV _ _ (h _ _ rfl rfl))
   simp only [execOp,Instr.alloc,Sem.run_bind,hzr,Result.andThen_ok,newVar,run_newRow',hzc]
   rfl
  ·exact h.elim
 ·rename_i e x
  split at h
  ·rename_i v he
   refine upon_ok (w':=w.alloc (.cells v.cells e)) ?_ (hV _ _ (h _ _ rfl rfl))
   simp only [execOp,Instr.box,Sem.run_bind,hf.ev he,Result.andThen_ok,newVar,run_newRow']
   rfl
  ·exact h.elim
 ·rename_i t len parts
  split at h
  ·rename_i e ps hu he
   split at h
   ·rename_i sz z hs hz
    cases hc:(Nat.beq z.length sz && Nat.ble (len*sz) 16777216)
    ·simp only [hc,cond_false] at h
    ·simp only [hc,cond_true] at h
     simp only [Bool.and_eq_true] at hc
     have hzs:=Nat.eq_of_beq_eq_true hc.1
     have hle:=Nat.le_of_ble_eq_true hc.2
     split at h
     ·rename_i r hfl
      refine upon_ok (w':=w.alloc (.cells r.toArray e)) ?_ (hV _ _ (h _ _ rfl rfl))
      have e1:parts.map (λ(x:Nat×Operand)=>(x.1,a.eval x.2))=ps.toArray:=by apply Array.ext';rw [Array.toList_map];exact hf.evP he
      have e2:(parts.map λx=>match x with | (i,x)=>(i,a.eval x))=ps.toArray:=e1
      simp only [execOp,e2,Sem.run_bind,run_buildSlice' hu hs hz hzs hle hfl,Result.andThen_ok,Sem.run_pure]
     ·exact h.elim
   ·exact h.elim
  ·exact h.elim
 ·rename_i t x y
  split at h
  ·rename_i pa v n' h1 h2 hs
   obtain ⟨p,rfl,hp2⟩:=h.out
   have h:=hp2
   cases hc:(Nat.beq v.cells.toList.length n' && v.cells.toList.all (·.oneCell'))
   ·simp only [hc,cond_false] at h
   ·simp only [hc,cond_true] at h
    simp only [Bool.and_eq_true] at hc
    have hl:=Nat.eq_of_beq_eq_true hc.1
    obtain ⟨hsp,hfree,hk⟩:=h
    obtain ⟨b,off,sp⟩:=p
    simp only at hsp
    subst hsp
    have hst:=run_storeCells_cells (P:=P) b off v.cells.toList 0 w (λj hj=>by have:=(hfree j hj).1;simpa [Addr.add_lit] using this) (λj hj=>by have:=(hfree j hj).2;simpa [Addr.add_lit] using this)
     (λu hu=>List.all_eq_true.1 hc.2 u hu)
    unfold Oper.wp
    have hr:(execOp a.eval ⟨dst,.store t x y,ty,pos,after,guard⟩).run P w=.ok .skip (w.setCells b off v.cells.toList):=by
     simp only [execOp,hf.ev h1,hf.ev h2,Instr.storeAt,Instr.sureAddr,storeVar,Sem.run_bind,Sem.run_pure,Result.andThen_ok,run_sizeOf' hs]
     rw [if_neg (by simpa using hl)]
     simp only [hst,Nat.add_zero]
     rfl
    rw [hr]
    exact hV _ _ (hk _ rfl)
  ·exact h.elim
 ·rename_i t xl xc
  split at h
  ·rename_i e l c hu h1 h2
   unfold MkV at h
   split at h
   ·rename_i sz by' z hs hb hz
    cases hc:Nat.beq z.length sz
    ·simp only [hc,cond_false] at h
    ·simp only [hc,cond_true] at h
     have hzs:=Nat.eq_of_beq_eq_true hc
     obtain ⟨⟨hl,hlc,hc63,hby⟩,hk⟩:=h
     refine upon_ok (w':=w.alloc (.cells (List.replicate c.toNat z).flatten.toArray e)) ?_ (hV _ _ (hk _ _ rfl rfl))
     simp only [execOp,hf.ev h1,hf.ev h2,Sem.run_bind,run_makeSlice' hu hs hb hz hzs hl hlc hc63 hby,Result.andThen_ok,Sem.run_pure]
   ·exact h.elim
  ·exact h.elim
 ·rename_i g args ts
  split at h
  ·rename_i g' first cap vs h1 h2
   cases hg:ok g'
   ·simp only [hg,cond_false] at h
   ·simp only [hg,cond_true] at h
    have e1:args.map a.eval=vs.toArray:=by apply Array.ext';rw [Array.toList_map];exact hf.evL h2
    unfold Oper.wp
    have hr:(execOp a.eval ⟨dst,.call ⟨.value g,args,ts⟩,ty,pos,after,guard⟩).run P w=.ok (.enter g' (first.toList++(vs++cap.toList)).toArray) w:=by
     simp only [execOp,resolve,hf.ev h1,e1,Deferred.ofValue,Sem.run_bind,Sem.run_pure,Result.andThen_ok,invoke]
     rw [hok g' hg]
     congr 2
     apply Array.ext'
     simp
    rw [hr]
    exact Calls.mono h λe w' ⟨x,he,hx⟩=>by subst he;exact hV _ _ hx
  ·exact h.elim
 ·rename_i b args ts
  split at h
  ·rename_i vs he
   have e1:args.map a.eval=vs.toArray:=by apply Array.ext';rw [Array.toList_map];exact hf.evL he
   obtain ⟨v,w',hv,hr⟩:=run_eBuiltin h
   refine upon_ok (w':=w') (v:=v) ?_ (hV _ _ hv)
   simp only [execOp,resolve,e1,Sem.run_bind,Sem.run_pure,Result.andThen_ok,invoke]
   exact hr _ _
  ·exact h.elim
 ·rename_i t
  refine upon_ok (w':=w.alloc (.map #[] 0)) (v:=.map (some w.heap.size)) ?_ (hV _ _ (h _ _ rfl rfl))
  rfl
 ·rename_i t x
  split at h
  ·rename_i k1 k2 n' hu h1
   refine upon_ok (w':=w.alloc (.map #[] 0)) (v:=.map (some w.heap.size)) ?_ (hV _ _ (h _ _ rfl rfl))
   simp only [execOp,Instr.makeMap,Option.map_some,hf.ev h1,Sem.run_bind,run_underlying hu,Result.andThen_ok,asInt,Sem.run_pure]
   rfl
  ·exact h.elim
 ·rename_i t x ix c
  split at h
  ·rename_i a' b' h1 h2
   obtain ⟨y,w',hr,hk⟩:=h
   refine upon_ok (w':=w') (v:=packV _ y) ?_ (hV _ _ hk)
   simp only [execOp,hf.ev h1,hf.ev h2,Sem.run_bind,hr,Result.andThen_ok,Sem.run_pure]
  ·exact h.elim
 ·rename_i t x ix
  split at h
  ·rename_i e1 e2 a' b' hu h1 h2
   obtain ⟨y,w',hr,hk⟩:=h
   refine upon_ok (w':=w') (v:=packV _ y) ?_ (hV _ _ hk)
   simp only [execOp,hf.ev h1,hf.ev h2,Sem.run_bind,hr,Result.andThen_ok,Sem.run_pure]
  ·exact h.elim
 ·rename_i t x ix y
  split at h
  ·rename_i a' b' c' h1 h2 h3
   obtain ⟨w',hr,hk⟩:=h
   unfold Oper.wp
   have hr':(execOp a.eval ⟨dst,.mapUpdate t x ix y,ty,pos,after,guard⟩).run P w=.ok .skip w':=by
    simp only [execOp,hf.ev h1,hf.ev h2,hf.ev h3,Sem.run_bind,hr,Result.andThen_ok,Sem.run_pure]
   rw [hr']
   exact hV _ _ hk
  ·exact h.elim
 ·rename_i t x ix y
  split at h
  ·rename_i a' b' c' h1 h2 h3
   obtain ⟨w',hr,hk⟩:=h
   unfold Oper.wp
   have hr':(execOp a.eval ⟨dst,.entryStore t x ix y,ty,pos,after,guard⟩).run P w=.ok .skip w':=by
    simp only [execOp,hf.ev h1,hf.ev h2,hf.ev h3,Sem.run_bind,hr,Result.andThen_ok,Sem.run_pure]
   rw [hr']
   exact hV _ _ hk
  ·exact h.elim
 ·exact h.elim
def isEff:Op->Bool
 | .alloc _=>true
 | .box _ _=>true
 | .buildSlice _ _ _=>true
 | .store _ _ _=>true
 | .makeSlice _ _ _=>true
 | .call ⟨.value _,_,_⟩=>true
 | .call ⟨.builtin .append,_,_⟩=>true
 | .call ⟨.builtin .copy,_,_⟩=>true
 | .call ⟨.builtin .clear,_,_⟩=>true
 | .call ⟨.builtin .delete,_,_⟩=>true
 | .makeMap _ _=>true
 | .lookup _ _ _ _=>true
 | .mapEntry _ _ _=>true
 | .mapUpdate _ _ _ _=>true
 | .entryStore _ _ _ _=>true
 | _=>false
def opK (P:Program) (ok:FuncId->Bool) (wr:Bool) (n:Nat) (o:Oper) (f:PF) (w:World) (K:PF->World->Prop):Prop:=
 cond (isEff o.op) (eOp P ok o.op o.type f w λv w'=>setK n f o.dst v λf'=>K f' w') (rOp P wr o.op f Grd.no w λv=>setK n f o.dst v λf'=>K f' w)
abbrev OkCalls (P:Program) (ok:FuncId->Bool):Prop:=∀ g,ok g=true->∀ args w,(callFunc g args).run P w=.ok (.enter g args) w
theorem opK.sound {P:Program} {ok:FuncId->Bool} (hok:OkCalls P ok) {wr:Bool} {n:Nat} {o:Oper} {f:PF} {a:Act} (hf:Fits n f a) {w:World} {K:PF->World->Prop} {Q:Exit->Act->World->Prop} (h:opK P ok wr n o f w K) :
  o.wp P a w (λa' w'=>∃ f' v,Fits n f' a'/\K f' w'/\a'=a.put o.dst v) Q:=by
 unfold opK at h
 cases he:isEff o.op
 ·rw [he] at h
  obtain ⟨v,hv,hr⟩:=rOp.sound hf h (S:=λw'=>w'=w) ⟨w,rfl⟩ (λw' e=>by subst e;exact Grd.Ok.no _)
  obtain ⟨f',hf',hk⟩:=setK.out hf hv
  exact upon_ok (hr w rfl) ⟨f',v,hf',hk,rfl⟩
 ·rw [he] at h
  simp only [cond_true] at h
  refine eOp.sound hok hf (V:=λv w'=>setK n f o.dst v λf'=>K f' w') (λv w' hv=>?_) h
  obtain ⟨f',hf',hk⟩:=setK.out hf hv
  exact ⟨f',v,hf',hk,rfl⟩
theorem Fits.over {n:Nat} {f:PF} {a:Act} (h:Fits n f a) {t:Nat} {v:Value} (ht:a.tmps[t]? = some v):Fits n (f.put t v) a:=by
 refine ⟨h.size,h.defers,λi u hu=>?_⟩
 unfold PF.put at hu
 cases hb:Nat.beq i t
 ·rw [hb] at hu;exact h.get i u hu
 ·rw [hb] at hu
  simp only [cond_true,Option.some.injEq] at hu
  rw [Nat.eq_of_beq_eq_true hb,<- hu]
  exact ht
def gK (ops:List Oper) (g:Option (Nat×Bool)) (f:PF) (K:Bool->PF->Prop):Prop:=
 match g with
 | none=>K true f
 | some (j,want)=>
  match (ops[j]?).bind (·.dst) with
  | none=>K false f
  | some t=>
   match f t with
   | some (.bool b)=>cond b (K want (f.put t (.bool true))) (K (!want) (f.put t (.bool false)))
   | some (.tuple _)=>K false f
   | _=>False
theorem gK.sound {ops:Array Oper} {o:Oper} {n:Nat} {f:PF} {a:Act} (hf:Fits n f a) {K:Bool->PF->Prop} (h:gK ops.toList o.guard f K) :
  ∃ r f',Fits n f' a/\K r f'/\Region.wanted o (yielded ops a.tmps)=r:=by
 unfold gK at h
 split at h
 ·rename_i hg
  exact ⟨true,f,hf,h,by simp [Region.wanted,hg]⟩
 ·rename_i j want hg
  have hy:yielded ops a.tmps j=match ((ops.toList[j]?).bind (·.dst)).bind (a.tmps[·]?) with | some (.bool b)=>some b | _=>none:=by
   unfold yielded;rw [<-Array.getElem?_toList];rfl
  split at h
  ·rename_i hd
   refine ⟨false,f,hf,h,?_⟩
   simp only [Region.wanted,hg,hy,hd,Option.bind_none]
   rfl
  ·rename_i t hd
   split at h
   ·rename_i b hb
    have ht:=hf.get _ _ hb
    have hr:Region.wanted o (yielded ops a.tmps)=(some b == some want):=by
     simp only [Region.wanted,hg,hy,hd,Option.bind_some,ht]
    cases b
    ·exact ⟨_,_,hf.over ht,h,by rw [hr];cases want <;> rfl⟩
    ·exact ⟨_,_,hf.over ht,h,by rw [hr];cases want <;> rfl⟩
   ·rename_i vs hb
    have ht:=hf.get _ _ hb
    refine ⟨false,f,hf,h,?_⟩
    simp only [Region.wanted,hg,hy,hd,Option.bind_some,ht]
    rfl
   ·exact h.elim
def Same (ws:Nat->Bool) (a0 a:Act):Prop:=∀ i,ws i=false->a.tmps[i]? = a0.tmps[i]?
theorem Same.refl (ws:Nat->Bool) (a:Act):Same ws a a:=λ_ _=>rfl
def dstIn (ws:Nat->Bool) (d:Option Nat):Bool:=match d with | some d=>ws d | none=>true
theorem Same.put {ws:Nat->Bool} {a0 a:Act} (h:Same ws a0 a) {d:Option Nat} (hd:dstIn ws d=true) (v:Value):Same ws a0 (a.put d v):=by
 cases d with
 | none=>exact h
 | some d=>
  intro i hi
  simp only [Act.put]
  rw [Array.getElem?_setIfInBounds,if_neg (λe=>by subst e;simp only [dstIn] at hd;rw [hd] at hi;cases hi)]
  exact h i hi
def vcOps (P:Program) (ok:FuncId->Bool) (wr:Bool) (n:Nat) (ops:List Oper) (K:PF->World->Prop):List Oper->PF->World->Prop
 | [],f,w=>K f w
 | o::rest,f,w=>gK ops o.guard f λr f'=>
   cond r (opK P ok wr n o f' w λf'' w'=>vcOps P ok wr n ops K rest f'' w') (setK n f' o.dst undef λf''=>vcOps P ok wr n ops K rest f'' w)
theorem vcOps.sound {P:Program} {ok:FuncId->Bool} (hok:OkCalls P ok) {wr:Bool} {n:Nat} {ops:Array Oper} {K:PF->World->Prop} {Q:Exit->Act->World->Prop} {ws:Nat->Bool} {a0:Act}
  (hQ:∀ f' a' w',Fits n f' a'->K f' w'->Same ws a0 a'->Q .normal a' w') :
  ∀ (l:List Oper),(l.all λo=>dstIn ws o.dst)=true->∀ {f:PF} {a:Act} {w:World},Fits n f a->Same ws a0 a->vcOps P ok wr n ops.toList K l f w->wpList P ops Q l a w
 | [],_,f,a,w,hf,hs,h=>hQ _ _ _ hf h hs
 | o::rest,hw,f,a,w,hf,hs,h=>by
  simp only [List.all_cons,Bool.and_eq_true] at hw
  simp only [vcOps] at h
  obtain ⟨r,f1,hf1,h1,hr⟩:=gK.sound hf h
  unfold wpList
  rw [hr]
  cases r
  ·simp only [cond_false,Bool.false_eq_true,if_false] at h1 ⊢
   obtain ⟨f2,hf2,h2⟩:=setK.out hf1 h1
   exact vcOps.sound hok hQ rest hw.2 hf2 (hs.put hw.1 _) h2
  ·simp only [cond_true,if_true] at h1 ⊢
   refine .inl (Oper.wp_mono ?_ (opK.sound hok hf1 h1))
   rintro a' w' ⟨f2,v,hf2,h2,rfl⟩
   exact vcOps.sound hok hQ rest hw.2 hf2 (hs.put hw.1 _) h2
def KeepOn (D:Nat->Prop) (w w':World):Prop:=∀ k,D k->w'.heap[k]? = w.heap[k]?
inductive Plan where
 | done
 | take (i:Nat) (p:Plan)
 | eff (i:Nat) (p:Plan)
 | base (p:Plan)
 | both (i:Nat) (p:Plan) (j:Nat) (q:Plan)
def Plan.size:Plan->Nat
 | .done=>0
 | .take _ p=>p.size+1
 | .eff _ p=>p.size+1
 | .base p=>p.size
 | .both _ p _ q=>max p.size q.size+1
def vcPlan (P:Program) (ok:FuncId->Bool) (wr:Bool) (n:Nat) (ops:Array Oper) (K:PF->World->Prop):Plan->(World->Prop)->World->(Nat->Prop)->Array Bool->PF->World->Prop
 | .done,_,_,_,l,f,w=>cond (Region.ready .any ops l).isEmpty (K f w) False
 | .take i p,S,w0,D,l,f,w=>
  match ops.toList[i]? with
  | none=>False
  | some o=>
   cond (Region.free .any ops l i && (Region.ready .any ops l).contains i)
    (gK ops.toList o.guard f λr f'=>
     cond r (rOp P wr o.op f' (Grd.on D) w0 λv=>setK n f' o.dst v λf''=>vcPlan P ok wr n ops K p S w0 D (l.setIfInBounds i true) f'' w)
      (setK n f' o.dst undef λf''=>vcPlan P ok wr n ops K p S w0 D (l.setIfInBounds i true) f'' w)) False
 | .eff i p,S,w0,D,l,f,w=>
  match ops.toList[i]? with
  | none=>False
  | some o=>
   cond (Region.ready .any ops l == [i])
    (gK ops.toList o.guard f λr f'=>
     cond r (opK P ok wr n o f' w λf'' w'=>S w'/\vcPlan P ok wr n ops K p S w0 D (l.setIfInBounds i true) f'' w')
      (setK n f' o.dst undef λf''=>vcPlan P ok wr n ops K p S w0 D (l.setIfInBounds i true) f'' w)) False
 | .both i p j q,S,w0,D,l,f,w=>
  match ops.toList[i]?,ops.toList[j]? with
  | some o,some o'=>
   cond (Region.ready .any ops l == [i,j])
    ((gK ops.toList o.guard f λr f'=>
     cond r (opK P ok wr n o f' w λf'' w'=>S w'/\vcPlan P ok wr n ops K p S w0 D (l.setIfInBounds i true) f'' w')
      (setK n f' o.dst undef λf''=>vcPlan P ok wr n ops K p S w0 D (l.setIfInBounds i true) f'' w)) /\
    (gK ops.toList o'.guard f λr f'=>
     cond r (opK P ok wr n o' f' w λf'' w'=>S w'/\vcPlan P ok wr n ops K q S w0 D (l.setIfInBounds j true) f'' w')
      (setK n f' o'.dst undef λf''=>vcPlan P ok wr n ops K q S w0 D (l.setIfInBounds j true) f'' w))) False
  | _,_=>False
 | .base p,S,w0,D,l,f,w=>∃ D':Nat->Prop,vcPlan P ok wr n ops K p (λw'=>S w'/\KeepOn D' w w') w D' l f w
theorem wpAnyH_mono {P:Program} {md:Region.Mode} {ops:Array Oper} {Q:Exit->Act->World->Prop} {S S':World->Prop} (hS:∀ w,S' w->S w) :
  ∀ (fuel:Nat) (l:Array Bool) (a:Act) (w:World),wpAnyH P md ops Q S' fuel l a w->wpAnyH P md ops Q S fuel l a w
 | 0,_,_,_,h=>h
 | fuel+1,l,a,w,h=>⟨h.1,λi hi=>wpOp_mono (λa' w' h'=>⟨hS _ h'.1,wpAnyH_mono hS fuel _ _ _ h'.2⟩) (h.2 i hi)⟩
theorem vcPlan.sound {P:Program} {ok:FuncId->Bool} (hok:OkCalls P ok) {wr:Bool} {n:Nat} {ops:Array Oper} {K:PF->World->Prop} {Q:Exit->Act->World->Prop} {ws:Nat->Bool} {a0:Act}
  (hQ:∀ f' a' w',Fits n f' a'->K f' w'->Same ws a0 a'->Q .normal a' w') (hQp:∀ c a w,¬ Q (.panic c) a w) (hsel:Region.noSelect ops=true) (hw:(ops.toList.all λo=>dstIn ws o.dst)=true) :
  ∀ (p:Plan) (S:World->Prop) (w0:World) (D:Nat->Prop) (fuel:Nat) (l:Array Bool) (f:PF) (a:Act) (w:World),p.size<=fuel->S w->(∀ w,S w->(Grd.on D).Ok w0 w)->Fits n f a->Same ws a0 a ->
   vcPlan P ok wr n ops K p S w0 D l f w->wpAnyH P .any ops Q S fuel l a w:=by
 have hdst:∀ {i:Nat} {o:Oper},ops.toList[i]? = some o->dstIn ws o.dst=true:=λho=>List.all_eq_true.1 hw _ (List.mem_of_getElem? ho)
 intro p
 induction p with
 | done=>
  intro S w0 D fuel l f a w _ hS hG hf hs h
  simp only [vcPlan] at h
  cases hr:(Region.ready .any ops l).isEmpty
  ·rw [hr] at h;exact h.elim
  ·rw [hr] at h
   exact wpAnyH_done (List.isEmpty_iff.1 hr) (hQ _ _ _ hf h hs) fuel
 | take i p ih=>
  intro S w0 D fuel l f a w hfu hS hG hf hs h
  simp only [vcPlan] at h
  split at h
  ·exact h.elim
  ·rename_i o ho
   have ho':ops[i]? = some o:=by simpa using ho
   cases hc:(Region.free .any ops l i && (Region.ready .any ops l).contains i)
   ·rw [hc] at h;exact h.elim
   ·rw [hc] at h
    simp only [Bool.and_eq_true,cond_true] at hc h
    obtain ⟨r,f1,hf1,h1,hr⟩:=gK.sound hf h
    cases fuel with
    | zero=>simp [Plan.size] at hfu
    | succ fuel=>
     have hfu':p.size<=fuel:=by simp [Plan.size] at hfu;omega
     cases r
     ·simp only [cond_false] at h1
      obtain ⟨f2,hf2,h2⟩:=setK.out hf1 h1
      exact wpAnyH_take ho' hsel hc.1 hc.2 (λc a w h=>absurd h (hQp c _ _)) (.inr ⟨hr,rfl⟩) hS (ih S w0 D fuel _ f2 _ w hfu' hS hG hf2 (hs.put (hdst ho) _) h2)
     ·simp only [cond_true] at h1
      obtain ⟨v,hv,hrun⟩:=rOp.sound hf1 h1 ⟨w,hS⟩ hG
      obtain ⟨f2,hf2,h2⟩:=setK.out hf1 hv
      exact wpAnyH_take ho' hsel hc.1 hc.2 (λc a w h=>absurd h (hQp c _ _)) (.inl ⟨hr,hrun⟩) hS (ih S w0 D fuel _ f2 _ w hfu' hS hG hf2 (hs.put (hdst ho) _) h2)
 | eff i p ih=>
  intro S w0 D fuel l f a w hfu hS hG hf hs h
  simp only [vcPlan] at h
  split at h
  ·exact h.elim
  ·rename_i o ho
   have ho':ops[i]? = some o:=by simpa using ho
   cases hc:(Region.ready .any ops l == [i])
   ·rw [hc] at h;exact h.elim
   ·rw [hc] at h
    simp only [cond_true] at h
    have hc:=eq_of_beq hc
    obtain ⟨r,f1,hf1,h1,hr⟩:=gK.sound hf h
    cases fuel with
    | zero=>simp [Plan.size] at hfu
    | succ fuel=>
     have hfu':p.size<=fuel:=by simp [Plan.size] at hfu;omega
     refine wpAnyH_all hc (by simp) λi' hi'=>?_
     have:i'=i:=by simpa using hi'
     subst this
     unfold wpOp
     simp only [ho',hr]
     cases r
     ·simp only [cond_false,Bool.false_eq_true,if_false] at h1 ⊢
      obtain ⟨f2,hf2,h2⟩:=setK.out hf1 h1
      exact ⟨hS,ih S w0 D fuel _ f2 _ w hfu' hS hG hf2 (hs.put (hdst ho) _) h2⟩
     ·simp only [cond_true,if_true] at h1 ⊢
      refine .inl (Oper.wp_mono ?_ (opK.sound hok hf1 h1))
      rintro a' w' ⟨f2,v,hf2,⟨hS',h2⟩,rfl⟩
      exact ⟨hS',ih S w0 D fuel _ f2 _ w' hfu' hS' hG hf2 (hs.put (hdst ho) _) h2⟩
 | both i p j q ih1 ih2=>
  intro S w0 D fuel l f a w hfu hS hG hf hs h
  simp only [vcPlan] at h
  split at h
  ·rename_i o o' ho hoj
   have ho':ops[i]? = some o:=by simpa using ho
   have hoj':ops[j]? = some o':=by simpa using hoj
   cases hc:(Region.ready .any ops l == [i,j])
   ·rw [hc] at h;exact h.elim
   ·rw [hc] at h
    simp only [cond_true] at h
    have hc:=eq_of_beq hc
    obtain ⟨ha,hb⟩:=h
    cases fuel with
    | zero=>simp [Plan.size] at hfu
    | succ fuel=>
     have hfu1:p.size<=fuel:=by simp [Plan.size] at hfu;omega
     have hfu2:q.size<=fuel:=by simp [Plan.size] at hfu;omega
     refine wpAnyH_all hc (by simp) λi' hi'=>?_
     rcases List.mem_cons.1 hi' with rfl | hi'
     ·obtain ⟨r,f1,hf1,h1,hr⟩:=gK.sound hf ha
      unfold wpOp
      simp only [ho',hr]
      cases r
      ·simp only [cond_false,Bool.false_eq_true,if_false] at h1 ⊢
       obtain ⟨f2,hf2,h2⟩:=setK.out hf1 h1
       exact ⟨hS,ih1 S w0 D fuel _ f2 _ w hfu1 hS hG hf2 (hs.put (hdst ho) _) h2⟩
      ·simp only [cond_true,if_true] at h1 ⊢
       refine .inl (Oper.wp_mono ?_ (opK.sound hok hf1 h1))
       rintro a' w' ⟨f2,v,hf2,⟨hS',h2⟩,rfl⟩
       exact ⟨hS',ih1 S w0 D fuel _ f2 _ w' hfu1 hS' hG hf2 (hs.put (hdst ho) _) h2⟩
     ·have:i'=j:=by simpa using hi'
      subst this
      obtain ⟨r,f1,hf1,h1,hr⟩:=gK.sound hf hb
      unfold wpOp
      simp only [hoj',hr]
      cases r
      ·simp only [cond_false,Bool.false_eq_true,if_false] at h1 ⊢
       obtain ⟨f2,hf2,h2⟩:=setK.out hf1 h1
       exact ⟨hS,ih2 S w0 D fuel _ f2 _ w hfu2 hS hG hf2 (hs.put (hdst hoj) _) h2⟩
      ·simp only [cond_true,if_true] at h1 ⊢
       refine .inl (Oper.wp_mono ?_ (opK.sound hok hf1 h1))
       rintro a' w' ⟨f2,v,hf2,⟨hS',h2⟩,rfl⟩
       exact ⟨hS',ih2 S w0 D fuel _ f2 _ w' hfu2 hS' hG hf2 (hs.put (hdst hoj) _) h2⟩
  ·exact h.elim
 | base p ih=>
  intro S w0 D fuel l f a w hfu hS hG hf hs h
  simp only [vcPlan] at h
  obtain ⟨D',h⟩:=h
  refine wpAnyH_mono (S':=λw'=>S w'/\KeepOn D' w w') (λw h=>h.1) _ _ _ _ ?_
  exact ih _ w D' fuel l f a w (by simpa [Plan.size] using hfu) ⟨hS,λ_ _=>rfl⟩ (λw' h p X hp=>⟨hp.2,h.2 _ hp.1⟩) hf hs h
def DrawV (body:(Nat->Prop)->Prop):Prop:=∃ D:Nat->Prop,body D
def vcDraw (P:Program) (ok:FuncId->Bool) (wr:Bool) (n:Nat) (ops:Array Oper) (p:Plan) (K:PF->World->Prop) (f:PF) (w:World):Prop:=
 cond (Nat.ble p.size ops.toList.length && Region.noSelect ops)
  (DrawV λD=>vcPlan P ok wr n ops K p (KeepOn D w.drew) w.drew D (Array.replicate ops.size false) f w.drew) False
def readK:(ss:List (Nat×Sh))->PF->(RT (ss.map Prod.snd)->Prop)->Prop
 | [],_,K=>K ()
 | (d,h)::t,f,K=>
  match f d with
  | some v=>(match h.rd v with | some x=>readK t f λy=>K (x,y) | none=>False)
  | none=>False
def putL:(ss:List (Nat×Sh))->RT (ss.map Prod.snd)->PF->PF
 | [],_,f=>f
 | (d,h)::t,x,f=>(putL t x.2 f).put d (h.v x.1)
theorem readK.out:∀ {ss:List (Nat×Sh)} {f:PF} {K:RT (ss.map Prod.snd)->Prop},readK ss f K ->
  ∃ x,K x/\∀ (n:Nat) (g:PF) (a:Act),Fits n f a->(Fits n g a)->Fits n (putL ss x g) a
 | [],f,K,h=>⟨(),h,λ_ _ _ _ hg=>hg⟩
 | (d,hh)::t,f,K,h=>by
  simp only [readK] at h
  split at h
  ·rename_i v hv
   split at h
   ·rename_i x hx
    obtain ⟨y,hk,hp⟩:=readK.out h
    refine ⟨(x,y),hk,λn g a hf hg=>?_⟩
    have:=(hp n g a hf hg).over (t:=d) (v:=hh.v x) (by rw [hf.get _ _ hv,Sh.rd_v hx])
    exact this
   ·exact h.elim
  ·exact h.elim
def LoopV (ss:List Sh) (x0:RT ss) (w0:World) (body:RT ss->World->(RT ss->World->Prop)->Prop):Prop:=
 ∃ (I:RT ss->World->Prop) (μ:RT ss->World->Nat),I x0 w0/\∀ x w,I x w->body x w λx' w'=>I x' w'/\μ x' w'<μ x w
def JoinV (ss:List Sh) (J:RT ss->World->Prop) (body:(RT ss->World->Prop)->Prop):Prop:=
 ∃ I:RT ss->World->Prop,(∀ x w,I x w->J x w)/\body I
inductive Ann where
 | no
 | two (a b:Ann)
 | one (a:Ann)
 | loop (ws:List Nat) (ss:List (Nat×Sh)) (a:Ann)
 | join (ws:List Nat) (ss:List (Nat×Sh)) (a b:Ann)
 | draw (p:Plan)
def Ann.l:Ann->Ann
 | .two a _=>a
 | _=>.no
def Ann.r:Ann->Ann
 | .two _ b=>b
 | _=>.no
def Ann.o:Ann->Ann
 | .one a=>a
 | _=>.no
def wrIn (ws:Nat->Bool):Code->Bool
 | .region _ ops _=>ops.toList.all λo=>dstIn ws o.dst
 | .seq a b=>wrIn ws a && wrIn ws b
 | .cond _ a b=>wrIn ws a && wrIn ws b
 | .block _ a=>wrIn ws a
 | .loop a=>wrIn ws a
 | .rangeFunc _ _ _ _=>false
 | .scope a=>wrIn ws a
 | _=>true
def thenQ (Q:Exit->PF->World->Prop) (K:PF->World->Prop):Exit->PF->World->Prop
 | .normal,f,w=>K f w
 | .exit i,f,w=>Q (.exit i) f w
 | .ret,f,w=>Q .ret f w
 | _,_,_=>False
def blockQ (id:Nat) (Q:Exit->PF->World->Prop):Exit->PF->World->Prop
 | .normal,f,w=>Q .normal f w
 | .exit i,f,w=>cond (Nat.beq i id) (Q .normal f w) (Q (.exit i) f w)
 | .ret,f,w=>Q .ret f w
 | _,_,_=>False
def vcF (P:Program) (ok:FuncId->Bool) (wr:Bool) (n:Nat):Code->Ann->(Exit->PF->World->Prop)->PF->World->Prop
 | .skip,_,Q,f,w=>Q .normal f w
 | .label _,_,Q,f,w=>Q .normal f w
 | .ret,_,Q,f,w=>Q .ret f w
 | .exit i,_,Q,f,w=>Q (.exit i) f w
 | .region _ ops dr,A,Q,f,w=>
  match dr,A with
  | false,_=>vcOps P ok wr n ops.toList (Q .normal) ops.toList f w
  | true,.draw p=>vcDraw P ok wr n ops p (Q .normal) f w
  | true,_=>False
 | .seq x y,A,Q,f,w=>
  match A with
  | .join ws ss a b=>
   cond (wrIn (λi=>ws.elem i) x)
    (JoinV (ss.map Prod.snd) (λv w'=>vcF P ok wr n y b Q (putL ss v (f.forget ws)) w') λJ=>vcF P ok wr n x a (thenQ Q λf' w'=>readK ss f' λv=>J v w') f w) False
  | A=>vcF P ok wr n x A.l (thenQ Q λf' w'=>vcF P ok wr n y A.r Q f' w') f w
 | .cond c x y,A,Q,f,w=>
  match ev f c with
  | some (.bool t)=>cond t (vcF P ok wr n x A.l Q f w) (vcF P ok wr n y A.r Q f w)
  | _=>False
 | .block id c,A,Q,f,w=>vcF P ok wr n c A.o (blockQ id Q) f w
 | .scope c,A,Q,f,w=>vcF P ok wr n c A.o Q f w
 | .loop c,A,Q,f,w=>
  match A with
  | .loop ws ss a=>
   cond (wrIn (λi=>ws.elem i) c)
    (readK ss f λx0=>LoopV (ss.map Prod.snd) x0 w λx w' K=>vcF P ok wr n c a (thenQ Q λf' w''=>readK ss f' λx'=>K x' w'') (putL ss x (f.forget ws)) w') False
  | _=>False
 | _,_,_,_,_=>False
def good:Exit->Prop
 | .normal=>True
 | .exit _=>True
 | .ret=>True
 | _=>False
def Lift (n:Nat) (ws:Nat->Bool) (a0:Act) (Q:Exit->PF->World->Prop) (e:Exit) (a:Act) (w:World):Prop:=
 good e/\∃ f,Fits n f a/\Q e f w/\Same ws a0 a
theorem dstIn_and {ws js:Nat->Bool} {d:Option Nat} (h1:dstIn ws d=true) (h2:dstIn js d=true):dstIn (λi=>ws i && js i) d=true:=by
 cases d with
 | none=>rfl
 | some d=>simp only [dstIn] at *;simp [h1,h2]
theorem wrIn_and {ws js:Nat->Bool}:∀ (c:Code),wrIn ws c=true->wrIn js c=true->wrIn (λi=>ws i && js i) c=true:=by
 intro c
 induction c with
 | region id ops dr=>
  intro h1 h2
  simp only [wrIn,List.all_eq_true] at *
  exact λo ho=>dstIn_and (h1 o ho) (h2 o ho)
 | seq x y ihx ihy=>
  intro h1 h2
  simp only [wrIn,Bool.and_eq_true] at *
  exact ⟨ihx h1.1 h2.1,ihy h1.2 h2.2⟩
 | cond c x y ihx ihy=>
  intro h1 h2
  simp only [wrIn,Bool.and_eq_true] at *
  exact ⟨ihx h1.1 h2.1,ihy h1.2 h2.2⟩
 | block id x ih=>exact λh1 h2=>ih h1 h2
 | loop x ih=>exact λh1 h2=>ih h1 h2
 | scope x ih=>exact λh1 h2=>ih h1 h2
 | rangeFunc _ _ _ _ _ _=>intro h1 h2;simp [wrIn] at h1
 | _=>intros;rfl
theorem Same.trans_and {ws js:Nat->Bool} {a0 a a':Act} (h:Same ws a0 a) (h':Same (λi=>ws i && js i) a a'):Same ws a0 a':=λi hi=>by
 rw [h' i (by simp [hi]),h i hi]
theorem Fits.stays {n:Nat} {f:PF} {js:List Nat} {ws:Nat->Bool} {a a':Act} (h:Fits n (f.forget js) a) (hs:Same (λi=>ws i && js.elem i) a a') {g:PF} (hg:Fits n g a'):Fits n (f.forget js) a':=by
 refine ⟨hg.size,hg.defers,λi v hv=>?_⟩
 have:=h.get i v hv
 unfold PF.forget at hv
 cases hb:js.elem i
 ·have h2:=hs i (by simp only [hb,Bool.and_false])
  rw [h2];exact this
 ·rw [hb] at hv;cases hv
theorem vcF.sound {P:Program} {ok:FuncId->Bool} (hok:OkCalls P ok) (hm:P.follows .mixedOrders=true) {wr:Bool} {n:Nat}:∀ (c:Code) (A:Ann) (Q:Exit->PF->World->Prop) (ws:Nat->Bool) (a0:Act),
  wrIn ws c=true->∀ {f:PF} {a:Act} {w:World},Fits n f a->Same ws a0 a->vcF P ok wr n c A Q f w->c.wp P (Lift n ws a0 Q) a w:=by
 intro c
 induction c with
 | skip=>intro A Q ws a0 _ f a w hf hs h;exact wp_skip ⟨trivial,f,hf,h,hs⟩
 | label l=>intro A Q ws a0 _ f a w hf hs h;exact wp_label ⟨trivial,f,hf,h,hs⟩
 | ret=>intro A Q ws a0 _ f a w hf hs h;exact wp_ret ⟨trivial,f,hf,h,hs⟩
 | exit i=>intro A Q ws a0 _ f a w hf hs h;exact wp_exit ⟨trivial,f,hf,h,hs⟩
 | goto l=>intro A Q ws a0 _ f a w hf hs h;exact h.elim
 | refuse y=>intro A Q ws a0 _ f a w hf hs h;exact h.elim
 | scope x ih=>
  intro A Q ws a0 hw f a w hf hs h
  refine wp_scope_straight (wp_mono (ih _ _ ws a0 hw hf hs h) ?_)
  rintro e a' w' ⟨hg,f',hf',hq,hs'⟩
  cases e <;> first | exact hg.elim | exact ⟨hg,f',hf',hq,hs'⟩
 | rangeFunc _ _ _ _ _ _=>intro A Q ws a0 _ f a w hf hs h;exact h.elim
 | region id ops dr=>
  intro A Q ws a0 hw f a w hf hs h
  simp only [wrIn] at hw
  cases dr with
  | false=>
   have h:vcOps P ok wr n ops.toList (Q .normal) ops.toList f w:=h
   exact wp_region_list (vcOps.sound hok (λf' a' w' hf' hk hs'=>⟨trivial,f',hf',hk,hs'⟩) ops.toList hw hf hs h)
  | true=>
   cases A <;> first | exact h.elim | skip
   rename_i p
   have h:vcDraw P ok wr n ops p (Q .normal) f w:=h
   unfold vcDraw at h
   cases hc:(Nat.ble p.size ops.toList.length && Region.noSelect ops)
   ·rw [hc] at h;exact h.elim
   ·rw [hc] at h
    simp only [Bool.and_eq_true,cond_true] at hc h
    obtain ⟨D,h⟩:=h
    refine wp_region_held (S:=KeepOn D w.drew) hm ?_
    exact vcPlan.sound hok (Q:=Lift n ws a0 Q) (λf' a' w' hf' hk hs'=>⟨trivial,f',hf',hk,hs'⟩) (λc a w h=>h.1) hc.2 hw p _ w.drew D ops.size _ f a w.drew
     (by have:=Nat.le_of_ble_eq_true hc.1;simpa using this) (λ_ _=>rfl) (λw' h p X hp=>⟨hp.2,h _ hp.1⟩) hf hs h
 | seq x y ihx ihy=>
  intro A Q ws a0 hw f a w hf hs h
  simp only [wrIn,Bool.and_eq_true] at hw
  have plain:∀ (A1 A2:Ann),vcF P ok wr n x A1 (thenQ Q λf' w'=>vcF P ok wr n y A2 Q f' w') f w->(Code.seq x y).wp P (Lift n ws a0 Q) a w:=by
   intro A1 A2 h
   refine wp_seq (wp_mono (ihx _ _ ws a0 hw.1 hf hs h) ?_)
   rintro e a' w' ⟨hg,f',hf',hq,hs'⟩
   cases e <;> first | exact ihy _ _ ws a0 hw.2 hf' hs' hq | exact ⟨trivial,f',hf',hq,hs'⟩ | exact hg.elim
  cases A with
  | join js ss A1 A2=>
   have h:cond (wrIn (λi=>js.elem i) x) (JoinV (ss.map Prod.snd) (λv w'=>vcF P ok wr n y A2 Q (putL ss v (f.forget js)) w') λJ=>vcF P ok wr n x A1 (thenQ Q λf' w'=>readK ss f' λv=>J v w') f w) False:=h
   cases hj:wrIn (λi=>js.elem i) x
   ·rw [hj] at h;exact h.elim
   ·rw [hj] at h
    obtain ⟨I,hI,h⟩:=h
    refine wp_seq (wp_mono (ihx _ _ (λi=>ws i && js.elem i) a (wrIn_and x hw.1 hj) hf (Same.refl _ _) h) ?_)
    rintro e a' w' ⟨hg,f',hf',hq,hs'⟩
    cases e with
    | normal=>
     obtain ⟨v,hv,hp⟩:=readK.out hq
     exact ihy _ _ ws a0 hw.2 (hp n _ a' hf' ((hf.forget js).stays hs' hf')) (hs.trans_and hs') (hI _ _ hv)
    | exit i=>exact ⟨trivial,f',hf',hq,hs.trans_and hs'⟩
    | ret=>exact ⟨trivial,f',hf',hq,hs.trans_and hs'⟩
    | _=>exact hg.elim
  | _=>exact plain _ _ h
 | cond c x y ihx ihy=>
  intro A Q ws a0 hw f a w hf hs h
  simp only [wrIn,Bool.and_eq_true] at hw
  simp only [vcF] at h
  split at h
  ·rename_i t ht
   refine wp_cond_split (hf.ev ht) (λe=>?_) (λe=>?_)
   ·subst e;exact ihx _ _ ws a0 hw.1 hf hs h
   ·subst e;exact ihy _ _ ws a0 hw.2 hf hs h
  ·exact h.elim
 | block id x ih=>
  intro A Q ws a0 hw f a w hf hs h
  refine wp_block (wp_mono (ih _ _ ws a0 hw hf hs h) ?_)
  rintro e a' w' ⟨hg,f',hf',hq,hs'⟩
  cases e with
  | exit i=>
   show if i=id then _ else _
   have hq:cond (Nat.beq i id) (Q .normal f' w') (Q (.exit i) f' w'):=hq
   by_cases e:i=id
   ·rw [if_pos e]
    have:Nat.beq i id=true:=by rw [e];exact Nat.beq_refl id
    rw [this] at hq
    exact ⟨trivial,f',hf',hq,hs'⟩
   ·rw [if_neg e]
    have:Nat.beq i id=false:=by
     cases hb:Nat.beq i id
     ·rfl
     ·exact absurd (Nat.eq_of_beq_eq_true hb) e
    rw [this] at hq
    exact ⟨trivial,f',hf',hq,hs'⟩
  | normal=>exact ⟨trivial,f',hf',hq,hs'⟩
  | ret=>exact ⟨trivial,f',hf',hq,hs'⟩
  | _=>exact hg.elim
 | loop x ih=>
  intro A Q ws a0 hw f a w hf hs h
  cases A with
  | loop js ss A1=>
   have h:cond (wrIn (λi=>js.elem i) x) (readK ss f λx0=>LoopV (ss.map Prod.snd) x0 w λx1 w' K=>vcF P ok wr n x A1 (thenQ Q λf' w''=>readK ss f' λx'=>K x' w'') (putL ss x1 (f.forget js)) w') False:=h
   cases hj:wrIn (λi=>js.elem i) x
   ·rw [hj] at h;exact h.elim
   ·rw [hj] at h
    simp only [cond_true] at h
    obtain ⟨x0,⟨I,μ,h0,hstep⟩,hp0⟩:=readK.out h
    refine wp_loop_ghost (λk a' w'=>∃ x1,Fits n (putL ss x1 (f.forget js)) a'/\Fits n (f.forget js) a'/\I x1 w'/\μ x1 w'=k/\Same ws a0 a') (μ x0 w)
     ⟨x0,hp0 n _ a hf (hf.forget js),hf.forget js,h0,rfl,hs⟩ ?_
    rintro k a1 w1 ⟨x1,hf1,hff1,hI1,rfl,hs1⟩
    refine wp_mono (ih _ _ (λi=>ws i && js.elem i) a1 (wrIn_and x hw hj) hf1 (Same.refl _ _) (hstep x1 w1 hI1)) ?_
    rintro e a' w' ⟨hg,f',hf',hq,hs'⟩
    cases e with
    | normal=>
     obtain ⟨v,hv,hp⟩:=readK.out hq
     have hst:=hff1.stays hs' hf'
     exact ⟨_,hv.2,v,hp n _ a' hf' hst,hst,hv.1,rfl,hs1.trans_and hs'⟩
    | exit i=>exact ⟨trivial,f',hf',hq,hs1.trans_and hs'⟩
    | ret=>exact ⟨trivial,f',hf',hq,hs1.trans_and hs'⟩
    | _=>exact hg.elim
  | _=>exact h.elim
def resK (P:Program):List ResultVar->PF->World->(List Value->Prop)->Prop
 | [],_,_,K=>K []
 | .tmp t::rest,f,w,K=>(match f t with | some v=>resK P rest f w λvs=>K (v::vs) | none=>False)
 | .cell t ty::rest,f,w,K=>(match f t with | some (.pointer (some p))=>rLoad P ty Grd.no w p λv=>resK P rest f w λvs=>K (v::vs) | _=>False)
def rdL:(l:List Sh)->List Value->Option (RT l)
 | [],[]=>some ()
 | h::t,v::vs=>
  match h.rd v,rdL t vs with
  | some x,some y=>some (x,y)
  | _,_=>none
 | _,_=>none
theorem rdL_v:∀ {l:List Sh} {vs:List Value} {x:RT l},rdL l vs=some x->vs=valsR l x
 | [],[],_,_=>rfl
 | [],_::_,_,e=>by simp [rdL] at e
 | _::_,[],_,e=>by simp [rdL] at e
 | h::t,v::vs,x,e=>by
  simp only [rdL] at e
  cases h1:h.rd v with
  | none=>simp [h1] at e
  | some a=>
   cases h2:rdL t vs with
   | none=>simp [h1,h2] at e
   | some b=>
    simp only [h1,h2] at e
    cases e
    simp only [valsR]
    rw [<-rdL_v h2,Sh.rd_v h1]
def resF (tmps:Array Value) (r:ResultVar):Sem Value:=
 match r with
 | .tmp t=>pure (tmps.getD t undef)
 | .cell q t=>do loadVar t (<-asAddr (tmps.getD q undef))
theorem results_eq (fn:Func) (tmps:Array Value):results fn tmps=(do let vs<-fn.results.mapM (resF tmps);pure (if h:vs.size=1 then vs[0] else .tuple vs)):=by
 unfold results
 congr 2
theorem resK.out {P:Program} {n:Nat} {f:PF} {a:Act} (hf:Fits n f a) {w:World}:∀ {rs:List ResultVar} {K:List Value->Prop},resK P rs f w K ->
  ∃ vs,K vs/\(rs.mapM (resF a.tmps)).run P w=.ok vs w/\vs.length=rs.length
 | [],K,h=>⟨[],h,by simp [List.mapM_nil],rfl⟩
 | .tmp t::rest,K,h=>by
  simp only [resK] at h
  split at h
  ·rename_i v hv
   obtain ⟨vs,hk,hr,hl⟩:=resK.out hf h
   have ht:=hf.get _ _ hv
   have h1:(resF a.tmps (.tmp t)).run P w=.ok v w:=by simp [resF,ht]
   exact ⟨v::vs,hk,by simp only [List.mapM_cons,Sem.run_bind,h1,Sem.run_pure,Result.andThen_ok,hr],by simp [hl]⟩
  ·exact h.elim
 | .cell t ty::rest,K,h=>by
  simp only [resK] at h
  split at h
  ·rename_i p hv
   obtain ⟨v,hv2,hrun⟩:=run_rLoad h (S:=λw'=>w'=w) ⟨w,rfl⟩ (λw' e=>by subst e;exact Grd.Ok.no _)
   obtain ⟨vs,hk,hr,hl⟩:=resK.out hf hv2
   have ht:=hf.get _ _ hv
   have h1:(resF a.tmps (.cell t ty)).run P w=.ok v w:=by simp [resF,ht,asAddr,hrun w rfl]
   exact ⟨v::vs,hk,by simp only [List.mapM_cons,Sem.run_bind,h1,Sem.run_pure,Result.andThen_ok,hr],by simp [hl]⟩
  ·exact h.elim
def retK (P:Program) (l:List Sh) (rs:List ResultVar) (K:RT l->World->Prop):Exit->PF->World->Prop
 | .normal,f,w=>resK P rs f w λvs=>(match rdL l vs with | some x=>K x w | none=>False)
 | .ret,f,w=>resK P rs f w λvs=>(match rdL l vs with | some x=>K x w | none=>False)
 | _,_,_=>False
theorem retK.out {P:Program} {fn:Func} {l:List Sh} {K:RT l->World->Prop} {n:Nat} {ws:Nat->Bool} {a0:Act} (hl:l.length=fn.results.size) {e:Exit} {a:Act} {w:World} (h:Lift n ws a0 (retK P l fn.results.toList K) e a w) :
  bodyPost P fn (λe w'=>∃ x:RT l,e=.returned (packV l x)/\K x w') e a w:=by
 obtain ⟨hg,f,hf,hq,_⟩:=h
 have main:resK P fn.results.toList f w (λvs=>(match rdL l vs with | some x=>K x w | none=>False)) ->
   a.defers=[]/\∃ v,(results fn a.tmps).run P w=.ok v w/\∃ x:RT l,Ending.returned v=.returned (packV l x)/\K x w:=by
  intro hq
  obtain ⟨vs,hk,hr,hlen⟩:=resK.out hf hq
  split at hk
  ·rename_i x hx
   refine ⟨hf.defers,_,?_,x,rfl,hk⟩
   have hvs:=rdL_v hx
   rw [results_eq,Sem.run_bind,Array.mapM_eq_mapM_toList,Sem.run_map,hr]
   simp only [Result.andThen_ok,Sem.run_pure]
   congr 1
   cases l with
   | nil=>subst hvs;rfl
   | cons h t=>
    cases t with
    | nil=>subst hvs;rfl
    | cons h' t'=>subst hvs;rfl
  ·exact hk.elim
 cases e <;> first | exact hg.elim | exact main hq | exact hq.elim
theorem vc_calls {P:Program} {ok:FuncId->Bool} (hok:OkCalls P ok) (hm:P.follows .mixedOrders=true) {wr:Bool} {n:Nat} {g:FuncId} {fn:Func} {c:Code} {A:Ann} {args:Array Value} {w:World} {l:List Sh} {K:RT l->World->Prop}
  (hf:P.funcs[g]? = some fn) (hb:fn.body=some c) (hn:fn.ntmps=n) (hl:l.length=fn.results.size) (hw:wrIn (λ_=>true) c=true) (ha:args.size<=n)
  (h:vcF P ok wr n c A (retK P l fn.results.toList K) (PF.ofList 0 args.toList) w):CallV P g args w l K:=by
 refine calls_of_wp hf hb (wp_mono (vcF.sound hok hm c A _ (λ_=>true) _ hw ?_ (Same.refl _ _) h) λe a w h=>retK.out hl h)
 refine ⟨by simp [hn];omega,rfl,?_⟩
 have key:∀ (l:List Value) (k i:Nat) (v:Value),(PF.ofList k l) i=some v->k<=i/\l[i-k]? = some v:=by
  intro l
  induction l with
  | nil=>intro k i v h;cases h
  | cons u l ih=>
   intro k i v h
   simp only [PF.ofList,PF.put] at h
   cases hb:Nat.beq i k
   ·rw [hb] at h
    obtain ⟨h1,h2⟩:=ih (k+1) i v h
    refine ⟨by omega,?_⟩
    rw [show i-k=(i-(k+1))+1 by omega,List.getElem?_cons_succ]
    exact h2
   ·rw [hb] at h
    have e:=Nat.eq_of_beq_eq_true hb
    subst e
    simp only [cond_true,Option.some.injEq] at h
    subst h
    simp
 intro i v hv
 obtain ⟨_,h2⟩:=key args.toList 0 i v hv
 simp only [Nat.sub_zero,Array.getElem?_toList] at h2
 rw [Array.getElem?_append,if_pos]
 ·exact h2
 ·exact (Array.getElem?_eq_some_iff.1 h2).1
def vcFun (P:Program) (ok:FuncId->Bool) (wr:Bool) (fn:Func) (A:Ann) (args:Array Value) (w:World) (l:List Sh) (K:RT l->World->Prop):Prop:=
 match fn.body with
 | some c=>cond (wrIn (λ_=>true) c && Nat.ble args.toList.length fn.ntmps && Nat.beq l.length fn.results.toList.length) (vcF P ok wr fn.ntmps c A (retK P l fn.results.toList K) (PF.ofList 0 args.toList) w) False
 | none=>False
theorem vcFun.calls {P:Program} {ok:FuncId->Bool} (hok:OkCalls P ok) (hm:P.follows .mixedOrders=true) {wr:Bool} {g:FuncId} {fn:Func} {A:Ann} {args:Array Value} {w:World} {l:List Sh} {K:RT l->World->Prop}
  (hf:P.funcs[g]? = some fn) (h:vcFun P ok wr fn A args w l K):CallV P g args w l K:=by
 unfold vcFun at h
 split at h
 ·rename_i c hb
  cases hc:(wrIn (λ_=>true) c && Nat.ble args.toList.length fn.ntmps && Nat.beq l.length fn.results.toList.length)
  ·rw [hc] at h;exact h.elim
  ·rw [hc] at h
   simp only [Bool.and_eq_true,cond_true] at hc h
   exact vc_calls hok hm hf hb rfl (by have:=Nat.eq_of_beq_eq_true hc.2;simpa using this) hc.1.1 (by have:=Nat.le_of_ble_eq_true hc.1.2;simpa using this) h
 ·exact h.elim
theorem vcFun.of {P:Program} {ok:FuncId->Bool} (hok:OkCalls P ok) (hm:P.follows .mixedOrders=true) {X:Prop} (h:X) {wr:Bool} {g:FuncId} {fn:Func} {A:Ann} {args:Array Value} {w:World} {l:List Sh} {K:RT l->World->Prop}
  (hf:P.funcs[g]? = some fn) (e:vcFun P ok wr fn A args w l K=X):CallV P g args w l K:=vcFun.calls hok hm hf (e.symm ▸ h)
theorem okc_nil {P:Program}:∀ g∈([]:List FuncId),∀ args w,(callFunc g args).run P w=.ok (.enter g args) w:=λ_ h=>by cases h
theorem okc_cons {P:Program} {f:FuncId} {l:List FuncId} (hf:∀ args w,(callFunc f args).run P w=.ok (.enter f args) w) (h:∀ g∈l,∀ args w,(callFunc g args).run P w=.ok (.enter g args) w) :
  ∀ g∈f::l,∀ args w,(callFunc g args).run P w=.ok (.enter g args) w:=λg hg=>by
 rcases List.mem_cons.1 hg with rfl | hg
 ·exact hf
 ·exact h g hg
def okIn (l:List FuncId) (g:FuncId):Bool:=l.any λx=>Nat.beq x g
theorem okc {P:Program} {l:List FuncId} (h:∀ g∈l,∀ args w,(callFunc g args).run P w=.ok (.enter g args) w):OkCalls P (okIn l):=λg hg=>by
 unfold okIn at hg
 obtain ⟨x,hx,hb⟩:=List.any_eq_true.1 hg
 have:=Nat.eq_of_beq_eq_true hb
 subst this
 exact h x hx
end Go.Eng
namespace Go.Eng
open Go Go.RowKit
theorem cond_of {b:Bool} {A B:Prop} (h1:b=true->A) (h0:b=false->B):cond b A B:=by
 cases b
 ·exact h0 rfl
 ·exact h1 rfl
theorem cond_d {p:Prop} [Decidable p] {A B:Prop} (h1:p->A) (h0:¬ p->B):cond (decide p) A B:=
 cond_of (λh=>h1 (of_decide_eq_true h)) (λh=>h0 (of_decide_eq_false h))
theorem cond_eq {x y:Int} {A B:Prop} (h1:x=y->A) (h0:x≠y->B):cond (x == y) A B:=
 cond_of (λh=>h1 (by simpa using h)) (λh=>h0 (by simpa using h))
theorem cond_ne {x y:Int} {A B:Prop} (h1:x≠y->A) (h0:x=y->B):cond (x != y) A B:=
 cond_of (λh=>h1 (by simpa using h)) (λh=>h0 (by simpa using h))
theorem cond_t {b:Bool} {A B:Prop} (hb:b=true) (h:A):cond b A B:=by subst hb;exact h
theorem cond_f {b:Bool} {A B:Prop} (hb:b=false) (h:B):cond b A B:=by subst hb;exact h
theorem Rng.i64 {z:Int} (h0:-9223372036854775808<=z) (h1:z<=9223372036854775807):Rng .i64 z:=
 ⟨by simpa [IntKind.min,IntKind.signed,IntKind.bits] using h0,by simpa [IntKind.max,IntKind.signed,IntKind.bits] using h1⟩
theorem Rng.u8 {z:Int} (h0:0<=z) (h1:z<=255):Rng .u8 z:=
 ⟨by simpa [IntKind.min,IntKind.signed,IntKind.bits] using h0,by simpa [IntKind.max,IntKind.signed,IntKind.bits] using h1⟩
theorem Rng.u64 {z:Int} (h0:0<=z) (h1:z<=18446744073709551615):Rng .u64 z:=
 ⟨by simpa [IntKind.min,IntKind.signed,IntKind.bits] using h0,by simpa [IntKind.max,IntKind.signed,IntKind.bits] using h1⟩
theorem Loop1 {S:List Sh} {x0:RT S} {w0:World} {body:RT S->World->(RT S->World->Prop)->Prop} (I:RT S->World->Prop) (μ:RT S->World->Nat) (h0:I x0 w0)
  (h:∀ x w,I x w->body x w λx' w'=>I x' w'/\μ x' w'<μ x w):LoopV S x0 w0 body:=⟨I,μ,h0,h⟩
theorem DrawV.any {body:(Nat->Prop)->Prop} (h:∀ D:Nat->Prop,(∀ b,D b)->body D):DrawV body:=⟨λ_=>True,h _ λ_=>trivial⟩
abbrev Ext (w w':World):Prop:=Below w.heap.size w w'
theorem Ext.refl (w:World):Ext w w:=Below.refl _ w
theorem Ext.trans {a b c:World} (h:Ext a b) (k:Ext b c):Ext a c:=Below.trans h (Below.mono k h.size)
theorem Ext.drew (w:World):Ext w w.drew:=Below.drew (Below.refl _ w)
theorem heap_new (w:World) (o:Obj):(w.alloc o).heap[w.heap.size]? = some o:=by
 show (w.heap.push o)[w.heap.size]? = some o
 simp
theorem Ext.alloc (w:World) (o:Obj):Ext w (w.alloc o):=Below.alloc (Below.refl _ w) (Nat.le_refl _) o
theorem Bel.cells {B:Nat} {w w':World} (h:Below B w w') {p:Addr} {vs:List Value} (hp:p.block<B) (hc:CellsAt w p vs):CellsAt w' p vs:=
 cells_same (h.block _ hp) hc
theorem cells_lt {w:World} {p:Addr} {v:Value} {vs:List Value} (hc:CellsAt w p (v::vs)):p.block<w.heap.size:=by
 have:=World.block_lt_of_cell? w _ (hc 0 v rfl)
 rwa [add_block] at this
theorem Ext.cells {w w':World} (h:Ext w w') {p:Addr} {vs:List Value} (hc:CellsAt w p vs):CellsAt w' p vs:=by
 cases vs with
 | nil=>intro j v hv;simp at hv
 | cons v vs=>exact Bel.cells h (cells_lt hc) hc
theorem Ext.rd {w w':World} (h:Ext w w') {a:Option Addr} {vs:List Value} (hc:RdC w a vs):RdC w' a vs:=by
 rcases hc with ⟨h1,h2⟩ | ⟨p,h1,h2⟩
 ·exact .inl ⟨h1,h2⟩
 ·exact .inr ⟨p,h1,h.cells h2⟩
theorem DrawV.old {body:(Nat->Prop)->Prop} (w:World) (h:∀ D:Nat->Prop,(∀ b,b<w.heap.size->D b)->(∀ w',Ext w w'->KeepOn D w.drew w')->body D):DrawV body:=
 ⟨λb=>b<w.heap.size,h _ (λ_ h=>h) λw' e=>e.block⟩
theorem DrawV.base {body:(Nat->Prop)->Prop} (B:Nat) (w:World) (h:∀ D:Nat->Prop,(∀ b,b<B->D b)->(∀ w',Below B w w'->KeepOn D w.drew w')->body D):DrawV body:=
 ⟨λb=>b<B,h _ (λ_ h=>h) λw' e=>e.block⟩
theorem Ext.heap {w w':World} (h:Ext w w') {k:Nat} {o:Obj} (hk:w.heap[k]? = some o):w'.heap[k]? = some o:=by
 rw [h.block k (Array.getElem?_eq_some_iff.1 hk).1];exact hk
theorem CellsAt.nil {w:World} {p:Addr}:CellsAt w p []:=λj v hv=>by simp at hv
theorem CellsAt.of_heap {w:World} {b o:Nat} {cs:Array Value} {e:TypeId} {fr:Nat×Nat} (h:w.heap[b]? = some (.cells cs e fr)) {vs:List Value} (hv:∀ j v,vs[j]? = some v->cs[o+j]? = some v):CellsAt w ⟨b,o,none⟩ vs:=by
 intro j v hj
 have hc:=hv j v hj
 unfold World.cell?
 rw [add_block,h]
 simp only [Addr.add_lit]
 simpa using hc
theorem CellsAt.new {w:World} {cs:List Value} {e:TypeId}:CellsAt (w.alloc (.cells cs.toArray e)) ⟨w.heap.size,0,none⟩ cs:=
 CellsAt.of_heap (cs:=cs.toArray) (e:=e) (fr:=(0,0)) (heap_new w _) (λj v h=>by simpa using h)
theorem CellsAt.get {w:World} {p:Addr} {vs:List Value} (h:CellsAt w p vs) {j:Nat} {v:Value} (hv:vs[j]? = some v):w.cell? (p.add j)=some v:=h j v hv
theorem add_add (p:Addr) (i j:Nat):(p.add i).add j=p.add (i+j):=by
 unfold Addr.add
 by_cases hi:i=0
 ·subst hi;simp
 ·by_cases hj:j=0
  ·subst hj;simp [hi]
  ·rw [if_neg hi,if_neg hj,if_neg (by omega)]
   simp [Nat.add_assoc]
theorem CellsAt.drop {w:World} {p:Addr} {vs:List Value} (h:CellsAt w p vs) (i:Nat):CellsAt w (p.add i) (vs.drop i):=by
 intro j v hv
 rw [List.getElem?_drop] at hv
 rw [add_add]
 exact h _ v hv
theorem CellsAt.take {w:World} {p:Addr} {vs:List Value} (h:CellsAt w p vs) (i:Nat):CellsAt w p (vs.take i):=by
 intro j v hv
 refine h j v ?_
 rw [List.getElem?_take] at hv
 split at hv
 ·exact hv
 ·cases hv
structure Ints (w:World) (k:IntKind) (a:Option Addr) (n c:Nat) (xs:List Int):Prop where
 len:xs.length=n
 cap:n<=c
 lim:n<=9223372036854775807
 rd:RdC w a (xs.map (Value.int k))
theorem Ints.ext {w w':World} {k:IntKind} {a:Option Addr} {n c:Nat} {xs:List Int} (h:Ints w k a n c xs) (e:Ext w w'):Ints w' k a n c xs:=⟨h.len,h.cap,h.lim,e.rd h.rd⟩
theorem Ints.drew {w:World} {k:IntKind} {a:Option Addr} {n c:Nat} {xs:List Int} (h:Ints w k a n c xs):Ints w.drew k a n c xs:=h.ext (Ext.drew w)
theorem Ints.at {w:World} {k:IntKind} {a:Option Addr} {n c:Nat} {xs:List Int} (h:Ints w k a n c xs) {i:Int} (h0:0<=i) (h1:i<(n:Int)) :
  ∃ q,a=some q/\q.block<w.heap.size/\w.cell? (q.add (i.toNat*1))=some (.int k (xs.getD i.toNat 0)):=by
 have hlt:i.toNat<xs.length:=by have:=h.len;omega
 rcases h.rd with ⟨_,h2⟩ | ⟨q,hq,hc⟩
 ·simp at h2;simp [h2] at hlt
 ·have:=hc i.toNat (.int k (xs.getD i.toNat 0)) (by simp [hlt])
  refine ⟨q,hq,?_,by simpa using this⟩
  have hb:=World.block_lt_of_cell? w _ this
  rwa [add_block] at hb
theorem Ints.idx {w:World} {k:IntKind} {a:Option Addr} {n c:Nat} {xs:List Int} (h:Ints w k a n c xs) {i:Int} (h0:0<=i) (h1:i<(n:Int)) {K:Int->Prop} (hk:K (xs.getD i.toNat 0)) :
  (0<=i/\i<(n:Int))/\∃ q,a=some q/\LoadS w (q.add (i.toNat*1)) (.int k) K:=by
 obtain ⟨q,hq,_,hc⟩:=h.at h0 h1
 exact ⟨⟨h0,h1⟩,q,hq,_,hc,hk⟩
theorem Ints.idxD {w0 w:World} {k:IntKind} {a:Option Addr} {n c:Nat} {xs:List Int} (h:Ints w0 k a n c xs) (e:Ext w0 w) {i:Int} (h0:0<=i) (h1:i<(n:Int)) {D:Nat->Prop} (hD:∀ b,b<w0.heap.size->D b) {K:Int->Prop} (hk:K (xs.getD i.toNat 0)) :
  (0<=i/\i<(n:Int))/\∃ q,a=some q/\(D (q.add (i.toNat*1)).block/\LoadS w (q.add (i.toNat*1)) (.int k) K):=by
 obtain ⟨q,hq,hb,hc⟩:=h.at h0 h1
 have hs:w.cell? (q.add (i.toNat*1))=w0.cell? (q.add (i.toNat*1)):=cell_same (by rw [add_block];exact e.block _ hb)
 exact ⟨⟨h0,h1⟩,q,hq,by rw [add_block];exact hD _ hb,_,hs.trans hc,hk⟩
theorem Ints.sub {w:World} {k:IntKind} {a:Option Addr} {n c:Nat} {xs:List Int} (h:Ints w k a n c xs) {l hh m:Nat} (h1:l<=hh) (h2:hh<=n) (h3:hh<=m) {a':Option Addr} (ha:a'=if m=l then a else a.map (·.add (l*1))) :
  Ints w k a' (hh-l) (m-l) ((xs.drop l).take (hh-l)):=by
 have hl:=h.len
 have hli:=h.lim
 refine ⟨by simp;omega,by omega,by omega,?_⟩
 subst ha
 split
 ·have:hh-l=0:=by omega
  rw [this]
  simp only [List.take_zero,List.map_nil]
  rcases h.rd with ⟨h1,_⟩ | ⟨q,h1,_⟩
  ·exact .inl ⟨h1,rfl⟩
  ·exact .inr ⟨q,h1,CellsAt.nil⟩
 ·rcases h.rd with ⟨h1,h2⟩ | ⟨q,h1,hc⟩
  ·simp at h2
   exact .inl ⟨by simp [h1],by simp [h2]⟩
  ·refine .inr ⟨q.add l,by simp [h1],?_⟩
   have:=(hc.drop l).take (hh-l)
   rwa [<-List.map_drop,<- List.map_take] at this
structure Own (w:World) (B:Nat) (e:TypeId) (sz:Nat) (a:Option Addr) (n c:Nat) (vs:List Value):Prop where
 len:vs.length=n*sz
 cap:n<=c
 lim:n<=9223372036854775807
 one:oneAll vs
 at_:(a=none/\c=0/\vs=[])\/∃ b cs,a=some ⟨b,0,none⟩/\B<=b/\w.heap[b]? = some (.cells cs e (0,0))/\cs.size=c*sz/\cs.toList.take vs.length=vs
theorem Own.rd {w:World} {B:Nat} {e:TypeId} {sz:Nat} {a:Option Addr} {n c:Nat} {vs:List Value} (h:Own w B e sz a n c vs):RdC w a vs:=by
 rcases h.at_ with ⟨h1,_,h2⟩ | ⟨b,cs,h1,_,hb,hs,ht⟩
 ·exact .inl ⟨h1,h2⟩
 ·refine .inr ⟨_,h1,CellsAt.of_heap hb λj v hv=>?_⟩
  have hj:j<vs.length:=(List.getElem?_eq_some_iff.1 hv).1
  rw [<-ht,List.getElem?_take,if_pos (by rw [ht] at *;exact hj)] at hv
  simpa using hv
theorem Own.nil (w:World) (B:Nat) (e:TypeId) (sz:Nat):Own w B e sz none 0 0 []:=⟨by simp,Nat.le_refl _,by omega,λu h=>(List.not_mem_nil h).elim,.inl ⟨rfl,rfl,rfl⟩⟩
theorem Own.ints {w:World} {B:Nat} {e:TypeId} {a:Option Addr} {n c:Nat} {k:IntKind} {xs:List Int} (h:Own w B e 1 a n c (xs.map (Value.int k))):Ints w k a n c xs:=
 ⟨by have:=h.len;simpa using this,h.cap,h.lim,h.rd⟩
theorem Own.ext {w w':World} {B:Nat} {e:TypeId} {sz:Nat} {a:Option Addr} {n c:Nat} {vs:List Value} (h:Own w B e sz a n c vs) (x:Ext w w'):Own w' B e sz a n c vs:=
 ⟨h.len,h.cap,h.lim,h.one,h.at_.imp id λ⟨b,cs,h1,h2,h3,h4⟩=>⟨b,cs,h1,h2,x.heap h3,h4⟩⟩
theorem Own.mono {w:World} {B B':Nat} {e:TypeId} {sz:Nat} {a:Option Addr} {n c:Nat} {vs:List Value} (h:Own w B e sz a n c vs) (hB:B'<=B):Own w B' e sz a n c vs:=
 ⟨h.len,h.cap,h.lim,h.one,h.at_.imp id λ⟨b,cs,h1,h2,h3⟩=>⟨b,cs,h1,Nat.le_trans hB h2,h3⟩⟩
theorem Own.other {w w':World} {B:Nat} {e:TypeId} {sz:Nat} {a:Option Addr} {n c:Nat} {vs:List Value} (h:Own w B e sz a n c vs) (x:∀ p,a=some p->w'.heap[p.block]? = w.heap[p.block]?):Own w' B e sz a n c vs:=
 ⟨h.len,h.cap,h.lim,h.one,h.at_.imp id λ⟨b,cs,h1,h2,h3,h4⟩=>⟨b,cs,h1,h2,by rw [x _ h1];exact h3,h4⟩⟩
theorem Own.new {w:World} {B:Nat} {e:TypeId} {sz n c:Nat} {cs:List Value} (hB:B<=w.heap.size) (hl:cs.length=c*sz) (hn:n<=c) (hli:n<=9223372036854775807) (h1:oneAll cs) :
  Own (w.alloc (.cells cs.toArray e)) B e sz (some ⟨w.heap.size,0,none⟩) n c (cs.take (n*sz)):=by
 have hle:n*sz<=cs.length:=by rw [hl];exact Nat.mul_le_mul_right _ hn
 refine ⟨by simp [List.length_take];omega,hn,hli,λu hu=>h1 u (List.mem_of_mem_take hu),.inr ⟨w.heap.size,cs.toArray,rfl,hB,heap_new w _,by simpa using hl,?_⟩⟩
 simp [List.length_take]
def splice (cs:Array Value):Nat->List Value->Array Value
 | _,[]=>cs
 | o,v::vs=>splice (cs.setIfInBounds o v) (o+1) vs
theorem splice_size:∀ (vs:List Value) (cs:Array Value) (o:Nat),(splice cs o vs).size=cs.size
 | [],_,_=>rfl
 | v::vs,cs,o=>by simp [splice,splice_size vs]
theorem splice_toList:∀ (vs:List Value) (cs:Array Value) (o:Nat),o+vs.length<=cs.size->(splice cs o vs).toList=cs.toList.take o++(vs++cs.toList.drop (o+vs.length))
 | [],cs,o,_=>by simp [splice]
 | v::vs,cs,o,h=>by
  simp only [List.length_cons] at h
  rw [splice,splice_toList vs _ _ (by simp;omega)]
  simp only [Array.toList_setIfInBounds]
  have hk:o<cs.toList.length:=by simp;omega
  rw [List.take_succ_eq_append_getElem (by simp;omega),List.take_set_of_le (by omega),List.getElem_set_self,List.append_assoc,List.drop_set_of_lt (by omega)]
  simp only [List.cons_append,List.nil_append,List.length_cons]
  rw [show o+1+vs.length=o+(vs.length+1) by omega]
theorem setCells_heap:∀ (vs:List Value) (w:World) (b o:Nat) (cs:Array Value) (e:TypeId) (fr:Nat×Nat),w.heap[b]? = some (.cells cs e fr)->(w.setCells b o vs).heap[b]? = some (.cells (splice cs o vs) e fr)
 | [],_,_,_,_,_,_,h=>h
 | v::vs,w,b,o,cs,e,fr,h=>by
  rw [World.setCells]
  refine setCells_heap vs _ b (o+1) _ e fr ?_
  simp only [World.setCell,Array.getElem?_modify,if_true,h]
  rfl
theorem setCells_other:∀ (vs:List Value) (w:World) (b o k:Nat),k≠b->(w.setCells b o vs).heap[k]? = w.heap[k]?
 | [],_,_,_,_,_=>rfl
 | v::vs,w,b,o,k,h=>by
  rw [World.setCells,setCells_other vs _ b (o+1) k h]
  exact Below.heap_setCell w ⟨b,o,none⟩ v k h
theorem setCells_rest:∀ (vs:List Value) (w:World) (b o:Nat),(w.setCells b o vs).os=w.os/\(w.setCells b o vs).tape=w.tape/\(w.setCells b o vs).output=w.output/\(w.setCells b o vs).heap.size=w.heap.size
 | [],_,_,_=>⟨rfl,rfl,rfl,rfl⟩
 | v::vs,w,b,o=>by
  rw [World.setCells]
  obtain ⟨h1,h2,h3,h4⟩:=setCells_rest vs (w.setCell ⟨b,o,none⟩ v) b (o+1)
  exact ⟨h1,h2,h3,by rw [h4];simp [World.setCell]⟩
theorem Bel.setCells {B:Nat} {w0 w:World} (h:Below B w0 w) {b:Nat} (hb:B<=b) (o:Nat) (vs:List Value):Below B w0 (w.setCells b o vs):=by
 obtain ⟨h1,h2,h3,h4⟩:=setCells_rest vs w b o
 exact h.trans ⟨h1,h2,h3,by rw [h4];exact Nat.le_refl _,λk hk=>setCells_other vs w b o k (by omega)⟩
theorem Free.of_heap {w:World} {b o n:Nat} {cs:Array Value} {e:TypeId} (h:w.heap[b]? = some (.cells cs e (0,0))) (hn:o+n<=cs.size):Free w ⟨b,o,none⟩ n:=by
 intro j hj
 unfold World.cell? World.frozen?
 rw [add_block,h]
 simp only [Addr.add_lit]
 have:o+j<cs.size:=by omega
 simp [this]
def But (a:Option Addr) (w w':World):Prop:=∀ k,k<w.heap.size->(∀ p,a=some p->k≠p.block)->w'.heap[k]? = w.heap[k]?
def Mov (w:World) (a a':Option Addr):Prop:=a'=a\/∃ b,w.heap.size<=b/\a'=some ⟨b,0,none⟩
theorem oneAll.append {l m:List Value} (h:oneAll l) (h':oneAll m):oneAll (l++m):=λu hu=>(List.mem_append.1 hu).elim (h u) (h' u)
theorem oneAll.ints (k:IntKind) (xs:List Int):oneAll (xs.map (Value.int k)):=λu hu=>by obtain ⟨_,_,rfl⟩:=List.mem_map.1 hu;rfl
theorem oneAll.nil:oneAll []:=λu hu=>(List.not_mem_nil hu).elim
theorem AppV.own {w:World} {e:TypeId} {sz by':Nat} {a:Option Addr} {n c:Nat} {news:List Value} {m:Nat} {K:Option Addr->Nat->Nat->World->Prop} {B:Nat} {vs:List Value}
  (ho:Own w B e sz a n c vs) (hB:B<=w.heap.size) (hl:news.length=m*sz) (h1:oneAll news) (hby:(2*(n+m)+256)*by'<=281474976710656) (h63:n+m<=9223372036854775807)
  (hk:∀ a' c' w',Own w' B e sz a' (n+m) c' (vs++news)->Below B w w'->But a w w'->Mov w a a'->K a' (n+m) c' w'):AppV w e sz by' a n c news m K:=by
 refine ⟨hl,h1,hby,h63,?_⟩
 by_cases hm:m=0/\a=none
 ·obtain ⟨rfl,rfl⟩:=hm
  have hnews:news=[]:=List.length_eq_zero_iff.1 (by omega)
  subst hnews
  refine .inl ⟨rfl,ho.cap,hk _ _ _ ?_ (Below.refl _ _) (λk _ _=>rfl) (.inl rfl)⟩
  rw [List.append_nil]
  exact ho
 ·refine .inr ⟨vs,ho.len,ho.rd,λhc=>?_,λhc c' rest hc' hlen=>?_⟩
  ·rcases ho.at_ with ⟨ha,hc0,hv⟩ | ⟨b,cs,ha,hBb,hb,hs,ht⟩
   ·exact absurd ⟨by omega,ha⟩ hm
   ·have hfit:n*sz+news.length<=cs.size:=by
     rw [hl,hs,<- Nat.add_mul];exact Nat.mul_le_mul_right _ hc
    refine ⟨⟨b,0,none⟩,ha,rfl,?_,hk _ _ _ ?_ ?_ ?_ (.inl rfl)⟩
    ·have:=Free.of_heap (w:=w) (b:=b) (o:=n*sz) (n:=news.length) hb hfit
     simpa [Addr.add_lit] using this
    ·refine ⟨by simp [ho.len,hl,Nat.add_mul],hc,h63,ho.one.append h1,.inr ⟨b,_,ha,hBb,setCells_heap _ _ _ _ _ _ _ hb,by rw [splice_size];exact hs,?_⟩⟩
     have hvl:=ho.len
     rw [splice_toList _ _ _ (by simpa using hfit)]
     simp only [Nat.zero_add]
     have e1:cs.toList.take (n*sz)=vs:=by rw [<-hvl];exact ht
     rw [e1,<- List.append_assoc,List.take_append_of_le_length (by simp),List.take_of_length_le (by simp)]
    ·exact Bel.setCells (Below.refl _ _) hBb _ _
    ·intro k hk' hne
     exact setCells_other _ _ _ _ _ (hne _ ha)
  ·refine hk _ _ _ ?_ ?_ ?_ (.inr ⟨w.heap.size,Nat.le_refl _,rfl⟩)
   ·refine ⟨by simp [ho.len,hl,Nat.add_mul],hc',h63,ho.one.append h1,.inr ⟨w.heap.size,_,rfl,hB,heap_new w.drew _,by simpa using hlen,?_⟩⟩
    simp only [List.append_assoc]
    rw [<-List.append_assoc,List.take_left]
   ·exact (Below.drew (Below.refl _ w)).trans (Below.alloc (Below.refl B w.drew) hB _)
   ·intro k hk' _
    exact Below.heap_alloc w.drew _ k hk'
theorem AppS.of {w:World} {b:Option Addr} {m sz:Nat} {K:List Value->Prop} {news:List Value} (hl:news.length=m*sz) (hr:RdC w b news) (hk:K news):AppS w b m sz K:=⟨news,hl,hr,hk⟩
theorem Own.store {w:World} {B:Nat} {e:TypeId} {a:Option Addr} {n c:Nat} {vs:List Value} (ho:Own w B e 1 a n c vs) {i:Int} (h0:0<=i) (h1:i<(n:Int)) {v:Value} (hv:v.oneCell'=true) {K:World->Prop}
  (hk:∀ w',Own w' B e 1 a n c (vs.set i.toNat v)->Below B w w'->But a w w'->w'.heap.size=w.heap.size->K w') :
  (0<=i/\i<(n:Int))/\∃ q,a=some q/\StoreV w (q.add (i.toNat*1)) [v] K:=by
 refine ⟨⟨h0,h1⟩,?_⟩
 have hn:vs.length=n:=by have:=ho.len;omega
 rcases ho.at_ with ⟨_,_,hnil⟩ | ⟨b,cs,ha,hBb,hb,hs,ht⟩
 ·subst hnil;simp at hn;omega
 ·have hc:=ho.cap
  have hcs:cs.size=c:=by omega
  refine ⟨_,ha,?_⟩
  have hadd:(⟨b,0,none⟩:Addr).add (i.toNat*1)=⟨b,i.toNat,none⟩:=by simp [Addr.add_lit]
  rw [hadd]
  refine ⟨rfl,Free.of_heap hb (by simp;omega),?_⟩
  rintro w' rfl
  refine hk _ ⟨by simp [hn],hc,ho.lim,?_,.inr ⟨b,_,ha,hBb,setCells_heap _ _ _ _ _ _ _ hb,by rw [splice_size];exact hs,?_⟩⟩ (Bel.setCells (Below.refl _ _) hBb _ _) ?_ (setCells_rest _ _ _ _).2.2.2
  ·intro u hu
   rcases List.mem_or_eq_of_mem_set hu with h | h
   ·exact ho.one u h
   ·rw [h];exact hv
  ·simp only [splice,Array.toList_setIfInBounds,List.length_set]
   rw [List.take_set]
   rw [ht]
  ·intro k hk' hne
   have:=hne _ ha
   exact setCells_other _ _ _ _ _ this
theorem But.own {a a2:Option Addr} {w w':World} (h:But a w w') {B:Nat} {e:TypeId} {sz n c:Nat} {vs:List Value} (ho:Own w B e sz a2 n c vs) (hne:∀ p q,a=some p->a2=some q->p.block≠q.block):Own w' B e sz a2 n c vs:=by
 refine ho.other λp hp=>?_
 rcases ho.at_ with ⟨h1,_⟩ | ⟨b,cs,h1,h2,h3,h4⟩
 ·rw [h1] at hp;cases hp
 ·have:p=⟨b,0,none⟩:=by rw [h1] at hp;exact (Option.some.inj hp).symm
  subst this
  exact h b (Array.getElem?_eq_some_iff.1 h3).1 (λq hq e=>hne q _ hq h1 e.symm)
theorem Own.zeros {w:World} {B:Nat} {e:TypeId} {n c:Nat} {z:Value} (hB:B<=w.heap.size) (hn:n<=c) (hli:n<=9223372036854775807) (h1:z.oneCell'=true) :
  Own (w.alloc (.cells (List.replicate c [z]).flatten.toArray e)) B e 1 (some ⟨w.heap.size,0,none⟩) n c (List.replicate n z):=by
 have hz:∀ k,(List.replicate k [z]).flatten=List.replicate k z:=by
  intro k
  induction k with
  | zero=>rfl
  | succ k ih=>rw [List.replicate_succ,List.flatten_cons,ih,List.replicate_succ];rfl
 have:=Own.new (w:=w) (B:=B) (e:=e) (sz:=1) (n:=n) (c:=c) (cs:=List.replicate c z) hB (by simp) hn hli (λu hu=>by rw [(List.mem_replicate.1 hu).2];exact h1)
 rw [hz]
 simpa [List.take_replicate,Nat.min_eq_left hn] using this
end Go.Eng
namespace Go.Proofs.YtbaojfchlhlaeaaGreat.Vc
open Go Go.Eng
def okf:FuncId->Bool:=okIn [3,4,5,6,7,8,9,10,11,12,13,14,15,16,17,18,19,20,21,22,23,24,25,26,27,28,29,30,31,32,33,34,35,36,37,38,39,40,41,42,43,44,45,46,47,48,49,50,51,52,53,54,55,56,57,58,59,60,61,62,63,64,65,66,67,68,69,70,71,72,73,74,75,76,77,78,79,80,81,82,83,84,85,86,87,88,89,90,91,92,93,94,95,96,97,98,99,100,101,102,103,104,105,106,107,108,109,110,111,112,113,114,115,116,117,118,119,120,121,122,123,124,125,126,127,128,129,130,131,132,133,134,135,136,137,138,139,140,141,142,143,144,145,146,147,148,149,150,151,152,153,154,155,156,157,158,159,160,161,162,163,164,165,166,167,168,169,170,171,172,173,174,175,176,177,178,179,180,181,182,183,184,185,187,188,189,190,191,192,193,194,195,196,197,198,199,200,201,202,203,204,205,206,207,208,209,210,211,212,213,214,215,216,217,218,219,220,221,222,223,224,225,226,227,228,229,230,231,234,235,236,237,238,239,240,241,242,243,244,245,246,247,248,249,250,251,252,253,254,255,256,257,258,259,260,261,263,264,265,266,267,268,269,270,271,272,273,274,275,276,277,278,279,280,281,282,283,284,285,286,287,288,289,290,291]
set_option maxRecDepth 100000 in
theorem okf_ok:OkCalls Tryz.prog okf:=okc (okc_cons Tryz.call3 (okc_cons Tryz.call4 (okc_cons Tryz.call5 (okc_cons Tryz.call6 (okc_cons Tryz.call7 (okc_cons Tryz.call8 (okc_cons Tryz.call9 (okc_cons Tryz.call10 (okc_cons Tryz.call11 (okc_cons Tryz.call12 (okc_cons Tryz.call13 (okc_cons Tryz.call14 (okc_cons Tryz.call15 (okc_cons Tryz.call16 (okc_cons Tryz.call17 (okc_cons Tryz.call18 (okc_cons Tryz.call19 (okc_cons Tryz.call20 (okc_cons Tryz.call21 (okc_cons Tryz.call22 (okc_cons Tryz.call23 (okc_cons Tryz.call24 (okc_cons Tryz.call25 (okc_cons Tryz.call26 (okc_cons Tryz.call27 (okc_cons Tryz.call28 (okc_cons Tryz.call29 (okc_cons Tryz.call30 (okc_cons Tryz.call31 (okc_cons Tryz.call32 (okc_cons Tryz.call33 (okc_cons Tryz.call34 (okc_cons Tryz.call35 (okc_cons Tryz.call36 (okc_cons Tryz.call37 (okc_cons Tryz.call38 (okc_cons Tryz.call39 (okc_cons Tryz.call40 (okc_cons Tryz.call41 (okc_cons Tryz.call42 (okc_cons Tryz.call43 (okc_cons Tryz.call44 (okc_cons Tryz.call45 (okc_cons Tryz.call46 (okc_cons Tryz.call47 (okc_cons Tryz.call48 (okc_cons Tryz.call49 (okc_cons Tryz.call50 (okc_cons Tryz.call51 (okc_cons Tryz.call52 (okc_cons Tryz.call53 (okc_cons Tryz.call54 (okc_cons Tryz.call55 (okc_cons Tryz.call56 (okc_cons Tryz.call57 (okc_cons Tryz.call58 (okc_cons Tryz.call59 (okc_cons Tryz.call60 (okc_cons Tryz.call61 (okc_cons Tryz.call62 (okc_cons Tryz.call63 (okc_cons Tryz.call64 (okc_cons Tryz.call65 (okc_cons Tryz.call66 (okc_cons Tryz.call67 (okc_cons Tryz.call68 (okc_cons Tryz.call69 (okc_cons Tryz.call70 (okc_cons Tryz.call71 (okc_cons Tryz.call72 (okc_cons Tryz.call73 (okc_cons Tryz.call74 (okc_cons Tryz.call75 (okc_cons Tryz.call76 (okc_cons Tryz.call77 (okc_cons Tryz.call78 (okc_cons Tryz.call79 (okc_cons Tryz.call80 (okc_cons Tryz.call81 (okc_cons Tryz.call82 (okc_cons Tryz.call83 (okc_cons Tryz.call84 (okc_cons Tryz.call85 (okc_cons Tryz.call86 (okc_cons Tryz.call87 (okc_cons Tryz.call88 (okc_cons Tryz.call89 (okc_cons Tryz.call90 (okc_cons Tryz.call91 (okc_cons Tryz.call92 (okc_cons Tryz.call93 (okc_cons Tryz.call94 (okc_cons Tryz.call95 (okc_cons Tryz.call96 (okc_cons Tryz.call97 (okc_cons Tryz.call98 (okc_cons Tryz.call99 (okc_cons Tryz.call100 (okc_cons Tryz.call101 (okc_cons Tryz.call102 (okc_cons Tryz.call103 (okc_cons Tryz.call104 (okc_cons Tryz.call105 (okc_cons Tryz.call106 (okc_cons Tryz.call107 (okc_cons Tryz.call108 (okc_cons Tryz.call109 (okc_cons Tryz.call110 (okc_cons Tryz.call111 (okc_cons Tryz.call112 (okc_cons Tryz.call113 (okc_cons Tryz.call114 (okc_cons Tryz.call115 (okc_cons Tryz.call116 (okc_cons Tryz.call117 (okc_cons Tryz.call118 (okc_cons Tryz.call119 (okc_cons Tryz.call120 (okc_cons Tryz.call121 (okc_cons Tryz.call122 (okc_cons Tryz.call123 (okc_cons Tryz.call124 (okc_cons Tryz.call125 (okc_cons Tryz.call126 (okc_cons Tryz.call127 (okc_cons Tryz.call128 (okc_cons Tryz.call129 (okc_cons Tryz.call130 (okc_cons Tryz.call131 (okc_cons Tryz.call132 (okc_cons Tryz.call133 (okc_cons Tryz.call134 (okc_cons Tryz.call135 (okc_cons Tryz.call136 (okc_cons Tryz.call137 (okc_cons Tryz.call138 (okc_cons Tryz.call139 (okc_cons Tryz.call140 (okc_cons Tryz.call141 (okc_cons Tryz.call142 (okc_cons Tryz.call143 (okc_cons Tryz.call144 (okc_cons Tryz.call145 (okc_cons Tryz.call146 (okc_cons Tryz.call147 (okc_cons Tryz.call148 (okc_cons Tryz.call149 (okc_cons Tryz.call150 (okc_cons Tryz.call151 (okc_cons Tryz.call152 (okc_cons Tryz.call153 (okc_cons Tryz.call154 (okc_cons Tryz.call155 (okc_cons Tryz.call156 (okc_cons Tryz.call157 (okc_cons Tryz.call158 (okc_cons Tryz.call159 (okc_cons Tryz.call160 (okc_cons Tryz.call161 (okc_cons Tryz.call162 (okc_cons Tryz.call163 (okc_cons Tryz.call164 (okc_cons Tryz.call165 (okc_cons Tryz.call166 (okc_cons Tryz.call167 (okc_cons Tryz.call168 (okc_cons Tryz.call169 (okc_cons Tryz.call170 (okc_cons Tryz.call171 (okc_cons Tryz.call172 (okc_cons Tryz.call173 (okc_cons Tryz.call174 (okc_cons Tryz.call175 (okc_cons Tryz.call176 (okc_cons Tryz.call177 (okc_cons Tryz.call178 (okc_cons Tryz.call179 (okc_cons Tryz.call180 (okc_cons Tryz.call181 (okc_cons Tryz.call182 (okc_cons Tryz.call183 (okc_cons Tryz.call184 (okc_cons Tryz.call185 (okc_cons Tryz.call187 (okc_cons Tryz.call188 (okc_cons Tryz.call189 (okc_cons Tryz.call190 (okc_cons Tryz.call191 (okc_cons Tryz.call192 (okc_cons Tryz.call193 (okc_cons Tryz.call194 (okc_cons Tryz.call195 (okc_cons Tryz.call196 (okc_cons Tryz.call197 (okc_cons Tryz.call198 (okc_cons Tryz.call199 (okc_cons Tryz.call200 (okc_cons Tryz.call201 (okc_cons Tryz.call202 (okc_cons Tryz.call203 (okc_cons Tryz.call204 (okc_cons Tryz.call205 (okc_cons Tryz.call206 (okc_cons Tryz.call207 (okc_cons Tryz.call208 (okc_cons Tryz.call209 (okc_cons Tryz.call210 (okc_cons Tryz.call211 (okc_cons Tryz.call212 (okc_cons Tryz.call213 (okc_cons Tryz.call214 (okc_cons Tryz.call215 (okc_cons Tryz.call216 (okc_cons Tryz.call217 (okc_cons Tryz.call218 (okc_cons Tryz.call219 (okc_cons Tryz.call220 (okc_cons Tryz.call221 (okc_cons Tryz.call222 (okc_cons Tryz.call223 (okc_cons Tryz.call224 (okc_cons Tryz.call225 (okc_cons Tryz.call226 (okc_cons Tryz.call227 (okc_cons Tryz.call228 (okc_cons Tryz.call229 (okc_cons Tryz.call230 (okc_cons Tryz.call231 (okc_cons Tryz.call234 (okc_cons Tryz.call235 (okc_cons Tryz.call236 (okc_cons Tryz.call237 (okc_cons Tryz.call238 (okc_cons Tryz.call239 (okc_cons Tryz.call240 (okc_cons Tryz.call241 (okc_cons Tryz.call242 (okc_cons Tryz.call243 (okc_cons Tryz.call244 (okc_cons Tryz.call245 (okc_cons Tryz.call246 (okc_cons Tryz.call247 (okc_cons Tryz.call248 (okc_cons Tryz.call249 (okc_cons Tryz.call250 (okc_cons Tryz.call251 (okc_cons Tryz.call252 (okc_cons Tryz.call253 (okc_cons Tryz.call254 (okc_cons Tryz.call255 (okc_cons Tryz.call256 (okc_cons Tryz.call257 (okc_cons Tryz.call258 (okc_cons Tryz.call259 (okc_cons Tryz.call260 (okc_cons Tryz.call261 (okc_cons Tryz.call263 (okc_cons Tryz.call264 (okc_cons Tryz.call265 (okc_cons Tryz.call266 (okc_cons Tryz.call267 (okc_cons Tryz.call268 (okc_cons Tryz.call269 (okc_cons Tryz.call270 (okc_cons Tryz.call271 (okc_cons Tryz.call272 (okc_cons Tryz.call273 (okc_cons Tryz.call274 (okc_cons Tryz.call275 (okc_cons Tryz.call276 (okc_cons Tryz.call277 (okc_cons Tryz.call278 (okc_cons Tryz.call279 (okc_cons Tryz.call280 (okc_cons Tryz.call281 (okc_cons Tryz.call282 (okc_cons Tryz.call283 (okc_cons Tryz.call284 (okc_cons Tryz.call285 (okc_cons Tryz.call286 (okc_cons Tryz.call287 (okc_cons Tryz.call288 (okc_cons Tryz.call289 (okc_cons Tryz.call290 (okc_cons Tryz.call291 (okc_nil (P:=Tryz.prog)))))))))))))))))))))))))))))))))))))))))))))))))))))))))))))))))))))))))))))))))))))))))))))))))))))))))))))))))))))))))))))))))))))))))))))))))))))))))))))))))))))))))))))))))))))))))))))))))))))))))))))))))))))))))))))))))))))))))))))))))))))))))))))))))))))))))))))))))))))))))))))))
theorem follows:Tryz.prog.follows .mixedOrders=true:=by kernel_rfl
def ref01_SameBytes.A:Ann:=.two .no (.two .no (.two (.two .no (.one (.loop [4,5,11,12,13,14,15,16,17,18,19,20,21,22,23,24,25] [(5,.one (.int .i64))] (.two .no (.two (.one (.two (.draw (.take 0 (.take 1 (.take 2 (.take 3 (.take 4 (.take 5 (.take 6 (.take 7 (.take 8 (.done))))))))))) .no)) .no))))) .no))
def ref01_SameBytes.P (a0:Option Addr) (n0 c0:Nat) (a1:Option Addr) (n1 c1:Nat) (w:World) (K:Bool×Unit->World->Prop):Prop:=
 cond (((n0:Nat):Int) != ((n1:Nat):Int))
 (K (false,()) w)
 (LoopV [.one (.int .i64)] ((0:Int),()) w λ(z1:Int×Unit) w2 (K3:Int×Unit->World->Prop)=>
 cond (decide (z1.1<((n0:Nat):Int)))
 (DrawV λD4=>
 (0<=z1.1/\z1.1<((n0:Nat):Int))/\∃ q5:Addr,a0=some q5 /\
 (D4 (q5.add (z1.1.toNat*1)).block/\LoadS w2.drew (q5.add (z1.1.toNat*1)) (.int .u8) λ(x6:Int)=>
 (0<=z1.1/\z1.1<((n1:Nat):Int))/\∃ q7:Addr,a1=some q7 /\
 (D4 (q7.add (z1.1.toNat*1)).block/\LoadS w2.drew (q7.add (z1.1.toNat*1)) (.int .u8) λ(x8:Int)=>
 cond (x6 != x8)
 (K (false,()) w2.drew)
 (Rng .i64 (z1.1+1) /\
 K3 (z1.1+1,()) w2.drew))))
 (K (true,()) w2))
theorem ref01_SameBytes.vc (a0:Option Addr) (n0 c0:Nat) (a1:Option Addr) (n1 c1:Nat) (w:World) (K:Bool×Unit->World->Prop) (h:ref01_SameBytes.P a0 n0 c0 a1 n1 c1 w K):CallV Tryz.prog 70 #[.slice a0 n0 c0,.slice a1 n1 c1] w [.one .bool] K:=by
 refine vcFun.of (A:=ref01_SameBytes.A) (wr:=false) okf_ok follows h Tryz.func70 ?_
 kernel_rfl
def ref01_Fill.A:Ann:=.two .no (.two .no (.two (.two .no (.one (.loop [5,6,8,9,10,11,12,13,14,15,16,17,18,19,20] [(5,.one .sl),(6,.one (.int .i64))] .no))) .no))
def ref01_Fill.P (p0 p1:Int) (w:World) (K:SlV×Unit->World->Prop):Prop:=
 NewV #[] 5 w λb1 w2=>
 LoopV [.one .sl,.one (.int .i64)] ((⟨(some ⟨b1,0,none⟩),0,0⟩:SlV),(0:Int),()) w2 λ(z3:SlV×Int×Unit) w4 (K5:SlV×Int×Unit->World->Prop)=>
 cond (decide (z3.2.1<p1))
 (cond (decide (z3.2.1<65536))
 (NewV #[.int .u8 p0] 5 w4 λb6 w7=>
 AppS w7 (some ⟨b6,0,none⟩) 1 1 λns12=>
 AppV w7 5 1 1 z3.1.a z3.1.n z3.1.c ns12 1 λa8 n9 c10 w11=>
 Rng .i64 (z3.2.1+1) /\
 K5 ((⟨a8,n9,c10⟩:SlV),z3.2.1+1,()) w11)
 (K (z3.1,()) w4))
 (K (z3.1,()) w4)
theorem ref01_Fill.vc (p0 p1:Int) (w:World) (K:SlV×Unit->World->Prop) (h:ref01_Fill.P p0 p1 w K):CallV Tryz.prog 132 #[.int .u8 p0,.int .i64 p1] w [.one .sl] K:=by
 refine vcFun.of (A:=ref01_Fill.A) (wr:=false) okf_ok follows h Tryz.func132 ?_
 kernel_rfl
def ref01_Back.A:Ann:=.two .no (.two .no (.two (.two .no (.one (.loop [3,4,9,10,11,12,13,14,15,16,17,18,19] [(3,.one .sl),(4,.one (.int .i64))] .no))) .no))
def ref01_Back.P (a0:Option Addr) (n0 c0:Nat) (w:World) (K:SlV×Unit->World->Prop):Prop:=
 NewV #[] 5 w λb1 w2=>
 Rng .i64 (((n0:Nat):Int)-1) /\
 LoopV [.one .sl,.one (.int .i64)] ((⟨(some ⟨b1,0,none⟩),0,0⟩:SlV),((n0:Nat):Int)-1,()) w2 λ(z3:SlV×Int×Unit) w4 (K5:SlV×Int×Unit->World->Prop)=>
 cond (decide (z3.2.1≥0))
 ((0<=z3.2.1/\z3.2.1<((n0:Nat):Int))/\∃ q6:Addr,a0=some q6 /\
 LoadS w4 (q6.add (z3.2.1.toNat*1)) (.int .u8) λ(x7:Int)=>
 NewV #[.int .u8 x7] 5 w4 λb8 w9=>
 AppS w9 (some ⟨b8,0,none⟩) 1 1 λns14=>
 AppV w9 5 1 1 z3.1.a z3.1.n z3.1.c ns14 1 λa10 n11 c12 w13=>
 Rng .i64 (z3.2.1-1) /\
 K5 ((⟨a10,n11,c12⟩:SlV),z3.2.1-1,()) w13)
 (K (z3.1,()) w4)
theorem ref01_Back.vc (a0:Option Addr) (n0 c0:Nat) (w:World) (K:SlV×Unit->World->Prop) (h:ref01_Back.P a0 n0 c0 w K):CallV Tryz.prog 266 #[.slice a0 n0 c0] w [.one .sl] K:=by
 refine vcFun.of (A:=ref01_Back.A) (wr:=false) okf_ok follows h Tryz.func266 ?_
 kernel_rfl
def ref01_Little.A:Ann:=.two .no (.two .no (.two (.two .no (.one (.loop [0,5,6,8,9,10,11,12,13,14,15,16,17,18,19,20,21,22,23,24] [(0,.one (.int .u64)),(5,.one .sl),(6,.one (.int .i64))] .no))) .no))
def ref01_Little.P (p0 p1:Int) (w:World) (K:SlV×Unit->World->Prop):Prop:=
 NewV #[] 5 w λb1 w2=>
 LoopV [.one (.int .u64),.one .sl,.one (.int .i64)] (p0,(⟨(some ⟨b1,0,none⟩),0,0⟩:SlV),(0:Int),()) w2 λ(z3:Int×SlV×Int×Unit) w4 (K5:Int×SlV×Int×Unit->World->Prop)=>
 cond (decide (z3.2.2.1<p1))
 (cond (decide (z3.2.2.1<8))
 (256≠(0:Int) /\
 NewV #[.int .u8 (IntKind.u8.wrap (Int.tmod z3.1 256))] 5 w4 λb6 w7=>
 AppS w7 (some ⟨b6,0,none⟩) 1 1 λns12=>
 AppV w7 5 1 1 z3.2.1.a z3.2.1.n z3.2.1.c ns12 1 λa8 n9 c10 w11=>
 256≠(0:Int)/\Rng .u64 (Int.tdiv z3.1 256) /\
 Rng .i64 (z3.2.2.1+1) /\
 K5 (Int.tdiv z3.1 256,(⟨a8,n9,c10⟩:SlV),z3.2.2.1+1,()) w11)
 (K (z3.2.1,()) w4))
 (K (z3.2.1,()) w4)
theorem ref01_Little.vc (p0 p1:Int) (w:World) (K:SlV×Unit->World->Prop) (h:ref01_Little.P p0 p1 w K):CallV Tryz.prog 286 #[.int .u64 p0,.int .i64 p1] w [.one .sl] K:=by
 refine vcFun.of (A:=ref01_Little.A) (wr:=false) okf_ok follows h Tryz.func286 ?_
 kernel_rfl
def ref01_Big.A:Ann:=.no
def ref01_Big.P (p0 p1:Int) (w:World) (K:SlV×Unit->World->Prop):Prop:=
 CallV Tryz.prog 286 #[.int .u64 p0,.int .i64 p1] w [.one .sl] λ(r1:SlV×Unit) w2=>
 CallV Tryz.prog 266 #[.slice r1.1.a r1.1.n r1.1.c] w2 [.one .sl] λ(r3:SlV×Unit) w4=>
 K (r3.1,()) w4
theorem ref01_Big.vc (p0 p1:Int) (w:World) (K:SlV×Unit->World->Prop) (h:ref01_Big.P p0 p1 w K):CallV Tryz.prog 267 #[.int .u64 p0,.int .i64 p1] w [.one .sl] K:=by
 refine vcFun.of (A:=ref01_Big.A) (wr:=false) okf_ok follows h Tryz.func267 ?_
 kernel_rfl
def ref01_NumLittle.A:Ann:=.two .no (.two .no (.two (.two .no (.one (.loop [3,4,9,10,11,12,13,14,15,16,17,18,19,20] [(3,.one (.int .u64)),(4,.one (.int .i64))] .no))) .no))
def ref01_NumLittle.P (a0:Option Addr) (n0 c0:Nat) (w:World) (K:Int×Unit->World->Prop):Prop:=
 Rng .i64 (((n0:Nat):Int)-1) /\
 NameI (min (7:Int) (((n0:Nat):Int)-1)) λz1=>
 LoopV [.one (.int .u64),.one (.int .i64)] ((0:Int),z1,()) w λ(z2:Int×Int×Unit) w3 (K4:Int×Int×Unit->World->Prop)=>
 cond (decide (z2.2.1≥0))
 ((0<=z2.2.1/\z2.2.1<((n0:Nat):Int))/\∃ q5:Addr,a0=some q5 /\
 LoadS w3 (q5.add (z2.2.1.toNat*1)) (.int .u8) λ(x6:Int)=>
 Rng .i64 (z2.2.1-1) /\
 K4 (IntKind.u64.wrap ((IntKind.u64.wrap (z2.1*256))+(IntKind.u64.wrap x6)),z2.2.1-1,()) w3)
 (K (z2.1,()) w3)
theorem ref01_NumLittle.vc (a0:Option Addr) (n0 c0:Nat) (w:World) (K:Int×Unit->World->Prop) (h:ref01_NumLittle.P a0 n0 c0 w K):CallV Tryz.prog 265 #[.slice a0 n0 c0] w [.one (.int .u64)] K:=by
 refine vcFun.of (A:=ref01_NumLittle.A) (wr:=false) okf_ok follows h Tryz.func265 ?_
 kernel_rfl
def ref01_Num.A:Ann:=.no
def ref01_Num.P (a0:Option Addr) (n0 c0:Nat) (w:World) (K:Int×Unit->World->Prop):Prop:=
 CallV Tryz.prog 266 #[.slice a0 n0 c0] w [.one .sl] λ(r1:SlV×Unit) w2=>
 CallV Tryz.prog 265 #[.slice r1.1.a r1.1.n r1.1.c] w2 [.one (.int .u64)] λ(r3:Int×Unit) w4=>
 K (r3.1,()) w4
theorem ref01_Num.vc (a0:Option Addr) (n0 c0:Nat) (w:World) (K:Int×Unit->World->Prop) (h:ref01_Num.P a0 n0 c0 w K):CallV Tryz.prog 234 #[.slice a0 n0 c0] w [.one (.int .u64)] K:=by
 refine vcFun.of (A:=ref01_Num.A) (wr:=false) okf_ok follows h Tryz.func234 ?_
 kernel_rfl
def ref01_Xor.A:Ann:=.two .no (.two .no (.two (.two .no (.one (.loop [5,6,8,9,10,11,12,13,14,15,16,17,18,19,20,21,22,23,24,25] [(5,.one .sl),(6,.one (.int .i64))] (.two .no (.two (.one (.draw (.take 0 (.take 1 (.take 2 (.take 3 (.take 4 (.take 5 (.take 6 (.take 7 (.take 8 (.take 9 (.eff 10 (.eff 11 (.take 12 (.done)))))))))))))))) .no))))) .no))
def ref01_Xor.P (a0:Option Addr) (n0 c0:Nat) (a1:Option Addr) (n1 c1:Nat) (w:World) (K:SlV×Unit->World->Prop):Prop:=
 NewV #[] 5 w λb1 w2=>
 LoopV [.one .sl,.one (.int .i64)] ((⟨(some ⟨b1,0,none⟩),0,0⟩:SlV),(0:Int),()) w2 λ(z3:SlV×Int×Unit) w4 (K5:SlV×Int×Unit->World->Prop)=>
 cond (decide (z3.2.1<((n0:Nat):Int)))
 (DrawV λD6=>
 (0<=z3.2.1/\z3.2.1<((n0:Nat):Int))/\∃ q7:Addr,a0=some q7 /\
 (D6 (q7.add (z3.2.1.toNat*1)).block/\LoadS w4.drew (q7.add (z3.2.1.toNat*1)) (.int .u8) λ(x8:Int)=>
 (0<=z3.2.1/\z3.2.1<((n1:Nat):Int))/\∃ q9:Addr,a1=some q9 /\
 (D6 (q9.add (z3.2.1.toNat*1)).block/\LoadS w4.drew (q9.add (z3.2.1.toNat*1)) (.int .u8) λ(x10:Int)=>
 NewV #[.int .u8 (Go.bits .xor .u8 x8 x10)] 5 w4.drew λb11 w12=>
 KeepOn D6 w4.drew w12 /\
 AppS w12 (some ⟨b11,0,none⟩) 1 1 λns17=>
 AppV w12 5 1 1 z3.1.a z3.1.n z3.1.c ns17 1 λa13 n14 c15 w16=>
 KeepOn D6 w4.drew w16 /\
 Rng .i64 (z3.2.1+1) /\
 K5 ((⟨a13,n14,c15⟩:SlV),z3.2.1+1,()) w16)))
 (K (z3.1,()) w4)
theorem ref01_Xor.vc (a0:Option Addr) (n0 c0:Nat) (a1:Option Addr) (n1 c1:Nat) (w:World) (K:SlV×Unit->World->Prop) (h:ref01_Xor.P a0 n0 c0 a1 n1 c1 w K):CallV Tryz.prog 268 #[.slice a0 n0 c0,.slice a1 n1 c1] w [.one .sl] K:=by
 refine vcFun.of (A:=ref01_Xor.A) (wr:=false) okf_ok follows h Tryz.func268 ?_
 kernel_rfl
def ref01_Invert.A:Ann:=.no
def ref01_Invert.P (a0:Option Addr) (n0 c0:Nat) (w:World) (K:SlV×Unit->World->Prop):Prop:=
 CallV Tryz.prog 132 #[.int .u8 255,.int .i64 ((n0:Nat):Int)] w [.one .sl] λ(r1:SlV×Unit) w2=>
 CallV Tryz.prog 268 #[.slice a0 n0 c0,.slice r1.1.a r1.1.n r1.1.c] w2 [.one .sl] λ(r3:SlV×Unit) w4=>
 K (r3.1,()) w4
theorem ref01_Invert.vc (a0:Option Addr) (n0 c0:Nat) (w:World) (K:SlV×Unit->World->Prop) (h:ref01_Invert.P a0 n0 c0 w K):CallV Tryz.prog 237 #[.slice a0 n0 c0] w [.one .sl] K:=by
 refine vcFun.of (A:=ref01_Invert.A) (wr:=false) okf_ok follows h Tryz.func237 ?_
 kernel_rfl
def octet_Fill.A:Ann:=.two .no (.two .no (.two (.two .no (.one (.loop [6,13,14,15,16,17,18,19,20] [(13,.one (.int .i64))] .no))) .no))
def octet_Fill.P (p0 p1:Int) (w:World) (K:SlV×Unit->World->Prop):Prop:=
 NameI (min (65536:Int) p1) λz1=>
 NameI (max (0:Int) z1) λz2=>
 ((0:Int)<=(z2:Int)/\(z2:Int)<=(z2:Int)/\(z2:Int)<=9223372036854775807/\((1:Nat):Int)*(z2:Int)<=140737488355328) /\
 NewV (List.replicate z2.toNat [.int .u8 0]).flatten.toArray 5 w λb3 w4=>
 LoopV [.one (.int .i64)] ((0:Int),()) w4 λ(z5:Int×Unit) w6 (K7:Int×Unit->World->Prop)=>
 cond (decide (z5.1<((z2.toNat:Nat):Int)))
 ((0<=z5.1/\z5.1<((z2.toNat:Nat):Int))/\∃ q8:Addr,(some ⟨b3,0,none⟩)=some q8 /\
 StoreV w6 (q8.add (z5.1.toNat*1)) [.int .u8 p0] λw9=>
 Rng .i64 (z5.1+1) /\
 K7 (z5.1+1,()) w9)
 (K ((⟨(some ⟨b3,0,none⟩),z2.toNat,z2.toNat⟩:SlV),()) w6)
theorem octet_Fill.vc (p0 p1:Int) (w:World) (K:SlV×Unit->World->Prop) (h:octet_Fill.P p0 p1 w K):CallV Tryz.prog 203 #[.int .u8 p0,.int .i64 p1] w [.one .sl] K:=by
 refine vcFun.of (A:=octet_Fill.A) (wr:=false) okf_ok follows h Tryz.func203 ?_
 kernel_rfl
def octet_Big.A:Ann:=.two .no (.two .no (.two .no (.two (.two .no (.one (.loop [6,13,14,15,16,17,18,19,20,21,22,23,24,25,26,27] [(13,.one (.int .i64))] .no))) .no)))
def octet_Big.P (p0 p1:Int) (w:World) (K:SlV×Unit->World->Prop):Prop:=
 NameI (min (8:Int) p1) λz1=>
 NameI (max (0:Int) z1) λz2=>
 ((0:Int)<=(z2:Int)/\(z2:Int)<=(z2:Int)/\(z2:Int)<=9223372036854775807/\((1:Nat):Int)*(z2:Int)<=140737488355328) /\
 NewV (List.replicate z2.toNat [.int .u8 0]).flatten.toArray 5 w λb3 w4=>
 LoopV [.one (.int .i64)] ((0:Int),()) w4 λ(z5:Int×Unit) w6 (K7:Int×Unit->World->Prop)=>
 cond (decide (z5.1<z2))
 (Rng .i64 (z2-1) /\
 Rng .i64 ((z2-1)-z5.1) /\
 Rng .i64 ((8:Int)*z5.1) /\
 (0:Int)<=((8:Int)*z5.1) /\
 (0<=((z2-1)-z5.1)/\((z2-1)-z5.1)<((z2.toNat:Nat):Int))/\∃ q8:Addr,(some ⟨b3,0,none⟩)=some q8 /\
 StoreV w6 (q8.add (((z2-1)-z5.1).toNat*1)) [.int .u8 (IntKind.u8.wrap (Int.fdiv p0 (2 ^ (Nat.min (((8:Int)*z5.1)).toNat 64))))] λw9=>
 Rng .i64 (z5.1+1) /\
 K7 (z5.1+1,()) w9)
 (K ((⟨(some ⟨b3,0,none⟩),z2.toNat,z2.toNat⟩:SlV),()) w6)
theorem octet_Big.vc (p0 p1:Int) (w:World) (K:SlV×Unit->World->Prop) (h:octet_Big.P p0 p1 w K):CallV Tryz.prog 279 #[.int .u64 p0,.int .i64 p1] w [.one .sl] K:=by
 refine vcFun.of (A:=octet_Big.A) (wr:=false) okf_ok follows h Tryz.func279 ?_
 kernel_rfl
def octet_Invert.A:Ann:=.two .no (.two .no (.two (.two .no (.one (.loop [4,5,11,12,13,14,15,16,17,18,19,20,21] [(11,.one (.int .i64))] .no))) .no))
def octet_Invert.P (a0:Option Addr) (n0 c0:Nat) (w:World) (K:SlV×Unit->World->Prop):Prop:=
 ((0:Int)<=(((n0:Nat):Int):Int)/\(((n0:Nat):Int):Int)<=(((n0:Nat):Int):Int)/\(((n0:Nat):Int):Int)<=9223372036854775807/\((1:Nat):Int)*(((n0:Nat):Int):Int)<=140737488355328) /\
 NewV (List.replicate (((n0:Nat):Int).toNat) [.int .u8 0]).flatten.toArray 5 w λb1 w2=>
 LoopV [.one (.int .i64)] ((0:Int),()) w2 λ(z3:Int×Unit) w4 (K5:Int×Unit->World->Prop)=>
 cond (decide (z3.1<((n0:Nat):Int)))
 ((0<=z3.1/\z3.1<((n0:Nat):Int))/\∃ q6:Addr,a0=some q6 /\
 LoadS w4 (q6.add (z3.1.toNat*1)) (.int .u8) λ(x7:Int)=>
 (0<=z3.1/\z3.1<((((n0:Nat):Int).toNat:Nat):Int))/\∃ q8:Addr,(some ⟨b1,0,none⟩)=some q8 /\
 StoreV w4 (q8.add (z3.1.toNat*1)) [.int .u8 (Go.bits .xor .u8 255 x7)] λw9=>
 Rng .i64 (z3.1+1) /\
 K5 (z3.1+1,()) w9)
 (K ((⟨(some ⟨b1,0,none⟩),((n0:Nat):Int).toNat,((n0:Nat):Int).toNat⟩:SlV),()) w4)
theorem octet_Invert.vc (a0:Option Addr) (n0 c0:Nat) (w:World) (K:SlV×Unit->World->Prop) (h:octet_Invert.P a0 n0 c0 w K):CallV Tryz.prog 249 #[.slice a0 n0 c0] w [.one .sl] K:=by
 refine vcFun.of (A:=octet_Invert.A) (wr:=false) okf_ok follows h Tryz.func249 ?_
 kernel_rfl
end Go.Proofs.YtbaojfchlhlaeaaGreat.Vc
namespace Go.Proofs.YtbaojfchlhlaeaaGreat.Vc
open Go Go.Eng Go.RowKit
theorem SameBytes_c {w:World} {a b:Option Addr} {n c m d:Nat} {xs ys:List Int} (hx:Ints w .u8 a n c xs) (hy:Ints w .u8 b m d ys) :
  CallV Tryz.prog 70 #[.slice a n c,.slice b m d] w [.one .bool] λr w'=>r.1=decide (xs=ys)/\Ext w w':=by
 refine ref01_SameBytes.vc _ _ _ _ _ _ _ _ ?_
 unfold ref01_SameBytes.P
 have l1:=hx.len
 have l2:=hy.len
 refine cond_ne (λhne=>?_) (λheq=>?_)
 ·refine ⟨?_,Ext.refl w⟩
  show false=decide (xs=ys)
  symm
  rw [decide_eq_false_iff_not]
  rintro rfl
  omega
 ·refine Loop1 (λ(x:Int×Unit) w'=>0<=x.1/\x.1<=n/\(∀ j:Nat,j<x.1.toNat->xs.getD j 0=ys.getD j 0)/\Ext w w') (λ(x:Int×Unit) _=>((n:Int)-x.1).toNat) ⟨Int.le_refl _,by dsimp only;omega,λj hj=>by dsimp only at hj;omega,Ext.refl w⟩ ?_
  rintro ⟨(i:Int),⟨⟩⟩ w' ⟨h0,h1,hj,he⟩
  dsimp only at h0 h1 hj ⊢
  have hli:=hx.lim
  refine cond_d (λhlt=>?_) (λhge=>?_)
  ·refine DrawV.any λD hD=>?_
   have he':=he.trans (Ext.drew w')
   refine hx.idxD he' h0 hlt (λb _=>hD b) ?_
   refine hy.idxD he' h0 (by omega) (λb _=>hD b) ?_
   refine cond_ne (λhne=>?_) (λheq'=>?_)
   ·refine ⟨?_,he'⟩
    show false=decide (xs=ys)
    symm
    rw [decide_eq_false_iff_not]
    rintro rfl
    exact hne rfl
   ·refine ⟨Rng.i64 (by omega) (by omega),⟨by omega,by omega,?_,he'⟩,by omega⟩
    intro j hj'
    by_cases hji:j=i.toNat
    ·rw [hji];exact heq'
    ·exact hj j (by omega)
  ·refine ⟨?_,he⟩
   show true=decide (xs=ys)
   symm
   rw [decide_eq_true_eq]
   apply List.ext_getElem (by omega)
   intro j h1 h2
   have:=hj j (by omega)
   simpa [List.getD_eq_getElem?_getD,h1,h2] using this
end Go.Proofs.YtbaojfchlhlaeaaGreat.Vc
namespace Go.Eng
open Go
def Byt (xs:List Int):Prop:=∀ x∈xs,0<=x/\x<256
theorem u8_wrap (z:Int):IntKind.u8.wrap z=z % 256:=by simp [IntKind.wrap,IntKind.signed,IntKind.bits]
theorem u32_wrap (z:Int):IntKind.u32.wrap z=z % 4294967296:=by simp [IntKind.wrap,IntKind.signed,IntKind.bits]
theorem u64_wrap (z:Int):IntKind.u64.wrap z=z % 18446744073709551616:=by simp [IntKind.wrap,IntKind.signed,IntKind.bits]
theorem u64_id {z:Int} (h0:0<=z) (h1:z<18446744073709551616):IntKind.u64.wrap z=z:=by rw [u64_wrap];omega
theorem i64_id {z:Int} (h0:-9223372036854775808<=z) (h1:z<=9223372036854775807):IntKind.i64.wrap z=z:=wrap_rng (Rng.i64 h0 h1)
theorem Byt.getD {xs:List Int} (h:Byt xs) (i:Nat):0<=xs.getD i 0/\xs.getD i 0<256:=by
 rw [List.getD_eq_getElem?_getD]
 cases hi:xs[i]? with
 | none=>simp
 | some v=>exact h v (List.mem_of_getElem? hi)
theorem Byt.take {xs:List Int} (h:Byt xs) (k:Nat):Byt (xs.take k):=λx hx=>h x (List.mem_of_mem_take hx)
theorem Byt.drop {xs:List Int} (h:Byt xs) (k:Nat):Byt (xs.drop k):=λx hx=>h x (List.mem_of_mem_drop hx)
theorem Byt.append {xs ys:List Int} (h:Byt xs) (h':Byt ys):Byt (xs++ys):=λx hx=>(List.mem_append.1 hx).elim (h x) (h' x)
theorem Byt.reverse {xs:List Int} (h:Byt xs):Byt xs.reverse:=λx hx=>h x (List.mem_reverse.1 hx)
theorem Byt.replicate {x:Int} (h0:0<=x) (h1:x<256) (n:Nat):Byt (List.replicate n x):=λy hy=>by rw [(List.mem_replicate.1 hy).2];exact ⟨h0,h1⟩
theorem Byt.nil:Byt []:=λx hx=>(List.not_mem_nil hx).elim
theorem Byt.cons {x:Int} {xs:List Int} (h0:0<=x/\x<256) (h:Byt xs):Byt (x::xs):=λy hy=>by rcases List.mem_cons.1 hy with rfl | hy;exact h0;exact h y hy
theorem set_step (S:List Value) (z:Value) {k i:Nat} (hk:S.length=k) (hi:i<k):((S.take i++List.replicate (k-i) z).set i (S[i]'(by omega)))=S.take (i+1)++List.replicate (k-(i+1)) z:=by
 rw [List.set_append_right _ _ (by simp;omega),List.length_take,Nat.min_eq_left (by omega),Nat.sub_self]
 rw [show k-i=(k-(i+1))+1 by omega,List.replicate_succ,List.set_cons_zero,List.take_succ_eq_append_getElem (by omega),List.append_assoc]
 rfl
theorem set_back (S:List Value) (z:Value) {k i:Nat} (hk:S.length=k) (hi:i<k):((List.replicate (k-i) z++S.drop (k-i)).set (k-1-i) (S[k-1-i]'(by omega)))=List.replicate (k-(i+1)) z++S.drop (k-(i+1)):=by
 rw [List.set_append_left _ _ (by simp;omega)]
 rw [show k-i=(k-(i+1))+1 by omega,List.replicate_succ']
 rw [List.set_append_right _ _ (by simp;omega)]
 simp only [List.length_replicate]
 rw [show k-1-i-(k-(i+1))=0 by omega,List.set_cons_zero,List.append_assoc]
 congr 1
 rw [List.drop_eq_getElem_cons (i:=k-(i+1)) (by omega)]
 simp only [List.singleton_append]
 congr 1
 simp only [show k-1-i=k-(i+1) by omega]
def cl8 (k:Int):Nat:=(max 0 (min 8 k)).toNat
def leL (n:Int) (k:Nat):List Int:=(List.range k).map λi=>n / 256 ^ i % 256
theorem leL_length (n:Int) (k:Nat):(leL n k).length=k:=by simp [leL]
theorem leL_get (n:Int) (k i:Nat) (h:i<(leL n k).length):(leL n k)[i]=n / 256 ^ i % 256:=by simp [leL]
theorem leL_byt (n:Int) (k:Nat):Byt (leL n k):=by
 intro x hx
 simp only [leL,List.mem_map] at hx
 obtain ⟨i,_,rfl⟩:=hx
 exact ⟨Int.emod_nonneg _ (by omega),Int.emod_lt_of_pos _ (by omega)⟩
theorem leL_succ (n:Int) (k:Nat):leL n (k+1)=leL n k++[n / 256 ^ k % 256]:=by simp [leL,List.range_succ]
theorem fdiv_pos {a b:Int} (hb:0<=b):Int.fdiv a b=a / b:=Int.fdiv_eq_ediv_of_nonneg a hb
theorem pow8 (i:Nat) (hi:i<8):(2:Int) ^ (Nat.min ((8:Int)*(i:Int)).toNat 64)=256 ^ i:=by
 have:Nat.min ((8:Int)*(i:Int)).toNat 64=8*i:=by
  have h1:((8:Int)*(i:Int)).toNat=8*i:=by omega
  rw [h1];exact Nat.min_eq_left (by omega)
 rw [this,Int.pow_mul]
 rfl
theorem div_step (n:Int) (h:0<=n) (i:Nat):Int.tdiv (n / 256 ^ i) 256=n / 256 ^ (i+1):=by
 have hp:(0:Int)<256 ^ i:=Int.pow_pos (by omega)
 rw [Int.tdiv_eq_ediv_of_nonneg (Int.ediv_nonneg h (by omega)),Int.ediv_ediv_of_nonneg (Int.le_of_lt hp),Int.pow_succ]
def leN:List Int->Int
 | []=>0
 | x::xs=>x+256*leN xs
theorem leN_bd:∀ {xs:List Int},Byt xs->0<=leN xs/\leN xs<256 ^ xs.length
 | [],_=>by simp [leN]
 | x::xs,h=>by
  have h1:=leN_bd (xs:=xs) λy hy=>h y (List.mem_cons_of_mem _ hy)
  have h2:=h x (List.mem_cons_self)
  simp only [leN,List.length_cons,Int.pow_succ]
  omega
theorem leN_append:∀ (xs ys:List Int),leN (xs++ys)=leN xs+256 ^ xs.length*leN ys
 | [],ys=>by simp [leN]
 | x::xs,ys=>by
  simp only [List.cons_append,leN,leN_append xs ys,List.length_cons,Int.pow_succ]
  rw [Int.mul_add]
  have:256*(256 ^ xs.length*leN ys)=256 ^ xs.length*256*leN ys:=by
   rw [<-Int.mul_assoc,Int.mul_comm 256 (256 ^ xs.length)]
  omega
theorem leN_leL (n:Int) (h:0<=n):∀ k:Nat,leN (leL n k)=n % 256 ^ k
 | 0=>by simp [leL,leN,Int.emod_one]
 | k+1=>by
  rw [leL_succ,leN_append,leN_leL n h k,leL_length]
  simp only [leN,Int.mul_zero,Int.add_zero]
  rw [Int.pow_succ]
  have hp:(0:Int)<256 ^ k:=Int.pow_pos (by omega)
  generalize (256:Int) ^ k=p at hp
  have h1:=Int.emod_add_mul_ediv n p
  have h2:=Int.emod_add_mul_ediv (n / p) 256
  have h3:n / (p*256)=n / p / 256:=by rw [Int.ediv_ediv_of_nonneg (Int.le_of_lt hp)]
  have h4:=Int.emod_add_mul_ediv n (p*256)
  rw [h3] at h4
  have h5:p*(n / p % 256)=p*(n / p)-p*256*(n / p / 256):=by
   have:p*(n / p)=p*(n / p % 256+256*(n / p / 256)):=by rw [h2]
   rw [this,Int.mul_add,Int.mul_assoc]
   omega
  omega
def numL (xs:List Int):Int:=leN (xs.take 8)
def numB (xs:List Int):Int:=leN (xs.reverse.take 8)
theorem pow_mono {a b:Nat} (h:a<=b):(256:Int) ^ a<=256 ^ b:=by
 induction h with
 | refl=>exact Int.le_refl _
 | step _ ih=>rw [Int.pow_succ];have:=Int.pow_pos (n:=256) (m:=a) (by omega);omega
theorem bits8 (op:BinOp) (a b:Int):Go.bits op .u8 a b=IntKind.u8.wrap ((match op with | .and=>(BitVec.ofInt 8 a) &&& (BitVec.ofInt 8 b) | .or=>(BitVec.ofInt 8 a) ||| (BitVec.ofInt 8 b) | .xor=>(BitVec.ofInt 8 a) ^^^ (BitVec.ofInt 8 b) | _=>(BitVec.ofInt 8 a) &&& ~~~(BitVec.ofInt 8 b):BitVec 8).toNat:Int):=rfl
theorem bits8_byt (op:BinOp) (a b:Int):0<=Go.bits op .u8 a b/\Go.bits op .u8 a b<256:=by
 rw [bits8,u8_wrap]
 exact ⟨Int.emod_nonneg _ (by omega),Int.emod_lt_of_pos _ (by omega)⟩
theorem byte_nat {a:Int} (h:0<=a/\a<256):∃ x:Fin 256,a=(x.val:Int):=⟨⟨a.toNat,by omega⟩,by simp;omega⟩
def xor8 (a b:Int):Int:=Go.bits .xor .u8 a b
theorem xor8_comm (a b:Int):xor8 a b=xor8 b a:=by
 unfold xor8
 rw [bits8,bits8]
 simp only [BitVec.xor_comm]
def xorL (xs ys:List Int):List Int:=(List.range xs.length).map λi=>xor8 (xs.getD i 0) (ys.getD i 0)
theorem xorL_length (xs ys:List Int):(xorL xs ys).length=xs.length:=by simp [xorL]
theorem xorL_get (xs ys:List Int) (i:Nat) (h:i<(xorL xs ys).length):(xorL xs ys)[i]=xor8 (xs.getD i 0) (ys.getD i 0):=by simp [xorL]
theorem xorL_take_succ (xs ys:List Int) (i:Nat) (h:i<xs.length):(xorL xs ys).take (i+1)=(xorL xs ys).take i++[xor8 (xs.getD i 0) (ys.getD i 0)]:=by
 rw [List.take_succ_eq_append_getElem (by rw [xorL_length];exact h),xorL_get]
theorem getD_get {xs:List Int} {i:Nat} (h:i<xs.length):xs.getD i 0=xs[i]:=by simp [List.getD_eq_getElem?_getD,h]
def invL (xs:List Int):List Int:=xs.map λx=>xor8 255 x
theorem invL_byt (xs:List Int):Byt (invL xs):=by
 intro x hx
 simp only [invL,List.mem_map] at hx
 obtain ⟨y,_,rfl⟩:=hx
 exact bits8_byt _ _ _
theorem invL_xor (xs:List Int) (n:Nat) (h:n=xs.length):xorL xs (List.replicate n 255)=invL xs:=by
 subst h
 apply List.ext_getElem (by simp [xorL,invL])
 intro i h1 h2
 rw [xorL_get,getD_get (by simpa [invL] using h2),getD_get (by simpa [invL] using h2)]
 simp only [List.getElem_replicate,invL,List.getElem_map]
 exact xor8_comm _ _
end Go.Eng
namespace Go.Proofs.YtbaojfchlhlaeaaGreat.Vc
open Go Go.Eng Go.RowKit
structure Res (w w':World) (s:SlV) (xs:List Int):Prop where
 ext:Ext w w'
 own:Own w' w.heap.size 5 1 s.a s.n s.c (xs.map (Value.int .u8))
theorem Res.ints {w w':World} {s:SlV} {xs:List Int} (h:Res w w' s xs):Ints w' .u8 s.a s.n s.c xs:=h.own.ints
theorem Res.after {w w' w2:World} {s:SlV} {xs:List Int} (h:Res w w' s xs) (e:Ext w2 w):Res w2 w' s xs:=⟨e.trans h.ext,h.own.mono e.size⟩
theorem map_get {k:IntKind} {xs:List Int} {i:Nat} (h:i<(xs.map (Value.int k)).length):(xs.map (Value.int k))[i]=.int k (xs[i]'(by simpa using h)):=by simp
theorem Fill_c {w:World} {x n:Int}:CallV Tryz.prog 203 #[.int .u8 x,.int .i64 n] w [.one .sl] λr w'=>Res w w' r.1 (List.replicate (max 0 (min 65536 n)).toNat x):=by
 refine octet_Fill.vc _ _ _ _ ?_
 unfold octet_Fill.P
 intro z1 hz1 z2 hz2
 refine ⟨by omega,?_⟩
 rintro b w1 rfl rfl
 have hk:z2=((max 0 (min 65536 n)).toNat:Int):=by omega
 have hk2:(max 0 (min 65536 n)).toNat<=65536:=by omega
 generalize (max 0 (min 65536 n)).toNat=k at hk hk2 ⊢
 subst hk
 clear hz1 hz2
 rw [Int.toNat_natCast]
 have hS:((List.replicate k x).map (Value.int .u8)).length=k:=by simp
 have hnew:=Own.zeros (w:=w) (B:=w.heap.size) (e:=5) (n:=k) (c:=k) (z:=.int .u8 0) (Nat.le_refl _) (Nat.le_refl _) (by omega) rfl
 have hx0:=Ext.alloc w (.cells (List.replicate k [Value.int .u8 0]).flatten.toArray 5)
 refine Loop1 (λ(y:Int×Unit) w'=>∃ i:Nat,y.1=i/\i<=k/\Ext w w'/\Own w' w.heap.size 5 1 (some ⟨w.heap.size,0,none⟩) k k (((List.replicate k x).map (Value.int .u8)).take i++List.replicate (k-i) (.int .u8 0)))
  (λ(y:Int×Unit) _=>((k:Int)-y.1).toNat) ⟨0,rfl,by omega,hx0,by simpa using hnew⟩ ?_
 rintro ⟨(y:Int),⟨⟩⟩ w' ⟨i,hy,hi,he,ho⟩
 dsimp only at hy ⊢
 subst hy
 refine cond_d (λhlt=>?_) (λhge=>?_)
 ·refine ho.store (by omega) (by omega) rfl λw2 ho2 hb2 _ hs2=>?_
  refine ⟨Rng.i64 (by omega) (by omega),⟨i+1,by push_cast;rfl,by omega,?_,?_⟩,by omega⟩
  ·exact Below.trans he hb2
  ·have:=set_step ((List.replicate k x).map (Value.int .u8)) (.int .u8 0) hS (show i<k by omega)
   rw [Int.toNat_natCast] at ho2
   rw [<-this]
   simpa using ho2
 ·have:i=k:=by omega
  subst this
  refine ⟨he,?_⟩
  have h2:((List.replicate i x).map (Value.int .u8)).take i++List.replicate (i-i) (Value.int .u8 0)=(List.replicate i x).map (Value.int .u8):=by
   rw [Nat.sub_self,List.replicate_zero,List.append_nil,List.take_of_length_le (by simp)]
  rw [h2] at ho
  exact ho
theorem app1 {w:World} {a:Option Addr} {n c:Nat} {xs:List Int} {x:Int} {B b:Nat} {K:Option Addr->Nat->Nat->World->Prop} {w1:World} (ho:Own w B 5 1 a n c (xs.map (Value.int .u8))) (hB:B<=w.heap.size) (hn:n<=100000000)
  (hb:b=w.heap.size) (hw:w1=w.alloc (.cells #[.int .u8 x] 5))
  (hk:∀ a' c' w',Own w' B 5 1 a' (n+1) c' ((xs++[x]).map (Value.int .u8))->Below B w w'->K a' (n+1) c' w') :
  AppS w1 (some ⟨b,0,none⟩) 1 1 λns=>AppV w1 5 1 1 a n c ns 1 K:=by
 subst hb;subst hw
 have hx:Ext w (w.alloc (.cells #[.int .u8 x] 5)):=Ext.alloc _ _
 refine AppS.of (news:=[.int .u8 x]) rfl (.inr ⟨_,rfl,CellsAt.new (cs:=[.int .u8 x])⟩) ?_
 refine AppV.own (ho.ext hx) (Nat.le_trans hB hx.size) rfl (λu hu=>by rw [List.mem_singleton.1 hu];rfl) (by omega) (by omega) λa' c' w' h1 h2 _ _=>?_
 refine hk a' c' w' ?_ ((Below.mono hx hB).trans h2)
 rw [List.map_append]
 exact h1
theorem rFill_c {w:World} {x n:Int}:CallV Tryz.prog 132 #[.int .u8 x,.int .i64 n] w [.one .sl] λr w'=>Res w w' r.1 (List.replicate (max 0 (min 65536 n)).toNat x):=by
 refine ref01_Fill.vc _ _ _ _ ?_
 unfold ref01_Fill.P
 generalize hL:(65536:Int)=L
 rintro b w1 rfl rfl
 have hnew:=Own.new (w:=w) (B:=w.heap.size) (e:=5) (sz:=1) (n:=0) (c:=0) (cs:=[]) (Nat.le_refl _) rfl (Nat.le_refl _) (by omega) oneAll.nil
 refine Loop1 (λ(y:SlV×Int×Unit) w'=>∃ i:Nat,y.2.1=i/\(i:Int)<=max 0 (min L n)/\y.1.n=i/\Ext w w'/\Own w' w.heap.size 5 1 y.1.a y.1.n y.1.c ((List.replicate i x).map (Value.int .u8)))
  (λ(y:SlV×Int×Unit) _=>(L-y.2.1).toNat) ⟨0,rfl,by omega,rfl,Ext.alloc _ _,hnew⟩ ?_
 rintro ⟨(s:SlV),(y:Int),⟨⟩⟩ w' ⟨i,hy,hi,hn,he,ho⟩
 dsimp only at hy hn ho ⊢
 subst hy
 have fin:¬ ((i:Int)<n/\(i:Int)<L)->Res w w' s (List.replicate (max 0 (min L n)).toNat x):=by
  intro h
  have:(max 0 (min L n)).toNat=i:=by omega
  rw [this]
  exact ⟨he,ho⟩
 refine cond_d (λhlt=>?_) (λhge=>fin (λh=>hge h.1))
 refine cond_d (λhlt2=>?_) (λhge=>fin (λh=>hge h.2))
 rintro b2 w2 hb2 hw2
 refine app1 ho he.size (by omega) hb2 hw2 λa' c' w3 ho3 hb3=>?_
 refine ⟨Rng.i64 (by omega) (by omega),⟨i+1,by push_cast;rfl,by omega,by show s.n+1=i+1;omega,?_,?_⟩,by omega⟩
 ·exact Below.trans he hb3
 ·rw [<-List.replicate_succ'] at ho3
  exact ho3
theorem Big_c {w:World} {n k:Int} (h0:0<=n):CallV Tryz.prog 279 #[.int .u64 n,.int .i64 k] w [.one .sl] λr w'=>Res w w' r.1 (leL n (cl8 k)).reverse:=by
 refine octet_Big.vc _ _ _ _ ?_
 unfold octet_Big.P
 intro z1 hz1 z2 hz2
 refine ⟨by omega,?_⟩
 rintro b w1 rfl rfl
 have hk:z2=(cl8 k:Int):=by unfold cl8;omega
 have hk2:cl8 k<=8:=by unfold cl8;omega
 generalize cl8 k=m at hk hk2 ⊢
 subst hk
 clear hz1 hz2
 rw [Int.toNat_natCast]
 have hS:((leL n m).reverse.map (Value.int .u8)).length=m:=by simp [leL]
 have hnew:=Own.zeros (w:=w) (B:=w.heap.size) (e:=5) (n:=m) (c:=m) (z:=.int .u8 0) (Nat.le_refl _) (Nat.le_refl _) (by omega) rfl
 have hx0:=Ext.alloc w (.cells (List.replicate m [Value.int .u8 0]).flatten.toArray 5)
 refine Loop1 (λ(y:Int×Unit) w'=>∃ i:Nat,y.1=i/\i<=m/\Ext w w'/\Own w' w.heap.size 5 1 (some ⟨w.heap.size,0,none⟩) m m (List.replicate (m-i) (.int .u8 0)++((leL n m).reverse.map (Value.int .u8)).drop (m-i)))
  (λ(y:Int×Unit) _=>((m:Int)-y.1).toNat) ⟨0,rfl,by omega,hx0,by rw [Nat.sub_zero,List.drop_of_length_le (by omega),List.append_nil];exact hnew⟩ ?_
 rintro ⟨(y:Int),⟨⟩⟩ w' ⟨i,hy,hi,he,ho⟩
 dsimp only at hy ⊢
 subst hy
 refine cond_d (λhlt=>?_) (λhge=>?_)
 ·refine ⟨Rng.i64 (by omega) (by omega),Rng.i64 (by omega) (by omega),Rng.i64 (by omega) (by omega),by omega,?_⟩
  refine ho.store (by omega) (by omega) rfl λw2 ho2 hb2 _ hs2=>?_
  refine ⟨Rng.i64 (by omega) (by omega),⟨i+1,by push_cast;rfl,by omega,Below.trans he hb2,?_⟩,by omega⟩
  have hset:=set_back ((leL n m).reverse.map (Value.int .u8)) (.int .u8 0) hS (show i<m by omega)
  rw [show ((m:Int)-1-(i:Int)).toNat=m-1-i by omega] at ho2
  rw [<-hset]
  have hv:IntKind.u8.wrap (Int.fdiv n (2 ^ (Nat.min (((8:Int)*(i:Int))).toNat 64)))=(leL n m).reverse[m-1-i]'(by simp [leL_length];omega):=by
   rw [List.getElem_reverse,leL_get,u8_wrap,fdiv_pos (by rw [pow8 i (by omega)];exact Int.le_of_lt (Int.pow_pos (by omega))),pow8 i (by omega)]
   have:(leL n m).length-1-(m-1-i)=i:=by rw [leL_length];omega
   rw [this]
  rw [map_get,<- hv]
  exact ho2
 ·have:i=m:=by omega
  subst this
  refine ⟨he,?_⟩
  rw [Nat.sub_self,List.replicate_zero,List.nil_append,List.drop_zero] at ho
  exact ho
theorem rLittle_c {w:World} {n k:Int} (h0:0<=n) (h1:n<18446744073709551616):CallV Tryz.prog 286 #[.int .u64 n,.int .i64 k] w [.one .sl] λr w'=>Res w w' r.1 (leL n (cl8 k)):=by
 refine ref01_Little.vc _ _ _ _ ?_
 unfold ref01_Little.P
 rintro b w1 rfl rfl
 have hnew:=Own.new (w:=w) (B:=w.heap.size) (e:=5) (sz:=1) (n:=0) (c:=0) (cs:=[]) (Nat.le_refl _) rfl (Nat.le_refl _) (by omega) oneAll.nil
 have hc8:(cl8 k:Int)=max 0 (min 8 k):=by unfold cl8;omega
 refine Loop1 (λ(y:Int×SlV×Int×Unit) w'=>∃ i:Nat,y.2.2.1=i/\i<=cl8 k/\y.1=n / 256 ^ i/\y.2.1.n=i/\Ext w w'/\Own w' w.heap.size 5 1 y.2.1.a y.2.1.n y.2.1.c ((leL n i).map (Value.int .u8)))
  (λ(y:Int×SlV×Int×Unit) _=>((8:Int)-y.2.2.1).toNat) ⟨0,rfl,by omega,by simp,rfl,Ext.alloc _ _,hnew⟩ ?_
 rintro ⟨(m:Int),(s:SlV),(y:Int),⟨⟩⟩ w' ⟨i,hy,hi,hm,hn,he,ho⟩
 dsimp only at hy hm hn ho ⊢
 subst hy
 have fin:¬ ((i:Int)<k/\(i:Int)<8)->Res w w' s (leL n (cl8 k)):=by
  intro h
  have:cl8 k=i:=by omega
  rw [this]
  exact ⟨he,ho⟩
 refine cond_d (λhlt=>?_) (λhge=>fin (λh=>hge h.1))
 refine cond_d (λhlt2=>?_) (λhge=>fin (λh=>hge h.2))
 have hm0:0<=m:=by rw [hm];exact Int.ediv_nonneg h0 (Int.le_of_lt (Int.pow_pos (by omega)))
 have hm1:m<18446744073709551616:=by
  rw [hm]
  exact Int.lt_of_le_of_lt (Int.ediv_le_self _ h0) h1
 refine ⟨by omega,?_⟩
 rintro b2 w2 hb2 hw2
 refine app1 ho he.size (by omega) hb2 hw2 λa' c' w3 ho3 hb3=>?_
 have hd:Int.tdiv m 256=n / 256 ^ (i+1):=by rw [hm];exact div_step n h0 i
 have hd2:Int.tdiv m 256=m / 256:=Int.tdiv_eq_ediv_of_nonneg hm0
 refine ⟨by omega,Rng.u64 (by omega) (by omega),Rng.i64 (by omega) (by omega),⟨i+1,by push_cast;rfl,by omega,hd,by show s.n+1=i+1;omega,Below.trans he hb3,?_⟩,by omega⟩
 rw [leL_succ,<- hm]
 rw [u8_wrap,Int.tmod_eq_emod_of_nonneg hm0] at ho3
 simpa using ho3
theorem take_rev (xs:List Int) {i:Nat} (h:i<xs.length):xs.reverse.take (xs.length-1-i+1)=xs.reverse.take (xs.length-1-i)++[xs.getD i 0]:=by
 rw [List.take_succ_eq_append_getElem (by simp;omega),List.getElem_reverse,getD_get h]
 congr 3
 omega
theorem Back_c {w:World} {a:Option Addr} {n c:Nat} {xs:List Int} (hx:Ints w .u8 a n c xs) (hn:n<=70000) :
  CallV Tryz.prog 266 #[.slice a n c] w [.one .sl] λr w'=>Res w w' r.1 xs.reverse:=by
 refine ref01_Back.vc _ _ _ _ _ ?_
 unfold ref01_Back.P
 rintro b w1 rfl rfl
 have hl:=hx.len
 refine ⟨Rng.i64 (by omega) (by omega),?_⟩
 have hnew:=Own.new (w:=w) (B:=w.heap.size) (e:=5) (sz:=1) (n:=0) (c:=0) (cs:=[]) (Nat.le_refl _) rfl (Nat.le_refl _) (by omega) oneAll.nil
 refine Loop1 (λ(y:SlV×Int×Unit) w'=>∃ j:Nat,y.2.1=(n:Int)-1-j/\j<=n/\y.1.n=j/\Ext w w'/\Own w' w.heap.size 5 1 y.1.a y.1.n y.1.c ((xs.reverse.take j).map (Value.int .u8)))
  (λ(y:SlV×Int×Unit) _=>(y.2.1+1).toNat) ⟨0,(by simp;rfl),by omega,rfl,Ext.alloc _ _,hnew⟩ ?_
 rintro ⟨(s:SlV),(y:Int),⟨⟩⟩ w' ⟨j,hy,hj,hsn,he,ho⟩
 dsimp only at hy hsn ho ⊢
 refine cond_d (λhlt=>?_) (λhge=>?_)
 ·refine (hx.ext he).idx (by omega) (by omega) ?_
  rintro b2 w2 hb2 hw2
  refine app1 ho he.size (by omega) hb2 hw2 λa' c' w3 ho3 hb3=>?_
  refine ⟨Rng.i64 (by omega) (by omega),⟨j+1,by push_cast;omega,by omega,by show s.n+1=j+1;omega,Below.trans he hb3,?_⟩,by omega⟩
  have:=take_rev xs (i:=y.toNat) (by omega)
  rw [show xs.length-1-y.toNat=j by omega] at this
  rw [this]
  exact ho3
 ·have:j=n:=by omega
  subst this
  refine ⟨he,?_⟩
  rw [List.take_of_length_le (by simp;omega)] at ho
  exact ho
theorem rBig_c {w:World} {n k:Int} (h0:0<=n) (h1:n<18446744073709551616):CallV Tryz.prog 267 #[.int .u64 n,.int .i64 k] w [.one .sl] λr w'=>Res w w' r.1 (leL n (cl8 k)).reverse:=by
 refine ref01_Big.vc _ _ _ _ ?_
 unfold ref01_Big.P
 refine (rLittle_c h0 h1).mono ?_
 rintro ⟨(s:SlV),⟨⟩⟩ w1 hr
 have hlen:=hr.ints.len
 rw [leL_length] at hlen
 have hc8:cl8 k<=8:=by unfold cl8;omega
 refine (Back_c hr.ints (by dsimp only at *;omega)).mono ?_
 rintro ⟨(s2:SlV),⟨⟩⟩ w2 hr2
 exact hr2.after hr.ext
theorem leN_drop {xs:List Int} {i:Nat} (h:i<xs.length):leN (xs.drop i)=xs.getD i 0+256*leN (xs.drop (i+1)):=by
 rw [List.drop_eq_getElem_cons h,getD_get h]
 rfl
theorem pow256 {i:Nat} (h:i<=7):(256:Int) ^ i<=72057594037927936:=by
 have:=pow_mono h
 have e:(256:Int) ^ 7=72057594037927936:=by decide
 omega
theorem rNumLittle_c {w:World} {a:Option Addr} {n c:Nat} {xs:List Int} (hx:Ints w .u8 a n c xs) (hb:Byt xs) :
  CallV Tryz.prog 265 #[.slice a n c] w [.one (.int .u64)] λr w'=>r.1=numL xs/\w'=w:=by
 refine ref01_NumLittle.vc _ _ _ _ _ ?_
 unfold ref01_NumLittle.P
 have hl:=hx.len
 have hli:=hx.lim
 refine ⟨Rng.i64 (by omega) (by omega),?_⟩
 intro z1 hz1
 refine Loop1 (λ(y:Int×Int×Unit) w'=>-1<=y.2.1/\y.2.1<=z1/\y.1=leN ((xs.take 8).drop (y.2.1+1).toNat)/\w'=w) (λ(y:Int×Int×Unit) _=>(y.2.1+1).toNat)
  ⟨by dsimp only;omega,Int.le_refl _,by dsimp only;rw [List.drop_of_length_le (by simp;omega)];rfl,rfl⟩ ?_
 rintro ⟨(m:Int),(y:Int),⟨⟩⟩ w' ⟨h0,h1,hm,rfl⟩
 dsimp only at h0 h1 hm ⊢
 refine cond_d (λhge=>?_) (λhlt=>?_)
 ·refine hx.idx (by omega) (by omega) ?_
  have hlt8:y.toNat<(xs.take 8).length:=by simp;omega
  have hd:=leN_drop hlt8
  rw [show (y+1).toNat=y.toNat+1 by omega] at hm
  rw [<-hm] at hd
  have hbd:=leN_bd ((hb.take 8).drop (y.toNat+1))
  rw [<-hm] at hbd
  have hpw:=pow256 (i:=((xs.take 8).drop (y.toNat+1)).length) (by simp;omega)
  have hg:(xs.take 8).getD y.toNat 0=xs.getD y.toNat 0:=by
   rw [getD_get hlt8,getD_get (by simp at hlt8;omega),List.getElem_take]
  have hbx:=hb.getD y.toNat
  refine ⟨Rng.i64 (by omega) (by omega),⟨by omega,by omega,?_,rfl⟩,by omega⟩
  rw [u64_id (z:=m*256) (by omega) (by omega),u64_id (z:=xs.getD y.toNat 0) (by omega) (by omega),u64_id (by omega) (by omega)]
  rw [show (y-1+1).toNat=y.toNat by omega,hd,hg]
  omega
 ·refine ⟨?_,rfl⟩
  show m=numL xs
  rw [hm,show (y+1).toNat=0 by omega]
  rfl
theorem rNum_c {w:World} {a:Option Addr} {n c:Nat} {xs:List Int} (hx:Ints w .u8 a n c xs) (hb:Byt xs) (hn:n<=70000) :
  CallV Tryz.prog 234 #[.slice a n c] w [.one (.int .u64)] λr w'=>r.1=numB xs/\Ext w w':=by
 refine ref01_Num.vc _ _ _ _ _ ?_
 unfold ref01_Num.P
 refine (Back_c hx hn).mono ?_
 rintro ⟨(s:SlV),⟨⟩⟩ w1 hr
 refine (rNumLittle_c hr.ints hb.reverse).mono ?_
 rintro ⟨(v:Int),⟨⟩⟩ w2 ⟨h1,rfl⟩
 exact ⟨h1,hr.ext⟩
theorem fill_round {w0 w:World} {k i:Nat} {S:List Int} {a:Option Addr} {B:Nat} (hS:S.length=k) (hi:i<k) {x:Int} (hx:x=S[i]'(by omega)) {K:World->Prop}
  (ho:Own w B 5 1 a k k ((S.map (Value.int .u8)).take i++List.replicate (k-i) (.int .u8 0)))
  (hk:∀ w',Own w' B 5 1 a k k ((S.map (Value.int .u8)).take (i+1)++List.replicate (k-(i+1)) (.int .u8 0))->Below B w w'->K w') :
  (0<=(i:Int)/\(i:Int)<(k:Int))/\∃ q,a=some q/\StoreV w (q.add ((i:Int).toNat*1)) [.int .u8 x] K:=by
 refine ho.store (by omega) (by omega) rfl λw2 ho2 hb2 _ hs2=>hk w2 ?_ hb2
 have hset:=set_step (S.map (Value.int .u8)) (.int .u8 0) (by simpa using hS) hi
 rw [Int.toNat_natCast] at ho2
 rw [<-hset,map_get,<- hx]
 exact ho2
theorem rXor_c {w:World} {a b:Option Addr} {n c m d:Nat} {xs ys:List Int} (hx:Ints w .u8 a n c xs) (hy:Ints w .u8 b m d ys) (hnm:n<=m) (hn:n<=70000) :
  CallV Tryz.prog 268 #[.slice a n c,.slice b m d] w [.one .sl] λr w'=>Res w w' r.1 (xorL xs ys):=by
 refine ref01_Xor.vc _ _ _ _ _ _ _ _ ?_
 unfold ref01_Xor.P
 have l1:=hx.len
 have l2:=hy.len
 rintro b1 w1 rfl rfl
 have hS:(xorL xs ys).length=n:=by rw [xorL_length];exact l1
 have hnew:=Own.new (w:=w) (B:=w.heap.size) (e:=5) (sz:=1) (n:=0) (c:=0) (cs:=[]) (Nat.le_refl _) rfl (Nat.le_refl _) (by omega) oneAll.nil
 refine Loop1 (λ(y:SlV×Int×Unit) w'=>∃ i:Nat,y.2.1=i/\i<=n/\y.1.n=i/\Ext w w'/\Own w' w.heap.size 5 1 y.1.a y.1.n y.1.c (((xorL xs ys).take i).map (Value.int .u8)))
  (λ(y:SlV×Int×Unit) _=>((n:Int)-y.2.1).toNat) ⟨0,rfl,by omega,rfl,Ext.alloc _ _,hnew⟩ ?_
 rintro ⟨(s:SlV),(y:Int),⟨⟩⟩ w' ⟨i,hy',hi,hsn,he,ho⟩
 dsimp only at hy' hsn ho ⊢
 subst hy'
 refine cond_d (λhlt=>?_) (λhge=>?_)
 ·refine DrawV.base w.heap.size w' λD hD hkeep=>?_
  have he':=he.trans (Ext.drew w')
  refine hx.idxD he' (by omega) hlt hD ?_
  refine hy.idxD he' (by omega) (by omega) hD ?_
  rintro b2 w2 hb2 hw2
  refine ⟨hkeep _ (by subst hw2;exact (Below.drew (Below.refl _ w')).alloc (by exact he.size) _),?_⟩
  refine app1 (ho.ext (Ext.drew w')) (by exact he.size) (by omega) hb2 hw2 λa' c' w3 ho3 hb3=>?_
  refine ⟨hkeep _ ((Below.drew (Below.refl _ w')).trans hb3),Rng.i64 (by omega) (by omega),⟨i+1,by push_cast;rfl,by omega,by show s.n+1=i+1;omega,Below.trans he' hb3,?_⟩,by omega⟩
  rw [xorL_take_succ _ _ _ (by omega)]
  exact ho3
 ·have:i=n:=by omega
  subst this
  refine ⟨he,?_⟩
  rw [List.take_of_length_le (by omega)] at ho
  exact ho
theorem Invert_c {w:World} {a:Option Addr} {n c:Nat} {xs:List Int} (hx:Ints w .u8 a n c xs) (hn:n<=70000) :
  CallV Tryz.prog 249 #[.slice a n c] w [.one .sl] λr w'=>Res w w' r.1 (invL xs):=by
 refine octet_Invert.vc _ _ _ _ _ ?_
 unfold octet_Invert.P
 have l1:=hx.len
 refine ⟨by omega,?_⟩
 rintro b1 w1 rfl rfl
 rw [Int.toNat_natCast]
 have hS:(invL xs).length=n:=by simpa [invL] using l1
 have hnew:=Own.zeros (w:=w) (B:=w.heap.size) (e:=5) (n:=n) (c:=n) (z:=.int .u8 0) (Nat.le_refl _) (Nat.le_refl _) (by omega) rfl
 refine Loop1 (λ(y:Int×Unit) w'=>∃ i:Nat,y.1=i/\i<=n/\Ext w w'/\Own w' w.heap.size 5 1 (some ⟨w.heap.size,0,none⟩) n n (((invL xs).map (Value.int .u8)).take i++List.replicate (n-i) (.int .u8 0)))
  (λ(y:Int×Unit) _=>((n:Int)-y.1).toNat) ⟨0,rfl,by omega,Ext.alloc _ _,by simpa using hnew⟩ ?_
 rintro ⟨(y:Int),⟨⟩⟩ w' ⟨i,hy',hi,he,ho⟩
 dsimp only at hy' ⊢
 subst hy'
 refine cond_d (λhlt=>?_) (λhge=>?_)
 ·refine (hx.ext he).idx (by omega) hlt ?_
  refine fill_round (w0:=w) (S:=invL xs) hS (by omega) (by rw [Int.toNat_natCast,getD_get (by omega)];simp [invL,xor8]) ho λw2 ho2 hb2=>?_
  exact ⟨Rng.i64 (by omega) (by omega),⟨i+1,by push_cast;rfl,by omega,Below.trans he hb2,ho2⟩,by omega⟩
 ·have:i=n:=by omega
  subst this
  refine ⟨he,?_⟩
  rw [Nat.sub_self,List.replicate_zero,List.append_nil,List.take_of_length_le (by simp;omega)] at ho
  exact ho
theorem rInvert_c {w:World} {a:Option Addr} {n c:Nat} {xs:List Int} (hx:Ints w .u8 a n c xs) (hn:n<=65536) :
  CallV Tryz.prog 237 #[.slice a n c] w [.one .sl] λr w'=>Res w w' r.1 (invL xs):=by
 refine ref01_Invert.vc _ _ _ _ _ ?_
 unfold ref01_Invert.P
 refine rFill_c.mono ?_
 rintro ⟨(s:SlV),⟨⟩⟩ w1 hr
 have hk:(max 0 (min 65536 (n:Int))).toNat=n:=by omega
 rw [hk] at hr
 have hl:=hr.ints.len
 simp only [List.length_replicate] at hl
 refine (rXor_c (hx.ext hr.ext) hr.ints (Nat.le_of_eq hl) (by omega)).mono ?_
 rintro ⟨(s2:SlV),⟨⟩⟩ w2 hr2
 have:=hr2.after hr.ext
 rw [invL_xor xs n hx.len.symm] at this
 exact this
theorem ldC {w:World} {b:Nat} {vs:List Value} (hc:CellsAt w ⟨b,0,none⟩ vs) {i:Nat} {h:SS} {x:h.T} (hv:vs[i]? = some (h.v x)) {K:h.T->Prop} (hk:K x):LoadS w ⟨b,i,none⟩ h K:=by
 refine ⟨x,?_,hk⟩
 have:=hc i _ hv
 rwa [show (⟨b,0,none⟩:Addr).add i=⟨b,i,none⟩ by simp [Addr.add_lit]] at this
theorem ldp {w:World} {p:Addr} {vs:List Value} (hc:CellsAt w p vs) (i:Nat) {h:SS} {x:h.T} (hv:vs[i]? = some (h.v x)) {K:h.T->Prop} (hk:K x):LoadS w (p.add i) h K:=
 ⟨x,hc i _ hv,hk⟩
theorem ldp0 {w:World} {p:Addr} {vs:List Value} (hc:CellsAt w p vs) {h:SS} {x:h.T} (hv:vs[0]? = some (h.v x)) {K:h.T->Prop} (hk:K x):LoadS w p h K:=by
 refine ⟨x,?_,hk⟩
 have:=hc 0 _ hv
 rwa [show p.add 0=p by unfold Addr.add;simp] at this
theorem ldaC {w:World} {p:Addr} {vs:List Value} (hc:CellsAt w p vs) {l:List SS} (x:Tup l) (hv:tupV l x=vs) {K:Tup l->Prop} (hk:K x):LoadA w p l K:=
 ⟨x,by rw [hv];exact hc,hk⟩
structure Box (w:World) (B b:Nat) (e:TypeId) (vs:List Value):Prop where
 base:B<=b
 heap:w.heap[b]? = some (.cells vs.toArray e)
theorem Box.new {w:World} {B:Nat} (hB:B<=w.heap.size) (e:TypeId) (vs:List Value):Box (w.alloc (.cells vs.toArray e)) B w.heap.size e vs:=⟨hB,heap_new w _⟩
theorem Box.ext {w w':World} {B b:Nat} {e:TypeId} {vs:List Value} (h:Box w B b e vs) (x:Ext w w'):Box w' B b e vs:=⟨h.base,x.heap h.heap⟩
theorem Box.cells {w:World} {B b:Nat} {e:TypeId} {vs:List Value} (h:Box w B b e vs):CellsAt w ⟨b,0,none⟩ vs:=
 CellsAt.of_heap (cs:=vs.toArray) (e:=e) (fr:=(0,0)) h.heap (λj v hv=>by simpa using hv)
theorem Box.ld {w:World} {B b:Nat} {e:TypeId} {vs:List Value} (hb:Box w B b e vs) {i:Nat} {h:SS} {x:h.T} (hv:vs[i]? = some (h.v x)) {K:h.T->Prop} (hk:K x):LoadS w ⟨b,i,none⟩ h K:=ldC hb.cells hv hk
theorem Box.lda {w:World} {B b:Nat} {e:TypeId} {vs:List Value} (hb:Box w B b e vs) {l:List SS} (x:Tup l) (hv:tupV l x=vs) {K:Tup l->Prop} (hk:K x):LoadA w ⟨b,0,none⟩ l K:=ldaC hb.cells x hv hk
theorem Box.lt {w:World} {B b:Nat} {e:TypeId} {vs:List Value} (h:Box w B b e vs):b<w.heap.size:=by
 have:=h.heap
 rw [Array.getElem?_eq_some_iff] at this
 exact this.1
theorem Box.store {w:World} {B b:Nat} {e:TypeId} {vs:List Value} (h:Box w B b e vs) (o:Nat) {news:List Value} (hl:o+news.length<=vs.length) {K:World->Prop}
  (hk:∀ w',Box w' B b e (vs.take o++(news++vs.drop (o+news.length)))->Below B w w'->(∀ k,k≠b->w'.heap[k]? = w.heap[k]?)->w'.heap.size=w.heap.size->K w'):StoreV w ⟨b,o,none⟩ news K:=by
 refine ⟨rfl,Free.of_heap h.heap (by simpa using hl),?_⟩
 rintro w' rfl
 refine hk _ ⟨h.base,?_⟩ (Bel.setCells (Below.refl _ _) h.base _ _) (λk hk=>setCells_other _ _ _ _ _ hk) (setCells_rest _ _ _ _).2.2.2
 rw [setCells_heap _ _ _ _ _ _ _ h.heap]
 have:=splice_toList news vs.toArray o (by simpa using hl)
 rw [List.toList_toArray] at this
 rw [<-this,Array.toArray_toList]
theorem newBox {w:World} {vs:List Value} {e:TypeId} {K:Nat->World->Prop} (h:∀ b w1,Ext w w1->Box w1 w.heap.size b e vs->K b w1):NewV vs.toArray e w K:=by
 rintro b w1 rfl rfl
 exact h _ _ (Ext.alloc _ _) (Box.new (Nat.le_refl _) _ _)
theorem mul_bd {a b A B:Int} (h0:0<=a) (h1:a<=A) (h2:0<=b) (h3:b<=B):0<=a*b/\a*b<=A*B:=
 ⟨Int.mul_nonneg h0 h2,Int.le_trans (Int.mul_le_mul_of_nonneg_right h1 h2) (Int.mul_le_mul_of_nonneg_left h3 (Int.le_trans h0 h1))⟩
def bitB (x:Int) (j:Nat):Bool:=x / 2 ^ j % 2 == 1
def bv (x:Int):BitVec 8:=BitVec.ofInt 8 x
theorem bit_bv0:∀ x:Fin 256,∀ j:Fin 8,bitB ((x.val:Nat):Int) j.val=(bv ((x.val:Nat):Int)).getLsbD j.val:=by decide +kernel
theorem bit_bv {x:Int} (hx:0<=x/\x<256) {j:Nat} (hj:j<8):bitB x j=(bv x).getLsbD j:=by
 obtain ⟨y,rfl⟩:=byte_nat hx
 exact bit_bv0 y ⟨j,hj⟩
theorem bv_wrap (v:BitVec 8):bv (IntKind.u8.wrap (v.toNat:Int))=v:=by
 have:=v.isLt
 rw [u8_wrap,show ((v.toNat:Nat):Int) % 256=((v.toNat:Nat):Int) by omega]
 unfold bv
 rw [BitVec.ofInt_natCast]
 simp
theorem byte_ext {x y:Int} (hx:0<=x/\x<256) (hy:0<=y/\y<256) (h:∀ j,j<8->bitB x j=bitB y j):x=y:=by
 have:bv x=bv y:=BitVec.eq_of_getLsbD_eq λj hj=>by rw [<-bit_bv hx hj,<- bit_bv hy hj];exact h j hj
 obtain ⟨a,rfl⟩:=byte_nat hx
 obtain ⟨b,rfl⟩:=byte_nat hy
 unfold bv at this
 rw [BitVec.ofInt_natCast,BitVec.ofInt_natCast] at this
 have e:=congrArg BitVec.toNat this
 rw [BitVec.toNat_ofNat,BitVec.toNat_ofNat,Nat.mod_eq_of_lt a.isLt,Nat.mod_eq_of_lt b.isLt] at e
 rw [e]
theorem bit_and (a b:Int) {j:Nat} (hj:j<8) (ha:0<=a/\a<256) (hb:0<=b/\b<256):bitB (Go.bits .and .u8 a b) j=(bitB a j && bitB b j):=by
 rw [bit_bv (bits8_byt .and a b) hj,bit_bv ha hj,bit_bv hb hj]
 rw [show bv (Go.bits .and .u8 a b)=bv a &&& bv b from bv_wrap _,BitVec.getLsbD_and]
theorem bit_andNot (a b:Int) {j:Nat} (hj:j<8) (ha:0<=a/\a<256) (hb:0<=b/\b<256):bitB (Go.bits .andNot .u8 a b) j=(bitB a j && !bitB b j):=by
 rw [bit_bv (bits8_byt .andNot a b) hj,bit_bv ha hj,bit_bv hb hj]
 rw [show bv (Go.bits .andNot .u8 a b)=bv a &&& ~~~(bv b) from bv_wrap _,BitVec.getLsbD_and,BitVec.getLsbD_not]
 simp [hj]
theorem bit_xor {a b:Int} {j:Nat} (hj:j<8) (ha:0<=a/\a<256) (hb:0<=b/\b<256):bitB (xor8 a b) j=(bitB a j ^^ bitB b j):=by
 unfold xor8
 rw [bit_bv (bits8_byt .xor a b) hj,bit_bv ha hj,bit_bv hb hj]
 rw [show bv (Go.bits .xor .u8 a b)=bv a ^^^ bv b from bv_wrap _,BitVec.getLsbD_xor]
theorem bit_pow0:∀ i j:Fin 8,bitB ((2:Int) ^ i.val) j.val=decide (i.val=j.val):=by decide +kernel
theorem pow_byt0:∀ i:Fin 8,0<=(2:Int) ^ i.val/\(2:Int) ^ i.val<256:=by decide +kernel
theorem bit_255:∀ j:Fin 8,bitB 255 j.val=true:=by decide +kernel
theorem bit_inv {x:Int} (hx:0<=x/\x<256) {j:Nat} (hj:j<8):bitB (xor8 255 x) j = !bitB x j:=by
 rw [bit_xor hj (by omega) hx,bit_255 ⟨j,hj⟩,Bool.true_xor]
theorem f1_0:∀ x:Fin 256,∀ j:Fin 8,(Go.bits .and .u8 (Int.fdiv ((x.val:Nat):Int) (2 ^ (Nat.min j.val 8))) 1 == 1)=bitB ((x.val:Nat):Int) j.val:=by decide +kernel
theorem f1 {x:Int} (hx:0<=x/\x<256) {j:Nat} (hj:j<8):(Go.bits .and .u8 (Int.fdiv x (2 ^ (Nat.min j 8))) 1 == 1)=bitB x j:=by
 obtain ⟨y,rfl⟩:=byte_nat hx
 exact f1_0 y ⟨j,hj⟩
theorem f2_0:∀ j:Fin 8,IntKind.u8.wrap ((1:Int)*(2 ^ (Nat.min j.val 8)))=2 ^ j.val:=by decide +kernel
theorem f3_0:∀ x:Fin 256,∀ j:Fin 8,bitB ((x.val:Nat):Int) j.val=true->IntKind.u8.wrap (((x.val:Nat):Int)-IntKind.u8.wrap (2 ^ j.val))=xor8 ((x.val:Nat):Int) (2 ^ j.val):=by decide +kernel
theorem f3 {x:Int} (hx:0<=x/\x<256) {j:Nat} (hj:j<8) (h:bitB x j=true):IntKind.u8.wrap (x-IntKind.u8.wrap (2 ^ j))=xor8 x (2 ^ j):=by
 obtain ⟨y,rfl⟩:=byte_nat hx
 exact f3_0 y ⟨j,hj⟩ h
def hasL (xs:List Int) (i:Nat):Bool:=bitB (xs.getD (i / 8) 0) (i % 8)
def mBit (ms:List Int) (i:Nat):Bool:=if ms.length=0 then true else bitB (ms.getD (i / 8 % ms.length) 0) (i % 8)
def flip1 (xs:List Int) (i:Nat):List Int:=xs.set (i / 8) (xor8 (xs.getD (i / 8) 0) (2 ^ (i % 8)))
def turn (xs:List Int) (f:Nat->Bool):Nat->List Int
 | 0=>xs
 | k+1=>if f k then flip1 (turn xs f k) k else turn xs f k
theorem flip1_length (xs:List Int) (i:Nat):(flip1 xs i).length=xs.length:=by simp [flip1]
theorem turn_length (xs:List Int) (f:Nat->Bool):∀ k,(turn xs f k).length=xs.length
 | 0=>rfl
 | k+1=>by
  unfold turn
  split
  ·rw [flip1_length,turn_length xs f k]
  ·exact turn_length xs f k
theorem flip1_byt {xs:List Int} (h:Byt xs) (i:Nat):Byt (flip1 xs i):=by
 intro y hy
 rcases List.mem_or_eq_of_mem_set hy with h1 | h1
 ·exact h y h1
 ·rw [h1];exact bits8_byt .xor _ _
theorem turn_byt {xs:List Int} (h:Byt xs) (f:Nat->Bool):∀ k,Byt (turn xs f k)
 | 0=>h
 | k+1=>by
  unfold turn
  split
  ·exact flip1_byt (turn_byt h f k) k
  ·exact turn_byt h f k
theorem turn_congr {xs:List Int} {f f':Nat->Bool}:∀ {k:Nat},(∀ i,i<k->f i=f' i)->turn xs f k=turn xs f' k
 | 0,_=>rfl
 | k+1,h=>by
  unfold turn
  rw [turn_congr (λi hi=>h i (by omega)),h k (by omega)]
theorem hasL_flip {xs:List Int} (h:Byt xs) {i k:Nat} (hi:i<8*xs.length) (hk:k<8*xs.length):hasL (flip1 xs k) i=if i=k then !hasL xs i else hasL xs i:=by
 unfold hasL flip1
 have hj:i % 8<8:=Nat.mod_lt _ (by omega)
 have hj':k % 8<8:=Nat.mod_lt _ (by omega)
 by_cases e:i / 8=k / 8
 ·have hset:(xs.set (k / 8) (xor8 (xs.getD (k / 8) 0) (2 ^ (k % 8)))).getD (i / 8) 0=xor8 (xs.getD (k / 8) 0) (2 ^ (k % 8)):=by
   rw [getD_get (by simp;omega)]
   simp [e]
  rw [hset,bit_xor hj (h.getD _) (pow_byt0 ⟨_,hj'⟩),bit_pow0 ⟨_,hj'⟩ ⟨_,hj⟩,e]
  by_cases e2:i=k
  ·subst e2;rw [if_pos rfl,decide_eq_true rfl,Bool.xor_true]
  ·rw [if_neg e2,decide_eq_false (by dsimp only;omega),Bool.xor_false]
 ·have hset:(xs.set (k / 8) (xor8 (xs.getD (k / 8) 0) (2 ^ (k % 8)))).getD (i / 8) 0=xs.getD (i / 8) 0:=by
   rw [List.getD_eq_getElem?_getD,List.getElem?_set_ne (λh=>e h.symm),<- List.getD_eq_getElem?_getD]
  rw [hset,if_neg (λe2=>e (by rw [e2]))]
theorem hasL_turn {xs:List Int} (h:Byt xs) (f:Nat->Bool) {i:Nat} (hi:i<8*xs.length):∀ k,k<=8*xs.length->hasL (turn xs f k) i=if i<k/\f i=true then !hasL xs i else hasL xs i
 | 0,_=>by rw [if_neg (by omega)];rfl
 | k+1,hk=>by
  have ih:=hasL_turn h f hi k (by omega)
  unfold turn
  by_cases hf:f k=true
  ·rw [if_pos hf,hasL_flip (turn_byt h f k) (by rw [turn_length];exact hi) (by rw [turn_length];omega),ih]
   by_cases e:i=k
   ·subst e
    rw [if_pos rfl,if_neg (by omega),if_pos ⟨by omega,hf⟩]
   ·rw [if_neg e]
    by_cases e2:i<k/\f i=true
    ·rw [if_pos e2,if_pos ⟨by omega,e2.2⟩]
    ·rw [if_neg e2,if_neg (λh=>e2 ⟨by omega,h.2⟩)]
  ·rw [if_neg hf,ih]
   by_cases e2:i<k/\f i=true
   ·rw [if_pos e2,if_pos ⟨by omega,e2.2⟩]
   ·rw [if_neg e2,if_neg (λh=>e2 ⟨by by_cases e:i=k;exact absurd (e ▸ h.2) hf;omega,h.2⟩)]
theorem bits_ext {xs ys:List Int} (hx:Byt xs) (hy:Byt ys) (hl:xs.length=ys.length) (h:∀ i,i<8*xs.length->hasL xs i=hasL ys i):xs=ys:=by
 refine List.ext_getElem hl λm h1 h2=>?_
 rw [<-getD_get h1,<- getD_get h2]
 refine byte_ext (hx.getD m) (hy.getD m) λj hj=>?_
 have:=h (8*m+j) (by omega)
 unfold hasL at this
 rwa [show (8*m+j) / 8=m by omega,show (8*m+j) % 8=j by omega] at this
def andL (xs ys:List Int):List Int:=(List.range xs.length).map λi=>Go.bits .and .u8 (xs.getD i 0) (ys.getD i 0)
theorem andL_length (xs ys:List Int):(andL xs ys).length=xs.length:=by simp [andL]
theorem andL_byt (xs ys:List Int):Byt (andL xs ys):=by
 intro y hy
 obtain ⟨i,_,rfl⟩:=List.mem_map.1 hy
 exact bits8_byt .and _ _
theorem hasL_and {xs ys:List Int} (hx:Byt xs) (hy:Byt ys) {i:Nat} (hi:i<8*xs.length):hasL (andL xs ys) i=(hasL xs i && hasL ys i):=by
 unfold hasL
 have hj:i % 8<8:=Nat.mod_lt _ (by omega)
 have hb:(andL xs ys).getD (i / 8) 0=Go.bits .and .u8 (xs.getD (i / 8) 0) (ys.getD (i / 8) 0):=by
  rw [getD_get (by rw [andL_length];omega)]
  simp [andL]
 rw [hb,bit_and _ _ hj (hx.getD _) (hy.getD _)]
def clrL (xs ys:List Int):List Int:=(List.range xs.length).map λi=>Go.bits .andNot .u8 (xs.getD i 0) (ys.getD i 0)
theorem clrL_length (xs ys:List Int):(clrL xs ys).length=xs.length:=by simp [clrL]
theorem clrL_byt (xs ys:List Int):Byt (clrL xs ys):=by
 intro y hy
 obtain ⟨i,_,rfl⟩:=List.mem_map.1 hy
 exact bits8_byt .andNot _ _
theorem hasL_clr {xs ys:List Int} (hx:Byt xs) (hy:Byt ys) {i:Nat} (hi:i<8*xs.length):hasL (clrL xs ys) i=(hasL xs i && !hasL ys i):=by
 unfold hasL
 have hj:i % 8<8:=Nat.mod_lt _ (by omega)
 have hb:(clrL xs ys).getD (i / 8) 0=Go.bits .andNot .u8 (xs.getD (i / 8) 0) (ys.getD (i / 8) 0):=by
  rw [getD_get (by rw [clrL_length];omega)]
  simp [clrL]
 rw [hb,bit_andNot _ _ hj (hx.getD _) (hy.getD _)]
theorem hasL_inv {xs:List Int} (hx:Byt xs) {i:Nat} (hi:i<8*xs.length):hasL (invL xs) i = !hasL xs i:=by
 unfold hasL
 have hj:i % 8<8:=Nat.mod_lt _ (by omega)
 have hb:(invL xs).getD (i / 8) 0=xor8 255 (xs.getD (i / 8) 0):=by
  rw [getD_get (by simp [invL];omega),getD_get (by omega)]
  simp [invL]
 rw [hb,bit_inv (hx.getD _) hj]
def lastOf (c:Nat->Bool):Nat->Int
 | 0=>-1
 | k+1=>if c k then (k:Int) else lastOf c k
theorem lastOf_congr {c d:Nat->Bool}:∀ {k:Nat},(∀ i,i<k->c i=d i)->lastOf c k=lastOf d k
 | 0,_=>rfl
 | k+1,h=>by unfold lastOf;rw [h k (by omega),lastOf_congr λi hi=>h i (by omega)]
end Go.Proofs.YtbaojfchlhlaeaaGreat.Vc
