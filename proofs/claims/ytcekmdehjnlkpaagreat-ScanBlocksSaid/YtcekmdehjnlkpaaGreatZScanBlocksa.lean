/- Texts in one: A plan of what Go's operations ask, as plain statements; partial frames, shapes of values, and the plan of one operation. What an operation that only reads yields, as a plain statement; and that the machine does so. The reading operations of the model, all of them: what they yield, and that the machine does so. Slicing, building, converting; the plan of any reading operation. The plan of any reading operation, in one word. The operations that make or write memory, and calls: their plan, and that the machine does so. The plan of a whole function's code, and that the machine follows it. The plan of code is followed by the machine; a function's contract out of its plan. Small laws on memory for proofs over plans: what stays, slices that are read, slices that a call owns. Laws of append, store and make on slices that a call owns. More laws of slices that a call owns: where their blocks lie. Memory as parts that lie apart: assertions with their blocks, the frame rule, and the steps of a plan on such a memory. The steps of a plan on a memory of parts, by the part's place (printed by wip/tools/sepgen.py). Calls and single elements in the separate parts. The functions that may be called, and the order in which regions run. -/
import Derived.WalkKit
import Derived.OrdersHeld
import Derived.Deep.AppendSrc
import Derived.Deep.Upon
import Derived.Laws.BytesString
import Derived.Deep.LoopGhost
import Derived.Scope
import Derived.Test.YtcekmdehjnlkpaaGreatProg
import Derived.KernelRfl
import Derived.SizedLaws
import Derived.ChangeSlices
import Derived.ChangeShapes
import Derived.ShutString
import Derived.ChangeArms
import Derived.DataReads
import Derived.OpenShut
import Derived.Test.YtcekmdehjnlkpaaGreatChecked
import Derived.Tactics
import Derived.Tactics2
import Derived.Laws.Small
import Derived.Laws.StructEq
import Derived.Laws.Tables
import Derived.WideKeyRuns
import Derived.Shelf.SlSortCmp.NoneTotal
import Derived.Shelf.SlSortCmp.SmallK
set_option linter.unusedVariables false
set_option linter.unusedSimpArgs false
namespace Go.Eng
open Go
def PF:=Nat->Option Value
def PF.empty:PF:=λ_=>none
def PF.put (f:PF) (d:Nat) (v:Value):PF:=λi=>cond (Nat.beq i d) (some v) (f i)
def PF.forget (f:PF) (ws:List Nat):PF:=λi=>cond (ws.elem i) none (f i)
def PF.ofList:Nat->List Value->PF
 | _,[]=>PF.empty
 | k,v::l=>(PF.ofList (k+1) l).put k v
structure Fits (n:Nat) (f:PF) (a:Act):Prop where
 size:a.tmps.size=n
 defers:a.defers=[]
 get:∀ i v,f i=some v->a.tmps[i]? = some v
def ev (f:PF):Operand->Option Value
 | .tmp t=>f t
 | .const v=>some v
 | .global g=>some (.pointer (some ⟨g,0,none⟩))
 | .func g=>some (.func (.func g) #[] #[])
theorem Fits.ev {n:Nat} {f:PF} {a:Act} (h:Fits n f a) {x:Operand} {v:Value} (he:ev f x=some v):a.eval x=v:=by
 cases x with
 | tmp t=>simp only [Eng.ev] at he;have:=h.get t v he;simp [Act.eval,this]
 | const u=>simp only [Eng.ev,Option.some.injEq] at he;subst he;rfl
 | global g=>simp only [Eng.ev,Option.some.injEq] at he;subst he;rfl
 | func g=>simp only [Eng.ev,Option.some.injEq] at he;subst he;rfl
theorem Fits.put {n:Nat} {f:PF} {a:Act} (h:Fits n f a) {d:Nat} (hd:d<n) (v:Value):Fits n (f.put d v) (a.put (some d) v):=by
 refine ⟨by simp [Act.put,h.size],by simp [Act.put,h.defers],λi u hu=>?_⟩
 simp only [Act.put]
 unfold PF.put at hu
 by_cases e:i=d
 ·subst e
  have hb:Nat.beq i i=true:=Nat.beq_refl i
  rw [hb] at hu
  simp only [cond_true,Option.some.injEq] at hu
  subst hu
  rw [Array.getElem?_setIfInBounds]
  simp [h.size,hd]
 ·have hb:Nat.beq i d=false:=by
   cases hb:Nat.beq i d
   ·rfl
   ·exact absurd (Nat.eq_of_beq_eq_true hb) e
  rw [hb] at hu
  simp only [cond_false] at hu
  rw [Array.getElem?_setIfInBounds,if_neg (λx=>e x.symm)]
  exact h.get i u hu
theorem Fits.forget {n:Nat} {f:PF} {a:Act} (h:Fits n f a) (ws:List Nat):Fits n (f.forget ws) a:=by
 refine ⟨h.size,h.defers,λi u hu=>?_⟩
 unfold PF.forget at hu
 cases hb:ws.elem i
 ·rw [hb] at hu;exact h.get i u hu
 ·rw [hb] at hu;cases hu
def setK (n:Nat) (f:PF) (dst:Option Nat) (v:Value) (K:PF->Prop):Prop:=
 match dst with
 | none=>K f
 | some d=>cond (Nat.blt d n) (K (f.put d v)) False
theorem setK.out {n:Nat} {f:PF} {a:Act} (h:Fits n f a) {dst:Option Nat} {v:Value} {K:PF->Prop} (hk:setK n f dst v K) :
  ∃ f',Fits n f' (a.put dst v)/\K f':=by
 cases dst with
 | none=>exact ⟨f,h,hk⟩
 | some d=>
  unfold setK at hk
  cases hb:Nat.blt d n
  ·simp only [hb,cond_false] at hk
  ·simp only [hb,cond_true] at hk
   exact ⟨f.put d v,h.put (by simpa [Nat.blt_eq] using hb) v,hk⟩
structure SlV where
 a:Option Addr
 n:Nat
 c:Nat
inductive SS where
 | int (k:IntKind) | bool | str | sl | ptr | map | fn | any
def SS.T:SS->Type
 | .int _=>Int
 | .bool=>Bool
 | .str=>ByteArray
 | .sl=>SlV
 | .ptr=>Option Addr
 | .map=>Option Nat
 | .fn=>FuncId×Array Value×Array Value
 | .any=>Value
def SS.v:(h:SS)->h.T->Value
 | .int k,x=>.int k x
 | .bool,x=>.bool x
 | .str,x=>.string x
 | .sl,x=>.slice (SlV.a x) (SlV.n x) (SlV.c x)
 | .ptr,x=>.pointer x
 | .map,x=>.map x
 | .fn,x=>.func (.func (Prod.fst x)) (Prod.fst (Prod.snd x)) (Prod.snd (Prod.snd x))
 | .any,x=>x
def SS.rd:(h:SS)->Value->Option h.T
 | .int k,.int k' x=>if k=k' then some x else none
 | .bool,.bool x=>some x
 | .str,.string x=>some x
 | .sl,.slice a n c=>some (⟨a,n,c⟩:SlV)
 | .ptr,.pointer x=>some x
 | .map,.map x=>some x
 | .fn,.func (.func g) fs cs=>some (g,fs,cs)
 | .any,x=>some x
 | _,_=>none
def Tup:List SS->Type
 | []=>Unit
 | h::t=>h.T×Tup t
def tupV:(l:List SS)->Tup l->List Value
 | [],_=>[]
 | h::t,x=>h.v x.1::tupV t x.2
def tupR:(l:List SS)->List Value->Option (Tup l)
 | [],[]=>some ()
 | h::t,v::vs=>
  match h.rd v,tupR t vs with
  | some x,some y=>some (x,y)
  | _,_=>none
 | _,_=>none
theorem SS.rd_v:∀ {h:SS} {v:Value} {x:h.T},h.rd v=some x->v=h.v x:=by
 intro h v x e
 cases h <;> cases v <;> first
  | (cases e;done)
  | (cases e;rfl)
  | (rename_i c fs cs;cases c <;> first | (cases e;done) | (cases e;rfl))
  | (simp only [SS.rd] at e;split at e;(rename_i hk;subst hk;cases e;rfl);(cases e))
theorem tupR_v:∀ {l:List SS} {vs:List Value} {x:Tup l},tupR l vs=some x->vs=tupV l x
 | [],[],_,_=>rfl
 | [],_::_,_,e=>by simp [tupR] at e
 | _::_,[],_,e=>by simp [tupR] at e
 | h::t,v::vs,x,e=>by
  simp only [tupR] at e
  cases h1:h.rd v with
  | none=>simp [h1] at e
  | some a=>
   cases h2:tupR t vs with
   | none=>simp [h1,h2] at e
   | some b=>
    simp only [h1,h2] at e
    cases e
    simp only [tupV]
    rw [<-tupR_v h2,SS.rd_v h1]
inductive Sh where
 | one (q:SS) | agg (l:List SS)
def Sh.T:Sh->Type
 | .one q=>q.T
 | .agg l=>Tup l
def Sh.v:(h:Sh)->h.T->Value
 | .one q,x=>q.v x
 | .agg l,x=>.agg (tupV l x).toArray
def Sh.rd:(h:Sh)->Value->Option h.T
 | .one q,v=>q.rd v
 | .agg l,.agg cs=>tupR l cs.toList
 | _,_=>none
theorem Sh.rd_v:∀ {h:Sh} {v:Value} {x:h.T},h.rd v=some x->v=h.v x
 | .one q,_,_,e=>SS.rd_v (h:=q) e
 | .agg l,.agg cs,x,e=>by
  have h:=tupR_v (l:=l) (vs:=cs.toList) (x:=x) e
  show Value.agg cs=.agg (tupV l x).toArray
  rw [<-h]
def RT:List Sh->Type
 | []=>Unit
 | h::t=>h.T×RT t
def valsR:(l:List Sh)->RT l->List Value
 | [],_=>[]
 | h::t,x=>h.v x.1::valsR t x.2
def packV:(l:List Sh)->RT l->Value
 | [h],x=>h.v x.1
 | l,x=>.tuple (valsR l x).toArray
def ssOf (d:Option TypeDesc):SS:=
 match d with
 | some (.int k)=>.int k
 | some .bool=>.bool
 | some .string=>.str
 | some (.slice _)=>.sl
 | some (.pointer _)=>.ptr
 | some (.map _ _)=>.map
 | some (.func _ _ _)=>.fn
 | _=>.any
def flat (P:Program):Nat->TypeId->List SS
 | 0,_=>[]
 | d+1,t=>
  match P.underlying t with
  | some (.struct fs)=>fs.toList.flatMap λf=>flat P d f.type
  | some (.array n e)=>(List.replicate n (flat P d e)).flatten
  | u=>[ssOf u]
def shT (P:Program) (t:TypeId):Sh:=
 match P.underlying t with
 | some (.struct fs)=>.agg (fs.toList.flatMap λf=>flat P 8 f.type)
 | some (.array n e)=>.agg (List.replicate n (flat P 8 e)).flatten
 | u=>.one (ssOf u)
def resSh (P:Program) (t:TypeId):List Sh:=
 match P.underlying t with
 | some (.tuple ts)=>ts.toList.map (shT P)
 | _=>[shT P t]
def CellsAt (w:World) (p:Addr) (vs:List Value):Prop:=∀ j v,vs[j]? = some v->w.cell? (p.add j)=some v
def Free (w:World) (p:Addr) (n:Nat):Prop:=∀ j,j<n->(w.cell? (p.add j)).isSome=true/\w.frozen? (p.add j)=false
def LoadS (w:World) (p:Addr) (h:SS) (K:h.T->Prop):Prop:=∃ x:h.T,w.cell? p=some (h.v x)/\K x
def LoadA (w:World) (p:Addr) (l:List SS) (K:Tup l->Prop):Prop:=∃ x:Tup l,CellsAt w p (tupV l x)/\K x
def NewV (c:Array Value) (e:TypeId) (w:World) (K:Nat->World->Prop):Prop:=∀ b w',b=w.heap.size->w'=w.alloc (.cells c e)->K b w'
def StoreV (w:World) (p:Addr) (vs:List Value) (K:World->Prop):Prop:=
 p.spot=none/\Free w p vs.length/\∀ w',w'=w.setCells p.block p.off vs->K w'
def CallV (P:Program) (f:FuncId) (args:Array Value) (w:World) (l:List Sh) (K:RT l->World->Prop):Prop:=
 Calls P f args w λe w'=>∃ x:RT l,e=.returned (packV l x)/\K x w'
def Rng (k:IntKind) (z:Int):Prop:=k.min<=z/\z<=k.max
theorem CallV.mono {P:Program} {f:FuncId} {args:Array Value} {w:World} {l:List Sh} {K K':RT l->World->Prop}
  (h:CallV P f args w l K) (hk:∀ x w',K x w'->K' x w'):CallV P f args w l K':=
 Calls.mono h λ_ _ ⟨x,he,hx⟩=>⟨x,he,hk _ _ hx⟩
def PtrK (a:Option Addr) (K:Addr->Prop):Prop:=match a with | some p=>K p | none=>False
theorem PtrK.of {a:Option Addr} {p:Addr} {K:Addr->Prop} (h:a=some p) (hk:K p):PtrK a K:=by subst h;exact hk
theorem PtrK.out {a:Option Addr} {K:Addr->Prop} (h:PtrK a K):∃ p,a=some p/\K p:=by
 cases a with
 | none=>exact h.elim
 | some p=>exact ⟨p,rfl,h⟩
def evL (f:PF):List Operand->Option (List Value)
 | []=>some []
 | x::xs=>
  match ev f x,evL f xs with
  | some v,some vs=>some (v::vs)
  | _,_=>none
theorem Fits.evL {n:Nat} {f:PF} {a:Act} (h:Fits n f a):∀ {xs:List Operand} {vs:List Value},Eng.evL f xs=some vs->xs.map a.eval=vs
 | [],_,e=>by simp [Eng.evL] at e;simp [<-e]
 | x::xs,vs,e=>by
  simp only [Eng.evL] at e
  cases h1:Eng.ev f x with
  | none=>simp [h1] at e
  | some v=>
   cases h2:Eng.evL f xs with
   | none=>simp [h1,h2] at e
   | some us=>
    simp only [h1,h2,Option.some.injEq] at e
    subst e
    simp [h.ev h1,h.evL h2]
def evP (f:PF):List (Nat×Operand)->Option (List (Nat×Value))
 | []=>some []
 | (i,x)::xs=>
  match ev f x,evP f xs with
  | some v,some vs=>some ((i,v)::vs)
  | _,_=>none
theorem Fits.evP {n:Nat} {f:PF} {a:Act} (h:Fits n f a):∀ {xs:List (Nat×Operand)} {vs:List (Nat×Value)},Eng.evP f xs=some vs->xs.map (λp=>(p.1,a.eval p.2))=vs
 | [],_,e=>by simp [Eng.evP] at e;simp [<-e]
 | (i,x)::xs,vs,e=>by
  simp only [Eng.evP] at e
  cases h1:Eng.ev f x with
  | none=>simp [h1] at e
  | some v=>
   cases h2:Eng.evP f xs with
   | none=>simp [h1,h2] at e
   | some us=>
    simp only [h1,h2,Option.some.injEq] at e
    subst e
    simp [h.ev h1,h.evP h2]
def arV (wr:Bool) (k:IntKind) (z:Int) (V:Value->Prop):Prop:=cond (wr || !k.signed) (V (.int k (k.wrap z))) (Rng k z/\V (.int k z))
theorem wrap_rng {k:IntKind} {z:Int} (h:Rng k z):k.wrap z=z:=by
 obtain ⟨h1,h2⟩:=h
 cases k <;> simp [IntKind.min,IntKind.max,IntKind.signed,IntKind.bits] at h1 h2 <;> simp [IntKind.wrap,IntKind.signed,IntKind.bits] <;> (try split) <;> omega
theorem arV.out {wr:Bool} {k:IntKind} {z:Int} {V:Value->Prop} (h:arV wr k z V):V (.int k (k.wrap z)):=by
 unfold arV at h
 cases hc:(wr || !k.signed)
 ·rw [hc] at h;simp only [cond_false] at h;rw [wrap_rng h.1];exact h.2
 ·rw [hc] at h;simpa only [cond_true] using h
def rInt (wr:Bool) (op:BinOp) (k k':IntKind) (x y:Int) (V:Value->Prop):Prop:=
 match op with
 | .shl=>0<=y/\V (.int k (k.wrap (x*2 ^ (Nat.min y.toNat k.bits))))
 | .shr=>0<=y/\V (.int k (x.fdiv (2 ^ (Nat.min y.toNat k.bits))))
 | .add=>cond (decide (k=k')) (arV wr k (x+y) V) False
 | .sub=>cond (decide (k=k')) (arV wr k (x-y) V) False
 | .mul=>cond (decide (k=k')) (arV wr k (x*y) V) False
 | .quo=>cond (decide (k=k')) (y≠0/\Rng k (x.tdiv y)/\V (.int k (x.tdiv y))) False
 | .rem=>cond (decide (k=k')) (y≠0/\V (.int k (x.tmod y))) False
 | .and=>cond (decide (k=k')) (V (.int k (Go.bits .and k x y))) False
 | .or=>cond (decide (k=k')) (V (.int k (Go.bits .or k x y))) False
 | .xor=>cond (decide (k=k')) (V (.int k (Go.bits .xor k x y))) False
 | .andNot=>cond (decide (k=k')) (V (.int k (Go.bits .andNot k x y))) False
 | .eql=>cond (decide (k=k')) (V (.bool (x == y))) False
 | .neq=>cond (decide (k=k')) (V (.bool (x != y))) False
 | .lss=>cond (decide (k=k')) (V (.bool (decide (x<y)))) False
 | .leq=>cond (decide (k=k')) (V (.bool (decide (x<=y)))) False
 | .gtr=>cond (decide (k=k')) (V (.bool (decide (x>y)))) False
 | .geq=>cond (decide (k=k')) (V (.bool (decide (x≥y)))) False
def rStr (op:BinOp) (x y:ByteArray) (V:Value->Prop):Prop:=
 match op with
 | .add=>((x.size+y.size:Nat):Int)<=9223372036854775807/\V (.string (x++y))
 | .eql=>V (.bool (x.toList == y.toList))
 | .neq=>V (.bool (!(x.toList == y.toList)))
 | _=>False
def eqP (op:BinOp) (r:Bool) (V:Value->Prop):Prop:=
 match op with
 | .eql=>V (.bool r)
 | .neq=>V (.bool (!r))
 | _=>False
def AggEq (P:Program) (t:TypeId) (xs ys:Array Value) (K:Bool->Prop):Prop:=
 ∃ r:Bool,(∀ w,(Op.equalIn 10000 t (.agg xs) (.agg ys)).run P w=.ok r w)/\P.eqGuardType P.depth t=false/\K r
def rBin (P:Program) (wr:Bool) (op:BinOp) (t:TypeId) (a b:Value) (V:Value->Prop):Prop:=
 match a,b with
 | .int k x,.int k' y=>rInt wr op k k' x y V
 | .string x,.string y=>rStr op x y V
 | .bool x,.bool y=>(match P.underlying t with | some .bool=>eqP op (x == y) V | _=>False)
 | .pointer x,.pointer none=>(match P.underlying t with | some (.pointer _)=>eqP op x.isNone V | _=>False)
 | .pointer none,.pointer y=>(match P.underlying t with | some (.pointer _)=>eqP op y.isNone V | _=>False)
 | .slice x _ _,.slice none _ _=>(match P.underlying t with | some (.slice _)=>eqP op x.isNone V | _=>False)
 | .map x,.map none=>(match P.underlying t with | some (.map _ _)=>eqP op x.isNone V | _=>False)
 | .agg xs,.agg ys=>AggEq P t xs ys λr=>eqP op r V
 | _,_=>False
theorem run_binOp_int {P:Program} {wr:Bool} {op:BinOp} {t:TypeId} {k k':IntKind} {x y:Int} {V:Value->Prop} (h:rInt wr op k k' x y V) :
  ∃ v,V v/\∀ w,(binOp op t (.int k x) (.int k' y)).run P w=.ok v w:=by
 cases op
 case shl=>exact ⟨_,h.2,λw=>by simp [binOp,Op.shift,Int.not_lt.2 h.1]⟩
 case shr=>exact ⟨_,h.2,λw=>by simp [binOp,Op.shift,Int.not_lt.2 h.1]⟩
 all_goals
  simp only [rInt] at h
  cases hk:decide (k=k')
  ·rw [hk] at h;exact h.elim
  rw [hk] at h
  simp only [cond_true] at h
  have hk:=of_decide_eq_true hk
  subst hk
 case add=>exact ⟨_,h.out,λw=>by simp [binOp,Op.intArith]⟩
 case sub=>exact ⟨_,h.out,λw=>by simp [binOp,Op.intArith]⟩
 case mul=>exact ⟨_,h.out,λw=>by simp [binOp,Op.intArith]⟩
 case quo=>exact ⟨_,h.2.2,λw=>by simp [binOp,Op.intDiv,h.1,wrap_rng h.2.1]⟩
 case rem=>exact ⟨_,h.2,λw=>by simp [binOp,Op.intDiv,h.1]⟩
 case and=>exact ⟨_,h,λw=>by simp [binOp,intBits_and]⟩
 case or=>exact ⟨_,h,λw=>by simp [binOp,intBits_or]⟩
 case xor=>exact ⟨_,h,λw=>by simp [binOp,intBits_xor]⟩
 case andNot=>exact ⟨_,h,λw=>by simp [binOp,intBits_andNot]⟩
 all_goals exact ⟨_,h,λw=>by simp [binOp,Op.intCmp]⟩
section
variable {P:Program} {t:TypeId} (w:World) (d:Nat)
theorem eqIn_bool (hu:P.underlying t=some .bool) (a b:Bool):(Op.equalIn (d+1) t (.bool a) (.bool b)).run P w=.ok (a == b) w:=by
 simp [Op.equalIn,run_underlying hu]
theorem eqIn_ptr {e:TypeId} (hu:P.underlying t=some (.pointer e)) (a:Option Addr):(Op.equalIn (d+1) t (.pointer a) (.pointer none)).run P w=.ok a.isNone w:=by
 cases a <;> simp [Op.equalIn,run_underlying hu]
theorem eqIn_ptr' {e:TypeId} (hu:P.underlying t=some (.pointer e)) (a:Option Addr):(Op.equalIn (d+1) t (.pointer none) (.pointer a)).run P w=.ok a.isNone w:=by
 simp [Op.equalIn,run_underlying hu]
theorem eqIn_sl {e:TypeId} (hu:P.underlying t=some (.slice e)) (a:Option Addr) (n c n' c':Nat):(Op.equalIn (d+1) t (.slice a n c) (.slice none n' c')).run P w=.ok a.isNone w:=by
 cases a <;> simp [Op.equalIn,run_underlying hu]
theorem eqIn_map {k e:TypeId} (hu:P.underlying t=some (.map k e)) (a:Option Nat):(Op.equalIn (d+1) t (.map a) (.map none)).run P w=.ok a.isNone w:=by
 cases a <;> simp [Op.equalIn,run_underlying hu]
theorem binOp_eq_of {op:BinOp} {x y:Value} {r:Bool} {V:Value->Prop} (h:eqP op r V) (hx:∀ k n,x≠.int k n) (hx2:∀ s,x≠.string s) (hx3:∀ k n,x≠.float k n) (hx4:∀ k n m,x≠.complex k n m)
  (he:∀ w,(Op.equalIn 10000 t x y).run P w=.ok r w):∃ v,V v/\∀ w,(binOp op t x y).run P w=.ok v w:=by
 cases op <;> simp only [eqP] at h
 case eql=>
  refine ⟨_,h,λw=>?_⟩
  have hb:binOp .eql t x y=(do pure (.bool (<-Op.equal t x y))):=by
   cases x <;> first | rfl | exact absurd rfl (hx _ _) | exact absurd rfl (hx2 _) | exact absurd rfl (hx3 _ _) | exact absurd rfl (hx4 _ _ _)
  rw [hb,Sem.run_bind]
  show ((Op.equalIn 10000 t x y).run P w).andThen _=_
  rw [he];rfl
 case neq=>
  refine ⟨_,h,λw=>?_⟩
  have hb:binOp .neq t x y=(do pure (.bool (!(<-Op.equal t x y)))):=by
   cases x <;> first | rfl | exact absurd rfl (hx _ _) | exact absurd rfl (hx2 _) | exact absurd rfl (hx3 _ _) | exact absurd rfl (hx4 _ _ _)
  rw [hb,Sem.run_bind]
  show ((Op.equalIn 10000 t x y).run P w).andThen _=_
  rw [he];rfl
end
theorem run_rBin {P:Program} {wr:Bool} {op:BinOp} {t:TypeId} {x y:Operand} {a b:Value} {V:Value->Prop} (h:rBin P wr op t a b V) :
  ∃ v,V v/\∀ w,(do eqGuard op t x y a b;binOp op t a b).run P w=.ok v w:=by
 have hg:∀ (a b:Value),(∀ xs ys,a=.agg xs->b≠.agg ys)->(a=.nilIface->b≠.nilIface)->∀ w,(eqGuard op t x y a b).run P w=.ok () w:=by
  clear h
  intro a b h1 h2 w
  cases op <;> try rfl
  all_goals
   cases a <;> cases b <;> first | rfl | exact absurd rfl (h2 rfl) | exact absurd rfl (h1 _ _ rfl)
 have fin:∀ {a b:Value},(∀ w,(eqGuard op t x y a b).run P w=.ok () w)->(∃ v,V v/\∀ w,(binOp op t a b).run P w=.ok v w) ->
   ∃ v,V v/\∀ w,(do eqGuard op t x y a b;binOp op t a b).run P w=.ok v w:=by
  rintro a b h1 ⟨v,hv,h2⟩
  exact ⟨v,hv,λw=>by rw [Sem.run_bind,h1];exact h2 w⟩
 unfold rBin at h
 split at h
 ·exact fin (hg _ _ (by simp) (by simp)) (run_binOp_int h)
 ·rename_i x' y'
  refine fin (hg _ _ (by simp) (by simp)) ?_
  cases op <;> simp only [rStr] at h
  case add=>
   refine ⟨_,h.2,λw=>?_⟩
   have h1:¬ ((x'.size+y'.size:Nat):Int)>IntKind.i64.max:=by
    have:=h.1
    simp [IntKind.max,IntKind.signed,IntKind.bits] at *
    omega
   simp only [binOp,Op.stringOp,if_neg h1]
   rfl
  case eql=>exact ⟨_,h,λw=>by simp [binOp,Op.stringOp]⟩
  case neq=>exact ⟨_,h,λw=>by simp [binOp,Op.stringOp]⟩
 ·split at h
  ·rename_i hu
   exact fin (hg _ _ (by simp) (by simp)) (binOp_eq_of h (by simp) (by simp) (by simp) (by simp) λw=>eqIn_bool w 9999 hu _ _)
  ·exact h.elim
 ·split at h
  ·rename_i hu
   exact fin (hg _ _ (by simp) (by simp)) (binOp_eq_of h (by simp) (by simp) (by simp) (by simp) λw=>eqIn_ptr w 9999 hu _)
  ·exact h.elim
 ·split at h
  ·rename_i hu
   exact fin (hg _ _ (by simp) (by simp)) (binOp_eq_of h (by simp) (by simp) (by simp) (by simp) λw=>eqIn_ptr' w 9999 hu _)
  ·exact h.elim
 ·split at h
  ·rename_i hu
   exact fin (hg _ _ (by simp) (by simp)) (binOp_eq_of h (by simp) (by simp) (by simp) (by simp) λw=>eqIn_sl w 9999 hu _ _ _ _ _)
  ·exact h.elim
 ·split at h
  ·rename_i hu
   exact fin (hg _ _ (by simp) (by simp)) (binOp_eq_of h (by simp) (by simp) (by simp) (by simp) λw=>eqIn_map w 9999 hu _)
  ·exact h.elim
 ·obtain ⟨r,hr,hgd,h⟩:=h
  refine fin (λw=>run_eqGuard_agg w op t x y _ _ hgd) (binOp_eq_of h (by simp) (by simp) (by simp) (by simp) hr)
 ·exact h.elim
def rUn (wr:Bool) (op:UnOp) (a:Value) (V:Value->Prop):Prop:=
 match op,a with
 | .neg,.int k x=>arV wr k (0-x) V
 | .xor,.int k x=>V (.int k (Go.bits .xor k (if k.signed then -1 else k.max) x))
 | .not,.bool b=>V (.bool (!b))
 | _,_=>False
theorem run_rUn {P:Program} {wr:Bool} {op:UnOp} {a:Value} {V:Value->Prop} (h:rUn wr op a V) :
  ∃ v,V v/\∀ w,(Op.unary op a).run P w=.ok v w:=by
 unfold rUn at h
 split at h
 ·exact ⟨_,h.out,λw=>by simp [Op.unary,Op.intArith]⟩
 ·exact ⟨_,h,λw=>by simp [Op.unary,intBits_xor]⟩
 ·exact ⟨_,h,λw=>by simp [Op.unary]⟩
 ·exact h.elim
def szOf (P:Program) (t:TypeId):Option Nat:=(P.info? t).map (·.size)
theorem run_sizeOf' {P:Program} {t:TypeId} {n:Nat} (h:szOf P t=some n) (w:World):(sizeOf t).run P w=.ok n w:=by
 unfold szOf at h
 cases hi:P.info? t with
 | none=>simp [hi] at h
 | some i=>simp [hi] at h;subst h;simp [sizeOf,typeInfo,program,Sem.run,hi]
def isAggD:TypeDesc->Bool
 | .struct _ | .array _ _=>true
 | _=>false
theorem run_isAgg' {P:Program} {t:TypeId} {d:TypeDesc} (h:P.underlying t=some d) (w:World):(isAgg t).run P w=.ok (isAggD d) w:=by
 cases d <;> simp [isAgg,run_underlying h,isAggD]
def Grd:=Addr->Prop->Prop
def Grd.no:Grd:=λ_ X=>X
def Grd.on (D:Nat->Prop):Grd:=λp X=>D p.block/\X
def Grd.Ok (G:Grd) (w0 w:World):Prop:=∀ p X,G p X->X/\w.heap[p.block]? = w0.heap[p.block]?
theorem Grd.Ok.no (w:World):Grd.no.Ok w w:=λ_ _ h=>⟨h,rfl⟩
theorem cell_same {w w':World} {p:Addr} (h:w'.heap[p.block]? = w.heap[p.block]?):w'.cell? p=w.cell? p:=by
 unfold World.cell?;rw [h]
theorem add_block (p:Addr) (j:Nat):(p.add j).block=p.block:=by unfold Addr.add;split <;> rfl
theorem cells_same {w w':World} {p:Addr} {vs:List Value} (h:w'.heap[p.block]? = w.heap[p.block]?) (hc:CellsAt w p vs):CellsAt w' p vs:=
 λj v hv=>(cell_same (p:=p.add j) (by rw [add_block];exact h)).trans (hc j v hv)
def rLoad (P:Program) (t:TypeId) (G:Grd) (w:World) (p:Addr) (V:Value->Prop):Prop:=
 match P.underlying t,szOf P t with
 | some (.struct fs),some n=>(match flat P 8 t with | l=>cond (Nat.beq l.length n) (G p (LoadA w p l λx=>V (.agg (tupV l x).toArray))) False)
 | some (.array k e),some n=>(match flat P 8 t with | l=>cond (Nat.beq l.length n) (G p (LoadA w p l λx=>V (.agg (tupV l x).toArray))) False)
 | some d,some n=>G p (LoadS w p (ssOf (some d)) λx=>V ((ssOf (some d)).v x))
 | _,_=>False
theorem tupV_length:∀ (l:List SS) (x:Tup l),(tupV l x).length=l.length
 | [],_=>rfl
 | _::t,x=>by simp [tupV,tupV_length t x.2]
theorem run_loadVar_agg {P:Program} {t:TypeId} {d:TypeDesc} (hu:P.underlying t=some d) (hd:isAggD d=true) {n:Nat} (hs:szOf P t=some n) {w:World} {p:Addr} {vs:List Value} (hl:vs.length=n) (hc:CellsAt w p vs) :
  (loadVar t p).run P w=.ok (.agg vs.toArray) w:=by
 subst hl
 simp [loadVar,run_isAgg' hu,hd,run_sizeOf' hs,run_loadCells_list w p vs hc]
theorem run_loadVar_one {P:Program} {t:TypeId} {d:TypeDesc} (hu:P.underlying t=some d) (hd:isAggD d=false) {w:World} {p:Addr} {v:Value} (hc:w.cell? p=some v) :
  (loadVar t p).run P w=.ok v w:=by
 simp [loadVar,run_isAgg' hu,hd,load,Sem.run,hc]
theorem run_rLoad {P:Program} {t:TypeId} {G:Grd} {w0:World} {p:Addr} {V:Value->Prop} (h:rLoad P t G w0 p V) {S:World->Prop} (hS:∃ w,S w) (hG:∀ w,S w->G.Ok w0 w) :
  ∃ v,V v/\∀ w,S w->(loadVar t p).run P w=.ok v w:=by
 obtain ⟨ws,hws⟩:=hS
 unfold rLoad at h
 cases hu:P.underlying t with
 | none=>simp [hu] at h
 | some d=>
  cases hs:szOf P t with
  | none=>cases d <;> simp [hu,hs] at h
  | some n=>
   have agg:∀ (hd:isAggD d=true),(cond (Nat.beq (flat P 8 t).length n) (G p (LoadA w0 p (flat P 8 t) λx=>V (.agg (tupV (flat P 8 t) x).toArray))) False) ->
     ∃ v,V v/\∀ w,S w->(loadVar t p).run P w=.ok v w:=by
    intro hd h
    cases hb:Nat.beq (flat P 8 t).length n
    ·rw [hb] at h;exact h.elim
    ·rw [hb] at h
     obtain ⟨x,hc,hv⟩:=(hG ws hws p _ h).1
     exact ⟨_,hv,λw hk=>run_loadVar_agg hu hd hs (by rw [tupV_length];exact Nat.eq_of_beq_eq_true hb) (cells_same (hG w hk p _ h).2 hc)⟩
   have one:∀ (hd:isAggD d=false),(G p (LoadS w0 p (ssOf (some d)) λx=>V ((ssOf (some d)).v x))) ->
     ∃ v,V v/\∀ w,S w->(loadVar t p).run P w=.ok v w:=by
    intro hd h
    obtain ⟨x,hc,hv⟩:=(hG ws hws p _ h).1
    exact ⟨_,hv,λw hk=>run_loadVar_one hu hd (by rw [cell_same (hG w hk p _ h).2];exact hc)⟩
   cases d <;> simp only [hu,hs] at h <;> first | exact agg rfl h | exact one rfl h
def fieldK (P:Program) (s:TypeId) (j:Nat) (K:Nat->TypeId->Prop):Prop:=
 match P.underlying s with
 | some (.struct fs)=>
  match fs.toList[j]? with
  | some fd=>K fd.offset fd.type
  | none=>False
 | _=>False
theorem run_fieldAt' {P:Program} {s:TypeId} {j:Nat} {p:Addr} {V:Value->Prop}
  (h:fieldK P s j λoff ft=>match szOf P ft with | some (n+1)=>V (.pointer (some (p.add off))) | _=>False) :
  ∃ v,V v/\∀ w,(Instr.fieldAt s (.pointer (some p)) j).run P w=.ok v w:=by
 unfold fieldK at h
 split at h
 ·rename_i fs hu
  split at h
  ·rename_i fd hf
   split at h
   ·rename_i n hs
    refine ⟨_,h,λw=>?_⟩
    have hf':fs[j]? = some fd:=by rw [<-Array.getElem?_toList];exact hf
    simp [Instr.fieldAt,run_underlying hu,hf',Instr.sureAddr,fieldPlace,run_sizeOf' hs]
   ·exact h.elim
  ·exact h.elim
 ·exact h.elim
def rIndexAt (P:Program) (t:TypeId) (x ix:Value) (V:Value->Prop):Prop:=
 match P.underlying t,x,ix with
 | some (.slice e),.slice a n _,.int _ i=>
  (match szOf P e with
   | some sz=>(0<=i/\i<(n:Int))/\∃ q,a=some q/\V (.pointer (some (q.add (i.toNat*sz))))
   | none=>False)
 | some (.array n e),.pointer a,.int _ i=>
  PtrK a λp=>(match szOf P e with
   | some sz=>(0<=i/\i<(n:Int))/\V (.pointer (some (p.add (i.toNat*sz))))
   | none=>False)
 | _,_,_=>False
theorem run_rIndexAt {P:Program} {t:TypeId} {x ix:Value} {V:Value->Prop} (h:rIndexAt P t x ix V) :
  ∃ v,V v/\∀ w,(Instr.indexAt t x ix).run P w=.ok v w:=by
 unfold rIndexAt at h
 split at h
 ·rename_i hu
  split at h
  ·rename_i sz hs
   obtain ⟨hb,q,rfl,hv⟩:=h
   exact ⟨_,hv,λw=>by simp [Instr.indexAt,asIntOf,run_underlying hu,hb,run_sizeOf' hs]⟩
  ·exact h.elim
 ·rename_i hu
  obtain ⟨p,rfl,h2⟩:=h.out
  have h:=h2
  split at h
  ·rename_i sz hs
   obtain ⟨hb,hv⟩:=h
   exact ⟨_,hv,λw=>by simp [Instr.indexAt,asIntOf,run_underlying hu,Instr.sureAddr,hb,run_sizeOf' hs]⟩
  ·exact h.elim
 ·exact h.elim
def partK (P:Program) (t:TypeId) (cs:List Value) (off:Nat) (V:Value->Prop):Prop:=
 match P.underlying t,szOf P t with
 | some (.struct _),some n=>V (.agg ((cs.drop off).take n).toArray)
 | some (.array _ _),some n=>V (.agg ((cs.drop off).take n).toArray)
 | some _,some _=>(match cs[off]? with | some v=>V v | none=>False)
 | _,_=>False
theorem run_partK {P:Program} {t:TypeId} {cs:Array Value} {off:Nat} {V:Value->Prop} (h:partK P t cs.toList off V) :
  ∃ v,V v/\∀ w,(part t cs off).run P w=.ok v w:=by
 unfold partK at h
 cases hu:P.underlying t with
 | none=>simp [hu] at h
 | some d=>
  cases hs:szOf P t with
  | none=>cases d <;> simp [hu,hs] at h
  | some n=>
   have agg:∀ (hd:isAggD d=true),V (.agg ((cs.toList.drop off).take n).toArray)->∃ v,V v/\∀ w,(part t cs off).run P w=.ok v w:=by
    intro hd h
    refine ⟨_,h,λw=>?_⟩
    have he:cs.extract off (off+n)=((cs.toList.drop off).take n).toArray:=by
     apply Array.ext'
     simp [Array.toList_extract,List.extract_eq_take_drop]
    simp [part,run_isAgg' hu,hd,run_sizeOf' hs,he]
   have one:∀ (hd:isAggD d=false),(match cs.toList[off]? with | some v=>V v | none=>False)->∃ v,V v/\∀ w,(part t cs off).run P w=.ok v w:=by
    intro hd h
    split at h
    ·rename_i v hc
     refine ⟨_,h,λw=>?_⟩
     have hc':cs[off]? = some v:=by rw [<-Array.getElem?_toList];exact hc
     simp [part,run_isAgg' hu,hd,hc']
    ·exact h.elim
   cases d <;> simp only [hu,hs] at h <;> first | exact agg rfl h | exact one rfl h
def rIndex (P:Program) (t:TypeId) (x ix:Value) (V:Value->Prop):Prop:=
 match P.underlying t,x,ix with
 | some (.array n e),.agg cs,.int _ i=>
  (match P.underlying e,szOf P e with
   | some (.struct _),some sz=>(0<=i/\i<(n:Int))/\∃ y:Tup (flat P 8 e),((cs.toList.drop (i.toNat*sz)).take sz)=tupV _ y/\V (.agg (tupV _ y).toArray)
   | some (.array _ _),some sz=>(0<=i/\i<(n:Int))/\∃ y:Tup (flat P 8 e),((cs.toList.drop (i.toNat*sz)).take sz)=tupV _ y/\V (.agg (tupV _ y).toArray)
   | some d,some sz=>(0<=i/\i<(n:Int))/\∃ y:(ssOf (some d)).T,cs.toList[i.toNat*sz]? = some ((ssOf (some d)).v y)/\V ((ssOf (some d)).v y)
   | _,_=>False)
 | some .string,.string s,.int _ i=>(0<=i/\i<(s.size:Int))/\∃ b:UInt8,s[i.toNat]? = some b/\V (.int .u8 b.toNat)
 | _,_,_=>False
theorem run_rIndex {P:Program} {t:TypeId} {x ix:Value} {V:Value->Prop} (h:rIndex P t x ix V) :
  ∃ v,V v/\∀ w,(Instr.index t x ix).run P w=.ok v w:=by
 unfold rIndex at h
 split at h
 ·rename_i n e cs k i hu
  cases hue:P.underlying e with
  | none=>simp [hue] at h
  | some d=>
   cases hs:szOf P e with
   | none=>cases d <;> simp [hue,hs] at h
   | some sz=>
    have agg:∀ (hd:isAggD d=true),((0<=i/\i<(n:Int))/\∃ y:Tup (flat P 8 e),((cs.toList.drop (i.toNat*sz)).take sz)=tupV _ y/\V (.agg (tupV _ y).toArray)) ->
      ∃ v,V v/\∀ w,(Instr.index t (.agg cs) (.int k i)).run P w=.ok v w:=by
     rintro hd ⟨hb,y,hy,hv⟩
     have hp:partK P e cs.toList (i.toNat*sz) (λu=>u=.agg (tupV _ y).toArray):=by
      unfold partK
      cases d <;> simp only [isAggD,Bool.false_eq_true] at hd <;> simp only [hue,hs,hy]
     obtain ⟨v,rfl,hr⟩:=run_partK hp
     exact ⟨_,hv,λw=>by simp [Instr.index,asIntOf,run_underlying hu,hb,run_sizeOf' hs,hr]⟩
    have one:∀ (hd:isAggD d=false),((0<=i/\i<(n:Int))/\∃ y:(ssOf (some d)).T,cs.toList[i.toNat*sz]? = some ((ssOf (some d)).v y)/\V ((ssOf (some d)).v y)) ->
      ∃ v,V v/\∀ w,(Instr.index t (.agg cs) (.int k i)).run P w=.ok v w:=by
     rintro hd ⟨hb,y,hy,hv⟩
     have hp:partK P e cs.toList (i.toNat*sz) (λu=>u=(ssOf (some d)).v y):=by
      unfold partK
      cases d <;> simp only [isAggD,Bool.true_eq_false] at hd <;> simp only [hue,hs,hy]
     obtain ⟨v,rfl,hr⟩:=run_partK hp
     exact ⟨_,hv,λw=>by simp [Instr.index,asIntOf,run_underlying hu,hb,run_sizeOf' hs,hr]⟩
    cases d <;> simp only [hue,hs] at h <;> first | exact agg rfl h | exact one rfl h
 ·rename_i s k i hu
  obtain ⟨hb,b,hs,hv⟩:=h
  exact ⟨_,hv,λw=>by simp [Instr.index,asIntOf,run_underlying hu,hb.1,hs]⟩
 ·exact h.elim
def optI (f:PF):Option Operand->Option (Option Int)
 | none=>some none
 | some x=>match ev f x with | some (.int _ i)=>some (some i) | _=>none
theorem Fits.optI {n:Nat} {f:PF} {a:Act} (h:Fits n f a) {x:Option Operand} {r:Option Int} (e:Eng.optI f x=some r) :
  (r=none/\x.map a.eval=none)\/∃ i k,r=some i/\x.map a.eval=some (.int k i):=by
 cases x with
 | none=>simp [Eng.optI] at e;exact .inl ⟨e.symm,rfl⟩
 | some o=>
  simp only [Eng.optI] at e
  split at e
  ·rename_i k i he
   simp only [Option.some.injEq] at e
   exact .inr ⟨i,k,e.symm,by simp [h.ev he]⟩
  ·cases e
def bndK (len cap:Nat) (lo hi mx:Option Int) (K:Nat->Nat->Nat->Prop):Prop:=
 match mx,hi,lo with
 | some m,some h,some l=>(0<=l/\l<=h/\h<=m/\m<=(cap:Int))/\K l.toNat h.toNat m.toNat
 | some m,some h,none=>(0<=h/\h<=m/\m<=(cap:Int))/\K 0 h.toNat m.toNat
 | none,some h,some l=>(0<=l/\l<=h/\h<=(cap:Int))/\K l.toNat h.toNat cap
 | none,some h,none=>(0<=h/\h<=(cap:Int))/\K 0 h.toNat cap
 | none,none,some l=>(0<=l/\l<=(len:Int))/\K l.toNat len cap
 | none,none,none=>K 0 len cap
 | some _,none,_=>False
theorem run_sliceBound {P:Program} {k:IntKind} {i:Int} {y:Nat} {c:BoundsCode} (h0:0<=i) (h1:i<=(y:Int)) (w:World) :
  (Instr.sliceBound (.int k i) y c).run P w=.ok i.toNat w:=by
 simp [Instr.sliceBound,asIntOf,h0,h1]
theorem run_bounds {P:Program} {f:PF} {n:Nat} {a:Act} (hf:Fits n f a) {b:Bool} {len cap:Nat} {lo hi mx:Option Operand} {l h m:Option Int}
  (el:optI f lo=some l) (eh:optI f hi=some h) (em:optI f mx=some m) {K:Nat->Nat->Nat->Prop} (hk:bndK len cap l h m K) :
  ∃ l' h' m',K l' h' m'/\∀ w,(Instr.sliceBounds b len cap (lo.map a.eval) (hi.map a.eval) (mx.map a.eval)).run P w=.ok (l',h',m') w:=by
 rcases hf.optI el with ⟨rfl,e1⟩ | ⟨i,k,rfl,e1⟩ <;> rcases hf.optI eh with ⟨rfl,e2⟩ | ⟨j,k2,rfl,e2⟩ <;> rcases hf.optI em with ⟨rfl,e3⟩ | ⟨q,k3,rfl,e3⟩ <;> simp only [bndK] at hk
 ·exact ⟨_,_,_,hk,λw=>by rw [e1,e2,e3];rfl⟩
 ·obtain ⟨⟨h1,h2⟩,hk⟩:=hk
  refine ⟨_,_,_,hk,λw=>?_⟩
  rw [e1,e2,e3]
  simp only [Instr.sliceBounds,Sem.run_bind,Sem.run_pure,Result.andThen_ok,run_sliceBound h1 h2]
 ·obtain ⟨⟨h1,h2,h3⟩,hk⟩:=hk
  refine ⟨_,_,_,hk,λw=>?_⟩
  rw [e1,e2,e3]
  simp only [Instr.sliceBounds,Sem.run_bind,Sem.run_pure,Result.andThen_ok,run_sliceBound (show 0<=q by omega) h3,run_sliceBound (y:=q.toNat) h1 (by omega)]
 ·obtain ⟨⟨h1,h2⟩,hk⟩:=hk
  refine ⟨_,_,_,hk,λw=>?_⟩
  rw [e1,e2,e3]
  simp only [Instr.sliceBounds,Sem.run_bind,Sem.run_pure,Result.andThen_ok,run_sliceBound h1 h2]
 ·obtain ⟨⟨h1,h2,h3⟩,hk⟩:=hk
  refine ⟨_,_,_,hk,λw=>?_⟩
  rw [e1,e2,e3]
  simp only [Instr.sliceBounds,Sem.run_bind,Sem.run_pure,Result.andThen_ok,run_sliceBound (show 0<=j by omega) h3,run_sliceBound (y:=j.toNat) h1 (by omega)]
 ·obtain ⟨⟨h1,h2,h3,h4⟩,hk⟩:=hk
  refine ⟨_,_,_,hk,λw=>?_⟩
  rw [e1,e2,e3]
  simp only [Instr.sliceBounds,Sem.run_bind,Sem.run_pure,Result.andThen_ok,run_sliceBound (show 0<=q by omega) h4,run_sliceBound (y:=q.toNat) (show 0<=j by omega) (by omega),run_sliceBound (y:=j.toNat) h1 (by omega)]
def SubK (a:Option Addr) (l m sz:Nat) (K:Option Addr->Prop):Prop:=∀ a',a'=(if m=l then a else a.map (·.add (l*sz)))->K a'
def rSlice (P:Program) (t:TypeId) (x:Value) (lo hi mx:Option Int) (V:Value->Prop):Prop:=
 match P.underlying t,x with
 | some (.slice e),.slice a n c=>
  (match szOf P e with
   | some sz=>bndK n c lo hi mx λl h m=>SubK a l m sz λa'=>V (.slice a' (h-l) (m-l))
   | none=>False)
 | some (.array n e),.pointer a=>
  PtrK a λp=>(match szOf P e with
   | some sz=>bndK n n lo hi mx λl h m=>SubK (some p) l m sz λa'=>V (.slice a' (h-l) (m-l))
   | none=>False)
 | some .string,.string s=>
  (match mx with
   | none=>bndK s.size s.size lo hi none λl h _=>V (.string (s.extract l h))
   | some _=>False)
 | _,_=>False
theorem run_rSlice {P:Program} {f:PF} {n:Nat} {a:Act} (hf:Fits n f a) {t:TypeId} {x:Value} {lo hi mx:Option Operand} {l h m:Option Int}
  (el:optI f lo=some l) (eh:optI f hi=some h) (em:optI f mx=some m) {V:Value->Prop} (hk:rSlice P t x l h m V) :
  ∃ v,V v/\∀ w,(Instr.sliceAt t x (lo.map a.eval) (hi.map a.eval) (mx.map a.eval)).run P w=.ok v w:=by
 unfold rSlice at hk
 split at hk
 ·rename_i e ad len cap hu
  split at hk
  ·rename_i sz hs
   obtain ⟨l',h',m',hv,hr⟩:=run_bounds (P:=P) (b:=true) hf el eh em hk
   exact ⟨_,hv _ rfl,λw=>by simp [Instr.sliceAt,Instr.slice,run_underlying hu,hr,run_sizeOf' hs]⟩
  ·exact hk.elim
 ·rename_i e ap hu
  obtain ⟨p,rfl,hk2⟩:=hk.out
  have hk:=hk2
  split at hk
  ·rename_i sz hs
   obtain ⟨l',h',m',hv,hr⟩:=run_bounds (P:=P) (b:=false) hf el eh em hk
   refine ⟨_,hv _ rfl,λw=>?_⟩
   simp [Instr.sliceAt,run_underlying hu,hr,run_sizeOf' hs,Instr.sureAddr]
   split <;> rfl
  ·exact hk.elim
 ·rename_i s hu
  split at hk
  ·rcases hf.optI em with ⟨_,e3⟩ | ⟨q,k3,h1,e3⟩
   ·obtain ⟨l',h',m',hv,hr⟩:=run_bounds (P:=P) (b:=false) (mx:=none) hf el eh rfl hk
    exact ⟨_,hv,λw=>by rw [e3];simp [Instr.sliceAt,Instr.slice,run_underlying hu];simp at hr;simp [hr]⟩
   ·cases h1
  ·exact hk.elim
 ·exact hk.elim
def fillL (place:Nat->Option (Nat×Nat)) (cells:List Value):List (Nat×Value)->Option (List Value)
 | []=>some cells
 | (i,v)::rest=>
  match place i with
  | none=>none
  | some (off,size)=>
   match v.cells.toList with
   | vs=>cond (Nat.beq vs.length size && Nat.ble (off+vs.length) cells.length) (fillL place (cells.take off++(vs++cells.drop (off+vs.length))) rest) none
theorem foldl_set (off:Nat):∀ (vs:List Value) (k:Nat) (cs:Array Value),off+k+vs.length<=cs.size ->
  ((vs.zipIdx k).foldl (λ(cs:Array Value) (p:Value×Nat)=>cs.setIfInBounds (off+p.2) p.1) cs).toList=cs.toList.take (off+k)++(vs++cs.toList.drop (off+k+vs.length))
 | [],k,cs,h=>by simp
 | v::vs,k,cs,h=>by
  simp only [List.length_cons] at h
  rw [List.zipIdx_cons,List.foldl_cons,foldl_set off vs (k+1) _ (by simp;omega)]
  simp only [Array.toList_setIfInBounds]
  have hk:off+k<cs.toList.length:=by simp;omega
  rw [show off+(k+1)=off+k+1 by omega,List.take_succ_eq_append_getElem (by simp;omega),List.take_set_of_le (by omega)]
  rw [List.getElem_set_self,List.append_assoc,List.drop_set_of_lt (by omega)]
  simp only [List.cons_append,List.nil_append,List.length_cons]
  rw [show off+k+1+vs.length=off+k+(vs.length+1) by omega]
theorem fill_of_fillL {place:Nat->Option (Nat×Nat)}:∀ {parts:List (Nat×Value)} {cs:Array Value} {r:List Value},fillL place cs.toList parts=some r->Instr.fill place cs parts=some r.toArray
 | [],cs,r,h=>by simp [fillL] at h;subst h;simp [Instr.fill]
 | (i,v)::rest,cs,r,h=>by
  simp only [fillL] at h
  simp only [Instr.fill]
  split at h
  ·cases h
  ·rename_i off size hp
   rw [hp]
   simp only
   cases hc:(Nat.beq v.cells.toList.length size && Nat.ble (off+v.cells.toList.length) cs.toList.length)
   ·rw [hc] at h;cases h
   ·rw [hc] at h
    simp only [Bool.and_eq_true] at hc
    have h1:=Nat.eq_of_beq_eq_true hc.1
    have h2:=Nat.le_of_ble_eq_true hc.2
    simp only [Array.length_toList] at h1 h2
    have hn:¬ ((decide (v.cells.size≠size) || decide (off+v.cells.size>cs.size))=true):=by simp;omega
    rw [if_neg (by simpa using hn)]
    apply fill_of_fillL
    simp only [cond_true] at h
    rw [<-h]
    congr 1
    have hz:(v.cells.zipIdx.foldl (λ(cs:Array Value) (x:Value×Nat)=>match x with | (c,j)=>cs.setIfInBounds (off+j) c) cs).toList=cs.toList.take (off+0)++(v.cells.toList++cs.toList.drop (off+0+v.cells.toList.length)):=by
     rw [<-Array.foldl_toList,Array.toList_zipIdx]
     exact foldl_set off v.cells.toList 0 cs (by simp;omega)
    rw [hz]
    simp
def placesL (P:Program):List Field->List (Option (Nat×Nat))
 | []=>[]
 | fd::fs=>(match szOf P fd.type with | some n=>some (fd.offset,n) | none=>none)::placesL P fs
def zeroL (P:Program) (t:TypeId):Option (List Value):=
 match P.info? t with
 | some i=>match i.zero with | some z=>some z.cells.toList | none=>none
 | none=>none
def allSome:List (Option (Nat×Nat))->Bool
 | []=>true
 | some _::l=>allSome l
 | none::_=>false
def rBuild (P:Program) (t:TypeId) (parts:List (Nat×Value)) (V:Value->Prop):Prop:=
 match P.underlying t,zeroL P t with
 | some (.struct fs),some z=>
  (match placesL P fs.toList with
   | pl=>cond (allSome pl) (match fillL (λi=>(pl[i]?).bind id) z parts with | some r=>V (.agg r.toArray) | none=>False) False)
 | some (.array _ e),some z=>
  (match szOf P e with
   | some n=>(match fillL (λi=>some (i*n,n)) z parts with | some r=>V (.agg r.toArray) | none=>False)
   | none=>False)
 | _,_=>False
theorem run_zero' {P:Program} {t:TypeId} {z:List Value} (h:zeroL P t=some z) (w:World):∃ v,v.cells=z.toArray/\(zeroValue t).run P w=.ok v w/\∃ i,P.info? t=some i/\i.zero=some v:=by
 unfold zeroL at h
 split at h
 ·rename_i i hi
  split at h
  ·rename_i v hv
   simp only [Option.some.injEq] at h
   exact ⟨v,by rw [<-h],by simp [zeroValue,typeInfo,program,Sem.run,hi,hv],i,hi,hv⟩
  ·cases h
 ·cases h
theorem run_places {P:Program} (w:World):∀ (fs:List Field),allSome (placesL P fs)=true ->
  ∃ r,(fs.mapM λf=>do pure (f.offset,<- sizeOf f.type):Sem (List (Nat×Nat))).run P w=.ok r w/\r.map some=placesL P fs
 | [],_=>⟨[],by simp [List.mapM_nil],rfl⟩
 | fd::fs,h=>by
  simp only [placesL] at h
  cases hs:szOf P fd.type with
  | none=>simp [hs,allSome] at h
  | some n=>
   simp only [hs,allSome] at h
   obtain ⟨r,hr,he⟩:=run_places w fs h
   refine ⟨(fd.offset,n)::r,?_,by simp [placesL,hs,he]⟩
   simp only [List.mapM_cons,Sem.run_bind,run_sizeOf' hs,Result.andThen_ok,Sem.run_pure] at hr ⊢
   simp only [hr,Result.andThen_ok]
theorem run_rBuild {P:Program} {t:TypeId} {parts:List (Nat×Value)} {V:Value->Prop} (h:rBuild P t parts V) :
  ∃ v,V v/\∀ w,(Instr.build t parts.toArray).run P w=.ok v w:=by
 unfold rBuild at h
 split at h
 ·rename_i fs z hu hz
  cases hall:allSome (placesL P fs.toList)
  ·simp [hall] at h
  ·simp only [hall,cond_true] at h
   split at h
   ·rename_i r hfl
    refine ⟨_,h,λw=>?_⟩
    obtain ⟨zv,hzc,hzr,_⟩:=run_zero' hz w
    obtain ⟨pl,hpl,hpe⟩:=run_places w fs.toList hall
    have hpl':(fs.mapM λf=>do pure (f.offset,<- sizeOf f.type):Sem (Array (Nat×Nat))).run P w=.ok pl.toArray w:=by
     rw [Array.mapM_eq_mapM_toList]
     simp only [Sem.run_map,hpl,Result.andThen_ok]
    have hfl':=fill_of_fillL (cs:=z.toArray) (by simpa using hfl)
    have hpe':(λ(i:Nat)=>((placesL P fs.toList)[i]?).bind id)=λ(i:Nat)=>pl.toArray[i]?:=by
     funext i
     rw [<-hpe]
     simp
     cases pl[i]? <;> rfl
    rw [hpe'] at hfl'
    simp only [Instr.build,Sem.run_bind,hzr,Result.andThen_ok,run_underlying hu,hpl',hzc]
    simp only [hfl']
    rfl
   ·exact h.elim
 ·rename_i e z hu hz
  split at h
  ·rename_i n hs
   split at h
   ·rename_i r hfl
    refine ⟨_,h,λw=>?_⟩
    obtain ⟨zv,hzc,hzr,_⟩:=run_zero' hz w
    have hfl':=fill_of_fillL (cs:=z.toArray) (by simpa using hfl)
    simp only [Instr.build,Sem.run_bind,hzr,Result.andThen_ok,run_underlying hu,run_sizeOf' hs,hzc]
    simp only [hfl']
    rfl
   ·exact h.elim
  ·exact h.elim
 ·exact h.elim
def rConv (P:Program) (s d:TypeId) (x:Value) (G:Grd) (w0:World) (V:Value->Prop):Prop:=
 match P.underlying s,P.underlying d,x with
 | some (.int _),some (.int k),.int _ n=>V (.int k (k.wrap n))
 | some .string,some .string,.string z=>V (.string z)
 | some (.slice e),some .string,.slice a n _=>
  (match P.underlying e with
   | some (.int .u8)=>∃ ns:List Int,ns.length=n/\((a=none/\n=0)\/∃ p,a=some p/\G p (CellsAt w0 p (ns.map (Value.int .u8))))/\V (.string (ns.foldl (λr m=>r.push (UInt8.ofNat m.toNat)) ByteArray.empty))
   | _=>False)
 | _,_,_=>False
theorem run_rConv {P:Program} {s d:TypeId} {x:Value} {G:Grd} {w0:World} {V:Value->Prop} (h:rConv P s d x G w0 V) {S:World->Prop} (hS:∃ w,S w) (hG:∀ w,S w->G.Ok w0 w) :
  ∃ v,V v/\∀ w,S w->(convert s d x).run P w=.ok v w:=by
 obtain ⟨ws,hws⟩:=hS
 unfold rConv at h
 split at h
 ·rename_i h1 h2
  exact ⟨_,h,λw _=>by simp [convert,run_underlying h1,run_underlying h2,Conv.intToInt]⟩
 ·rename_i h1 h2
  exact ⟨_,h,λw _=>by simp [convert,run_underlying h1,run_underlying h2]⟩
 ·rename_i e a n c h1 h2
  split at h
  ·rename_i h3
   obtain ⟨ns,hl,hc,hv⟩:=h
   refine ⟨_,hv,λw hk=>?_⟩
   rcases hc with ⟨rfl,hn⟩ | ⟨p,rfl,hc⟩
   ·have:ns=[]:=List.length_eq_zero_iff.1 (by omega)
    subst this
    simp [convert,run_underlying h1,run_underlying h2,run_underlying h3,Conv.bytesToString]
   ·have hcs:=run_loadCells_list (P:=P) w p (ns.map (Value.int .u8)) (cells_same (hG w hk p _ hc).2 (hG w hk p _ hc).1)
    rw [List.length_map,hl] at hcs
    simp [convert,run_underlying h1,run_underlying h2,run_underlying h3,run_bytesToString w p n c ns hcs]
  ·exact h.elim
 ·exact h.elim
def rExtract (x:Value) (i:Nat) (V:Value->Prop):Prop:=
 match x with
 | .tuple vs=>(match vs.toList[i]? with | some v=>V v | none=>False)
 | _=>False
def lenV (P:Program) (t:TypeId) (x:Value) (V:Value->Prop):Prop:=
 match P.underlying t,x with
 | some .string,.string s=>V (.int .i64 (s.size:Int))
 | some (.slice _),.slice _ n _=>V (.int .i64 (n:Int))
 | some (.array n _),_=>V (.int .i64 (n:Int))
 | _,_=>False
theorem run_lenV {P:Program} {t ty:TypeId} {x:Value} {V:Value->Prop} (h:lenV P t x V) :
  ∃ v,V v/\∀ w,(Builtin.len_ #[t] ty #[x]).run P w=.ok v w:=by
 unfold lenV at h
 split at h
 ·rename_i hu;exact ⟨_,h,λw=>by simp [Builtin.len_,run_underlying hu,goInt]⟩
 ·rename_i hu;exact ⟨_,h,λw=>by simp [Builtin.len_,run_underlying hu,goInt]⟩
 ·rename_i hu;exact ⟨_,h,λw=>by simp [Builtin.len_,run_underlying hu,goInt]⟩
 ·exact h.elim
def NameI (t:Int) (K:Int->Prop):Prop:=∀ z,z=t->K z
def rBuiltin (P:Program) (b:Builtin) (ts:List TypeId) (vs:List Value) (V:Value->Prop):Prop:=
 match b,ts,vs with
 | .len,[t],[x]=>lenV P t x V
 | .min,_,[.int k x,.int k' y]=>NameI (min x y) λz=>V (.int k z)
 | .max,_,[.int k x,.int k' y]=>NameI (max x y) λz=>V (.int k z)
 | _,_,_=>False
theorem run_rBuiltin {P:Program} {b:Builtin} {ts:Array TypeId} {ty:TypeId} {vs:Array Value} {V:Value->Prop} (h:rBuiltin P b ts.toList vs.toList V) :
  ∃ v,V v/\∀ cs w,(builtin b ts ty cs vs).run P w=.ok (.value v) w:=by
 unfold rBuiltin at h
 split at h
 ·rename_i t x ht hv
  obtain ⟨v,h1,h2⟩:=run_lenV (ty:=ty) h
  refine ⟨v,h1,λcs w=>?_⟩
  have e1:ts=#[t]:=by apply Array.ext';simpa using ht
  have e2:vs=#[x]:=by apply Array.ext';simpa using hv
  subst e1;subst e2
  simp [builtin,h2]
 ·rename_i k x k' y hv
  refine ⟨_,h _ rfl,λcs w=>?_⟩
  have e2:vs=#[.int k x,.int k' y]:=by apply Array.ext';simpa using hv
  subst e2
  have e3:(if y<x then y else x)=min x y:=by split <;> omega
  simp [builtin,Builtin.min_,Builtin.min2,e3]
 ·rename_i k x k' y hv
  refine ⟨_,h _ rfl,λcs w=>?_⟩
  have e2:vs=#[.int k x,.int k' y]:=by apply Array.ext';simpa using hv
  subst e2
  have e3:(if y>x then y else x)=max x y:=by split <;> omega
  simp [builtin,Builtin.max_,Builtin.max2,e3]
 ·exact h.elim
def rOp (P:Program) (wr:Bool) (op:Op) (f:PF) (G:Grd) (w0:World) (V:Value->Prop):Prop:=
 match op with
 | .move x=>(match ev f x with | some v=>V v | none=>False)
 | .assign x=>(match ev f x with | some v=>V v | none=>False)
 | .pick c a b=>(match ev f c,ev f a,ev f b with | some (.bool t),some x,some y=>cond t (V x) (V y) | _,_,_=>False)
 | .load t x=>(match ev f x with | some (.pointer a)=>PtrK a λp=>rLoad P t G w0 p V | _=>False)
 | .nilCheck x=>(match ev f x with | some (.pointer a)=>PtrK a λp=>V (.pointer (some p)) | some (.func (.func g) fs cs)=>V (.func (.func g) fs cs) | _=>False)
 | .binOp o t x y _=>(match ev f x,ev f y with | some a,some b=>rBin P wr o t a b V | _,_=>False)
 | .unOp o _ x=>(match ev f x with | some a=>rUn wr o a V | none=>False)
 | .convert s d x=>(match ev f x with | some a=>rConv P s d a G w0 V | none=>False)
 | .makeFunc fn first cap=>(match evL f first.toList,evL f cap.toList with | some l,some m=>V (.func fn l.toArray m.toArray) | _,_=>False)
 | .slice t x lo hi mx=>(match ev f x,optI f lo,optI f hi,optI f mx with | some v,some l,some h,some m=>rSlice P t v l h m V | _,_,_,_=>False)
 | .fieldAddr s x j=>(match ev f x with | some (.pointer a)=>PtrK a λp=>fieldK P s j λoff ft=>(match szOf P ft with | some (n+1)=>V (.pointer (some (p.add off))) | _=>False) | _=>False)
 | .field t x j=>(match ev f x with | some (.agg cs)=>fieldK P t j λoff ft=>partK P ft cs.toList off V | _=>False)
 | .indexAddr t x i=>(match ev f x,ev f i with | some v,some u=>rIndexAt P t v u V | _,_=>False)
 | .index t x i=>(match ev f x,ev f i with | some v,some u=>rIndex P t v u V | _,_=>False)
 | .extract x i=>(match ev f x with | some v=>rExtract v i V | none=>False)
 | .build t parts=>(match evP f parts.toList with | some ps=>rBuild P t ps V | none=>False)
 | .call ⟨.builtin b,args,ts⟩=>(match evL f args.toList with | some vs=>rBuiltin P b ts.toList vs V | none=>False)
 | _=>False
theorem rOp.sound {P:Program} {wr:Bool} {o:Oper} {f:PF} {n:Nat} {a:Act} (hf:Fits n f a) {G:Grd} {w0:World} {V:Value->Prop} (h:rOp P wr o.op f G w0 V) {S:World->Prop} (hS:∃ w,S w) (hG:∀ w,S w->G.Ok w0 w) :
  ∃ v,V v/\∀ w,S w->(execOp a.eval o).run P w=.ok (.value v) w:=by
 obtain ⟨dst,op,ty,pos,after,guard⟩:=o
 simp only at h
 unfold rOp at h
 have lift:∀ {s:Sem Value},(∃ v,V v/\∀ w,s.run P w=.ok v w)->∃ v,V v/\∀ w,S w->(do pure (Next.value (<-s))).run P w=.ok (.value v) w:=
  λ⟨v,h1,h2⟩=>⟨v,h1,λw _=>by simp [h2]⟩
 have liftK:∀ {s:Sem Value},(∃ v,V v/\∀ w,S w->s.run P w=.ok v w)->∃ v,V v/\∀ w,S w->(do pure (Next.value (<-s))).run P w=.ok (.value v) w:=
  λ⟨v,h1,h2⟩=>⟨v,h1,λw hk=>by simp [h2 w hk]⟩
 split at h
 ·split at h
  ·rename_i v he;exact ⟨v,h,λw _=>by simp [execOp,hf.ev he]⟩
  ·exact h.elim
 ·split at h
  ·rename_i v he;exact ⟨v,h,λw _=>by simp [execOp,hf.ev he]⟩
  ·exact h.elim
 ·split at h
  ·rename_i t x y h1 h2 h3
   cases t
   ·exact ⟨y,h,λw _=>by simp [execOp,hf.ev h1,hf.ev h2,hf.ev h3,asBool]⟩
   ·exact ⟨x,h,λw _=>by simp [execOp,hf.ev h1,hf.ev h2,hf.ev h3,asBool]⟩
  ·exact h.elim
 ·split at h
  ·rename_i a he
   obtain ⟨p,rfl,h2⟩:=h.out
   have h:=h2
   have:=liftK (run_rLoad h hS hG)
   simpa [execOp,hf.ev he,Instr.loadAt,Instr.sureAddr] using this
  ·exact h.elim
 ·split at h
  ·rename_i a he;obtain ⟨p,rfl,h2⟩:=h.out;have h:=h2;exact ⟨_,h,λw _=>by simp [execOp,hf.ev he]⟩
  ·rename_i g fs cs he;exact ⟨_,h,λw _=>by simp [execOp,hf.ev he]⟩
  ·exact h.elim
 ·split at h
  ·rename_i u v h1 h2
   obtain ⟨r,hv,hr⟩:=run_rBin h
   refine ⟨r,hv,λw _=>?_⟩
   have:=hr w
   simp only [execOp,hf.ev h1,hf.ev h2]
   rw [Sem.run_bind,this]
   rfl
  ·exact h.elim
 ·split at h
  ·rename_i u he
   have:=lift (run_rUn (P:=P) h)
   simpa [execOp,hf.ev he] using this
  ·exact h.elim
 ·split at h
  ·rename_i u he
   have:=liftK (run_rConv h hS hG)
   simpa [execOp,hf.ev he] using this
  ·exact h.elim
 ·rename_i fn first cap
  split at h
  ·rename_i l m h1 h2
   refine ⟨_,h,λw _=>?_⟩
   have e1:first.map a.eval=l.toArray:=by apply Array.ext';rw [Array.toList_map];exact hf.evL h1
   have e2:cap.map a.eval=m.toArray:=by apply Array.ext';rw [Array.toList_map];exact hf.evL h2
   simp [execOp,Instr.makeFunc,e1,e2]
  ·exact h.elim
 ·split at h
  ·rename_i v l hh m h1 h2 h3 h4
   have:=lift (run_rSlice hf h2 h3 h4 h)
   simpa [execOp,hf.ev h1] using this
  ·exact h.elim
 ·split at h
  ·rename_i a he
   obtain ⟨p,rfl,h2⟩:=h.out
   have h:=h2
   have:=lift (run_fieldAt' h)
   simpa [execOp,hf.ev he] using this
  ·exact h.elim
 ·rename_i t x j
  split at h
  ·rename_i cs he
   unfold fieldK at h
   split at h
   ·rename_i fs hu
    split at h
    ·rename_i fd hfd
     obtain ⟨v,hv,hr⟩:=run_partK h
     have hf':fs[j]? = some fd:=by rw [<-Array.getElem?_toList];exact hfd
     exact ⟨v,hv,λw _=>by simp [execOp,hf.ev he,Instr.field,run_underlying hu,hf',asAgg,hr]⟩
    ·exact h.elim
   ·exact h.elim
  ·exact h.elim
 ·split at h
  ·rename_i u v h1 h2
   have:=lift (run_rIndexAt h)
   simpa [execOp,hf.ev h1,hf.ev h2] using this
  ·exact h.elim
 ·split at h
  ·rename_i u v h1 h2
   have:=lift (run_rIndex h)
   simpa [execOp,hf.ev h1,hf.ev h2] using this
  ·exact h.elim
 ·rename_i x i
  split at h
  ·rename_i v he
   unfold rExtract at h
   split at h
   ·rename_i vs
    split at h
    ·rename_i u hu
     have hu':vs[i]? = some u:=by rw [<-Array.getElem?_toList];exact hu
     exact ⟨u,h,λw _=>by simp [execOp,hf.ev he,Instr.extract,hu']⟩
    ·exact h.elim
   ·exact h.elim
  ·exact h.elim
 ·rename_i t parts
  split at h
  ·rename_i ps he
   have:=lift (run_rBuild h)
   have e1:parts.map (λ(x:Nat×Operand)=>(x.1,a.eval x.2))=ps.toArray:=by apply Array.ext';rw [Array.toList_map];exact hf.evP he
   simpa [execOp,e1] using this
  ·exact h.elim
 ·rename_i b args ts
  split at h
  ·rename_i vs he
   have e1:args.map a.eval=vs.toArray:=by apply Array.ext';rw [Array.toList_map];exact hf.evL he
   obtain ⟨v,hv,hr⟩:=run_rBuiltin (ts:=ts) (vs:=vs.toArray) (ty:=ty) (by simpa using h)
   refine ⟨v,hv,λw _=>?_⟩
   simp only [execOp,resolve,e1,Sem.run_bind,Sem.run_pure,Result.andThen_ok]
   exact hr _ w
  ·exact h.elim
 ·exact h.elim
def byOf (P:Program) (t:TypeId):Option Nat:=(P.info? t).map (·.bytes)
def RdC (w:World) (a:Option Addr) (vs:List Value):Prop:=(a=none/\vs=[])\/∃ p,a=some p/\CellsAt w p vs
def oneAll (vs:List Value):Prop:=∀ u∈vs,u.oneCell'=true
theorem zeros_eq (z:Array Value):∀ n:Nat,((List.range (n*z.size)).map λi=>z[i % z.size]!)=(List.replicate n z.toList).flatten
 | 0=>by simp
 | n+1=>by
  rw [Nat.add_mul,Nat.one_mul,List.range_add,List.map_append,zeros_eq z n,List.replicate_succ',List.flatten_append]
  congr 1
  simp only [List.map_map,List.flatten_cons,List.flatten_nil,List.append_nil]
  apply List.ext_getElem
  ·simp
  ·intro i h1 h2
   simp only [List.length_map,List.length_range] at h1
   simp only [List.getElem_map,List.getElem_range,Function.comp_apply]
   rw [Nat.mul_comm,Nat.mul_add_mod,Nat.mod_eq_of_lt h1]
   simp [h1]
theorem zeros_arr (z:Array Value) (n:Nat):((Array.range (n*z.size)).map λi=>z[i % z.size]!)=(List.replicate n z.toList).flatten.toArray:=by
 apply Array.ext'
 rw [Array.toList_map,Array.toList_range,zeros_eq]
theorem nextcap_le {need cap:Nat} (h:cap<need):Builtin.nextslicecap need cap<=2*need+256:=by
 unfold Builtin.nextslicecap
 split
 ·omega
 ·split
  ·omega
  ·have key:∀ r c,c<=2*need+256->Builtin.growBy need r c<=2*need+256:=by
    intro r
    induction r with
    | zero=>intro c hc;simpa [Builtin.growBy] using hc
    | succ r ih=>
     intro c hc
     simp only [Builtin.growBy]
     split
     ·exact hc
     ·exact ih _ (by omega)
   exact key _ _ (by omega)
def AppV (w:World) (e:TypeId) (sz by':Nat) (a:Option Addr) (n c:Nat) (news:List Value) (m:Nat) (K:Option Addr->Nat->Nat->World->Prop):Prop:=
 news.length=m*sz/\oneAll news/\(2*(n+m)+256)*by'<=281474976710656/\(n+m)<=9223372036854775807 /\
 ((m=0/\n<=c/\K a n c w) \/
  (∃ olds:List Value,olds.length=n*sz/\RdC w a olds /\
  (n+m<=c->∃ p,a=some p/\p.spot=none/\Free w (p.add (n*sz)) news.length/\K a (n+m) c (w.setCells p.block (p.off+n*sz) news)) /\
  (c<n+m->∀ (c':Nat) (rest:List Value),n+m<=c'->(olds++news++rest).length=c'*sz ->
   K (some ⟨w.heap.size,0,none⟩) (n+m) c' (w.drew.alloc (.cells (olds++news++rest).toArray e)))))
theorem RdC.first {P:Program} {w:World} {a:Option Addr} {vs:List Value} {n c sz:Nat} (h:RdC w a vs) (hl:vs.length=n*sz) :
  (Builtin.firstCells sz n (.slice a n c)).run P w=.ok vs.toArray w:=by
 rcases h with ⟨rfl,rfl⟩ | ⟨p,rfl,hc⟩
 ·exact run_firstCells_none w sz n n c
 ·exact run_firstCells_some w sz n p n c vs hl hc
theorem RdC.drew {w:World} {a:Option Addr} {vs:List Value} (h:RdC w a vs):RdC w.drew a vs:=h
theorem run_appV {P:Program} {ts tx e:TypeId} (ty:TypeId) {sz by':Nat} (hu:P.underlying ts=some (.slice e)) (hs:szOf P e=some sz) (hb:byOf P e=some by') {z:List Value} (hz:zeroL P e=some z) (hzs:z.length=sz)
  {w:World} {a:Option Addr} {n c m:Nat} {x:Value} {news:List Value} (hsrc:Src P sz tx x m news w) {K:Option Addr->Nat->Nat->World->Prop} (h:AppV w e sz by' a n c news m K) :
  ∃ a' n' c' w',K a' n' c' w'/\(Builtin.append_ #[ts,tx] ty #[.slice a n c,x]).run P w=.ok (.slice a' n' c') w':=by
 obtain ⟨hl,h1,hby,h63,h⟩:=h
 obtain ⟨zv,hzc,_,i,hi,hzi⟩:=run_zero' hz (default:World)
 have hsi:i.size=sz:=by simpa [szOf,hi] using hs
 have hbi:i.bytes=by':=by simpa [byOf,hi] using hb
 subst hsi;subst hbi
 rcases h with ⟨rfl,hnc,hk⟩ | ⟨olds,hol,hro,hroom,hgrow⟩
 ·have hnews:news=[]:=List.length_eq_zero_iff.1 (by omega)
  subst hnews
  exact ⟨_,_,_,_,hk,run_append_nothing w ts tx ty e i hu hi a n c hnc x hsrc⟩
 ·by_cases hc:n+m<=c
  ·obtain ⟨⟨b,off,sp⟩,rfl,hsp,hfree,hk⟩:=hroom hc
   simp only at hsp
   subst hsp
   have hadd:∀ j,((⟨b,off,none⟩:Addr).add (n*i.size)).add j=⟨b,off+n*i.size+j,none⟩:=by
    intro j;simp [Addr.add_lit]
   exact ⟨_,_,_,_,hk,run_append_room_src w ts tx ty e i hu hi b off n c x m news hsrc hc (λj hj=>by rw [<-hadd];exact (hfree j hj).1) (λj hj=>by rw [<-hadd];exact (hfree j hj).2)⟩
  ·have hfit:Builtin.nextslicecap (n+m) c*i.bytes<=281474976710656:=
    Nat.le_trans (Nat.mul_le_mul_right _ (nextcap_le (by omega))) hby
   have hr:=run_append_grow_src w ts tx ty e i zv hu hi hzi a n c olds (RdC.first hro.drew hol) x m news hsrc (by omega) (by omega) hfit
   generalize hg:grownCap w (n+m) c e=g at hr
   have hge:n+m<=g:=by
    rw [<-hg]
    unfold grownCap
    simp only [Question.cut]
    omega
   have hzero:Builtin.zeroCells zv.cells (g-(n+m))=(List.replicate (g-(n+m)) z).flatten.toArray:=by
    unfold Builtin.zeroCells
    rw [hzc]
    exact zeros_arr z.toArray _
   rw [hzero] at hr
   have hlen:(List.replicate (g-(n+m)) z).flatten.length=(g-(n+m))*i.size:=by
    simp [hzs]
   refine ⟨_,_,_,_,hgrow (by omega) g (List.replicate (g-(n+m)) z).flatten hge ?_,?_⟩
   ·simp only [List.length_append,hol,hl,hlen]
    rw [<-Nat.add_mul,<- Nat.add_mul]
    congr 1
    omega
   ·rw [hr]
    congr 3
    apply Array.ext'
    simp
def AppS (w:World) (b:Option Addr) (m sz:Nat) (K:List Value->Prop):Prop:=∃ news:List Value,news.length=m*sz/\RdC w b news/\K news
def AppArg (P:Program) (w:World) (tx:TypeId) (sz:Nat) (x:Value) (K:List Value->Nat->Prop):Prop:=
 match P.underlying tx,x with
 | some (.slice _),.slice b m _=>AppS w b m sz λnews=>K news m
 | some .string,.string s=>sz=1/\K (byteCells s) s.size
 | _,_=>False
def FreeK (w:World) (a:Option Addr) (vs:List Value) (K:World->Prop):Prop:=
 (vs=[]/\K w)\/∃ p,a=some p/\p.spot=none/\Free w p vs.length/\∀ w',w'=w.setCells p.block p.off vs->K w'
def CopyV (w:World) (a b:Option Addr) (k sz:Nat) (K:World->Prop):Prop:=∃ vs:List Value,vs.length=k*sz/\RdC w b vs/\oneAll vs/\FreeK w a vs K
def ClearV (w:World) (a:Option Addr) (n:Nat) (z:List Value) (K:World->Prop):Prop:=oneAll z/\FreeK w a (List.replicate n z).flatten K
def RunV (P:Program) (s:Sem Value) (w:World) (l:List Sh) (K:RT l->World->Prop):Prop:=∃ x w',s.run P w=.ok (packV l x) w'/\K x w'
def RunU (P:Program) (s:Sem Unit) (w:World) (K:World->Prop):Prop:=∃ w',s.run P w=.ok () w'/\K w'
def DelV (P:Program) (ts:List TypeId) (vs:List Value) (w:World) (K:World->Prop):Prop:=∃ w',(∀ ty,(Builtin.delete_ ts.toArray ty vs.toArray).run P w=.ok (.tuple #[]) w')/\K w'
def NewM (w:World) (K:Nat->World->Prop):Prop:=∀ b w',b=w.heap.size->w'=w.alloc (.map #[] 0)->K b w'
def eBuiltin (P:Program) (b:Builtin) (ts:List TypeId) (vs:List Value) (w:World) (V:Value->World->Prop):Prop:=
 match b,ts,vs with
 | .append,[t,tx],[.slice a n c,x]=>
  (match P.underlying t with
   | some (.slice e)=>
    (match szOf P e,byOf P e,zeroL P e with
    | some sz,some by',some z=>cond (Nat.beq z.length sz) (AppArg P w tx sz x λnews m=>AppV w e sz by' a n c news m λa' n' c' w'=>V (.slice a' n' c') w') False
    | _,_,_=>False)
   | _=>False)
 | .copy,[t,_],[.slice a n _,.slice b m _]=>
  (match P.underlying t with
   | some (.slice e)=>
    (match szOf P e with
    | some sz=>CopyV w a b (Nat.min m n) sz λw'=>V (.int .i64 (Nat.min m n:Nat)) w'
    | none=>False)
   | _=>False)
 | .clear,[t],[.slice a n _]=>
  (match P.underlying t with
   | some (.slice e)=>(match zeroL P e with | some z=>ClearV w a n z λw'=>V (.tuple #[]) w' | none=>False)
   | _=>False)
 | .delete,ts,vs=>DelV P ts vs w λw'=>V (.tuple #[]) w'
 | _,_,_=>False
def MkV (P:Program) (e:TypeId) (l c:Int) (w:World) (K:Nat->World->Prop):Prop:=
 match szOf P e,byOf P e,zeroL P e with
 | some sz,some by',some z=>cond (Nat.beq z.length sz) ((0<=l/\l<=c/\c<=9223372036854775807/\(by':Int)*c<=140737488355328)/\NewV (List.replicate c.toNat z).flatten.toArray e w K) False
 | _,_,_=>False
def eOp (P:Program) (ok:FuncId->Bool) (op:Op) (ty:TypeId) (f:PF) (w:World) (V:Value->World->Prop):Prop:=
 match op with
 | .alloc e=>(match zeroL P e with | some z=>NewV z.toArray e w λb w'=>V (.pointer (some ⟨b,0,none⟩)) w' | none=>False)
 | .box e x=>(match ev f x with | some v=>NewV v.cells e w λb w'=>V (.pointer (some ⟨b,0,none⟩)) w' | none=>False)
 | .buildSlice t len parts=>
  (match P.underlying t,evP f parts.toList with
   | some (.slice e),some ps=>
    (match szOf P e,zeroL P e with
    | some sz,some z=>
     cond (Nat.beq z.length sz && Nat.ble (len*sz) 16777216)
      (match fillL (λi=>some (i*sz,sz)) (List.replicate len z).flatten ps with
       | some r=>NewV r.toArray e w λb w'=>V (.slice (some ⟨b,0,none⟩) len len) w'
       | none=>False) False
    | _,_=>False)
   | _,_=>False)
 | .store t x y=>
  (match ev f x,ev f y,szOf P t with
   | some (.pointer a),some v,some n=>PtrK a λp=>(match v.cells.toList with | vs=>cond (Nat.beq vs.length n && vs.all (·.oneCell')) (StoreV w p vs λw'=>V undef w') False)
   | _,_,_=>False)
 | .makeSlice t l c=>
  (match P.underlying t,ev f l,ev f c with
   | some (.slice e),some (.int .i64 l),some (.int .i64 c)=>MkV P e l c w λb w'=>V (.slice (some ⟨b,0,none⟩) l.toNat c.toNat) w'
   | _,_,_=>False)
 | .call ⟨.value g,args,_⟩=>
  (match ev f g,evL f args.toList with
   | some (.func (.func g) first cap),some vs=>cond (ok g) (CallV P g (first.toList++(vs++cap.toList)).toArray w (resSh P ty) λx w'=>V (packV _ x) w') False
   | _,_=>False)
 | .call ⟨.builtin b,args,ts⟩=>(match evL f args.toList with | some vs=>eBuiltin P b ts.toList vs w V | none=>False)
 | .makeMap t none=>NewM w λb w'=>V (.map (some b)) w'
 | .makeMap t (some x)=>
  (match P.underlying t,ev f x with
   | some (.map _ _),some (.int .i64 _)=>NewM w λb w'=>V (.map (some b)) w'
   | _,_=>False)
 | .lookup t x y c=>(match ev f x,ev f y with | some a,some b=>RunV P (Instr.lookup t a b c) w (resSh P ty) λx w'=>V (packV _ x) w' | _,_=>False)
 | .mapEntry t x y=>(match P.underlying t,ev f x,ev f y with | some (.map _ e),some a,some b=>RunV P (Instr.mapEntry t a b) w [shT P e,.one (.int .i64)] λx w'=>V (packV _ x) w' | _,_,_=>False)
 | .mapUpdate t x y z=>(match ev f x,ev f y,ev f z with | some a,some b,some c=>RunU P (Instr.mapUpdate t a b c) w λw'=>V undef w' | _,_,_=>False)
 | .entryStore t x y z=>(match ev f x,ev f y,ev f z with | some a,some b,some c=>RunU P (Instr.entryStore t a b c) w λw'=>V undef w' | _,_,_=>False)
 | _=>False
theorem upon_ok {P:Program} {o:Oper} {a:Act} {w w':World} {next:Act->World->Prop} {Q:Exit->Act->World->Prop} {v:Value}
  (h:(execOp a.eval o).run P w=.ok (.value v) w') (hn:next (a.put o.dst v) w'):o.wp P a w next Q:=by
 unfold Oper.wp;rw [h];exact hn
theorem run_newRow' {P:Program} (e:TypeId) (c:Array Value) (w:World):(newRow e c).run P w=.ok ⟨w.heap.size,0,none⟩ (w.alloc (.cells c e)):=rfl
theorem run_buildSlice' {P:Program} {t e:TypeId} {len sz:Nat} {ps:List (Nat×Value)} {z r:List Value} (hu:P.underlying t=some (.slice e)) (hs:szOf P e=some sz) (hz:zeroL P e=some z) (hzs:z.length=sz)
  (hle:len*sz<=16777216) (hfl:fillL (λi=>some (i*sz,sz)) (List.replicate len z).flatten ps=some r) (w:World) :
  (Instr.buildSlice t len ps.toArray).run P w=.ok (.slice (some ⟨w.heap.size,0,none⟩) len len) (w.alloc (.cells r.toArray e)):=by
 obtain ⟨zv,hzc,hzr,_⟩:=run_zero' hz w
 have hn:¬ (len*sz>2 ^ 24):=by omega
 have hfl':=fill_of_fillL (cs:=(List.replicate len z).flatten.toArray) (by simpa using hfl)
 simp only [Instr.buildSlice,Sem.run_bind,run_underlying hu,Result.andThen_ok,run_sizeOf' hs]
 rw [if_neg hn]
 by_cases h0:len*sz=0
 ·have hnil:(List.replicate len z).flatten=[]:=by
   apply List.length_eq_zero_iff.1
   simp [hzs,h0]
  rw [hnil] at hfl'
  rw [if_pos h0]
  simp only [Sem.run_bind,Sem.run_pure,Result.andThen_ok,h0]
  have hr0:∀ g:Nat->Value,(Array.range 0).map g=([]:List Value).toArray:=λg=>by simp
  rw [hr0,hfl']
  rfl
 ·rw [if_neg h0]
  have:=zeros_arr z.toArray len
  simp only [List.size_toArray,hzs] at this
  simp only [Sem.run_bind,hzr,Result.andThen_ok,Sem.run_pure,hzc,List.size_toArray,hzs,this,hfl']
  rfl
theorem i64_wrap {z:Int} (h0:-9223372036854775808<=z) (h1:z<=9223372036854775807):IntKind.i64.wrap z=z:=
 wrap_rng ⟨by simpa [IntKind.min,IntKind.signed,IntKind.bits] using h0,by simpa [IntKind.max,IntKind.signed,IntKind.bits] using h1⟩
theorem run_makeSlice' {P:Program} {t e:TypeId} {sz by':Nat} {z:List Value} {l c:Int} (hu:P.underlying t=some (.slice e)) (hs:szOf P e=some sz) (hb:byOf P e=some by') (hz:zeroL P e=some z) (hzs:z.length=sz)
  (hl:0<=l) (hlc:l<=c) (hc63:c<=9223372036854775807) (hby:(by':Int)*c<=140737488355328) (w:World) :
  (Instr.makeSlice t (.int .i64 l) (.int .i64 c)).run P w=.ok (.slice (some ⟨w.heap.size,0,none⟩) l.toNat c.toNat) (w.alloc (.cells (List.replicate c.toNat z).flatten.toArray e)):=by
 obtain ⟨zv,hzc,hzr,i,hi,_⟩:=run_zero' hz w
 have hbi:i.bytes=by':=by simpa [byOf,hi] using hb
 subst hbi
 have wl:IntKind.i64.wrap l=l:=i64_wrap (by omega) (by omega)
 have wc:IntKind.i64.wrap c=c:=i64_wrap (by omega) hc63
 have hroom:¬ (c.toNat*i.bytes>2 ^ 47):=by
  have h3:((c.toNat*i.bytes:Nat):Int)<=140737488355328:=by
   rw [Int.natCast_mul,Int.toNat_of_nonneg (by omega),Int.mul_comm];exact hby
  omega
 have hc0:¬ ((decide (c<0) || decide ((i.bytes:Int)*c>2 ^ 48)) || decide (l<0) || decide (l>c))=true:=by
  simp only [Bool.or_eq_true,decide_eq_true_eq]
  omega
 simp only [Instr.makeSlice,Sem.run_bind,run_underlying hu,Result.andThen_ok,asInt,asIntOf,Sem.run_pure,typeInfo,program,Sem.run,hi,wl,wc]
 rw [if_neg hc0]
 have har:(askRoom (c.toNat*i.bytes)).run P w=.ok () w:=by
  unfold askRoom roomBytes
  rw [if_neg hroom]
  rfl
 simp only [Sem.run_bind,har,Sem.run_pure,Result.andThen_ok,run_sizeOf' hs]
 by_cases h0:c.toNat*sz=0
 ·have hnil:(List.replicate c.toNat z).flatten=[]:=by
   apply List.length_eq_zero_iff.1
   simp [hzs,h0]
  rw [if_pos h0,hnil]
  simp only [Sem.run_bind,Sem.run_pure,Result.andThen_ok,h0]
  have hr0:∀ g:Nat->Value,(Array.range 0).map g=([]:List Value).toArray:=λg=>by simp
  rw [hr0]
  rfl
 ·rw [if_neg h0]
  have:=zeros_arr z.toArray c.toNat
  simp only [List.size_toArray,hzs] at this
  simp only [Sem.run_bind,hzr,Result.andThen_ok,Sem.run_pure,hzc,List.size_toArray,hzs,this]
  rfl
theorem run_store' {P:Program} {w:World} {b o:Nat} {us:List Value} (hfr:Free w ⟨b,o,none⟩ us.length) (h1:oneAll us):(storeCells ⟨b,o,none⟩ us).run P w=.ok () (w.setCells b o us):=
 run_storeCells_cells (P:=P) b o us 0 w (λj hj=>by have:=(hfr j hj).1;simpa [Addr.add_lit] using this) (λj hj=>by have:=(hfr j hj).2;simpa [Addr.add_lit] using this) h1
theorem run_eBuiltin {P:Program} {b:Builtin} {ts:List TypeId} {vs:List Value} {w:World} {V:Value->World->Prop} (h:eBuiltin P b ts vs w V) :
  ∃ v w',V v w'/\∀ ty cs,(builtin b ts.toArray ty cs vs.toArray).run P w=.ok (.value v) w':=by
 unfold eBuiltin at h
 split at h
 ·rename_i t tx av nv cv x
  split at h
  ·rename_i e hu
   split at h
   ·rename_i sz by' z hs hb hz
    cases hc:Nat.beq z.length sz
    ·simp only [hc,cond_false] at h
    ·simp only [hc,cond_true] at h
     have hzs:=Nat.eq_of_beq_eq_true hc
     have fin:∀ {m:Nat} {news:List Value},Src P sz tx x m news w->AppV w e sz by' av nv cv news m (λa' n' c' w'=>V (.slice a' n' c') w') ->
       ∃ v w',V v w'/\∀ ty cs,(builtin .append [t,tx].toArray ty cs [.slice av nv cv,x].toArray).run P w=.ok (.value v) w':=by
      intro m news hsrc happ
      have hty:∀ ty,∃ a' n' c' w',V (.slice a' n' c') w'/\(Builtin.append_ #[t,tx] ty #[.slice av nv cv,x]).run P w=.ok (.slice a' n' c') w':=λty=>run_appV ty hu hs hb hz hzs hsrc happ
      obtain ⟨a',n',c',w',hk,hr⟩:=hty 0
      exact ⟨_,_,hk,λty cs=>by
       have hr':(Builtin.append_ #[t,tx] ty #[.slice av nv cv,x]).run P w=.ok (.slice a' n' c') w':=hr
       simp only [builtin,Sem.run_bind,hr',Result.andThen_ok,Sem.run_pure]⟩
     unfold AppArg at h
     split at h
     ·rename_i e' b m c' hux
      obtain ⟨news,hl,hrd,happ⟩:=h
      refine fin ?_ happ
      have h1:=happ.2.1
      rcases hrd with ⟨rfl,rfl⟩ | ⟨p,rfl,hcs⟩
      ·exact ⟨.inl ⟨_,hux⟩,λ_=>rfl,run_firstCells_none w sz m m c',run_firstCells_none w.drew sz m m c',hl,h1⟩
      ·exact Src.ofSlice w hux p m c' news hl hcs h1
     ·rename_i z' hux
      obtain ⟨rfl,happ⟩:=h
      exact fin (Src.ofString w hux _) happ
     ·exact h.elim
   ·exact h.elim
  ·exact h.elim
 ·rename_i t tx av nv cv b m cm
  split at h
  ·rename_i e hu
   split at h
   ·rename_i sz hs
    obtain ⟨us,hl,hrd,h1,hfree⟩:=h
    have hfirst:(Builtin.firstCells sz (Nat.min m nv) (.slice b m cm)).run P w=.ok us.toArray w:=by
     rcases hrd with ⟨rfl,rfl⟩ | ⟨p,rfl,hcs⟩
     ·exact run_firstCells_none w sz (Nat.min m nv) m cm
     ·exact run_firstCells_some w sz (Nat.min m nv) p m cm us hl hcs
    have hcopy:∀ ty w',((match av with | some p=>storeCells p us | none=>pure ()):Sem Unit).run P w=.ok () w' ->
      (Builtin.copy_ #[t,tx] ty #[.slice av nv cv,.slice b m cm]).run P w=.ok (.int .i64 (Nat.min m nv:Nat)) w':=by
     intro ty w' hst
     cases av with
     | none=>
      have:w'=w:=by simpa [Sem.run_pure] using hst.symm
      subst this
      simp only [Builtin.copy_,Sem.run_bind,run_underlying hu,Result.andThen_ok,run_sizeOf' hs,Builtin.lenOf,Sem.run_pure]
      simp [hfirst,run_underlying hu,run_sizeOf' hs,goInt]
     | some p=>
      simp [Builtin.copy_,run_underlying hu,run_sizeOf' hs,Builtin.lenOf,hfirst,hst,goInt]
    rcases hfree with ⟨rfl,hk⟩ | ⟨⟨pb,po,ps⟩,rfl,hsp,hfr,hk⟩
    ·refine ⟨_,_,hk,λty cs=>?_⟩
     simp only [builtin,Sem.run_bind]
     rw [hcopy ty w (by cases av <;> rfl)]
     rfl
    ·simp only at hsp
     subst hsp
     refine ⟨_,_,hk _ rfl,λty cs=>?_⟩
     simp only [builtin,Sem.run_bind]
     rw [hcopy ty _ (run_store' hfr h1)]
     rfl
   ·exact h.elim
  ·exact h.elim
 ·rename_i t av nv cv
  split at h
  ·rename_i e hu
   split at h
   ·rename_i z hz
    obtain ⟨h1,hfree⟩:=h
    obtain ⟨zv,hzc,hzr,_⟩:=run_zero' hz w
    have hzero:(Builtin.zeroCells zv.cells nv).toList=(List.replicate nv z).flatten:=by
     unfold Builtin.zeroCells
     rw [hzc,zeros_arr z.toArray nv]
    have hone:oneAll (List.replicate nv z).flatten:=by
     intro u hu
     obtain ⟨l,hl,hul⟩:=List.mem_flatten.1 hu
     rw [(List.mem_replicate.1 hl).2] at hul
     exact h1 u hul
    have hclear:∀ ty w',((match av with | some p=>storeCells p (List.replicate nv z).flatten | none=>pure ()):Sem Unit).run P w=.ok () w' ->
      (Builtin.clear_ #[t] ty #[.slice av nv cv]).run P w=.ok (.tuple #[]) w':=by
     intro ty w' hst
     cases av with
     | none=>
      have:w'=w:=by simpa [Sem.run_pure] using hst.symm
      subst this
      simp [Builtin.clear_,run_underlying hu]
     | some p=>
      cases nv with
      | zero=>
       have:w'=w:=by simpa [Sem.run_pure,storeCells] using hst.symm
       subst this
       simp [Builtin.clear_,run_underlying hu]
      | succ nv=>simp [Builtin.clear_,run_underlying hu,hzr,hzero,hst]
    rcases hfree with ⟨h0,hk⟩ | ⟨⟨pb,po,ps⟩,rfl,hsp,hfr,hk⟩
    ·refine ⟨_,_,hk,λty cs=>?_⟩
     simp only [builtin,Sem.run_bind]
     rw [hclear ty w (by cases av <;> first | rfl | (simp only [h0];rfl))]
     rfl
    ·simp only at hsp
     subst hsp
     refine ⟨_,_,hk _ rfl,λty cs=>?_⟩
     simp only [builtin,Sem.run_bind]
     rw [hclear ty _ (run_store' hfr hone)]
     rfl
   ·exact h.elim
  ·exact h.elim
 ·obtain ⟨w',hr,hk⟩:=h
  refine ⟨_,_,hk,λty cs=>?_⟩
  simp only [builtin,Sem.run_bind,hr ty,Result.andThen_ok,Sem.run_pure]
 ·exact h.elim
theorem eOp.sound {P:Program} {ok:FuncId->Bool} (hok:∀ g,ok g=true->∀ args w,(callFunc g args).run P w=.ok (.enter g args) w) {o:Oper} {f:PF} {n:Nat} {a:Act} (hf:Fits n f a) {w:World} {V:Value->World->Prop}
  {next:Act->World->Prop} {Q:Exit->Act->World->Prop} (hV:∀ v w',V v w'->next (a.put o.dst v) w') (h:eOp P ok o.op o.type f w V):o.wp P a w next Q:=by
 obtain ⟨dst,op,ty,pos,after,guard⟩:=o
 simp only at h hV
 unfold eOp at h
 split at h
 ·rename_i e
  split at h
  ·rename_i z hz
   obtain ⟨zv,hzc,hzr,_⟩:=run_zero' hz w
   refine upon_ok (w':=w.alloc (.cells z.toArray e)) ?_ (hV _ _ (h _ _ rfl rfl))
   simp only [execOp,Instr.alloc,Sem.run_bind,hzr,Result.andThen_ok,newVar,run_newRow',hzc]
   rfl
  ·exact h.elim
 ·rename_i e x
  split at h
  ·rename_i v he
   refine upon_ok (w':=w.alloc (.cells v.cells e)) ?_ (hV _ _ (h _ _ rfl rfl))
   simp only [execOp,Instr.box,Sem.run_bind,hf.ev he,Result.andThen_ok,newVar,run_newRow']
   rfl
  ·exact h.elim
 ·rename_i t len parts
  split at h
  ·rename_i e ps hu he
   split at h
   ·rename_i sz z hs hz
    cases hc:(Nat.beq z.length sz && Nat.ble (len*sz) 16777216)
    ·simp only [hc,cond_false] at h
    ·simp only [hc,cond_true] at h
     simp only [Bool.and_eq_true] at hc
     have hzs:=Nat.eq_of_beq_eq_true hc.1
     have hle:=Nat.le_of_ble_eq_true hc.2
     split at h
     ·rename_i r hfl
      refine upon_ok (w':=w.alloc (.cells r.toArray e)) ?_ (hV _ _ (h _ _ rfl rfl))
      have e1:parts.map (λ(x:Nat×Operand)=>(x.1,a.eval x.2))=ps.toArray:=by apply Array.ext';rw [Array.toList_map];exact hf.evP he
      have e2:(parts.map λx=>match x with | (i,x)=>(i,a.eval x))=ps.toArray:=e1
      simp only [execOp,e2,Sem.run_bind,run_buildSlice' hu hs hz hzs hle hfl,Result.andThen_ok,Sem.run_pure]
     ·exact h.elim
   ·exact h.elim
  ·exact h.elim
 ·rename_i t x y
  split at h
  ·rename_i pa v n' h1 h2 hs
   obtain ⟨p,rfl,hp2⟩:=h.out
   have h:=hp2
   cases hc:(Nat.beq v.cells.toList.length n' && v.cells.toList.all (·.oneCell'))
   ·simp only [hc,cond_false] at h
   ·simp only [hc,cond_true] at h
    simp only [Bool.and_eq_true] at hc
    have hl:=Nat.eq_of_beq_eq_true hc.1
    obtain ⟨hsp,hfree,hk⟩:=h
    obtain ⟨b,off,sp⟩:=p
    simp only at hsp
    subst hsp
    have hst:=run_storeCells_cells (P:=P) b off v.cells.toList 0 w (λj hj=>by have:=(hfree j hj).1;simpa [Addr.add_lit] using this) (λj hj=>by have:=(hfree j hj).2;simpa [Addr.add_lit] using this)
     (λu hu=>List.all_eq_true.1 hc.2 u hu)
    unfold Oper.wp
    have hr:(execOp a.eval ⟨dst,.store t x y,ty,pos,after,guard⟩).run P w=.ok .skip (w.setCells b off v.cells.toList):=by
     simp only [execOp,hf.ev h1,hf.ev h2,Instr.storeAt,Instr.sureAddr,storeVar,Sem.run_bind,Sem.run_pure,Result.andThen_ok,run_sizeOf' hs]
     rw [if_neg (by simpa using hl)]
     simp only [hst,Nat.add_zero]
     rfl
    rw [hr]
    exact hV _ _ (hk _ rfl)
  ·exact h.elim
 ·rename_i t xl xc
  split at h
  ·rename_i e l c hu h1 h2
   unfold MkV at h
   split at h
   ·rename_i sz by' z hs hb hz
    cases hc:Nat.beq z.length sz
    ·simp only [hc,cond_false] at h
    ·simp only [hc,cond_true] at h
     have hzs:=Nat.eq_of_beq_eq_true hc
     obtain ⟨⟨hl,hlc,hc63,hby⟩,hk⟩:=h
     refine upon_ok (w':=w.alloc (.cells (List.replicate c.toNat z).flatten.toArray e)) ?_ (hV _ _ (hk _ _ rfl rfl))
     simp only [execOp,hf.ev h1,hf.ev h2,Sem.run_bind,run_makeSlice' hu hs hb hz hzs hl hlc hc63 hby,Result.andThen_ok,Sem.run_pure]
   ·exact h.elim
  ·exact h.elim
 ·rename_i g args ts
  split at h
  ·rename_i g' first cap vs h1 h2
   cases hg:ok g'
   ·simp only [hg,cond_false] at h
   ·simp only [hg,cond_true] at h
    have e1:args.map a.eval=vs.toArray:=by apply Array.ext';rw [Array.toList_map];exact hf.evL h2
    unfold Oper.wp
    have hr:(execOp a.eval ⟨dst,.call ⟨.value g,args,ts⟩,ty,pos,after,guard⟩).run P w=.ok (.enter g' (first.toList++(vs++cap.toList)).toArray) w:=by
     simp only [execOp,resolve,hf.ev h1,e1,Deferred.ofValue,Sem.run_bind,Sem.run_pure,Result.andThen_ok,invoke]
     rw [hok g' hg]
     congr 2
     apply Array.ext'
     simp
    rw [hr]
    exact Calls.mono h λe w' ⟨x,he,hx⟩=>by subst he;exact hV _ _ hx
  ·exact h.elim
 ·rename_i b args ts
  split at h
  ·rename_i vs he
   have e1:args.map a.eval=vs.toArray:=by apply Array.ext';rw [Array.toList_map];exact hf.evL he
   obtain ⟨v,w',hv,hr⟩:=run_eBuiltin h
   refine upon_ok (w':=w') (v:=v) ?_ (hV _ _ hv)
   simp only [execOp,resolve,e1,Sem.run_bind,Sem.run_pure,Result.andThen_ok,invoke]
   exact hr _ _
  ·exact h.elim
 ·rename_i t
  refine upon_ok (w':=w.alloc (.map #[] 0)) (v:=.map (some w.heap.size)) ?_ (hV _ _ (h _ _ rfl rfl))
  rfl
 ·rename_i t x
  split at h
  ·rename_i k1 k2 n' hu h1
   refine upon_ok (w':=w.alloc (.map #[] 0)) (v:=.map (some w.heap.size)) ?_ (hV _ _ (h _ _ rfl rfl))
   simp only [execOp,Instr.makeMap,Option.map_some,hf.ev h1,Sem.run_bind,run_underlying hu,Result.andThen_ok,asInt,Sem.run_pure]
   rfl
  ·exact h.elim
 ·rename_i t x ix c
  split at h
  ·rename_i a' b' h1 h2
   obtain ⟨y,w',hr,hk⟩:=h
   refine upon_ok (w':=w') (v:=packV _ y) ?_ (hV _ _ hk)
   simp only [execOp,hf.ev h1,hf.ev h2,Sem.run_bind,hr,Result.andThen_ok,Sem.run_pure]
  ·exact h.elim
 ·rename_i t x ix
  split at h
  ·rename_i e1 e2 a' b' hu h1 h2
   obtain ⟨y,w',hr,hk⟩:=h
   refine upon_ok (w':=w') (v:=packV _ y) ?_ (hV _ _ hk)
   simp only [execOp,hf.ev h1,hf.ev h2,Sem.run_bind,hr,Result.andThen_ok,Sem.run_pure]
  ·exact h.elim
 ·rename_i t x ix y
  split at h
  ·rename_i a' b' c' h1 h2 h3
   obtain ⟨w',hr,hk⟩:=h
   unfold Oper.wp
   have hr':(execOp a.eval ⟨dst,.mapUpdate t x ix y,ty,pos,after,guard⟩).run P w=.ok .skip w':=by
    simp only [execOp,hf.ev h1,hf.ev h2,hf.ev h3,Sem.run_bind,hr,Result.andThen_ok,Sem.run_pure]
   rw [hr']
   exact hV _ _ hk
  ·exact h.elim
 ·rename_i t x ix y
  split at h
  ·rename_i a' b' c' h1 h2 h3
   obtain ⟨w',hr,hk⟩:=h
   unfold Oper.wp
   have hr':(execOp a.eval ⟨dst,.entryStore t x ix y,ty,pos,after,guard⟩).run P w=.ok .skip w':=by
    simp only [execOp,hf.ev h1,hf.ev h2,hf.ev h3,Sem.run_bind,hr,Result.andThen_ok,Sem.run_pure]
   rw [hr']
   exact hV _ _ hk
  ·exact h.elim
 ·exact h.elim
def isEff:Op->Bool
 | .alloc _=>true
 | .box _ _=>true
 | .buildSlice _ _ _=>true
 | .store _ _ _=>true
 | .makeSlice _ _ _=>true
 | .call ⟨.value _,_,_⟩=>true
 | .call ⟨.builtin .append,_,_⟩=>true
 | .call ⟨.builtin .copy,_,_⟩=>true
 | .call ⟨.builtin .clear,_,_⟩=>true
 | .call ⟨.builtin .delete,_,_⟩=>true
 | .makeMap _ _=>true
 | .lookup _ _ _ _=>true
 | .mapEntry _ _ _=>true
 | .mapUpdate _ _ _ _=>true
 | .entryStore _ _ _ _=>true
 | _=>false
def opK (P:Program) (ok:FuncId->Bool) (wr:Bool) (n:Nat) (o:Oper) (f:PF) (w:World) (K:PF->World->Prop):Prop:=
 cond (isEff o.op) (eOp P ok o.op o.type f w λv w'=>setK n f o.dst v λf'=>K f' w') (rOp P wr o.op f Grd.no w λv=>setK n f o.dst v λf'=>K f' w)
abbrev OkCalls (P:Program) (ok:FuncId->Bool):Prop:=∀ g,ok g=true->∀ args w,(callFunc g args).run P w=.ok (.enter g args) w
theorem opK.sound {P:Program} {ok:FuncId->Bool} (hok:OkCalls P ok) {wr:Bool} {n:Nat} {o:Oper} {f:PF} {a:Act} (hf:Fits n f a) {w:World} {K:PF->World->Prop} {Q:Exit->Act->World->Prop} (h:opK P ok wr n o f w K) :
  o.wp P a w (λa' w'=>∃ f' v,Fits n f' a'/\K f' w'/\a'=a.put o.dst v) Q:=by
 unfold opK at h
 cases he:isEff o.op
 ·rw [he] at h
  obtain ⟨v,hv,hr⟩:=rOp.sound hf h (S:=λw'=>w'=w) ⟨w,rfl⟩ (λw' e=>by subst e;exact Grd.Ok.no _)
  obtain ⟨f',hf',hk⟩:=setK.out hf hv
  exact upon_ok (hr w rfl) ⟨f',v,hf',hk,rfl⟩
 ·rw [he] at h
  simp only [cond_true] at h
  refine eOp.sound hok hf (V:=λv w'=>setK n f o.dst v λf'=>K f' w') (λv w' hv=>?_) h
  obtain ⟨f',hf',hk⟩:=setK.out hf hv
  exact ⟨f',v,hf',hk,rfl⟩
theorem Fits.over {n:Nat} {f:PF} {a:Act} (h:Fits n f a) {t:Nat} {v:Value} (ht:a.tmps[t]? = some v):Fits n (f.put t v) a:=by
 refine ⟨h.size,h.defers,λi u hu=>?_⟩
 unfold PF.put at hu
 cases hb:Nat.beq i t
 ·rw [hb] at hu;exact h.get i u hu
 ·rw [hb] at hu
  simp only [cond_true,Option.some.injEq] at hu
  rw [Nat.eq_of_beq_eq_true hb,<- hu]
  exact ht
def gK (ops:List Oper) (g:Option (Nat×Bool)) (f:PF) (K:Bool->PF->Prop):Prop:=
 match g with
 | none=>K true f
 | some (j,want)=>
  match (ops[j]?).bind (·.dst) with
  | none=>K false f
  | some t=>
   match f t with
   | some (.bool b)=>cond b (K want (f.put t (.bool true))) (K (!want) (f.put t (.bool false)))
   | some (.tuple _)=>K false f
   | _=>False
theorem gK.sound {ops:Array Oper} {o:Oper} {n:Nat} {f:PF} {a:Act} (hf:Fits n f a) {K:Bool->PF->Prop} (h:gK ops.toList o.guard f K) :
  ∃ r f',Fits n f' a/\K r f'/\Region.wanted o (yielded ops a.tmps)=r:=by
 unfold gK at h
 split at h
 ·rename_i hg
  exact ⟨true,f,hf,h,by simp [Region.wanted,hg]⟩
 ·rename_i j want hg
  have hy:yielded ops a.tmps j=match ((ops.toList[j]?).bind (·.dst)).bind (a.tmps[·]?) with | some (.bool b)=>some b | _=>none:=by
   unfold yielded;rw [<-Array.getElem?_toList];rfl
  split at h
  ·rename_i hd
   refine ⟨false,f,hf,h,?_⟩
   simp only [Region.wanted,hg,hy,hd,Option.bind_none]
   rfl
  ·rename_i t hd
   split at h
   ·rename_i b hb
    have ht:=hf.get _ _ hb
    have hr:Region.wanted o (yielded ops a.tmps)=(some b == some want):=by
     simp only [Region.wanted,hg,hy,hd,Option.bind_some,ht]
    cases b
    ·exact ⟨_,_,hf.over ht,h,by rw [hr];cases want <;> rfl⟩
    ·exact ⟨_,_,hf.over ht,h,by rw [hr];cases want <;> rfl⟩
   ·rename_i vs hb
    have ht:=hf.get _ _ hb
    refine ⟨false,f,hf,h,?_⟩
    simp only [Region.wanted,hg,hy,hd,Option.bind_some,ht]
    rfl
   ·exact h.elim
def Same (ws:Nat->Bool) (a0 a:Act):Prop:=∀ i,ws i=false->a.tmps[i]? = a0.tmps[i]?
theorem Same.refl (ws:Nat->Bool) (a:Act):Same ws a a:=λ_ _=>rfl
def dstIn (ws:Nat->Bool) (d:Option Nat):Bool:=match d with | some d=>ws d | none=>true
theorem Same.put {ws:Nat->Bool} {a0 a:Act} (h:Same ws a0 a) {d:Option Nat} (hd:dstIn ws d=true) (v:Value):Same ws a0 (a.put d v):=by
 cases d with
 | none=>exact h
 | some d=>
  intro i hi
  simp only [Act.put]
  rw [Array.getElem?_setIfInBounds,if_neg (λe=>by subst e;simp only [dstIn] at hd;rw [hd] at hi;cases hi)]
  exact h i hi
def vcOps (P:Program) (ok:FuncId->Bool) (wr:Bool) (n:Nat) (ops:List Oper) (K:PF->World->Prop):List Oper->PF->World->Prop
 | [],f,w=>K f w
 | o::rest,f,w=>gK ops o.guard f λr f'=>
   cond r (opK P ok wr n o f' w λf'' w'=>vcOps P ok wr n ops K rest f'' w') (setK n f' o.dst undef λf''=>vcOps P ok wr n ops K rest f'' w)
theorem vcOps.sound {P:Program} {ok:FuncId->Bool} (hok:OkCalls P ok) {wr:Bool} {n:Nat} {ops:Array Oper} {K:PF->World->Prop} {Q:Exit->Act->World->Prop} {ws:Nat->Bool} {a0:Act}
  (hQ:∀ f' a' w',Fits n f' a'->K f' w'->Same ws a0 a'->Q .normal a' w') :
  ∀ (l:List Oper),(l.all λo=>dstIn ws o.dst)=true->∀ {f:PF} {a:Act} {w:World},Fits n f a->Same ws a0 a->vcOps P ok wr n ops.toList K l f w->wpList P ops Q l a w
 | [],_,f,a,w,hf,hs,h=>hQ _ _ _ hf h hs
 | o::rest,hw,f,a,w,hf,hs,h=>by
  simp only [List.all_cons,Bool.and_eq_true] at hw
  simp only [vcOps] at h
  obtain ⟨r,f1,hf1,h1,hr⟩:=gK.sound hf h
  unfold wpList
  rw [hr]
  cases r
  ·simp only [cond_false,Bool.false_eq_true,if_false] at h1 ⊢
   obtain ⟨f2,hf2,h2⟩:=setK.out hf1 h1
   exact vcOps.sound hok hQ rest hw.2 hf2 (hs.put hw.1 _) h2
  ·simp only [cond_true,if_true] at h1 ⊢
   refine .inl (Oper.wp_mono ?_ (opK.sound hok hf1 h1))
   rintro a' w' ⟨f2,v,hf2,h2,rfl⟩
   exact vcOps.sound hok hQ rest hw.2 hf2 (hs.put hw.1 _) h2
def KeepOn (D:Nat->Prop) (w w':World):Prop:=∀ k,D k->w'.heap[k]? = w.heap[k]?
inductive Plan where
 | done
 | take (i:Nat) (p:Plan)
 | eff (i:Nat) (p:Plan)
 | base (p:Plan)
 | both (i:Nat) (p:Plan) (j:Nat) (q:Plan)
 | three (i:Nat) (p:Plan) (j:Nat) (q:Plan) (m:Nat) (r:Plan)
def Plan.size:Plan->Nat
 | .done=>0
 | .take _ p=>p.size+1
 | .eff _ p=>p.size+1
 | .base p=>p.size
 | .both _ p _ q=>max p.size q.size+1
 | .three _ p _ q _ r=>max p.size (max q.size r.size)+1
def vcPlan (P:Program) (ok:FuncId->Bool) (wr:Bool) (n:Nat) (ops:Array Oper) (K:PF->World->Prop):Plan->(World->Prop)->World->(Nat->Prop)->Array Bool->PF->World->Prop
 | .done,_,_,_,l,f,w=>cond (Region.ready .any ops l).isEmpty (K f w) False
 | .take i p,S,w0,D,l,f,w=>
  match ops.toList[i]? with
  | none=>False
  | some o=>
   cond (Region.free .any ops l i && (Region.ready .any ops l).contains i)
    (gK ops.toList o.guard f λr f'=>
     cond r (rOp P wr o.op f' (Grd.on D) w0 λv=>setK n f' o.dst v λf''=>vcPlan P ok wr n ops K p S w0 D (l.setIfInBounds i true) f'' w)
      (setK n f' o.dst undef λf''=>vcPlan P ok wr n ops K p S w0 D (l.setIfInBounds i true) f'' w)) False
 | .eff i p,S,w0,D,l,f,w=>
  match ops.toList[i]? with
  | none=>False
  | some o=>
   cond (Region.ready .any ops l == [i])
    (gK ops.toList o.guard f λr f'=>
     cond r (opK P ok wr n o f' w λf'' w'=>S w'/\vcPlan P ok wr n ops K p S w0 D (l.setIfInBounds i true) f'' w')
      (setK n f' o.dst undef λf''=>vcPlan P ok wr n ops K p S w0 D (l.setIfInBounds i true) f'' w)) False
 | .both i p j q,S,w0,D,l,f,w=>
  match ops.toList[i]?,ops.toList[j]? with
  | some o,some o'=>
   cond (Region.ready .any ops l == [i,j])
    ((gK ops.toList o.guard f λr f'=>
     cond r (opK P ok wr n o f' w λf'' w'=>S w'/\vcPlan P ok wr n ops K p S w0 D (l.setIfInBounds i true) f'' w')
      (setK n f' o.dst undef λf''=>vcPlan P ok wr n ops K p S w0 D (l.setIfInBounds i true) f'' w)) /\
    (gK ops.toList o'.guard f λr f'=>
     cond r (opK P ok wr n o' f' w λf'' w'=>S w'/\vcPlan P ok wr n ops K q S w0 D (l.setIfInBounds j true) f'' w')
      (setK n f' o'.dst undef λf''=>vcPlan P ok wr n ops K q S w0 D (l.setIfInBounds j true) f'' w))) False
  | _,_=>False
 | .three i p j q m r,S,w0,D,l,f,w=>
  match ops.toList[i]?,ops.toList[j]?,ops.toList[m]? with
  | some o,some o',some o2=>
   cond (Region.ready .any ops l == [i,j,m])
    ((gK ops.toList o.guard f λb f'=>
     cond b (opK P ok wr n o f' w λf'' w'=>S w'/\vcPlan P ok wr n ops K p S w0 D (l.setIfInBounds i true) f'' w')
      (setK n f' o.dst undef λf''=>vcPlan P ok wr n ops K p S w0 D (l.setIfInBounds i true) f'' w)) /\
    (gK ops.toList o'.guard f λb f'=>
     cond b (opK P ok wr n o' f' w λf'' w'=>S w'/\vcPlan P ok wr n ops K q S w0 D (l.setIfInBounds j true) f'' w')
      (setK n f' o'.dst undef λf''=>vcPlan P ok wr n ops K q S w0 D (l.setIfInBounds j true) f'' w)) /\
    (gK ops.toList o2.guard f λb f'=>
     cond b (opK P ok wr n o2 f' w λf'' w'=>S w'/\vcPlan P ok wr n ops K r S w0 D (l.setIfInBounds m true) f'' w')
      (setK n f' o2.dst undef λf''=>vcPlan P ok wr n ops K r S w0 D (l.setIfInBounds m true) f'' w))) False
  | _,_,_=>False
 | .base p,S,w0,D,l,f,w=>∃ D':Nat->Prop,vcPlan P ok wr n ops K p (λw'=>S w'/\KeepOn D' w w') w D' l f w
theorem wpAnyH_mono {P:Program} {md:Region.Mode} {ops:Array Oper} {Q:Exit->Act->World->Prop} {S S':World->Prop} (hS:∀ w,S' w->S w) :
  ∀ (fuel:Nat) (l:Array Bool) (a:Act) (w:World),wpAnyH P md ops Q S' fuel l a w->wpAnyH P md ops Q S fuel l a w
 | 0,_,_,_,h=>h
 | fuel+1,l,a,w,h=>⟨h.1,λi hi=>wpOp_mono (λa' w' h'=>⟨hS _ h'.1,wpAnyH_mono hS fuel _ _ _ h'.2⟩) (h.2 i hi)⟩
theorem vcPlan.sound {P:Program} {ok:FuncId->Bool} (hok:OkCalls P ok) {wr:Bool} {n:Nat} {ops:Array Oper} {K:PF->World->Prop} {Q:Exit->Act->World->Prop} {ws:Nat->Bool} {a0:Act}
  (hQ:∀ f' a' w',Fits n f' a'->K f' w'->Same ws a0 a'->Q .normal a' w') (hQp:∀ c a w,¬ Q (.panic c) a w) (hsel:Region.noSelect ops=true) (hw:(ops.toList.all λo=>dstIn ws o.dst)=true) :
  ∀ (p:Plan) (S:World->Prop) (w0:World) (D:Nat->Prop) (fuel:Nat) (l:Array Bool) (f:PF) (a:Act) (w:World),p.size<=fuel->S w->(∀ w,S w->(Grd.on D).Ok w0 w)->Fits n f a->Same ws a0 a ->
   vcPlan P ok wr n ops K p S w0 D l f w->wpAnyH P .any ops Q S fuel l a w:=by
 have hdst:∀ {i:Nat} {o:Oper},ops.toList[i]? = some o->dstIn ws o.dst=true:=λho=>List.all_eq_true.1 hw _ (List.mem_of_getElem? ho)
 intro p
 induction p with
 | done=>
  intro S w0 D fuel l f a w _ hS hG hf hs h
  simp only [vcPlan] at h
  cases hr:(Region.ready .any ops l).isEmpty
  ·rw [hr] at h;exact h.elim
  ·rw [hr] at h
   exact wpAnyH_done (List.isEmpty_iff.1 hr) (hQ _ _ _ hf h hs) fuel
 | take i p ih=>
  intro S w0 D fuel l f a w hfu hS hG hf hs h
  simp only [vcPlan] at h
  split at h
  ·exact h.elim
  ·rename_i o ho
   have ho':ops[i]? = some o:=by simpa using ho
   cases hc:(Region.free .any ops l i && (Region.ready .any ops l).contains i)
   ·rw [hc] at h;exact h.elim
   ·rw [hc] at h
    simp only [Bool.and_eq_true,cond_true] at hc h
    obtain ⟨r,f1,hf1,h1,hr⟩:=gK.sound hf h
    cases fuel with
    | zero=>simp [Plan.size] at hfu
    | succ fuel=>
     have hfu':p.size<=fuel:=by simp [Plan.size] at hfu;omega
     cases r
     ·simp only [cond_false] at h1
      obtain ⟨f2,hf2,h2⟩:=setK.out hf1 h1
      exact wpAnyH_take ho' hsel hc.1 hc.2 (λc a w h=>absurd h (hQp c _ _)) (.inr ⟨hr,rfl⟩) hS (ih S w0 D fuel _ f2 _ w hfu' hS hG hf2 (hs.put (hdst ho) _) h2)
     ·simp only [cond_true] at h1
      obtain ⟨v,hv,hrun⟩:=rOp.sound hf1 h1 ⟨w,hS⟩ hG
      obtain ⟨f2,hf2,h2⟩:=setK.out hf1 hv
      exact wpAnyH_take ho' hsel hc.1 hc.2 (λc a w h=>absurd h (hQp c _ _)) (.inl ⟨hr,hrun⟩) hS (ih S w0 D fuel _ f2 _ w hfu' hS hG hf2 (hs.put (hdst ho) _) h2)
 | eff i p ih=>
  intro S w0 D fuel l f a w hfu hS hG hf hs h
  simp only [vcPlan] at h
  split at h
  ·exact h.elim
  ·rename_i o ho
   have ho':ops[i]? = some o:=by simpa using ho
   cases hc:(Region.ready .any ops l == [i])
   ·rw [hc] at h;exact h.elim
   ·rw [hc] at h
    simp only [cond_true] at h
    have hc:=eq_of_beq hc
    obtain ⟨r,f1,hf1,h1,hr⟩:=gK.sound hf h
    cases fuel with
    | zero=>simp [Plan.size] at hfu
    | succ fuel=>
     have hfu':p.size<=fuel:=by simp [Plan.size] at hfu;omega
     refine wpAnyH_all hc (by simp) λi' hi'=>?_
     have:i'=i:=by simpa using hi'
     subst this
     unfold wpOp
     simp only [ho',hr]
     cases r
     ·simp only [cond_false,Bool.false_eq_true,if_false] at h1 ⊢
      obtain ⟨f2,hf2,h2⟩:=setK.out hf1 h1
      exact ⟨hS,ih S w0 D fuel _ f2 _ w hfu' hS hG hf2 (hs.put (hdst ho) _) h2⟩
     ·simp only [cond_true,if_true] at h1 ⊢
      refine .inl (Oper.wp_mono ?_ (opK.sound hok hf1 h1))
      rintro a' w' ⟨f2,v,hf2,⟨hS',h2⟩,rfl⟩
      exact ⟨hS',ih S w0 D fuel _ f2 _ w' hfu' hS' hG hf2 (hs.put (hdst ho) _) h2⟩
 | both i p j q ih1 ih2=>
  intro S w0 D fuel l f a w hfu hS hG hf hs h
  simp only [vcPlan] at h
  split at h
  ·rename_i o o' ho hoj
   have ho':ops[i]? = some o:=by simpa using ho
   have hoj':ops[j]? = some o':=by simpa using hoj
   cases hc:(Region.ready .any ops l == [i,j])
   ·rw [hc] at h;exact h.elim
   ·rw [hc] at h
    simp only [cond_true] at h
    have hc:=eq_of_beq hc
    obtain ⟨ha,hb⟩:=h
    cases fuel with
    | zero=>simp [Plan.size] at hfu
    | succ fuel=>
     have hfu1:p.size<=fuel:=by simp [Plan.size] at hfu;omega
     have hfu2:q.size<=fuel:=by simp [Plan.size] at hfu;omega
     refine wpAnyH_all hc (by simp) λi' hi'=>?_
     rcases List.mem_cons.1 hi' with rfl | hi'
     ·obtain ⟨r,f1,hf1,h1,hr⟩:=gK.sound hf ha
      unfold wpOp
      simp only [ho',hr]
      cases r
      ·simp only [cond_false,Bool.false_eq_true,if_false] at h1 ⊢
       obtain ⟨f2,hf2,h2⟩:=setK.out hf1 h1
       exact ⟨hS,ih1 S w0 D fuel _ f2 _ w hfu1 hS hG hf2 (hs.put (hdst ho) _) h2⟩
      ·simp only [cond_true,if_true] at h1 ⊢
       refine .inl (Oper.wp_mono ?_ (opK.sound hok hf1 h1))
       rintro a' w' ⟨f2,v,hf2,⟨hS',h2⟩,rfl⟩
       exact ⟨hS',ih1 S w0 D fuel _ f2 _ w' hfu1 hS' hG hf2 (hs.put (hdst ho) _) h2⟩
     ·have:i'=j:=by simpa using hi'
      subst this
      obtain ⟨r,f1,hf1,h1,hr⟩:=gK.sound hf hb
      unfold wpOp
      simp only [hoj',hr]
      cases r
      ·simp only [cond_false,Bool.false_eq_true,if_false] at h1 ⊢
       obtain ⟨f2,hf2,h2⟩:=setK.out hf1 h1
       exact ⟨hS,ih2 S w0 D fuel _ f2 _ w hfu2 hS hG hf2 (hs.put (hdst hoj) _) h2⟩
      ·simp only [cond_true,if_true] at h1 ⊢
       refine .inl (Oper.wp_mono ?_ (opK.sound hok hf1 h1))
       rintro a' w' ⟨f2,v,hf2,⟨hS',h2⟩,rfl⟩
       exact ⟨hS',ih2 S w0 D fuel _ f2 _ w' hfu2 hS' hG hf2 (hs.put (hdst hoj) _) h2⟩
  ·exact h.elim
 | three i p j q m r ih1 ih2 ih3=>
  intro S w0 D fuel l f a w hfu hS hG hf hs h
  simp only [vcPlan] at h
  split at h
  ·rename_i o o' o2 ho hoj hom
   have ho':ops[i]? = some o:=by simpa using ho
   have hoj':ops[j]? = some o':=by simpa using hoj
   have hom':ops[m]? = some o2:=by simpa using hom
   cases hc:(Region.ready .any ops l == [i,j,m])
   ·rw [hc] at h;exact h.elim
   ·rw [hc] at h
    simp only [cond_true] at h
    have hc:=eq_of_beq hc
    obtain ⟨ha,hb,hm⟩:=h
    cases fuel with
    | zero=>simp [Plan.size] at hfu
    | succ fuel=>
     have hfu1:p.size<=fuel:=by simp [Plan.size] at hfu;omega
     have hfu2:q.size<=fuel:=by simp [Plan.size] at hfu;omega
     have hfu3:r.size<=fuel:=by simp [Plan.size] at hfu;omega
     refine wpAnyH_all hc (by simp) λi' hi'=>?_
     rcases List.mem_cons.1 hi' with rfl | hi'
     ·obtain ⟨b,f1,hf1,h1,hr⟩:=gK.sound hf ha
      unfold wpOp
      simp only [ho',hr]
      cases b
      ·simp only [cond_false,Bool.false_eq_true,if_false] at h1 ⊢
       obtain ⟨f2,hf2,h2⟩:=setK.out hf1 h1
       exact ⟨hS,ih1 S w0 D fuel _ f2 _ w hfu1 hS hG hf2 (hs.put (hdst ho) _) h2⟩
      ·simp only [cond_true,if_true] at h1 ⊢
       refine .inl (Oper.wp_mono ?_ (opK.sound hok hf1 h1))
       rintro a' w' ⟨f2,v,hf2,⟨hS',h2⟩,rfl⟩
       exact ⟨hS',ih1 S w0 D fuel _ f2 _ w' hfu1 hS' hG hf2 (hs.put (hdst ho) _) h2⟩
     rcases List.mem_cons.1 hi' with rfl | hi'
     ·obtain ⟨b,f1,hf1,h1,hr⟩:=gK.sound hf hb
      unfold wpOp
      simp only [hoj',hr]
      cases b
      ·simp only [cond_false,Bool.false_eq_true,if_false] at h1 ⊢
       obtain ⟨f2,hf2,h2⟩:=setK.out hf1 h1
       exact ⟨hS,ih2 S w0 D fuel _ f2 _ w hfu2 hS hG hf2 (hs.put (hdst hoj) _) h2⟩
      ·simp only [cond_true,if_true] at h1 ⊢
       refine .inl (Oper.wp_mono ?_ (opK.sound hok hf1 h1))
       rintro a' w' ⟨f2,v,hf2,⟨hS',h2⟩,rfl⟩
       exact ⟨hS',ih2 S w0 D fuel _ f2 _ w' hfu2 hS' hG hf2 (hs.put (hdst hoj) _) h2⟩
     ·have:i'=m:=by simpa using hi'
      subst this
      obtain ⟨b,f1,hf1,h1,hr⟩:=gK.sound hf hm
      unfold wpOp
      simp only [hom',hr]
      cases b
      ·simp only [cond_false,Bool.false_eq_true,if_false] at h1 ⊢
       obtain ⟨f2,hf2,h2⟩:=setK.out hf1 h1
       exact ⟨hS,ih3 S w0 D fuel _ f2 _ w hfu3 hS hG hf2 (hs.put (hdst hom) _) h2⟩
      ·simp only [cond_true,if_true] at h1 ⊢
       refine .inl (Oper.wp_mono ?_ (opK.sound hok hf1 h1))
       rintro a' w' ⟨f2,v,hf2,⟨hS',h2⟩,rfl⟩
       exact ⟨hS',ih3 S w0 D fuel _ f2 _ w' hfu3 hS' hG hf2 (hs.put (hdst hom) _) h2⟩
  ·exact h.elim
 | base p ih=>
  intro S w0 D fuel l f a w hfu hS hG hf hs h
  simp only [vcPlan] at h
  obtain ⟨D',h⟩:=h
  refine wpAnyH_mono (S':=λw'=>S w'/\KeepOn D' w w') (λw h=>h.1) _ _ _ _ ?_
  exact ih _ w D' fuel l f a w (by simpa [Plan.size] using hfu) ⟨hS,λ_ _=>rfl⟩ (λw' h p X hp=>⟨hp.2,h.2 _ hp.1⟩) hf hs h
def DrawV (body:(Nat->Prop)->Prop):Prop:=∃ D:Nat->Prop,body D
def vcDraw (P:Program) (ok:FuncId->Bool) (wr:Bool) (n:Nat) (ops:Array Oper) (p:Plan) (K:PF->World->Prop) (f:PF) (w:World):Prop:=
 cond (Nat.ble p.size ops.toList.length && Region.noSelect ops)
  (DrawV λD=>vcPlan P ok wr n ops K p (KeepOn D w.drew) w.drew D (Array.replicate ops.size false) f w.drew) False
def readK:(ss:List (Nat×Sh))->PF->(RT (ss.map Prod.snd)->Prop)->Prop
 | [],_,K=>K ()
 | (d,h)::t,f,K=>
  match f d with
  | some v=>(match h.rd v with | some x=>readK t f λy=>K (x,y) | none=>False)
  | none=>False
def putL:(ss:List (Nat×Sh))->RT (ss.map Prod.snd)->PF->PF
 | [],_,f=>f
 | (d,h)::t,x,f=>(putL t x.2 f).put d (h.v x.1)
theorem readK.out:∀ {ss:List (Nat×Sh)} {f:PF} {K:RT (ss.map Prod.snd)->Prop},readK ss f K ->
  ∃ x,K x/\∀ (n:Nat) (g:PF) (a:Act),Fits n f a->(Fits n g a)->Fits n (putL ss x g) a
 | [],f,K,h=>⟨(),h,λ_ _ _ _ hg=>hg⟩
 | (d,hh)::t,f,K,h=>by
  simp only [readK] at h
  split at h
  ·rename_i v hv
   split at h
   ·rename_i x hx
    obtain ⟨y,hk,hp⟩:=readK.out h
    refine ⟨(x,y),hk,λn g a hf hg=>?_⟩
    have:=(hp n g a hf hg).over (t:=d) (v:=hh.v x) (by rw [hf.get _ _ hv,Sh.rd_v hx])
    exact this
   ·exact h.elim
  ·exact h.elim
def LoopV (ss:List Sh) (x0:RT ss) (w0:World) (body:RT ss->World->(RT ss->World->Prop)->Prop):Prop:=
 ∃ (I:RT ss->World->Prop) (μ:RT ss->World->Nat),I x0 w0/\∀ x w,I x w->body x w λx' w'=>I x' w'/\μ x' w'<μ x w
def JoinV (ss:List Sh) (J:RT ss->World->Prop) (body:(RT ss->World->Prop)->Prop):Prop:=
 ∃ I:RT ss->World->Prop,(∀ x w,I x w->J x w)/\body I
inductive Ann where
 | no
 | two (a b:Ann)
 | one (a:Ann)
 | loop (ws:List Nat) (ss:List (Nat×Sh)) (a:Ann)
 | join (ws:List Nat) (ss:List (Nat×Sh)) (a b:Ann)
 | draw (p:Plan)
def Ann.l:Ann->Ann
 | .two a _=>a
 | _=>.no
def Ann.r:Ann->Ann
 | .two _ b=>b
 | _=>.no
def Ann.o:Ann->Ann
 | .one a=>a
 | _=>.no
def wrIn (ws:Nat->Bool):Code->Bool
 | .region _ ops _=>ops.toList.all λo=>dstIn ws o.dst
 | .seq a b=>wrIn ws a && wrIn ws b
 | .cond _ a b=>wrIn ws a && wrIn ws b
 | .block _ a=>wrIn ws a
 | .loop a=>wrIn ws a
 | .rangeFunc _ _ _ _=>false
 | .scope a=>wrIn ws a
 | _=>true
def thenQ (Q:Exit->PF->World->Prop) (K:PF->World->Prop):Exit->PF->World->Prop
 | .normal,f,w=>K f w
 | .exit i,f,w=>Q (.exit i) f w
 | .ret,f,w=>Q .ret f w
 | _,_,_=>False
def blockQ (id:Nat) (Q:Exit->PF->World->Prop):Exit->PF->World->Prop
 | .normal,f,w=>Q .normal f w
 | .exit i,f,w=>cond (Nat.beq i id) (Q .normal f w) (Q (.exit i) f w)
 | .ret,f,w=>Q .ret f w
 | _,_,_=>False
def vcF (P:Program) (ok:FuncId->Bool) (wr:Bool) (n:Nat):Code->Ann->(Exit->PF->World->Prop)->PF->World->Prop
 | .skip,_,Q,f,w=>Q .normal f w
 | .label _,_,Q,f,w=>Q .normal f w
 | .ret,_,Q,f,w=>Q .ret f w
 | .exit i,_,Q,f,w=>Q (.exit i) f w
 | .region _ ops dr,A,Q,f,w=>
  match dr,A with
  | false,_=>vcOps P ok wr n ops.toList (Q .normal) ops.toList f w
  | true,.draw p=>vcDraw P ok wr n ops p (Q .normal) f w
  | true,_=>False
 | .seq x y,A,Q,f,w=>
  match A with
  | .join ws ss a b=>
   cond (wrIn (λi=>ws.elem i) x)
    (JoinV (ss.map Prod.snd) (λv w'=>vcF P ok wr n y b Q (putL ss v (f.forget ws)) w') λJ=>vcF P ok wr n x a (thenQ Q λf' w'=>readK ss f' λv=>J v w') f w) False
  | A=>vcF P ok wr n x A.l (thenQ Q λf' w'=>vcF P ok wr n y A.r Q f' w') f w
 | .cond c x y,A,Q,f,w=>
  match ev f c with
  | some (.bool t)=>cond t (vcF P ok wr n x A.l Q f w) (vcF P ok wr n y A.r Q f w)
  | _=>False
 | .block id c,A,Q,f,w=>vcF P ok wr n c A.o (blockQ id Q) f w
 | .scope c,A,Q,f,w=>vcF P ok wr n c A.o Q f w
 | .loop c,A,Q,f,w=>
  match A with
  | .loop ws ss a=>
   cond (wrIn (λi=>ws.elem i) c)
    (readK ss f λx0=>LoopV (ss.map Prod.snd) x0 w λx w' K=>vcF P ok wr n c a (thenQ Q λf' w''=>readK ss f' λx'=>K x' w'') (putL ss x (f.forget ws)) w') False
  | _=>False
 | _,_,_,_,_=>False
def good:Exit->Prop
 | .normal=>True
 | .exit _=>True
 | .ret=>True
 | _=>False
def Lift (n:Nat) (ws:Nat->Bool) (a0:Act) (Q:Exit->PF->World->Prop) (e:Exit) (a:Act) (w:World):Prop:=
 good e/\∃ f,Fits n f a/\Q e f w/\Same ws a0 a
theorem dstIn_and {ws js:Nat->Bool} {d:Option Nat} (h1:dstIn ws d=true) (h2:dstIn js d=true):dstIn (λi=>ws i && js i) d=true:=by
 cases d with
 | none=>rfl
 | some d=>simp only [dstIn] at *;simp [h1,h2]
theorem wrIn_and {ws js:Nat->Bool}:∀ (c:Code),wrIn ws c=true->wrIn js c=true->wrIn (λi=>ws i && js i) c=true:=by
 intro c
 induction c with
 | region id ops dr=>
  intro h1 h2
  simp only [wrIn,List.all_eq_true] at *
  exact λo ho=>dstIn_and (h1 o ho) (h2 o ho)
 | seq x y ihx ihy=>
  intro h1 h2
  simp only [wrIn,Bool.and_eq_true] at *
  exact ⟨ihx h1.1 h2.1,ihy h1.2 h2.2⟩
 | cond c x y ihx ihy=>
  intro h1 h2
  simp only [wrIn,Bool.and_eq_true] at *
  exact ⟨ihx h1.1 h2.1,ihy h1.2 h2.2⟩
 | block id x ih=>exact λh1 h2=>ih h1 h2
 | loop x ih=>exact λh1 h2=>ih h1 h2
 | scope x ih=>exact λh1 h2=>ih h1 h2
 | rangeFunc _ _ _ _ _ _=>intro h1 h2;simp [wrIn] at h1
 | _=>intros;rfl
theorem Same.trans_and {ws js:Nat->Bool} {a0 a a':Act} (h:Same ws a0 a) (h':Same (λi=>ws i && js i) a a'):Same ws a0 a':=λi hi=>by
 rw [h' i (by simp [hi]),h i hi]
theorem Fits.stays {n:Nat} {f:PF} {js:List Nat} {ws:Nat->Bool} {a a':Act} (h:Fits n (f.forget js) a) (hs:Same (λi=>ws i && js.elem i) a a') {g:PF} (hg:Fits n g a'):Fits n (f.forget js) a':=by
 refine ⟨hg.size,hg.defers,λi v hv=>?_⟩
 have:=h.get i v hv
 unfold PF.forget at hv
 cases hb:js.elem i
 ·have h2:=hs i (by simp only [hb,Bool.and_false])
  rw [h2];exact this
 ·rw [hb] at hv;cases hv
theorem vcF.sound {P:Program} {ok:FuncId->Bool} (hok:OkCalls P ok) (hm:P.follows .mixedOrders=true) {wr:Bool} {n:Nat}:∀ (c:Code) (A:Ann) (Q:Exit->PF->World->Prop) (ws:Nat->Bool) (a0:Act),
  wrIn ws c=true->∀ {f:PF} {a:Act} {w:World},Fits n f a->Same ws a0 a->vcF P ok wr n c A Q f w->c.wp P (Lift n ws a0 Q) a w:=by
 intro c
 induction c with
 | skip=>intro A Q ws a0 _ f a w hf hs h;exact wp_skip ⟨trivial,f,hf,h,hs⟩
 | label l=>intro A Q ws a0 _ f a w hf hs h;exact wp_label ⟨trivial,f,hf,h,hs⟩
 | ret=>intro A Q ws a0 _ f a w hf hs h;exact wp_ret ⟨trivial,f,hf,h,hs⟩
 | exit i=>intro A Q ws a0 _ f a w hf hs h;exact wp_exit ⟨trivial,f,hf,h,hs⟩
 | goto l=>intro A Q ws a0 _ f a w hf hs h;exact h.elim
 | refuse y=>intro A Q ws a0 _ f a w hf hs h;exact h.elim
 | scope x ih=>
  intro A Q ws a0 hw f a w hf hs h
  refine wp_scope_straight (wp_mono (ih _ _ ws a0 hw hf hs h) ?_)
  rintro e a' w' ⟨hg,f',hf',hq,hs'⟩
  cases e <;> first | exact hg.elim | exact ⟨hg,f',hf',hq,hs'⟩
 | rangeFunc _ _ _ _ _ _=>intro A Q ws a0 _ f a w hf hs h;exact h.elim
 | region id ops dr=>
  intro A Q ws a0 hw f a w hf hs h
  simp only [wrIn] at hw
  cases dr with
  | false=>
   have h:vcOps P ok wr n ops.toList (Q .normal) ops.toList f w:=h
   exact wp_region_list (vcOps.sound hok (λf' a' w' hf' hk hs'=>⟨trivial,f',hf',hk,hs'⟩) ops.toList hw hf hs h)
  | true=>
   cases A <;> first | exact h.elim | skip
   rename_i p
   have h:vcDraw P ok wr n ops p (Q .normal) f w:=h
   unfold vcDraw at h
   cases hc:(Nat.ble p.size ops.toList.length && Region.noSelect ops)
   ·rw [hc] at h;exact h.elim
   ·rw [hc] at h
    simp only [Bool.and_eq_true,cond_true] at hc h
    obtain ⟨D,h⟩:=h
    refine wp_region_held (S:=KeepOn D w.drew) hm ?_
    exact vcPlan.sound hok (Q:=Lift n ws a0 Q) (λf' a' w' hf' hk hs'=>⟨trivial,f',hf',hk,hs'⟩) (λc a w h=>h.1) hc.2 hw p _ w.drew D ops.size _ f a w.drew
     (by have:=Nat.le_of_ble_eq_true hc.1;simpa using this) (λ_ _=>rfl) (λw' h p X hp=>⟨hp.2,h _ hp.1⟩) hf hs h
 | seq x y ihx ihy=>
  intro A Q ws a0 hw f a w hf hs h
  simp only [wrIn,Bool.and_eq_true] at hw
  have plain:∀ (A1 A2:Ann),vcF P ok wr n x A1 (thenQ Q λf' w'=>vcF P ok wr n y A2 Q f' w') f w->(Code.seq x y).wp P (Lift n ws a0 Q) a w:=by
   intro A1 A2 h
   refine wp_seq (wp_mono (ihx _ _ ws a0 hw.1 hf hs h) ?_)
   rintro e a' w' ⟨hg,f',hf',hq,hs'⟩
   cases e <;> first | exact ihy _ _ ws a0 hw.2 hf' hs' hq | exact ⟨trivial,f',hf',hq,hs'⟩ | exact hg.elim
  cases A with
  | join js ss A1 A2=>
   have h:cond (wrIn (λi=>js.elem i) x) (JoinV (ss.map Prod.snd) (λv w'=>vcF P ok wr n y A2 Q (putL ss v (f.forget js)) w') λJ=>vcF P ok wr n x A1 (thenQ Q λf' w'=>readK ss f' λv=>J v w') f w) False:=h
   cases hj:wrIn (λi=>js.elem i) x
   ·rw [hj] at h;exact h.elim
   ·rw [hj] at h
    obtain ⟨I,hI,h⟩:=h
    refine wp_seq (wp_mono (ihx _ _ (λi=>ws i && js.elem i) a (wrIn_and x hw.1 hj) hf (Same.refl _ _) h) ?_)
    rintro e a' w' ⟨hg,f',hf',hq,hs'⟩
    cases e with
    | normal=>
     obtain ⟨v,hv,hp⟩:=readK.out hq
     exact ihy _ _ ws a0 hw.2 (hp n _ a' hf' ((hf.forget js).stays hs' hf')) (hs.trans_and hs') (hI _ _ hv)
    | exit i=>exact ⟨trivial,f',hf',hq,hs.trans_and hs'⟩
    | ret=>exact ⟨trivial,f',hf',hq,hs.trans_and hs'⟩
    | _=>exact hg.elim
  | _=>exact plain _ _ h
 | cond c x y ihx ihy=>
  intro A Q ws a0 hw f a w hf hs h
  simp only [wrIn,Bool.and_eq_true] at hw
  simp only [vcF] at h
  split at h
  ·rename_i t ht
   refine wp_cond_split (hf.ev ht) (λe=>?_) (λe=>?_)
   ·subst e;exact ihx _ _ ws a0 hw.1 hf hs h
   ·subst e;exact ihy _ _ ws a0 hw.2 hf hs h
  ·exact h.elim
 | block id x ih=>
  intro A Q ws a0 hw f a w hf hs h
  refine wp_block (wp_mono (ih _ _ ws a0 hw hf hs h) ?_)
  rintro e a' w' ⟨hg,f',hf',hq,hs'⟩
  cases e with
  | exit i=>
   show if i=id then _ else _
   have hq:cond (Nat.beq i id) (Q .normal f' w') (Q (.exit i) f' w'):=hq
   by_cases e:i=id
   ·rw [if_pos e]
    have:Nat.beq i id=true:=by rw [e];exact Nat.beq_refl id
    rw [this] at hq
    exact ⟨trivial,f',hf',hq,hs'⟩
   ·rw [if_neg e]
    have:Nat.beq i id=false:=by
     cases hb:Nat.beq i id
     ·rfl
     ·exact absurd (Nat.eq_of_beq_eq_true hb) e
    rw [this] at hq
    exact ⟨trivial,f',hf',hq,hs'⟩
  | normal=>exact ⟨trivial,f',hf',hq,hs'⟩
  | ret=>exact ⟨trivial,f',hf',hq,hs'⟩
  | _=>exact hg.elim
 | loop x ih=>
  intro A Q ws a0 hw f a w hf hs h
  cases A with
  | loop js ss A1=>
   have h:cond (wrIn (λi=>js.elem i) x) (readK ss f λx0=>LoopV (ss.map Prod.snd) x0 w λx1 w' K=>vcF P ok wr n x A1 (thenQ Q λf' w''=>readK ss f' λx'=>K x' w'') (putL ss x1 (f.forget js)) w') False:=h
   cases hj:wrIn (λi=>js.elem i) x
   ·rw [hj] at h;exact h.elim
   ·rw [hj] at h
    simp only [cond_true] at h
    obtain ⟨x0,⟨I,μ,h0,hstep⟩,hp0⟩:=readK.out h
    refine wp_loop_ghost (λk a' w'=>∃ x1,Fits n (putL ss x1 (f.forget js)) a'/\Fits n (f.forget js) a'/\I x1 w'/\μ x1 w'=k/\Same ws a0 a') (μ x0 w)
     ⟨x0,hp0 n _ a hf (hf.forget js),hf.forget js,h0,rfl,hs⟩ ?_
    rintro k a1 w1 ⟨x1,hf1,hff1,hI1,rfl,hs1⟩
    refine wp_mono (ih _ _ (λi=>ws i && js.elem i) a1 (wrIn_and x hw hj) hf1 (Same.refl _ _) (hstep x1 w1 hI1)) ?_
    rintro e a' w' ⟨hg,f',hf',hq,hs'⟩
    cases e with
    | normal=>
     obtain ⟨v,hv,hp⟩:=readK.out hq
     have hst:=hff1.stays hs' hf'
     exact ⟨_,hv.2,v,hp n _ a' hf' hst,hst,hv.1,rfl,hs1.trans_and hs'⟩
    | exit i=>exact ⟨trivial,f',hf',hq,hs1.trans_and hs'⟩
    | ret=>exact ⟨trivial,f',hf',hq,hs1.trans_and hs'⟩
    | _=>exact hg.elim
  | _=>exact h.elim
def resK (P:Program):List ResultVar->PF->World->(List Value->Prop)->Prop
 | [],_,_,K=>K []
 | .tmp t::rest,f,w,K=>(match f t with | some v=>resK P rest f w λvs=>K (v::vs) | none=>False)
 | .cell t ty::rest,f,w,K=>(match f t with | some (.pointer (some p))=>rLoad P ty Grd.no w p λv=>resK P rest f w λvs=>K (v::vs) | _=>False)
def rdL:(l:List Sh)->List Value->Option (RT l)
 | [],[]=>some ()
 | h::t,v::vs=>
  match h.rd v,rdL t vs with
  | some x,some y=>some (x,y)
  | _,_=>none
 | _,_=>none
theorem rdL_v:∀ {l:List Sh} {vs:List Value} {x:RT l},rdL l vs=some x->vs=valsR l x
 | [],[],_,_=>rfl
 | [],_::_,_,e=>by simp [rdL] at e
 | _::_,[],_,e=>by simp [rdL] at e
 | h::t,v::vs,x,e=>by
  simp only [rdL] at e
  cases h1:h.rd v with
  | none=>simp [h1] at e
  | some a=>
   cases h2:rdL t vs with
   | none=>simp [h1,h2] at e
   | some b=>
    simp only [h1,h2] at e
    cases e
    simp only [valsR]
    rw [<-rdL_v h2,Sh.rd_v h1]
def resF (tmps:Array Value) (r:ResultVar):Sem Value:=
 match r with
 | .tmp t=>pure (tmps.getD t undef)
 | .cell q t=>do loadVar t (<-asAddr (tmps.getD q undef))
theorem results_eq (fn:Func) (tmps:Array Value):results fn tmps=(do let vs<-fn.results.mapM (resF tmps);pure (if h:vs.size=1 then vs[0] else .tuple vs)):=by
 unfold results
 congr 2
theorem resK.out {P:Program} {n:Nat} {f:PF} {a:Act} (hf:Fits n f a) {w:World}:∀ {rs:List ResultVar} {K:List Value->Prop},resK P rs f w K ->
  ∃ vs,K vs/\(rs.mapM (resF a.tmps)).run P w=.ok vs w/\vs.length=rs.length
 | [],K,h=>⟨[],h,by simp [List.mapM_nil],rfl⟩
 | .tmp t::rest,K,h=>by
  simp only [resK] at h
  split at h
  ·rename_i v hv
   obtain ⟨vs,hk,hr,hl⟩:=resK.out hf h
   have ht:=hf.get _ _ hv
   have h1:(resF a.tmps (.tmp t)).run P w=.ok v w:=by simp [resF,ht]
   exact ⟨v::vs,hk,by simp only [List.mapM_cons,Sem.run_bind,h1,Sem.run_pure,Result.andThen_ok,hr],by simp [hl]⟩
  ·exact h.elim
 | .cell t ty::rest,K,h=>by
  simp only [resK] at h
  split at h
  ·rename_i p hv
   obtain ⟨v,hv2,hrun⟩:=run_rLoad h (S:=λw'=>w'=w) ⟨w,rfl⟩ (λw' e=>by subst e;exact Grd.Ok.no _)
   obtain ⟨vs,hk,hr,hl⟩:=resK.out hf hv2
   have ht:=hf.get _ _ hv
   have h1:(resF a.tmps (.cell t ty)).run P w=.ok v w:=by simp [resF,ht,asAddr,hrun w rfl]
   exact ⟨v::vs,hk,by simp only [List.mapM_cons,Sem.run_bind,h1,Sem.run_pure,Result.andThen_ok,hr],by simp [hl]⟩
  ·exact h.elim
def retK (P:Program) (l:List Sh) (rs:List ResultVar) (K:RT l->World->Prop):Exit->PF->World->Prop
 | .normal,f,w=>resK P rs f w λvs=>(match rdL l vs with | some x=>K x w | none=>False)
 | .ret,f,w=>resK P rs f w λvs=>(match rdL l vs with | some x=>K x w | none=>False)
 | _,_,_=>False
theorem retK.out {P:Program} {fn:Func} {l:List Sh} {K:RT l->World->Prop} {n:Nat} {ws:Nat->Bool} {a0:Act} (hl:l.length=fn.results.size) {e:Exit} {a:Act} {w:World} (h:Lift n ws a0 (retK P l fn.results.toList K) e a w) :
  bodyPost P fn (λe w'=>∃ x:RT l,e=.returned (packV l x)/\K x w') e a w:=by
 obtain ⟨hg,f,hf,hq,_⟩:=h
 have main:resK P fn.results.toList f w (λvs=>(match rdL l vs with | some x=>K x w | none=>False)) ->
   a.defers=[]/\∃ v,(results fn a.tmps).run P w=.ok v w/\∃ x:RT l,Ending.returned v=.returned (packV l x)/\K x w:=by
  intro hq
  obtain ⟨vs,hk,hr,hlen⟩:=resK.out hf hq
  split at hk
  ·rename_i x hx
   refine ⟨hf.defers,_,?_,x,rfl,hk⟩
   have hvs:=rdL_v hx
   rw [results_eq,Sem.run_bind,Array.mapM_eq_mapM_toList,Sem.run_map,hr]
   simp only [Result.andThen_ok,Sem.run_pure]
   congr 1
   cases l with
   | nil=>subst hvs;rfl
   | cons h t=>
    cases t with
    | nil=>subst hvs;rfl
    | cons h' t'=>subst hvs;rfl
  ·exact hk.elim
 cases e <;> first | exact hg.elim | exact main hq | exact hq.elim
theorem vc_calls {P:Program} {ok:FuncId->Bool} (hok:OkCalls P ok) (hm:P.follows .mixedOrders=true) {wr:Bool} {n:Nat} {g:FuncId} {fn:Func} {c:Code} {A:Ann} {args:Array Value} {w:World} {l:List Sh} {K:RT l->World->Prop}
  (hf:P.funcs[g]? = some fn) (hb:fn.body=some c) (hn:fn.ntmps=n) (hl:l.length=fn.results.size) (hw:wrIn (λ_=>true) c=true) (ha:args.size<=n)
  (h:vcF P ok wr n c A (retK P l fn.results.toList K) (PF.ofList 0 args.toList) w):CallV P g args w l K:=by
 refine calls_of_wp hf hb (wp_mono (vcF.sound hok hm c A _ (λ_=>true) _ hw ?_ (Same.refl _ _) h) λe a w h=>retK.out hl h)
 refine ⟨by simp [hn];omega,rfl,?_⟩
 have key:∀ (l:List Value) (k i:Nat) (v:Value),(PF.ofList k l) i=some v->k<=i/\l[i-k]? = some v:=by
  intro l
  induction l with
  | nil=>intro k i v h;cases h
  | cons u l ih=>
   intro k i v h
   simp only [PF.ofList,PF.put] at h
   cases hb:Nat.beq i k
   ·rw [hb] at h
    obtain ⟨h1,h2⟩:=ih (k+1) i v h
    refine ⟨by omega,?_⟩
    rw [show i-k=(i-(k+1))+1 by omega,List.getElem?_cons_succ]
    exact h2
   ·rw [hb] at h
    have e:=Nat.eq_of_beq_eq_true hb
    subst e
    simp only [cond_true,Option.some.injEq] at h
    subst h
    simp
 intro i v hv
 obtain ⟨_,h2⟩:=key args.toList 0 i v hv
 simp only [Nat.sub_zero,Array.getElem?_toList] at h2
 rw [Array.getElem?_append,if_pos]
 ·exact h2
 ·exact (Array.getElem?_eq_some_iff.1 h2).1
def vcFun (P:Program) (ok:FuncId->Bool) (wr:Bool) (fn:Func) (A:Ann) (args:Array Value) (w:World) (l:List Sh) (K:RT l->World->Prop):Prop:=
 match fn.body with
 | some c=>cond (wrIn (λ_=>true) c && Nat.ble args.toList.length fn.ntmps && Nat.beq l.length fn.results.toList.length) (vcF P ok wr fn.ntmps c A (retK P l fn.results.toList K) (PF.ofList 0 args.toList) w) False
 | none=>False
theorem vcFun.calls {P:Program} {ok:FuncId->Bool} (hok:OkCalls P ok) (hm:P.follows .mixedOrders=true) {wr:Bool} {g:FuncId} {fn:Func} {A:Ann} {args:Array Value} {w:World} {l:List Sh} {K:RT l->World->Prop}
  (hf:P.funcs[g]? = some fn) (h:vcFun P ok wr fn A args w l K):CallV P g args w l K:=by
 unfold vcFun at h
 split at h
 ·rename_i c hb
  cases hc:(wrIn (λ_=>true) c && Nat.ble args.toList.length fn.ntmps && Nat.beq l.length fn.results.toList.length)
  ·rw [hc] at h;exact h.elim
  ·rw [hc] at h
   simp only [Bool.and_eq_true,cond_true] at hc h
   exact vc_calls hok hm hf hb rfl (by have:=Nat.eq_of_beq_eq_true hc.2;simpa using this) hc.1.1 (by have:=Nat.le_of_ble_eq_true hc.1.2;simpa using this) h
 ·exact h.elim
theorem vcFun.of {P:Program} {ok:FuncId->Bool} (hok:OkCalls P ok) (hm:P.follows .mixedOrders=true) {X:Prop} (h:X) {wr:Bool} {g:FuncId} {fn:Func} {A:Ann} {args:Array Value} {w:World} {l:List Sh} {K:RT l->World->Prop}
  (hf:P.funcs[g]? = some fn) (e:vcFun P ok wr fn A args w l K=X):CallV P g args w l K:=vcFun.calls hok hm hf (e.symm ▸ h)
theorem okc_nil {P:Program}:∀ g∈([]:List FuncId),∀ args w,(callFunc g args).run P w=.ok (.enter g args) w:=λ_ h=>by cases h
theorem okc_cons {P:Program} {f:FuncId} {l:List FuncId} (hf:∀ args w,(callFunc f args).run P w=.ok (.enter f args) w) (h:∀ g∈l,∀ args w,(callFunc g args).run P w=.ok (.enter g args) w) :
  ∀ g∈f::l,∀ args w,(callFunc g args).run P w=.ok (.enter g args) w:=λg hg=>by
 rcases List.mem_cons.1 hg with rfl | hg
 ·exact hf
 ·exact h g hg
def okIn (l:List FuncId) (g:FuncId):Bool:=l.any λx=>Nat.beq x g
theorem okc {P:Program} {l:List FuncId} (h:∀ g∈l,∀ args w,(callFunc g args).run P w=.ok (.enter g args) w):OkCalls P (okIn l):=λg hg=>by
 unfold okIn at hg
 obtain ⟨x,hx,hb⟩:=List.any_eq_true.1 hg
 have:=Nat.eq_of_beq_eq_true hb
 subst this
 exact h x hx
end Go.Eng
namespace Go.Eng
open Go Go.RowKit
theorem cond_of {b:Bool} {A B:Prop} (h1:b=true->A) (h0:b=false->B):cond b A B:=by
 cases b
 ·exact h0 rfl
 ·exact h1 rfl
theorem cond_d {p:Prop} [Decidable p] {A B:Prop} (h1:p->A) (h0:¬ p->B):cond (decide p) A B:=
 cond_of (λh=>h1 (of_decide_eq_true h)) (λh=>h0 (of_decide_eq_false h))
theorem cond_eq {x y:Int} {A B:Prop} (h1:x=y->A) (h0:x≠y->B):cond (x == y) A B:=
 cond_of (λh=>h1 (by simpa using h)) (λh=>h0 (by simpa using h))
theorem cond_ne {x y:Int} {A B:Prop} (h1:x≠y->A) (h0:x=y->B):cond (x != y) A B:=
 cond_of (λh=>h1 (by simpa using h)) (λh=>h0 (by simpa using h))
theorem cond_t {b:Bool} {A B:Prop} (hb:b=true) (h:A):cond b A B:=by subst hb;exact h
theorem cond_f {b:Bool} {A B:Prop} (hb:b=false) (h:B):cond b A B:=by subst hb;exact h
theorem Rng.i64 {z:Int} (h0:-9223372036854775808<=z) (h1:z<=9223372036854775807):Rng .i64 z:=
 ⟨by simpa [IntKind.min,IntKind.signed,IntKind.bits] using h0,by simpa [IntKind.max,IntKind.signed,IntKind.bits] using h1⟩
theorem Rng.u8 {z:Int} (h0:0<=z) (h1:z<=255):Rng .u8 z:=
 ⟨by simpa [IntKind.min,IntKind.signed,IntKind.bits] using h0,by simpa [IntKind.max,IntKind.signed,IntKind.bits] using h1⟩
theorem Rng.u64 {z:Int} (h0:0<=z) (h1:z<=18446744073709551615):Rng .u64 z:=
 ⟨by simpa [IntKind.min,IntKind.signed,IntKind.bits] using h0,by simpa [IntKind.max,IntKind.signed,IntKind.bits] using h1⟩
theorem Loop1 {S:List Sh} {x0:RT S} {w0:World} {body:RT S->World->(RT S->World->Prop)->Prop} (I:RT S->World->Prop) (μ:RT S->World->Nat) (h0:I x0 w0)
  (h:∀ x w,I x w->body x w λx' w'=>I x' w'/\μ x' w'<μ x w):LoopV S x0 w0 body:=⟨I,μ,h0,h⟩
theorem DrawV.any {body:(Nat->Prop)->Prop} (h:∀ D:Nat->Prop,(∀ b,D b)->body D):DrawV body:=⟨λ_=>True,h _ λ_=>trivial⟩
abbrev Ext (w w':World):Prop:=Below w.heap.size w w'
theorem Ext.refl (w:World):Ext w w:=Below.refl _ w
theorem Ext.trans {a b c:World} (h:Ext a b) (k:Ext b c):Ext a c:=Below.trans h (Below.mono k h.size)
theorem Ext.drew (w:World):Ext w w.drew:=Below.drew (Below.refl _ w)
theorem heap_new (w:World) (o:Obj):(w.alloc o).heap[w.heap.size]? = some o:=by
 show (w.heap.push o)[w.heap.size]? = some o
 simp
theorem Ext.alloc (w:World) (o:Obj):Ext w (w.alloc o):=Below.alloc (Below.refl _ w) (Nat.le_refl _) o
theorem Bel.cells {B:Nat} {w w':World} (h:Below B w w') {p:Addr} {vs:List Value} (hp:p.block<B) (hc:CellsAt w p vs):CellsAt w' p vs:=
 cells_same (h.block _ hp) hc
theorem cells_lt {w:World} {p:Addr} {v:Value} {vs:List Value} (hc:CellsAt w p (v::vs)):p.block<w.heap.size:=by
 have:=World.block_lt_of_cell? w _ (hc 0 v rfl)
 rwa [add_block] at this
theorem Ext.cells {w w':World} (h:Ext w w') {p:Addr} {vs:List Value} (hc:CellsAt w p vs):CellsAt w' p vs:=by
 cases vs with
 | nil=>intro j v hv;simp at hv
 | cons v vs=>exact Bel.cells h (cells_lt hc) hc
theorem Ext.rd {w w':World} (h:Ext w w') {a:Option Addr} {vs:List Value} (hc:RdC w a vs):RdC w' a vs:=by
 rcases hc with ⟨h1,h2⟩ | ⟨p,h1,h2⟩
 ·exact .inl ⟨h1,h2⟩
 ·exact .inr ⟨p,h1,h.cells h2⟩
theorem DrawV.old {body:(Nat->Prop)->Prop} (w:World) (h:∀ D:Nat->Prop,(∀ b,b<w.heap.size->D b)->(∀ w',Ext w w'->KeepOn D w.drew w')->body D):DrawV body:=
 ⟨λb=>b<w.heap.size,h _ (λ_ h=>h) λw' e=>e.block⟩
theorem DrawV.base {body:(Nat->Prop)->Prop} (B:Nat) (w:World) (h:∀ D:Nat->Prop,(∀ b,b<B->D b)->(∀ w',Below B w w'->KeepOn D w.drew w')->body D):DrawV body:=
 ⟨λb=>b<B,h _ (λ_ h=>h) λw' e=>e.block⟩
theorem Ext.heap {w w':World} (h:Ext w w') {k:Nat} {o:Obj} (hk:w.heap[k]? = some o):w'.heap[k]? = some o:=by
 rw [h.block k (Array.getElem?_eq_some_iff.1 hk).1];exact hk
theorem CellsAt.nil {w:World} {p:Addr}:CellsAt w p []:=λj v hv=>by simp at hv
theorem CellsAt.of_heap {w:World} {b o:Nat} {cs:Array Value} {e:TypeId} {fr:Nat×Nat} (h:w.heap[b]? = some (.cells cs e fr)) {vs:List Value} (hv:∀ j v,vs[j]? = some v->cs[o+j]? = some v):CellsAt w ⟨b,o,none⟩ vs:=by
 intro j v hj
 have hc:=hv j v hj
 unfold World.cell?
 rw [add_block,h]
 simp only [Addr.add_lit]
 simpa using hc
theorem CellsAt.new {w:World} {cs:List Value} {e:TypeId}:CellsAt (w.alloc (.cells cs.toArray e)) ⟨w.heap.size,0,none⟩ cs:=
 CellsAt.of_heap (cs:=cs.toArray) (e:=e) (fr:=(0,0)) (heap_new w _) (λj v h=>by simpa using h)
theorem add_add (p:Addr) (i j:Nat):(p.add i).add j=p.add (i+j):=by
 unfold Addr.add
 by_cases hi:i=0
 ·subst hi;simp
 ·by_cases hj:j=0
  ·subst hj;simp [hi]
  ·rw [if_neg hi,if_neg hj,if_neg (by omega)]
   simp [Nat.add_assoc]
theorem CellsAt.drop {w:World} {p:Addr} {vs:List Value} (h:CellsAt w p vs) (i:Nat):CellsAt w (p.add i) (vs.drop i):=by
 intro j v hv
 rw [List.getElem?_drop] at hv
 rw [add_add]
 exact h _ v hv
theorem CellsAt.take {w:World} {p:Addr} {vs:List Value} (h:CellsAt w p vs) (i:Nat):CellsAt w p (vs.take i):=by
 intro j v hv
 refine h j v ?_
 rw [List.getElem?_take] at hv
 split at hv
 ·exact hv
 ·cases hv
structure Ints (w:World) (k:IntKind) (a:Option Addr) (n c:Nat) (xs:List Int):Prop where
 len:xs.length=n
 cap:n<=c
 lim:n<=9223372036854775807
 rd:RdC w a (xs.map (Value.int k))
theorem Ints.ext {w w':World} {k:IntKind} {a:Option Addr} {n c:Nat} {xs:List Int} (h:Ints w k a n c xs) (e:Ext w w'):Ints w' k a n c xs:=⟨h.len,h.cap,h.lim,e.rd h.rd⟩
theorem Ints.drew {w:World} {k:IntKind} {a:Option Addr} {n c:Nat} {xs:List Int} (h:Ints w k a n c xs):Ints w.drew k a n c xs:=h.ext (Ext.drew w)
theorem Ints.at {w:World} {k:IntKind} {a:Option Addr} {n c:Nat} {xs:List Int} (h:Ints w k a n c xs) {i:Int} (h0:0<=i) (h1:i<(n:Int)) :
  ∃ q,a=some q/\q.block<w.heap.size/\w.cell? (q.add (i.toNat*1))=some (.int k (xs.getD i.toNat 0)):=by
 have hlt:i.toNat<xs.length:=by have:=h.len;omega
 rcases h.rd with ⟨_,h2⟩ | ⟨q,hq,hc⟩
 ·simp at h2;simp [h2] at hlt
 ·have:=hc i.toNat (.int k (xs.getD i.toNat 0)) (by simp [hlt])
  refine ⟨q,hq,?_,by simpa using this⟩
  have hb:=World.block_lt_of_cell? w _ this
  rwa [add_block] at hb
theorem Ints.idx {w:World} {k:IntKind} {a:Option Addr} {n c:Nat} {xs:List Int} (h:Ints w k a n c xs) {i:Int} (h0:0<=i) (h1:i<(n:Int)) {K:Int->Prop} (hk:K (xs.getD i.toNat 0)) :
  (0<=i/\i<(n:Int))/\∃ q,a=some q/\LoadS w (q.add (i.toNat*1)) (.int k) K:=by
 obtain ⟨q,hq,_,hc⟩:=h.at h0 h1
 exact ⟨⟨h0,h1⟩,q,hq,_,hc,hk⟩
theorem Ints.idxD {w0 w:World} {k:IntKind} {a:Option Addr} {n c:Nat} {xs:List Int} (h:Ints w0 k a n c xs) (e:Ext w0 w) {i:Int} (h0:0<=i) (h1:i<(n:Int)) {D:Nat->Prop} (hD:∀ b,b<w0.heap.size->D b) {K:Int->Prop} (hk:K (xs.getD i.toNat 0)) :
  (0<=i/\i<(n:Int))/\∃ q,a=some q/\(D (q.add (i.toNat*1)).block/\LoadS w (q.add (i.toNat*1)) (.int k) K):=by
 obtain ⟨q,hq,hb,hc⟩:=h.at h0 h1
 have hs:w.cell? (q.add (i.toNat*1))=w0.cell? (q.add (i.toNat*1)):=cell_same (by rw [add_block];exact e.block _ hb)
 exact ⟨⟨h0,h1⟩,q,hq,by rw [add_block];exact hD _ hb,_,hs.trans hc,hk⟩
theorem Ints.sub {w:World} {k:IntKind} {a:Option Addr} {n c:Nat} {xs:List Int} (h:Ints w k a n c xs) {l hh m:Nat} (h1:l<=hh) (h2:hh<=n) (h3:hh<=m) {a':Option Addr} (ha:a'=if m=l then a else a.map (·.add (l*1))) :
  Ints w k a' (hh-l) (m-l) ((xs.drop l).take (hh-l)):=by
 have hl:=h.len
 have hli:=h.lim
 refine ⟨by simp;omega,by omega,by omega,?_⟩
 subst ha
 split
 ·have:hh-l=0:=by omega
  rw [this]
  simp only [List.take_zero,List.map_nil]
  rcases h.rd with ⟨h1,_⟩ | ⟨q,h1,_⟩
  ·exact .inl ⟨h1,rfl⟩
  ·exact .inr ⟨q,h1,CellsAt.nil⟩
 ·rcases h.rd with ⟨h1,h2⟩ | ⟨q,h1,hc⟩
  ·simp at h2
   exact .inl ⟨by simp [h1],by simp [h2]⟩
  ·refine .inr ⟨q.add l,by simp [h1],?_⟩
   have:=(hc.drop l).take (hh-l)
   rwa [<-List.map_drop,<- List.map_take] at this
structure Own (w:World) (B:Nat) (e:TypeId) (sz:Nat) (a:Option Addr) (n c:Nat) (vs:List Value):Prop where
 len:vs.length=n*sz
 cap:n<=c
 lim:n<=9223372036854775807
 one:oneAll vs
 at_:(a=none/\c=0/\vs=[])\/∃ b cs,a=some ⟨b,0,none⟩/\B<=b/\w.heap[b]? = some (.cells cs e (0,0))/\cs.size=c*sz/\cs.toList.take vs.length=vs
theorem Own.rd {w:World} {B:Nat} {e:TypeId} {sz:Nat} {a:Option Addr} {n c:Nat} {vs:List Value} (h:Own w B e sz a n c vs):RdC w a vs:=by
 rcases h.at_ with ⟨h1,_,h2⟩ | ⟨b,cs,h1,_,hb,hs,ht⟩
 ·exact .inl ⟨h1,h2⟩
 ·refine .inr ⟨_,h1,CellsAt.of_heap hb λj v hv=>?_⟩
  have hj:j<vs.length:=(List.getElem?_eq_some_iff.1 hv).1
  rw [<-ht,List.getElem?_take,if_pos (by rw [ht] at *;exact hj)] at hv
  simpa using hv
theorem Own.nil (w:World) (B:Nat) (e:TypeId) (sz:Nat):Own w B e sz none 0 0 []:=⟨by simp,Nat.le_refl _,by omega,λu h=>(List.not_mem_nil h).elim,.inl ⟨rfl,rfl,rfl⟩⟩
theorem Own.ints {w:World} {B:Nat} {e:TypeId} {a:Option Addr} {n c:Nat} {k:IntKind} {xs:List Int} (h:Own w B e 1 a n c (xs.map (Value.int k))):Ints w k a n c xs:=
 ⟨by have:=h.len;simpa using this,h.cap,h.lim,h.rd⟩
theorem Own.ext {w w':World} {B:Nat} {e:TypeId} {sz:Nat} {a:Option Addr} {n c:Nat} {vs:List Value} (h:Own w B e sz a n c vs) (x:Ext w w'):Own w' B e sz a n c vs:=
 ⟨h.len,h.cap,h.lim,h.one,h.at_.imp id λ⟨b,cs,h1,h2,h3,h4⟩=>⟨b,cs,h1,h2,x.heap h3,h4⟩⟩
theorem Own.mono {w:World} {B B':Nat} {e:TypeId} {sz:Nat} {a:Option Addr} {n c:Nat} {vs:List Value} (h:Own w B e sz a n c vs) (hB:B'<=B):Own w B' e sz a n c vs:=
 ⟨h.len,h.cap,h.lim,h.one,h.at_.imp id λ⟨b,cs,h1,h2,h3⟩=>⟨b,cs,h1,Nat.le_trans hB h2,h3⟩⟩
theorem Own.other {w w':World} {B:Nat} {e:TypeId} {sz:Nat} {a:Option Addr} {n c:Nat} {vs:List Value} (h:Own w B e sz a n c vs) (x:∀ p,a=some p->w'.heap[p.block]? = w.heap[p.block]?):Own w' B e sz a n c vs:=
 ⟨h.len,h.cap,h.lim,h.one,h.at_.imp id λ⟨b,cs,h1,h2,h3,h4⟩=>⟨b,cs,h1,h2,by rw [x _ h1];exact h3,h4⟩⟩
theorem Own.new {w:World} {B:Nat} {e:TypeId} {sz n c:Nat} {cs:List Value} (hB:B<=w.heap.size) (hl:cs.length=c*sz) (hn:n<=c) (hli:n<=9223372036854775807) (h1:oneAll cs) :
  Own (w.alloc (.cells cs.toArray e)) B e sz (some ⟨w.heap.size,0,none⟩) n c (cs.take (n*sz)):=by
 have hle:n*sz<=cs.length:=by rw [hl];exact Nat.mul_le_mul_right _ hn
 refine ⟨by simp [List.length_take];omega,hn,hli,λu hu=>h1 u (List.mem_of_mem_take hu),.inr ⟨w.heap.size,cs.toArray,rfl,hB,heap_new w _,by simpa using hl,?_⟩⟩
 simp [List.length_take]
def splice (cs:Array Value):Nat->List Value->Array Value
 | _,[]=>cs
 | o,v::vs=>splice (cs.setIfInBounds o v) (o+1) vs
theorem splice_size:∀ (vs:List Value) (cs:Array Value) (o:Nat),(splice cs o vs).size=cs.size
 | [],_,_=>rfl
 | v::vs,cs,o=>by simp [splice,splice_size vs]
theorem splice_toList:∀ (vs:List Value) (cs:Array Value) (o:Nat),o+vs.length<=cs.size->(splice cs o vs).toList=cs.toList.take o++(vs++cs.toList.drop (o+vs.length))
 | [],cs,o,_=>by simp [splice]
 | v::vs,cs,o,h=>by
  simp only [List.length_cons] at h
  rw [splice,splice_toList vs _ _ (by simp;omega)]
  simp only [Array.toList_setIfInBounds]
  have hk:o<cs.toList.length:=by simp;omega
  rw [List.take_succ_eq_append_getElem (by simp;omega),List.take_set_of_le (by omega),List.getElem_set_self,List.append_assoc,List.drop_set_of_lt (by omega)]
  simp only [List.cons_append,List.nil_append,List.length_cons]
  rw [show o+1+vs.length=o+(vs.length+1) by omega]
theorem setCells_heap:∀ (vs:List Value) (w:World) (b o:Nat) (cs:Array Value) (e:TypeId) (fr:Nat×Nat),w.heap[b]? = some (.cells cs e fr)->(w.setCells b o vs).heap[b]? = some (.cells (splice cs o vs) e fr)
 | [],_,_,_,_,_,_,h=>h
 | v::vs,w,b,o,cs,e,fr,h=>by
  rw [World.setCells]
  refine setCells_heap vs _ b (o+1) _ e fr ?_
  simp only [World.setCell,Array.getElem?_modify,if_true,h]
  rfl
theorem setCells_other:∀ (vs:List Value) (w:World) (b o k:Nat),k≠b->(w.setCells b o vs).heap[k]? = w.heap[k]?
 | [],_,_,_,_,_=>rfl
 | v::vs,w,b,o,k,h=>by
  rw [World.setCells,setCells_other vs _ b (o+1) k h]
  exact Below.heap_setCell w ⟨b,o,none⟩ v k h
theorem setCells_rest:∀ (vs:List Value) (w:World) (b o:Nat),(w.setCells b o vs).os=w.os/\(w.setCells b o vs).tape=w.tape/\(w.setCells b o vs).output=w.output/\(w.setCells b o vs).heap.size=w.heap.size
 | [],_,_,_=>⟨rfl,rfl,rfl,rfl⟩
 | v::vs,w,b,o=>by
  rw [World.setCells]
  obtain ⟨h1,h2,h3,h4⟩:=setCells_rest vs (w.setCell ⟨b,o,none⟩ v) b (o+1)
  exact ⟨h1,h2,h3,by rw [h4];simp [World.setCell]⟩
theorem Bel.setCells {B:Nat} {w0 w:World} (h:Below B w0 w) {b:Nat} (hb:B<=b) (o:Nat) (vs:List Value):Below B w0 (w.setCells b o vs):=by
 obtain ⟨h1,h2,h3,h4⟩:=setCells_rest vs w b o
 exact h.trans ⟨h1,h2,h3,by rw [h4];exact Nat.le_refl _,λk hk=>setCells_other vs w b o k (by omega)⟩
theorem Free.of_heap {w:World} {b o n:Nat} {cs:Array Value} {e:TypeId} (h:w.heap[b]? = some (.cells cs e (0,0))) (hn:o+n<=cs.size):Free w ⟨b,o,none⟩ n:=by
 intro j hj
 unfold World.cell? World.frozen?
 rw [add_block,h]
 simp only [Addr.add_lit]
 have:o+j<cs.size:=by omega
 simp [this]
def But (a:Option Addr) (w w':World):Prop:=∀ k,k<w.heap.size->(∀ p,a=some p->k≠p.block)->w'.heap[k]? = w.heap[k]?
def Mov (w:World) (a a':Option Addr):Prop:=a'=a\/∃ b,w.heap.size<=b/\a'=some ⟨b,0,none⟩
theorem oneAll.append {l m:List Value} (h:oneAll l) (h':oneAll m):oneAll (l++m):=λu hu=>(List.mem_append.1 hu).elim (h u) (h' u)
theorem oneAll.ints (k:IntKind) (xs:List Int):oneAll (xs.map (Value.int k)):=λu hu=>by obtain ⟨_,_,rfl⟩:=List.mem_map.1 hu;rfl
theorem oneAll.nil:oneAll []:=λu hu=>(List.not_mem_nil hu).elim
theorem AppV.own {w:World} {e:TypeId} {sz by':Nat} {a:Option Addr} {n c:Nat} {news:List Value} {m:Nat} {K:Option Addr->Nat->Nat->World->Prop} {B:Nat} {vs:List Value}
  (ho:Own w B e sz a n c vs) (hB:B<=w.heap.size) (hl:news.length=m*sz) (h1:oneAll news) (hby:(2*(n+m)+256)*by'<=281474976710656) (h63:n+m<=9223372036854775807)
  (hk:∀ a' c' w',Own w' B e sz a' (n+m) c' (vs++news)->Below B w w'->But a w w'->Mov w a a'->K a' (n+m) c' w'):AppV w e sz by' a n c news m K:=by
 refine ⟨hl,h1,hby,h63,?_⟩
 by_cases hm:m=0/\a=none
 ·obtain ⟨rfl,rfl⟩:=hm
  have hnews:news=[]:=List.length_eq_zero_iff.1 (by omega)
  subst hnews
  refine .inl ⟨rfl,ho.cap,hk _ _ _ ?_ (Below.refl _ _) (λk _ _=>rfl) (.inl rfl)⟩
  rw [List.append_nil]
  exact ho
 ·refine .inr ⟨vs,ho.len,ho.rd,λhc=>?_,λhc c' rest hc' hlen=>?_⟩
  ·rcases ho.at_ with ⟨ha,hc0,hv⟩ | ⟨b,cs,ha,hBb,hb,hs,ht⟩
   ·exact absurd ⟨by omega,ha⟩ hm
   ·have hfit:n*sz+news.length<=cs.size:=by
     rw [hl,hs,<- Nat.add_mul];exact Nat.mul_le_mul_right _ hc
    refine ⟨⟨b,0,none⟩,ha,rfl,?_,hk _ _ _ ?_ ?_ ?_ (.inl rfl)⟩
    ·have:=Free.of_heap (w:=w) (b:=b) (o:=n*sz) (n:=news.length) hb hfit
     simpa [Addr.add_lit] using this
    ·refine ⟨by simp [ho.len,hl,Nat.add_mul],hc,h63,ho.one.append h1,.inr ⟨b,_,ha,hBb,setCells_heap _ _ _ _ _ _ _ hb,by rw [splice_size];exact hs,?_⟩⟩
     have hvl:=ho.len
     rw [splice_toList _ _ _ (by simpa using hfit)]
     simp only [Nat.zero_add]
     have e1:cs.toList.take (n*sz)=vs:=by rw [<-hvl];exact ht
     rw [e1,<- List.append_assoc,List.take_append_of_le_length (by simp),List.take_of_length_le (by simp)]
    ·exact Bel.setCells (Below.refl _ _) hBb _ _
    ·intro k hk' hne
     exact setCells_other _ _ _ _ _ (hne _ ha)
  ·refine hk _ _ _ ?_ ?_ ?_ (.inr ⟨w.heap.size,Nat.le_refl _,rfl⟩)
   ·refine ⟨by simp [ho.len,hl,Nat.add_mul],hc',h63,ho.one.append h1,.inr ⟨w.heap.size,_,rfl,hB,heap_new w.drew _,by simpa using hlen,?_⟩⟩
    simp only [List.append_assoc]
    rw [<-List.append_assoc,List.take_left]
   ·exact (Below.drew (Below.refl _ w)).trans (Below.alloc (Below.refl B w.drew) hB _)
   ·intro k hk' _
    exact Below.heap_alloc w.drew _ k hk'
theorem AppS.of {w:World} {b:Option Addr} {m sz:Nat} {K:List Value->Prop} {news:List Value} (hl:news.length=m*sz) (hr:RdC w b news) (hk:K news):AppS w b m sz K:=⟨news,hl,hr,hk⟩
theorem Own.store {w:World} {B:Nat} {e:TypeId} {a:Option Addr} {n c:Nat} {vs:List Value} (ho:Own w B e 1 a n c vs) {i:Int} (h0:0<=i) (h1:i<(n:Int)) {v:Value} (hv:v.oneCell'=true) {K:World->Prop}
  (hk:∀ w',Own w' B e 1 a n c (vs.set i.toNat v)->Below B w w'->But a w w'->w'.heap.size=w.heap.size->K w') :
  (0<=i/\i<(n:Int))/\∃ q,a=some q/\StoreV w (q.add (i.toNat*1)) [v] K:=by
 refine ⟨⟨h0,h1⟩,?_⟩
 have hn:vs.length=n:=by have:=ho.len;omega
 rcases ho.at_ with ⟨_,_,hnil⟩ | ⟨b,cs,ha,hBb,hb,hs,ht⟩
 ·subst hnil;simp at hn;omega
 ·have hc:=ho.cap
  have hcs:cs.size=c:=by omega
  refine ⟨_,ha,?_⟩
  have hadd:(⟨b,0,none⟩:Addr).add (i.toNat*1)=⟨b,i.toNat,none⟩:=by simp [Addr.add_lit]
  rw [hadd]
  refine ⟨rfl,Free.of_heap hb (by simp;omega),?_⟩
  rintro w' rfl
  refine hk _ ⟨by simp [hn],hc,ho.lim,?_,.inr ⟨b,_,ha,hBb,setCells_heap _ _ _ _ _ _ _ hb,by rw [splice_size];exact hs,?_⟩⟩ (Bel.setCells (Below.refl _ _) hBb _ _) ?_ (setCells_rest _ _ _ _).2.2.2
  ·intro u hu
   rcases List.mem_or_eq_of_mem_set hu with h | h
   ·exact ho.one u h
   ·rw [h];exact hv
  ·simp only [splice,Array.toList_setIfInBounds,List.length_set]
   rw [List.take_set]
   rw [ht]
  ·intro k hk' hne
   have:=hne _ ha
   exact setCells_other _ _ _ _ _ this
theorem But.own {a a2:Option Addr} {w w':World} (h:But a w w') {B:Nat} {e:TypeId} {sz n c:Nat} {vs:List Value} (ho:Own w B e sz a2 n c vs) (hne:∀ p q,a=some p->a2=some q->p.block≠q.block):Own w' B e sz a2 n c vs:=by
 refine ho.other λp hp=>?_
 rcases ho.at_ with ⟨h1,_⟩ | ⟨b,cs,h1,h2,h3,h4⟩
 ·rw [h1] at hp;cases hp
 ·have:p=⟨b,0,none⟩:=by rw [h1] at hp;exact (Option.some.inj hp).symm
  subst this
  exact h b (Array.getElem?_eq_some_iff.1 h3).1 (λq hq e=>hne q _ hq h1 e.symm)
theorem Own.zeros {w:World} {B:Nat} {e:TypeId} {n c:Nat} {z:Value} (hB:B<=w.heap.size) (hn:n<=c) (hli:n<=9223372036854775807) (h1:z.oneCell'=true) :
  Own (w.alloc (.cells (List.replicate c [z]).flatten.toArray e)) B e 1 (some ⟨w.heap.size,0,none⟩) n c (List.replicate n z):=by
 have hz:∀ k,(List.replicate k [z]).flatten=List.replicate k z:=by
  intro k
  induction k with
  | zero=>rfl
  | succ k ih=>rw [List.replicate_succ,List.flatten_cons,ih,List.replicate_succ];rfl
 have:=Own.new (w:=w) (B:=B) (e:=e) (sz:=1) (n:=n) (c:=c) (cs:=List.replicate c z) hB (by simp) hn hli (λu hu=>by rw [(List.mem_replicate.1 hu).2];exact h1)
 rw [hz]
 simpa [List.take_replicate,Nat.min_eq_left hn] using this
theorem Own.lt {w:World} {B:Nat} {e:TypeId} {sz:Nat} {a:Option Addr} {n c:Nat} {vs:List Value} (h:Own w B e sz a n c vs):∀ p,a=some p->p.block<w.heap.size:=by
 intro p hp
 rcases h.at_ with ⟨h1,_⟩ | ⟨b,cs,h1,_,h3,_⟩
 ·rw [h1] at hp;cases hp
 ·rw [h1] at hp;cases hp;exact (Array.getElem?_eq_some_iff.1 h3).1
theorem Own.ge {w:World} {B:Nat} {e:TypeId} {sz:Nat} {a:Option Addr} {n c:Nat} {vs:List Value} (h:Own w B e sz a n c vs):∀ p,a=some p->B<=p.block:=by
 intro p hp
 rcases h.at_ with ⟨h1,_⟩ | ⟨b,cs,h1,h2,h3,_⟩
 ·rw [h1] at hp;cases hp
 ·rw [h1] at hp;cases hp;exact h2
theorem Mov.ne {w:World} {a a':Option Addr} (h:Mov w a a'):∀ p q:Addr,a'=some p->q.block<w.heap.size->(∀ p',a=some p'->p'.block≠q.block)->p.block≠q.block:=by
 intro p q hp hq hs
 rcases h with h | ⟨b,h1,h2⟩
 ·exact hs p (by rw [<-h];exact hp)
 ·rw [h2] at hp;cases hp;show b≠q.block;omega
abbrev NoB:Nat->Prop:=λ_=>False
structure Fr (E:Nat->Prop) (w w':World):Prop where
 os:w'.os=w.os
 tape:w'.tape=w.tape
 output:w'.output=w.output
 size:w.heap.size<=w'.heap.size
 block:∀ k,k<w.heap.size->¬ E k->w'.heap[k]? = w.heap[k]?
theorem Fr.refl (E:Nat->Prop) (w:World):Fr E w w:=⟨rfl,rfl,rfl,Nat.le_refl _,λ_ _ _=>rfl⟩
theorem Fr.trans' {E E':Nat->Prop} {a b c:World} (h:Fr E a b) (k:Fr E' b c) (he:∀ i,E' i->E i\/a.heap.size<=i):Fr E a c:=
 ⟨k.os.trans h.os,k.tape.trans h.tape,k.output.trans h.output,Nat.le_trans h.size k.size,λi hi hn=>
  (k.block i (Nat.lt_of_lt_of_le hi h.size) λx=>(he i x).elim hn λy=>by omega).trans (h.block i hi hn)⟩
theorem Fr.trans {E:Nat->Prop} {a b c:World} (h:Fr E a b) (k:Fr E b c):Fr E a c:=h.trans' k λ_=>.inl
theorem Fr.mono {E E':Nat->Prop} {w w':World} (h:Fr E w w') (he:∀ k,E k->E' k):Fr E' w w':=⟨h.os,h.tape,h.output,h.size,λk hk hn=>h.block k hk λx=>hn (he k x)⟩
theorem Fr.of {w w':World} (h:Ext w w'):Fr NoB w w':=⟨h.os,h.tape,h.output,h.size,λk hk _=>h.block k hk⟩
theorem Fr.ext {w w':World} (h:Fr NoB w w'):Ext w w':=⟨h.os,h.tape,h.output,h.size,λk hk=>h.block k hk λx=>x⟩
theorem Fr.any {E:Nat->Prop} {w w':World} (h:Fr NoB w w'):Fr E w w':=h.mono λ_ x=>x.elim
theorem Fr.drew (E:Nat->Prop) (w:World):Fr E w w.drew:=⟨rfl,rfl,rfl,Nat.le_refl _,λ_ _ _=>rfl⟩
theorem Fr.keep {E D:Nat->Prop} {w w':World} (h:Fr E w w') (hd:∀ k,D k->k<w.heap.size/\¬ E k):KeepOn D w w':=λk hk=>h.block k (hd k hk).1 (hd k hk).2
theorem DrawV.but {body:(Nat->Prop)->Prop} (X:Nat->Prop) (w:World) (h:∀ D:Nat->Prop,(∀ b,b<w.heap.size->¬ X b->D b)->(∀ w',Fr X w.drew w'->KeepOn D w.drew w')->body D):DrawV body:=
 ⟨λb=>b<w.heap.size/\¬ X b,h _ (λb h1 h2=>⟨h1,h2⟩) λw' f=>f.keep λk hk=>hk⟩
theorem DrawV.reg {body:(Nat->Prop)->Prop} (w:World) (h:∀ D:Nat->Prop,(∀ b,b<w.heap.size->D b)->(∀ w',Fr NoB w.drew w'->KeepOn D w.drew w')->body D):DrawV body:=
 DrawV.but NoB w λD hD hk=>h D (λb hb=>hD b hb λx=>x) hk
structure Asr where
 p:World->(Nat->Prop)->Prop
 st:∀ {w w':World} {F:Nat->Prop},p w F->(∀ k,F k->w'.heap[k]? = w.heap[k]?)->p w' F
def StarP (w:World):List Asr->(Nat->Prop)->Prop
 | [],_=>True
 | R::Rs,F=>∃ F1 F2:Nat->Prop,R.p w F1/\StarP w Rs F2/\(∀ k,F1 k->¬ F2 k)/\(∀ k,F1 k->F k)/\(∀ k,F2 k->F k)
theorem StarP.st {w w':World}:∀ {Rs:List Asr} {F:Nat->Prop},StarP w Rs F->(∀ k,F k->w'.heap[k]? = w.heap[k]?)->StarP w' Rs F
 | [],_,_,_=>trivial
 | R::Rs,F,⟨F1,F2,h1,h2,h3,h4,h5⟩,h=>⟨F1,F2,R.st h1 λk hk=>h k (h4 k hk),StarP.st h2 λk hk=>h k (h5 k hk),h3,h4,h5⟩
theorem StarP.sub {w:World}:∀ {Rs:List Asr} {F F':Nat->Prop},StarP w Rs F->(∀ k,F k->F' k)->StarP w Rs F'
 | [],_,_,_,_=>trivial
 | R::Rs,F,F',⟨F1,F2,h1,h2,h3,h4,h5⟩,h=>⟨F1,F2,h1,h2,h3,λk hk=>h k (h4 k hk),λk hk=>h k (h5 k hk)⟩
theorem StarP.app {w:World}:∀ {Rs Ts:List Asr} {F:Nat->Prop},StarP w (Rs++Ts) F↔∃ F1 F2:Nat->Prop,StarP w Rs F1/\StarP w Ts F2/\(∀ k,F1 k->¬ F2 k)/\(∀ k,F1 k->F k)/\(∀ k,F2 k->F k)
 | [],Ts,F=>⟨λh=>⟨NoB,F,trivial,h,λ_ x=>x.elim,λ_ x=>x.elim,λ_ x=>x⟩,λ⟨_,F2,_,h,_,_,h5⟩=>StarP.sub h h5⟩
 | R::Rs,Ts,F=>by
  constructor
  ·rintro ⟨F1,F2,h1,h2,h3,h4,h5⟩
   obtain ⟨G1,G2,g1,g2,g3,g4,g5⟩:=(StarP.app (Rs:=Rs) (Ts:=Ts)).1 h2
   exact ⟨λk=>F1 k\/G1 k,G2,⟨F1,G1,h1,g1,λk hk hg=>h3 k hk (g4 k hg),λk=>.inl,λk=>.inr⟩,g2,λk hk hg=>hk.elim (λx=>h3 k x (g5 k hg)) (λx=>g3 k x hg),λk hk=>hk.elim (h4 k) (λx=>h5 k (g4 k x)),λk hk=>h5 k (g5 k hk)⟩
  ·rintro ⟨F1,F2,⟨G1,G2,g1,g2,g3,g4,g5⟩,h2,h3,h4,h5⟩
   exact ⟨G1,λk=>G2 k\/F2 k,g1,(StarP.app (Rs:=Rs) (Ts:=Ts)).2 ⟨G2,F2,g2,h2,λk hk=>h3 k (g5 k hk),λk=>.inl,λk=>.inr⟩,λk hk hg=>hg.elim (g3 k hk) (h3 k (g4 k hk)),λk hk=>h4 k (g4 k hk),λk hk=>hk.elim (λx=>h4 k (g5 k x)) (h5 k)⟩
theorem StarP.perm {w:World} {Rs Ts:List Asr} (h:Rs.Perm Ts):∀ {F:Nat->Prop},StarP w Rs F->StarP w Ts F:=by
 induction h with
 | nil=>exact λh=>h
 | cons R _ ih=>rintro F ⟨F1,F2,h1,h2,h3⟩;exact ⟨F1,F2,h1,ih h2,h3⟩
 | swap R T l=>
  rintro F ⟨F1,F2,h1,⟨G1,G2,g1,g2,g3,g4,g5⟩,h3,h4,h5⟩
  exact ⟨G1,λk=>F1 k\/G2 k,g1,⟨F1,G2,h1,g2,λk hk hg=>h3 k hk (g5 k hg),λk=>.inl,λk=>.inr⟩,λk hk hg=>hg.elim (λx=>h3 k x (g4 k hk)) (g3 k hk),λk hk=>h5 k (g4 k hk),λk hk=>hk.elim (h4 k) (λx=>h5 k (g5 k x))⟩
 | trans _ _ ih1 ih2=>exact λh=>ih2 (ih1 h)
theorem StarP.get {w:World}:∀ {Rs:List Asr} {i:Nat} {R:Asr} {F:Nat->Prop},Rs[i]? = some R->StarP w Rs F->∃ F1,R.p w F1/\∀ k,F1 k->F k
 | [],i,R,F,h,_=>by simp at h
 | T::Rs,0,R,F,h,⟨F1,F2,h1,h2,h3,h4,h5⟩=>by simp at h;subst h;exact ⟨F1,h1,h4⟩
 | T::Rs,i+1,R,F,h,⟨F1,F2,h1,h2,h3,h4,h5⟩=>by
  obtain ⟨G,g1,g2⟩:=StarP.get (i:=i) (by simpa using h) h2
  exact ⟨G,g1,λk hk=>h5 k (g2 k hk)⟩
def StarA (Rs:List Asr):Asr:=⟨λw F=>StarP w Rs F,λh k=>h.st k⟩
structure Sep (E:Nat->Prop) (w0 w:World) (Rs:List Asr):Prop where
 fr:Fr E w0 w
 ex:∃ F:Nat->Prop,StarP w Rs F/\∀ k,F k->(E k\/w0.heap.size<=k)/\k<w.heap.size
section
variable {E:Nat->Prop} {w0 w w':World} {Rs Ts:List Asr}
theorem Sep.ext (S:Sep NoB w0 w Rs):Ext w0 w:=S.fr.ext
theorem Sep.start (E:Nat->Prop) (w:World):Sep E w w []:=⟨Fr.refl _ _,NoB,trivial,λ_ x=>x.elim⟩
theorem Sep.begin {E:Nat->Prop} {w:World} {Rs:List Asr} (h:StarP w Rs E) (hE:∀ k,E k->k<w.heap.size):Sep E w w Rs:=⟨Fr.refl _ _,E,h,λk hk=>⟨.inl hk,hE k hk⟩⟩
theorem Sep.begin1 {E:Nat->Prop} {w:World} {R:Asr} (h:R.p w E) (hE:∀ k,E k->k<w.heap.size):Sep E w w [R]:=.begin ⟨E,NoB,h,trivial,λ_ _ x=>x,λ_ x=>x,λ_ x=>x.elim⟩ hE
theorem Sep.perm (S:Sep E w0 w Rs) (h:Rs.Perm Ts):Sep E w0 w Ts:=⟨S.fr,S.ex.imp λF ⟨h1,h2⟩=>⟨h1.perm h,h2⟩⟩
theorem Sep.drop (S:Sep E w0 w (Rs++Ts)):Sep E w0 w Ts:=by
 obtain ⟨F,h,hb⟩:=S.ex
 obtain ⟨F1,F2,h1,h2,h3,h4,h5⟩:=StarP.app.1 h
 exact ⟨S.fr,F2,h2,λk hk=>hb k (h5 k hk)⟩
theorem Sep.take (S:Sep E w0 w (Rs++Ts)):Sep E w0 w Rs:=by
 obtain ⟨F,h,hb⟩:=S.ex
 obtain ⟨F1,F2,h1,h2,h3,h4,h5⟩:=StarP.app.1 h
 exact ⟨S.fr,F1,h1,λk hk=>hb k (h4 k hk)⟩
theorem Sep.take1 {R:Asr} (S:Sep E w0 w (R::Rs)):Sep E w0 w [R]:=Sep.take (Rs:=[R]) S
theorem Sep.tail {R:Asr} (S:Sep E w0 w (R::Rs)):Sep E w0 w Rs:=Sep.drop (Rs:=[R]) S
theorem Sep.fold {Rs Ts:List Asr} (S:Sep E w0 w (Rs++Ts)):Sep E w0 w (StarA Rs::Ts):=by
 obtain ⟨F,h,hb⟩:=S.ex
 obtain ⟨F1,F2,h1,h2,h3⟩:=StarP.app.1 h
 exact ⟨S.fr,F,⟨F1,F2,h1,h2,h3⟩,hb⟩
theorem Sep.unfold {Rs Ts:List Asr} (S:Sep E w0 w (StarA Rs::Ts)):Sep E w0 w (Rs++Ts):=by
 obtain ⟨F,⟨F1,F2,h1,h2,h3⟩,hb⟩:=S.ex
 exact ⟨S.fr,F,StarP.app.2 ⟨F1,F2,h1,h2,h3⟩,hb⟩
theorem Sep.conv {R R':Asr} (S:Sep E w0 w (R::Rs)) (h:∀ F,R.p w F->(∀ k,F k->k<w.heap.size)->R'.p w F):Sep E w0 w (R'::Rs):=by
 obtain ⟨F,⟨F1,F2,h1,h2,h3,h4,h5⟩,hb⟩:=S.ex
 exact ⟨S.fr,F,⟨F1,F2,h F1 h1 λk hk=>(hb k (h4 k hk)).2,h2,h3,h4,h5⟩,hb⟩
theorem Sep.conv2 {R1 R2 R':Asr} (S:Sep E w0 w (R1::R2::Rs)) (h:∀ F1 F2,R1.p w F1->R2.p w F2->(∀ k,F1 k\/F2 k->k<w.heap.size)->R'.p w (λk=>F1 k\/F2 k)):Sep E w0 w (R'::Rs):=by
 obtain ⟨F,⟨F1,_,h1,⟨F2,F3,h2,h3,d2,u2,u3⟩,d1,u1,u0⟩,hb⟩:=S.ex
 exact ⟨S.fr,F,⟨λk=>F1 k\/F2 k,F3,h F1 F2 h1 h2 λk hk=>hk.elim (λx=>(hb k (u1 k x)).2) (λx=>(hb k (u0 k (u2 k x))).2),h3,λk hk hg=>hk.elim (λx=>d1 k x (u3 k hg)) (λx=>d2 k x hg),λk hk=>hk.elim (u1 k) (λx=>u0 k (u2 k x)),λk hk=>u0 k (u3 k hk)⟩,hb⟩
theorem Sep.get (S:Sep E w0 w Rs) {i:Nat} {R:Asr} (hi:Rs[i]? = some R):∃ F,R.p w F/\∀ k,F k->(E k\/w0.heap.size<=k)/\k<w.heap.size:=by
 obtain ⟨F,h,hb⟩:=S.ex
 obtain ⟨F1,h1,h2⟩:=StarP.get hi h
 exact ⟨F1,h1,λk hk=>hb k (h2 k hk)⟩
theorem Sep.frame (S:Sep E w0 w (Rs++Ts)):∃ F,StarP w Rs F/\(∀ k,F k->k<w.heap.size)/\∀ w' Ls,Sep F w w' Ls->Sep E w0 w' (Ls++Ts):=by
 obtain ⟨F,h,hb⟩:=S.ex
 obtain ⟨F1,F2,h1,h2,h3,h4,h5⟩:=StarP.app.1 h
 refine ⟨F1,h1,λk hk=>(hb k (h4 k hk)).2,λw' Ls S'=>?_⟩
 obtain ⟨G,g1,g2⟩:=S'.ex
 refine ⟨S.fr.trans' S'.fr λk hk=>(hb k (h4 k hk)).1,λk=>G k\/F2 k,StarP.app.2 ⟨G,F2,g1,h2.st λk hk=>S'.fr.block k (hb k (h5 k hk)).2 λx=>h3 k x hk,λk hk hf=>?_,λk=>.inl,λk=>.inr⟩,λk hk=>?_⟩
 ·rcases (g2 k hk).1 with x | x
  ·exact h3 k x hf
  ·have:=(hb k (h5 k hf)).2;omega
 ·rcases hk with hk | hk
  ·refine ⟨?_,(g2 k hk).2⟩
   rcases (g2 k hk).1 with x | x
   ·exact (hb k (h4 k x)).1
   ·have:=S.fr.size;exact .inr (by omega)
  ·exact ⟨(hb k (h5 k hk)).1,Nat.lt_of_lt_of_le (hb k (h5 k hk)).2 S'.fr.size⟩
theorem Sep.frame1 {R:Asr} (S:Sep E w0 w (R::Ts)):∃ F,R.p w F/\(∀ k,F k->k<w.heap.size)/\∀ w' Ls,Sep F w w' Ls->Sep E w0 w' (Ls++Ts):=by
 obtain ⟨F,⟨F1,F2,h1,h2,h3,h4,h5⟩,hb,hk⟩:=Sep.frame (Rs:=[R]) S
 refine ⟨F1,h1,λk hk=>hb k (h4 k hk),λw' Ls S'=>hk w' Ls ⟨S'.fr.mono h4,S'.ex.imp λG ⟨g1,g2⟩=>⟨g1,λk hk=>⟨(g2 k hk).1.imp (h4 k) id,(g2 k hk).2⟩⟩⟩⟩
theorem Sep.frame0 (S:Sep E w0 w Ts) {Ls:List Asr} (h:Sep NoB w w' Ls):Sep E w0 w' (Ls++Ts):=by
 obtain ⟨F,h1,h2,h3⟩:=Sep.frame (Rs:=[]) S
 refine h3 w' Ls ⟨h.fr.any,h.ex.imp λG ⟨g1,g2⟩=>⟨g1,λk hk=>⟨.inr ((g2 k hk).1.elim (λx=>x.elim) id),(g2 k hk).2⟩⟩⟩
theorem Sep.step0 (S:Sep E w0 w Rs) (h:Fr NoB w w'):Sep E w0 w' Rs:=S.frame0 (Ls:=[]) ⟨h,NoB,trivial,λ_ x=>x.elim⟩
theorem Sep.stepE (S:Sep E w0 w Rs) (h:Ext w w'):Sep E w0 w' Rs:=S.step0 (.of h)
theorem Sep.drew (S:Sep E w0 w Rs):Sep E w0 w.drew Rs:=S.step0 (.drew _ _)
theorem Sep.push (S:Sep E w0 w Rs) {R:Asr} {F:Nat->Prop} (h:Fr NoB w w') (hp:R.p w' F) (hF:∀ k,F k->w.heap.size<=k/\k<w'.heap.size):Sep E w0 w' (R::Rs):=
 S.frame0 (Ls:=[R]) ⟨h,F,⟨F,NoB,hp,trivial,λ_ _ x=>x,λ_ x=>x,λ_ x=>x.elim⟩,λk hk=>⟨.inr (hF k hk).1,(hF k hk).2⟩⟩
theorem Sep.reg (S:Sep E w0 w Rs) {body:(Nat->Prop)->Prop} (h:∀ D:Nat->Prop,(∀ b,b<w.heap.size->D b)->(∀ w',Fr NoB w.drew w'->KeepOn D w.drew w')->Sep E w0 w.drew Rs->Sep NoB w.drew w.drew []->body D):DrawV body:=
 DrawV.reg w λD hD hk=>h D hD hk S.drew (Sep.start _ _)
theorem Sep.regX (S:Sep E w0 w Rs) (X:Nat->Prop) {body:(Nat->Prop)->Prop} (h:∀ D:Nat->Prop,(∀ b,b<w.heap.size->¬ X b->D b)->(∀ w',Fr X w.drew w'->KeepOn D w.drew w')->Sep E w0 w.drew Rs->Sep NoB w.drew w.drew []->body D):DrawV body:=
 DrawV.but X w λD hD hk=>h D hD hk S.drew (Sep.start _ _)
theorem perm_front {Rs:List Asr} {i:Nat} {R:Asr} (hi:Rs[i]? = some R):Rs.Perm (R::Rs.eraseIdx i):=by
 induction Rs generalizing i with
 | nil=>simp at hi
 | cons T Rs ih=>
  cases i with
  | zero=>simp at hi;subst hi;exact List.Perm.refl _
  | succ i=>
   simp only [List.getElem?_cons_succ] at hi
   exact ((ih hi).cons T).trans (List.Perm.swap R T _)
theorem perm_set {Rs:List Asr} {i:Nat} {R R':Asr} (hi:Rs[i]? = some R):(R'::Rs.eraseIdx i).Perm (Rs.set i R'):=by
 have h:(Rs.set i R')[i]? = some R':=by
  have:=(List.getElem?_eq_some_iff.1 hi).1
  simp [this]
 have:=perm_front h
 rw [List.eraseIdx_set_eq] at this
 exact this.symm
theorem Sep.sel2 (S:Sep E w0 w Rs) (i j:Nat) {R T:Asr} (hi:Rs[i]? = some R) (hj:(Rs.eraseIdx i)[j]? = some T):Sep E w0 w [R,T]:=
 (S.perm ((perm_front hi).trans ((perm_front hj).cons R))).take (Rs:=[R,T])
def pickL:List Asr->List Nat->Option (List Asr)
 | _,[]=>some []
 | Rs,i::is=>match Rs[i]? with | none=>none | some R=>(pickL (Rs.eraseIdx i) is).map (R::·)
theorem pickL_perm:∀ {is:List Nat} {Rs Ts:List Asr},pickL Rs is=some Ts->∃ Us,Rs.Perm (Ts++Us)
 | [],Rs,Ts,h=>by simp [pickL] at h;subst h;exact ⟨Rs,List.Perm.refl _⟩
 | i::is,Rs,Ts,h=>by
  simp only [pickL] at h
  split at h
  ·cases h
  ·rename_i R hR
   obtain ⟨Vs,hV,rfl⟩:=Option.map_eq_some_iff.1 h
   obtain ⟨Us,hU⟩:=pickL_perm hV
   exact ⟨Us,(perm_front hR).trans (hU.cons R)⟩
theorem Sep.sel (S:Sep E w0 w Rs) (is:List Nat) {Ts:List Asr} (h:pickL Rs is=some Ts):Sep E w0 w Ts:=by
 obtain ⟨Us,hU⟩:=pickL_perm h
 exact (S.perm hU).take
theorem Sep.step (S:Sep E w0 w Rs) {i:Nat} {R:Asr} (hi:Rs[i]? = some R):∃ F,R.p w F/\(∀ k,F k->k<w.heap.size)/\∀ w' F' (R':Asr),R'.p w' F'->Fr F w w'->(∀ k,F' k->(F k\/w.heap.size<=k)/\k<w'.heap.size)->Sep E w0 w' (Rs.set i R'):=by
 obtain ⟨F,h1,h2,h3⟩:=(S.perm (perm_front hi)).frame1
 refine ⟨F,h1,h2,λw' F' R' hp hf hF=>(h3 w' [R'] ⟨hf,F',⟨F',NoB,hp,trivial,λ_ _ x=>x,λ_ x=>x,λ_ x=>x.elim⟩,hF⟩).perm (perm_set hi)⟩
end
def BoxA (b:Nat) (e:TypeId) (vs:List Value):Asr:=⟨λw F=>F b/\w.heap[b]? = some (.cells vs.toArray e),λh k=>⟨h.1,by rw [k _ h.1];exact h.2⟩⟩
def OwnA (e:TypeId) (sz:Nat) (a:Option Addr) (n c:Nat) (vs:List Value):Asr:=
 ⟨λw F=>Own w 0 e sz a n c vs/\∀ q:Addr,a=some q->F q.block,λh k=>⟨h.1.other λq hq=>k _ (h.2 q hq),h.2⟩⟩
section
variable {E:Nat->Prop} {w0 w w':World} {Rs Ts:List Asr} {b:Nat} {e:TypeId} {vs:List Value}
theorem Sep.newB (S:Sep E w0 w Rs) {K:Nat->World->Prop} (hk:∀ b w',Sep E w0 w' (BoxA b e vs::Rs)->Fr NoB w w'->w.heap.size<=b->K b w'):NewV vs.toArray e w K:=by
 rintro b w1 rfl rfl
 have f:Fr NoB w (w.alloc (.cells vs.toArray e)):=.of (Ext.alloc _ _)
 refine hk _ _ (S.push (F:=λk=>k=w.heap.size) f ⟨rfl,heap_new w _⟩ λk hk=>?_) f (Nat.le_refl _)
 subst hk
 exact ⟨Nat.le_refl _,by have:=(Array.getElem?_eq_some_iff.1 (heap_new w (.cells vs.toArray e))).1;exact this⟩
theorem Sep.cells (S:Sep E w0 w Rs) (i:Nat) (hi:Rs[i]? = some (BoxA b e vs)):CellsAt w ⟨b,0,none⟩ vs:=by
 obtain ⟨F,⟨_,h⟩,_⟩:=S.get hi
 exact CellsAt.of_heap (cs:=vs.toArray) (e:=e) (fr:=(0,0)) h (λj v hv=>by simpa using hv)
theorem Sep.ne (S:Sep E w0 w Rs) (i j:Nat) {b2:Nat} {e2:TypeId} {vs2:List Value} (hij:i<j) (hi:Rs[i]? = some (BoxA b e vs)) (hj:Rs[j]? = some (BoxA b2 e2 vs2)):b≠b2:=by
 obtain ⟨F,h,_⟩:=S.ex
 obtain ⟨F1,F2,h1,h2,h3,_⟩:=StarP.perm (perm_front hi) h
 have:(Rs.eraseIdx i)[j-1]? = some (BoxA b2 e2 vs2):=by rw [List.getElem?_eraseIdx_of_ge (by omega),show j-1+1=j by omega];exact hj
 obtain ⟨G,g1,g2⟩:=StarP.get this h2
 intro e
 subst e
 exact h3 b h1.1 (g2 b g1.1)
theorem Sep.lt (S:Sep E w0 w Rs) (i:Nat) (hi:Rs[i]? = some (BoxA b e vs)):b<w.heap.size:=by
 obtain ⟨F,⟨h,_⟩,h2⟩:=S.get hi
 exact (h2 b h).2
theorem Sep.ld (S:Sep E w0 w Rs) (i:Nat) (hi:Rs[i]? = some (BoxA b e vs)) {j:Nat} {h:SS} (x:h.T) (hv:vs[j]? = some (h.v x)) {K:h.T->Prop} (hk:K x):LoadS w ⟨b,j,none⟩ h K:=by
 refine ⟨x,?_,hk⟩
 have:=S.cells i hi j _ hv
 rwa [show (⟨b,0,none⟩:Addr).add j=⟨b,j,none⟩ by simp [Addr.add_lit]] at this
theorem Sep.lda (S:Sep E w0 w Rs) (i:Nat) (hi:Rs[i]? = some (BoxA b e vs)) {l:List SS} (x:Tup l) (hv:tupV l x=vs) {K:Tup l->Prop} (hk:K x):LoadA w ⟨b,0,none⟩ l K:=
 ⟨x,by rw [hv];exact S.cells i hi,hk⟩
theorem Sep.ldaN (S:Sep E w0 w Rs) (i:Nat) (hi:Rs[i]? = some (BoxA b e vs)) (o:Nat) {l:List SS} (x:Tup l) (hv:tupV l x=(vs.drop o).take l.length) {K:Tup l->Prop} (hk:K x):LoadA w ⟨b,o,none⟩ l K:=by
 refine ⟨x,?_,hk⟩
 rw [hv]
 have:=((S.cells i hi).drop o).take l.length
 rwa [show (⟨b,0,none⟩:Addr).add o=⟨b,o,none⟩ by simp [Addr.add_lit]] at this
theorem Sep.store (S:Sep E w0 w Rs) (i:Nat) (hi:Rs[i]? = some (BoxA b e vs)) (o:Nat) {news:List Value} (hl:o+news.length<=vs.length) {K:World->Prop}
  (hk:∀ w',Sep E w0 w' (Rs.set i (BoxA b e (vs.take o++(news++vs.drop (o+news.length)))))->Fr (λk=>k=b) w w'->K w'):StoreV w ⟨b,o,none⟩ news K:=by
 obtain ⟨F,⟨h1,h2⟩,h3,h4⟩:=S.step hi
 refine ⟨rfl,Free.of_heap h2 (by simpa using hl),?_⟩
 rintro w' rfl
 obtain ⟨r1,r2,r3,r4⟩:=setCells_rest news w b o
 have fr:Fr (λk=>k=b) w (w.setCells b o news):=⟨r1,r2,r3,by rw [r4];exact Nat.le_refl _,λk hk hn=>setCells_other _ _ _ _ _ hn⟩
 refine hk _ (h4 _ F _ ⟨h1,?_⟩ (fr.mono λk hk=>by subst hk;exact h1) λk hk=>⟨.inl hk,by rw [r4];exact h3 k hk⟩) fr
 rw [setCells_heap _ _ _ _ _ _ _ h2]
 have:=splice_toList news vs.toArray o (by simpa using hl)
 rw [List.toList_toArray] at this
 rw [<-this,Array.toArray_toList]
theorem Sep.asOwn (S:Sep E w0 w (BoxA b e vs::Rs)) {sz n:Nat} (hl:vs.length=n*sz) (hn:n<=9223372036854775807) (h1:oneAll vs):Sep E w0 w (OwnA e sz (some ⟨b,0,none⟩) n n vs::Rs):=
 S.conv λF ⟨hF,h⟩ _=>⟨⟨hl,Nat.le_refl _,hn,h1,.inr ⟨b,vs.toArray,rfl,Nat.zero_le _,h,by simpa using hl,by simp⟩⟩,λq hq=>by cases hq;exact hF⟩
theorem Sep.nilOwn (S:Sep E w0 w Rs) (e:TypeId) (sz:Nat):Sep E w0 w (OwnA e sz none 0 0 []::Rs):=
 S.push (F:=NoB) (Fr.refl _ _) ⟨Own.nil w 0 e sz,λq hq=>by cases hq⟩ λ_ x=>x.elim
theorem Sep.own (S:Sep E w0 w Rs) (i:Nat) {sz:Nat} {a:Option Addr} {n c:Nat} (hi:Rs[i]? = some (OwnA e sz a n c vs)):Own w 0 e sz a n c vs:=by
 obtain ⟨F,⟨h,_⟩,_⟩:=S.get hi
 exact h
theorem Sep.ints (S:Sep E w0 w Rs) (i:Nat) {a:Option Addr} {n c:Nat} {k:IntKind} {xs:List Int} (hi:Rs[i]? = some (OwnA e 1 a n c (xs.map (Value.int k)))):Ints w k a n c xs:=(S.own i hi).ints
theorem Sep.pushO (S:Sep E w0 w Rs) {sz:Nat} {a:Option Addr} {n c:Nat} (x:Ext w w') (h:Own w' w.heap.size e sz a n c vs):Sep E w0 w' (OwnA e sz a n c vs::Rs):=
 S.push (F:=λk=>∃ q:Addr,a=some q/\k=q.block) (.of x) ⟨h.mono (Nat.zero_le _),λq hq=>⟨q,hq,rfl⟩⟩ λk ⟨q,hq,hk⟩=>by subst hk;exact ⟨h.ge q hq,h.lt q hq⟩
theorem Sep.app (S:Sep E w0 w Rs) (i:Nat) {sz by':Nat} {a:Option Addr} {n c m:Nat} {news:List Value} (hi:Rs[i]? = some (OwnA e sz a n c vs)) (hl:news.length=m*sz) (h1:oneAll news) (hby:(2*(n+m)+256)*by'<=281474976710656) (h63:n+m<=9223372036854775807)
  {K:Option Addr->Nat->Nat->World->Prop} (hk:∀ a' c' w',Sep E w0 w' (Rs.set i (OwnA e sz a' (n+m) c' (vs++news)))->Fr (λk=>∃ q:Addr,a=some q/\k=q.block) w w'->K a' (n+m) c' w'):AppV w e sz by' a n c news m K:=by
 obtain ⟨F,⟨ho,hF⟩,h3,h4⟩:=S.step hi
 refine AppV.own ho (Nat.zero_le _) hl h1 hby h63 λa' c' w' o' b' but mov=>?_
 have fr:Fr (λk=>∃ q:Addr,a=some q/\k=q.block) w w':=⟨b'.os,b'.tape,b'.output,b'.size,λk hk hn=>but k hk λp hp e=>hn ⟨p,hp,e⟩⟩
 refine hk a' c' w' (h4 w' (λk=>∃ q:Addr,a'=some q/\k=q.block) _ ⟨o',λq hq=>⟨q,hq,rfl⟩⟩ (fr.mono λk ⟨q,hq,hk⟩=>by subst hk;exact hF q hq) λk ⟨q,hq,hk⟩=>?_) fr
 subst hk
 refine ⟨?_,o'.lt q hq⟩
 rcases mov with m | ⟨bb,m1,m2⟩
 ·exact .inl (hF q (by rw [<-m];exact hq))
 ·rw [m2] at hq;cases hq;exact .inr m1
theorem Sep.put (S:Sep E w0 w Rs) (i:Nat) {a:Option Addr} {n c:Nat} (hi:Rs[i]? = some (OwnA e 1 a n c vs)) {j:Int} (h0:0<=j) (h1:j<(n:Int)) {v:Value} (hv:v.oneCell'=true) {K:World->Prop}
  (hk:∀ w',Sep E w0 w' (Rs.set i (OwnA e 1 a n c (vs.set j.toNat v)))->Fr (λk=>∃ q:Addr,a=some q/\k=q.block) w w'->K w') :
  (0<=j/\j<(n:Int))/\∃ q,a=some q/\StoreV w (q.add (j.toNat*1)) [v] K:=by
 obtain ⟨F,⟨ho,hF⟩,h3,h4⟩:=S.step hi
 refine Own.store ho h0 h1 hv λw' o' b' but hs=>?_
 have fr:Fr (λk=>∃ q:Addr,a=some q/\k=q.block) w w':=⟨b'.os,b'.tape,b'.output,b'.size,λk hk hn=>but k hk λp hp e=>hn ⟨p,hp,e⟩⟩
 exact hk w' (h4 w' F _ ⟨o',hF⟩ (fr.mono λk ⟨q,hq,hk⟩=>by subst hk;exact hF q hq) λk hk=>⟨.inl hk,by rw [hs];exact h3 k hk⟩) fr
end
section
variable {E:Nat->Prop} {w0 w w':World} {Rs:List Asr} {b:Nat} {e:TypeId} {vs:List Value}
theorem Sep.ldR {i:Nat} (S:Sep E w0 w Rs) (hi:Rs[i]? = some (BoxA b e vs)) {j:Nat} {h:SS} {v:Value} {x:h.T} (hv:vs[j]? = some v) (hr:h.rd v=some x) {K:h.T->Prop} (hk:K x):LoadS w ⟨b,j,none⟩ h K:=
 S.ld i hi x (by rw [hv,SS.rd_v hr]) hk
theorem Sep.ldaR {i:Nat} (S:Sep E w0 w Rs) (hi:Rs[i]? = some (BoxA b e vs)) {l:List SS} {x:Tup l} (hr:tupR l vs=some x) {K:Tup l->Prop} (hk:K x):LoadA w ⟨b,0,none⟩ l K:=
 S.lda i hi x (tupR_v hr).symm hk
theorem Sep.ldaRN {i:Nat} (S:Sep E w0 w Rs) (hi:Rs[i]? = some (BoxA b e vs)) {o:Nat} {l:List SS} {x:Tup l} (hr:tupR l ((vs.drop o).take l.length)=some x) {K:Tup l->Prop} (hk:K x):LoadA w ⟨b,o,none⟩ l K:=
 S.ldaN i hi o x (tupR_v hr).symm hk
theorem Sep.storeR {i:Nat} (S:Sep E w0 w Rs) (hi:Rs[i]? = some (BoxA b e vs)) {news:List Value} (hl:vs.length=news.length) {K:World->Prop}
  (hk:∀ w',Sep E w0 w' (Rs.set i (BoxA b e news))->Fr (λk=>k=b) w w'->K w'):StoreV w ⟨b,0,none⟩ news K:=
 S.store i hi 0 (by omega) λw' S' f=>hk w' (by rw [show vs.take 0++(news++vs.drop (0+news.length))=news by rw [List.take_zero,List.drop_eq_nil_of_le (by omega)];simp] at S';exact S') f
theorem Sep.storeR1 {i:Nat} (S:Sep E w0 w Rs) (hi:Rs[i]? = some (BoxA b e vs)) {j:Nat} {v:Value} (hl:j<vs.length) {K:World->Prop}
  (hk:∀ w',Sep E w0 w' (Rs.set i (BoxA b e (vs.set j v)))->Fr (λk=>k=b) w w'->K w'):StoreV w ⟨b,j,none⟩ [v] K:=
 S.store i hi j (by simp;omega) λw' S' f=>hk w' (by
  rw [show vs.take j++([v]++vs.drop (j+[v].length))=vs.set j v by
   rw [List.set_eq_take_append_cons_drop,if_pos hl];rfl] at S'
  exact S') f
theorem Sep.ld0 (S:Sep E w0 w (BoxA b e vs::Rs)) {j:Nat} {h:SS} {v:Value} {x:h.T} (hv:vs[j]? = some v) (hr:h.rd v=some x) {K:h.T->Prop} (hk:K x):LoadS w ⟨b,j,none⟩ h K:=S.ldR (i:=0) rfl hv hr hk
theorem Sep.la0 (S:Sep E w0 w (BoxA b e vs::Rs)) {l:List SS} {x:Tup l} (hr:tupR l vs=some x) {K:Tup l->Prop} (hk:K x):LoadA w ⟨b,0,none⟩ l K:=S.ldaR (i:=0) rfl hr hk
theorem Sep.lb0 (S:Sep E w0 w (BoxA b e vs::Rs)) {o:Nat} {l:List SS} {x:Tup l} (hr:tupR l ((vs.drop o).take l.length)=some x) {K:Tup l->Prop} (hk:K x):LoadA w ⟨b,o,none⟩ l K:=S.ldaRN (i:=0) rfl hr hk
theorem Sep.st0 (S:Sep E w0 w (BoxA b e vs::Rs)) {news:List Value} (hl:vs.length=news.length) {K:World->Prop} (hk:∀ w',Sep E w0 w' (BoxA b e news::Rs)->Fr (λk=>k=b) w w'->K w'):StoreV w ⟨b,0,none⟩ news K:=S.storeR (i:=0) rfl hl hk
theorem Sep.su0 (S:Sep E w0 w (BoxA b e vs::Rs)) {j:Nat} {v:Value} (hl:Nat.blt j vs.length=true) {K:World->Prop} (hk:∀ w',Sep E w0 w' (BoxA b e (vs.set j v)::Rs)->Fr (λk=>k=b) w w'->K w'):StoreV w ⟨b,j,none⟩ [v] K:=S.storeR1 (i:=0) rfl (by simpa [Nat.blt_eq] using hl) hk
theorem Sep.bl0 (S:Sep E w0 w (BoxA b e vs::Rs)):b<w.heap.size:=S.lt 0 rfl
theorem Sep.ap0 {sz by':Nat} {a:Option Addr} {n c m:Nat} {news:List Value} (S:Sep E w0 w (OwnA e sz a n c vs::Rs)) (hl:news.length=m*sz) (h1:oneAll news) (hby:(2*(n+m)+256)*by'<=281474976710656) (h63:n+m<=9223372036854775807) {K:Option Addr->Nat->Nat->World->Prop} (hk:∀ a' c' w',Sep E w0 w' (OwnA e sz a' (n+m) c' (vs++news)::Rs)->Fr (λk=>∃ q:Addr,a=some q/\k=q.block) w w'->K a' (n+m) c' w'):AppV w e sz by' a n c news m K:=S.app 0 rfl hl h1 hby h63 hk
theorem Sep.in0 {a:Option Addr} {n c:Nat} {k:IntKind} {xs:List Int} (S:Sep E w0 w (OwnA e 1 a n c (xs.map (Value.int k))::Rs)):Ints w k a n c xs:=S.ints 0 rfl
theorem Sep.ab0 {a:Option Addr} {n c m:Nat} {xs ys:List Int} {a2:Option Addr} {c2:Nat} (S:Sep E w0 w (OwnA e 1 a n c (xs.map (Value.int .u8))::Rs)) (hy:Ints w .u8 a2 m c2 ys) (hn:n+m<=140737488351232) {K:Option Addr->Nat->Nat->World->Prop} (hk:∀ a' c' w',Sep E w0 w' (OwnA e 1 a' (n+m) c' ((xs++ys).map (Value.int .u8))::Rs)->Fr (λk=>∃ q:Addr,a=some q/\k=q.block) w w'->K a' (n+m) c' w'):AppS w a2 m 1 λns=>AppV w e 1 1 a n c ns m K:=
 AppS.of (news:=ys.map (Value.int .u8)) (by rw [List.length_map,hy.len];omega) hy.rd (S.ap0 (by rw [List.length_map,hy.len];omega) (oneAll.ints _ _) (by omega) (by omega) λa' c' w' S' f=>hk a' c' w' (by rw [List.map_append];exact S') f)
theorem Sep.ld1 {R0:Asr} (S:Sep E w0 w (R0::BoxA b e vs::Rs)) {j:Nat} {h:SS} {v:Value} {x:h.T} (hv:vs[j]? = some v) (hr:h.rd v=some x) {K:h.T->Prop} (hk:K x):LoadS w ⟨b,j,none⟩ h K:=S.ldR (i:=1) rfl hv hr hk
theorem Sep.la1 {R0:Asr} (S:Sep E w0 w (R0::BoxA b e vs::Rs)) {l:List SS} {x:Tup l} (hr:tupR l vs=some x) {K:Tup l->Prop} (hk:K x):LoadA w ⟨b,0,none⟩ l K:=S.ldaR (i:=1) rfl hr hk
theorem Sep.lb1 {R0:Asr} (S:Sep E w0 w (R0::BoxA b e vs::Rs)) {o:Nat} {l:List SS} {x:Tup l} (hr:tupR l ((vs.drop o).take l.length)=some x) {K:Tup l->Prop} (hk:K x):LoadA w ⟨b,o,none⟩ l K:=S.ldaRN (i:=1) rfl hr hk
theorem Sep.st1 {R0:Asr} (S:Sep E w0 w (R0::BoxA b e vs::Rs)) {news:List Value} (hl:vs.length=news.length) {K:World->Prop} (hk:∀ w',Sep E w0 w' (R0::BoxA b e news::Rs)->Fr (λk=>k=b) w w'->K w'):StoreV w ⟨b,0,none⟩ news K:=S.storeR (i:=1) rfl hl hk
theorem Sep.su1 {R0:Asr} (S:Sep E w0 w (R0::BoxA b e vs::Rs)) {j:Nat} {v:Value} (hl:Nat.blt j vs.length=true) {K:World->Prop} (hk:∀ w',Sep E w0 w' (R0::BoxA b e (vs.set j v)::Rs)->Fr (λk=>k=b) w w'->K w'):StoreV w ⟨b,j,none⟩ [v] K:=S.storeR1 (i:=1) rfl (by simpa [Nat.blt_eq] using hl) hk
theorem Sep.bl1 {R0:Asr} (S:Sep E w0 w (R0::BoxA b e vs::Rs)):b<w.heap.size:=S.lt 1 rfl
theorem Sep.ap1 {R0:Asr} {sz by':Nat} {a:Option Addr} {n c m:Nat} {news:List Value} (S:Sep E w0 w (R0::OwnA e sz a n c vs::Rs)) (hl:news.length=m*sz) (h1:oneAll news) (hby:(2*(n+m)+256)*by'<=281474976710656) (h63:n+m<=9223372036854775807) {K:Option Addr->Nat->Nat->World->Prop} (hk:∀ a' c' w',Sep E w0 w' (R0::OwnA e sz a' (n+m) c' (vs++news)::Rs)->Fr (λk=>∃ q:Addr,a=some q/\k=q.block) w w'->K a' (n+m) c' w'):AppV w e sz by' a n c news m K:=S.app 1 rfl hl h1 hby h63 hk
theorem Sep.ab1 {R0:Asr} {a:Option Addr} {n c m:Nat} {xs ys:List Int} {a2:Option Addr} {c2:Nat} (S:Sep E w0 w (R0::OwnA e 1 a n c (xs.map (Value.int .u8))::Rs)) (hy:Ints w .u8 a2 m c2 ys) (hn:n+m<=140737488351232) {K:Option Addr->Nat->Nat->World->Prop} (hk:∀ a' c' w',Sep E w0 w' (R0::OwnA e 1 a' (n+m) c' ((xs++ys).map (Value.int .u8))::Rs)->Fr (λk=>∃ q:Addr,a=some q/\k=q.block) w w'->K a' (n+m) c' w'):AppS w a2 m 1 λns=>AppV w e 1 1 a n c ns m K:=
 AppS.of (news:=ys.map (Value.int .u8)) (by rw [List.length_map,hy.len];omega) hy.rd (S.ap1 (by rw [List.length_map,hy.len];omega) (oneAll.ints _ _) (by omega) (by omega) λa' c' w' S' f=>hk a' c' w' (by rw [List.map_append];exact S') f)
theorem Sep.ld2 {R0 R1:Asr} (S:Sep E w0 w (R0::R1::BoxA b e vs::Rs)) {j:Nat} {h:SS} {v:Value} {x:h.T} (hv:vs[j]? = some v) (hr:h.rd v=some x) {K:h.T->Prop} (hk:K x):LoadS w ⟨b,j,none⟩ h K:=S.ldR (i:=2) rfl hv hr hk
theorem Sep.la2 {R0 R1:Asr} (S:Sep E w0 w (R0::R1::BoxA b e vs::Rs)) {l:List SS} {x:Tup l} (hr:tupR l vs=some x) {K:Tup l->Prop} (hk:K x):LoadA w ⟨b,0,none⟩ l K:=S.ldaR (i:=2) rfl hr hk
theorem Sep.lb2 {R0 R1:Asr} (S:Sep E w0 w (R0::R1::BoxA b e vs::Rs)) {o:Nat} {l:List SS} {x:Tup l} (hr:tupR l ((vs.drop o).take l.length)=some x) {K:Tup l->Prop} (hk:K x):LoadA w ⟨b,o,none⟩ l K:=S.ldaRN (i:=2) rfl hr hk
theorem Sep.st2 {R0 R1:Asr} (S:Sep E w0 w (R0::R1::BoxA b e vs::Rs)) {news:List Value} (hl:vs.length=news.length) {K:World->Prop} (hk:∀ w',Sep E w0 w' (R0::R1::BoxA b e news::Rs)->Fr (λk=>k=b) w w'->K w'):StoreV w ⟨b,0,none⟩ news K:=S.storeR (i:=2) rfl hl hk
theorem Sep.su2 {R0 R1:Asr} (S:Sep E w0 w (R0::R1::BoxA b e vs::Rs)) {j:Nat} {v:Value} (hl:Nat.blt j vs.length=true) {K:World->Prop} (hk:∀ w',Sep E w0 w' (R0::R1::BoxA b e (vs.set j v)::Rs)->Fr (λk=>k=b) w w'->K w'):StoreV w ⟨b,j,none⟩ [v] K:=S.storeR1 (i:=2) rfl (by simpa [Nat.blt_eq] using hl) hk
theorem Sep.bl2 {R0 R1:Asr} (S:Sep E w0 w (R0::R1::BoxA b e vs::Rs)):b<w.heap.size:=S.lt 2 rfl
theorem Sep.ap2 {R0 R1:Asr} {sz by':Nat} {a:Option Addr} {n c m:Nat} {news:List Value} (S:Sep E w0 w (R0::R1::OwnA e sz a n c vs::Rs)) (hl:news.length=m*sz) (h1:oneAll news) (hby:(2*(n+m)+256)*by'<=281474976710656) (h63:n+m<=9223372036854775807) {K:Option Addr->Nat->Nat->World->Prop} (hk:∀ a' c' w',Sep E w0 w' (R0::R1::OwnA e sz a' (n+m) c' (vs++news)::Rs)->Fr (λk=>∃ q:Addr,a=some q/\k=q.block) w w'->K a' (n+m) c' w'):AppV w e sz by' a n c news m K:=S.app 2 rfl hl h1 hby h63 hk
theorem Sep.ld3 {R0 R1 R2:Asr} (S:Sep E w0 w (R0::R1::R2::BoxA b e vs::Rs)) {j:Nat} {h:SS} {v:Value} {x:h.T} (hv:vs[j]? = some v) (hr:h.rd v=some x) {K:h.T->Prop} (hk:K x):LoadS w ⟨b,j,none⟩ h K:=S.ldR (i:=3) rfl hv hr hk
theorem Sep.la3 {R0 R1 R2:Asr} (S:Sep E w0 w (R0::R1::R2::BoxA b e vs::Rs)) {l:List SS} {x:Tup l} (hr:tupR l vs=some x) {K:Tup l->Prop} (hk:K x):LoadA w ⟨b,0,none⟩ l K:=S.ldaR (i:=3) rfl hr hk
theorem Sep.lb3 {R0 R1 R2:Asr} (S:Sep E w0 w (R0::R1::R2::BoxA b e vs::Rs)) {o:Nat} {l:List SS} {x:Tup l} (hr:tupR l ((vs.drop o).take l.length)=some x) {K:Tup l->Prop} (hk:K x):LoadA w ⟨b,o,none⟩ l K:=S.ldaRN (i:=3) rfl hr hk
theorem Sep.st3 {R0 R1 R2:Asr} (S:Sep E w0 w (R0::R1::R2::BoxA b e vs::Rs)) {news:List Value} (hl:vs.length=news.length) {K:World->Prop} (hk:∀ w',Sep E w0 w' (R0::R1::R2::BoxA b e news::Rs)->Fr (λk=>k=b) w w'->K w'):StoreV w ⟨b,0,none⟩ news K:=S.storeR (i:=3) rfl hl hk
theorem Sep.su3 {R0 R1 R2:Asr} (S:Sep E w0 w (R0::R1::R2::BoxA b e vs::Rs)) {j:Nat} {v:Value} (hl:Nat.blt j vs.length=true) {K:World->Prop} (hk:∀ w',Sep E w0 w' (R0::R1::R2::BoxA b e (vs.set j v)::Rs)->Fr (λk=>k=b) w w'->K w'):StoreV w ⟨b,j,none⟩ [v] K:=S.storeR1 (i:=3) rfl (by simpa [Nat.blt_eq] using hl) hk
theorem Sep.bl3 {R0 R1 R2:Asr} (S:Sep E w0 w (R0::R1::R2::BoxA b e vs::Rs)):b<w.heap.size:=S.lt 3 rfl
theorem Sep.ap3 {R0 R1 R2:Asr} {sz by':Nat} {a:Option Addr} {n c m:Nat} {news:List Value} (S:Sep E w0 w (R0::R1::R2::OwnA e sz a n c vs::Rs)) (hl:news.length=m*sz) (h1:oneAll news) (hby:(2*(n+m)+256)*by'<=281474976710656) (h63:n+m<=9223372036854775807) {K:Option Addr->Nat->Nat->World->Prop} (hk:∀ a' c' w',Sep E w0 w' (R0::R1::R2::OwnA e sz a' (n+m) c' (vs++news)::Rs)->Fr (λk=>∃ q:Addr,a=some q/\k=q.block) w w'->K a' (n+m) c' w'):AppV w e sz by' a n c news m K:=S.app 3 rfl hl h1 hby h63 hk
theorem Sep.ld4 {R0 R1 R2 R3:Asr} (S:Sep E w0 w (R0::R1::R2::R3::BoxA b e vs::Rs)) {j:Nat} {h:SS} {v:Value} {x:h.T} (hv:vs[j]? = some v) (hr:h.rd v=some x) {K:h.T->Prop} (hk:K x):LoadS w ⟨b,j,none⟩ h K:=S.ldR (i:=4) rfl hv hr hk
theorem Sep.la4 {R0 R1 R2 R3:Asr} (S:Sep E w0 w (R0::R1::R2::R3::BoxA b e vs::Rs)) {l:List SS} {x:Tup l} (hr:tupR l vs=some x) {K:Tup l->Prop} (hk:K x):LoadA w ⟨b,0,none⟩ l K:=S.ldaR (i:=4) rfl hr hk
theorem Sep.lb4 {R0 R1 R2 R3:Asr} (S:Sep E w0 w (R0::R1::R2::R3::BoxA b e vs::Rs)) {o:Nat} {l:List SS} {x:Tup l} (hr:tupR l ((vs.drop o).take l.length)=some x) {K:Tup l->Prop} (hk:K x):LoadA w ⟨b,o,none⟩ l K:=S.ldaRN (i:=4) rfl hr hk
theorem Sep.st4 {R0 R1 R2 R3:Asr} (S:Sep E w0 w (R0::R1::R2::R3::BoxA b e vs::Rs)) {news:List Value} (hl:vs.length=news.length) {K:World->Prop} (hk:∀ w',Sep E w0 w' (R0::R1::R2::R3::BoxA b e news::Rs)->Fr (λk=>k=b) w w'->K w'):StoreV w ⟨b,0,none⟩ news K:=S.storeR (i:=4) rfl hl hk
theorem Sep.su4 {R0 R1 R2 R3:Asr} (S:Sep E w0 w (R0::R1::R2::R3::BoxA b e vs::Rs)) {j:Nat} {v:Value} (hl:Nat.blt j vs.length=true) {K:World->Prop} (hk:∀ w',Sep E w0 w' (R0::R1::R2::R3::BoxA b e (vs.set j v)::Rs)->Fr (λk=>k=b) w w'->K w'):StoreV w ⟨b,j,none⟩ [v] K:=S.storeR1 (i:=4) rfl (by simpa [Nat.blt_eq] using hl) hk
theorem Sep.bl4 {R0 R1 R2 R3:Asr} (S:Sep E w0 w (R0::R1::R2::R3::BoxA b e vs::Rs)):b<w.heap.size:=S.lt 4 rfl
theorem Sep.ap4 {R0 R1 R2 R3:Asr} {sz by':Nat} {a:Option Addr} {n c m:Nat} {news:List Value} (S:Sep E w0 w (R0::R1::R2::R3::OwnA e sz a n c vs::Rs)) (hl:news.length=m*sz) (h1:oneAll news) (hby:(2*(n+m)+256)*by'<=281474976710656) (h63:n+m<=9223372036854775807) {K:Option Addr->Nat->Nat->World->Prop} (hk:∀ a' c' w',Sep E w0 w' (R0::R1::R2::R3::OwnA e sz a' (n+m) c' (vs++news)::Rs)->Fr (λk=>∃ q:Addr,a=some q/\k=q.block) w w'->K a' (n+m) c' w'):AppV w e sz by' a n c news m K:=S.app 4 rfl hl h1 hby h63 hk
theorem Sep.ld5 {R0 R1 R2 R3 R4:Asr} (S:Sep E w0 w (R0::R1::R2::R3::R4::BoxA b e vs::Rs)) {j:Nat} {h:SS} {v:Value} {x:h.T} (hv:vs[j]? = some v) (hr:h.rd v=some x) {K:h.T->Prop} (hk:K x):LoadS w ⟨b,j,none⟩ h K:=S.ldR (i:=5) rfl hv hr hk
theorem Sep.la5 {R0 R1 R2 R3 R4:Asr} (S:Sep E w0 w (R0::R1::R2::R3::R4::BoxA b e vs::Rs)) {l:List SS} {x:Tup l} (hr:tupR l vs=some x) {K:Tup l->Prop} (hk:K x):LoadA w ⟨b,0,none⟩ l K:=S.ldaR (i:=5) rfl hr hk
theorem Sep.lb5 {R0 R1 R2 R3 R4:Asr} (S:Sep E w0 w (R0::R1::R2::R3::R4::BoxA b e vs::Rs)) {o:Nat} {l:List SS} {x:Tup l} (hr:tupR l ((vs.drop o).take l.length)=some x) {K:Tup l->Prop} (hk:K x):LoadA w ⟨b,o,none⟩ l K:=S.ldaRN (i:=5) rfl hr hk
theorem Sep.st5 {R0 R1 R2 R3 R4:Asr} (S:Sep E w0 w (R0::R1::R2::R3::R4::BoxA b e vs::Rs)) {news:List Value} (hl:vs.length=news.length) {K:World->Prop} (hk:∀ w',Sep E w0 w' (R0::R1::R2::R3::R4::BoxA b e news::Rs)->Fr (λk=>k=b) w w'->K w'):StoreV w ⟨b,0,none⟩ news K:=S.storeR (i:=5) rfl hl hk
theorem Sep.bl5 {R0 R1 R2 R3 R4:Asr} (S:Sep E w0 w (R0::R1::R2::R3::R4::BoxA b e vs::Rs)):b<w.heap.size:=S.lt 5 rfl
theorem Sep.ap5 {R0 R1 R2 R3 R4:Asr} {sz by':Nat} {a:Option Addr} {n c m:Nat} {news:List Value} (S:Sep E w0 w (R0::R1::R2::R3::R4::OwnA e sz a n c vs::Rs)) (hl:news.length=m*sz) (h1:oneAll news) (hby:(2*(n+m)+256)*by'<=281474976710656) (h63:n+m<=9223372036854775807) {K:Option Addr->Nat->Nat->World->Prop} (hk:∀ a' c' w',Sep E w0 w' (R0::R1::R2::R3::R4::OwnA e sz a' (n+m) c' (vs++news)::Rs)->Fr (λk=>∃ q:Addr,a=some q/\k=q.block) w w'->K a' (n+m) c' w'):AppV w e sz by' a n c news m K:=S.app 5 rfl hl h1 hby h63 hk
theorem Sep.ld6 {R0 R1 R2 R3 R4 R5:Asr} (S:Sep E w0 w (R0::R1::R2::R3::R4::R5::BoxA b e vs::Rs)) {j:Nat} {h:SS} {v:Value} {x:h.T} (hv:vs[j]? = some v) (hr:h.rd v=some x) {K:h.T->Prop} (hk:K x):LoadS w ⟨b,j,none⟩ h K:=S.ldR (i:=6) rfl hv hr hk
theorem Sep.la6 {R0 R1 R2 R3 R4 R5:Asr} (S:Sep E w0 w (R0::R1::R2::R3::R4::R5::BoxA b e vs::Rs)) {l:List SS} {x:Tup l} (hr:tupR l vs=some x) {K:Tup l->Prop} (hk:K x):LoadA w ⟨b,0,none⟩ l K:=S.ldaR (i:=6) rfl hr hk
theorem Sep.st6 {R0 R1 R2 R3 R4 R5:Asr} (S:Sep E w0 w (R0::R1::R2::R3::R4::R5::BoxA b e vs::Rs)) {news:List Value} (hl:vs.length=news.length) {K:World->Prop} (hk:∀ w',Sep E w0 w' (R0::R1::R2::R3::R4::R5::BoxA b e news::Rs)->Fr (λk=>k=b) w w'->K w'):StoreV w ⟨b,0,none⟩ news K:=S.storeR (i:=6) rfl hl hk
theorem Sep.su6 {R0 R1 R2 R3 R4 R5:Asr} (S:Sep E w0 w (R0::R1::R2::R3::R4::R5::BoxA b e vs::Rs)) {j:Nat} {v:Value} (hl:Nat.blt j vs.length=true) {K:World->Prop} (hk:∀ w',Sep E w0 w' (R0::R1::R2::R3::R4::R5::BoxA b e (vs.set j v)::Rs)->Fr (λk=>k=b) w w'->K w'):StoreV w ⟨b,j,none⟩ [v] K:=S.storeR1 (i:=6) rfl (by simpa [Nat.blt_eq] using hl) hk
theorem Sep.bl6 {R0 R1 R2 R3 R4 R5:Asr} (S:Sep E w0 w (R0::R1::R2::R3::R4::R5::BoxA b e vs::Rs)):b<w.heap.size:=S.lt 6 rfl
theorem Sep.ap6 {R0 R1 R2 R3 R4 R5:Asr} {sz by':Nat} {a:Option Addr} {n c m:Nat} {news:List Value} (S:Sep E w0 w (R0::R1::R2::R3::R4::R5::OwnA e sz a n c vs::Rs)) (hl:news.length=m*sz) (h1:oneAll news) (hby:(2*(n+m)+256)*by'<=281474976710656) (h63:n+m<=9223372036854775807) {K:Option Addr->Nat->Nat->World->Prop} (hk:∀ a' c' w',Sep E w0 w' (R0::R1::R2::R3::R4::R5::OwnA e sz a' (n+m) c' (vs++news)::Rs)->Fr (λk=>∃ q:Addr,a=some q/\k=q.block) w w'->K a' (n+m) c' w'):AppV w e sz by' a n c news m K:=S.app 6 rfl hl h1 hby h63 hk
theorem Sep.la8 {R0 R1 R2 R3 R4 R5 R6 R7:Asr} (S:Sep E w0 w (R0::R1::R2::R3::R4::R5::R6::R7::BoxA b e vs::Rs)) {l:List SS} {x:Tup l} (hr:tupR l vs=some x) {K:Tup l->Prop} (hk:K x):LoadA w ⟨b,0,none⟩ l K:=S.ldaR (i:=8) rfl hr hk
end
end Go.Eng
namespace Go.Eng
open Go
section
variable {E:Nat->Prop} {w0 w w':World} {Rs Ts:List Asr}
theorem Sep.call {P:Program} {g:FuncId} {args:Array Value} {l:List Sh} (Rs:List Asr) {Ts:List Asr} (S:Sep E w0 w (Rs++Ts)) {C:(Nat->Prop)->RT l->World->Prop}
  (hc:∀ F,Sep F w w Rs->CallV P g args w l λr w'=>C F r w') {K:RT l->World->Prop}
  (hk:∀ F,(∀ w' Ls,Sep F w w' Ls->Sep E w0 w' (Ls++Ts))->∀ r w',C F r w'->K r w'):CallV P g args w l K:=by
 obtain ⟨F,h1,h2,h3⟩:=S.frame
 exact (hc F (Sep.begin h1 h2)).mono λr w' h=>hk F h3 r w' h
theorem Sep.focus {e:TypeId} {sz:Nat} {a:Option Addr} {n c:Nat} {vs:List Value} (S:Sep E w0 w (OwnA e sz a n c vs::Rs)) (hn:vs≠[]) :
  ∃ b tl,a=some ⟨b,0,none⟩/\vs.length=n*sz/\(vs++tl).length=c*sz/\n<=c/\n<=9223372036854775807/\oneAll vs/\Sep E w0 w (BoxA b e (vs++tl)::Rs):=by
 have ho:=S.own 0 rfl
 rcases ho.at_ with ⟨_,_,h⟩ | ⟨b,cs,h1,h2,h3,h4,h5⟩
 ·exact absurd h hn
 ·have he:vs++cs.toList.drop vs.length=cs.toList:=by conv=>rhs;rw [<-List.take_append_drop vs.length cs.toList,h5]
  refine ⟨b,cs.toList.drop vs.length,h1,ho.len,by rw [he];exact h4,ho.cap,ho.lim,ho.one,S.conv λF h _=>⟨h.2 _ h1,?_⟩⟩
  rw [he,Array.toArray_toList]
  exact h3
theorem Sep.unfocus {e:TypeId} {sz:Nat} {n c b:Nat} {vs tl:List Value} (S:Sep E w0 w (BoxA b e (vs++tl)::Rs)) (h1:vs.length=n*sz) (h2:(vs++tl).length=c*sz) (h3:n<=c) (h4:n<=9223372036854775807) (h5:oneAll vs):Sep E w0 w (OwnA e sz (some ⟨b,0,none⟩) n c vs::Rs):=
 S.conv λF ⟨hF,h⟩ _=>⟨⟨h1,h3,h4,h5,.inr ⟨b,(vs++tl).toArray,rfl,Nat.zero_le _,h,by simpa using h2,by simp⟩⟩,λq hq=>by cases hq;exact hF⟩
theorem splice_mid {pre xs post news:List Value} {o j:Nat} (ho:o=pre.length) (h:j+news.length<=xs.length) :
  (pre++(xs++post)).take (o+j)++(news++(pre++(xs++post)).drop (o+j+news.length))=pre++((xs.take j++(news++xs.drop (j+news.length)))++post):=by
 subst ho
 rw [List.take_append,List.take_of_length_le (by omega),show pre.length+j-pre.length=j by omega,List.take_append_of_le_length (by omega),show pre.length+j+news.length=pre.length+(j+news.length) by omega,
  <- List.drop_drop,List.drop_append_of_le_length (Nat.le_refl _),List.drop_length,List.nil_append,List.drop_append_of_le_length h]
 simp
variable {b o:Nat} {e:TypeId} {pre xs post:List Value}
theorem Sep.stM (i:Nat) (j:Nat) (S:Sep E w0 w Rs) (hi:Rs[i]? = some (BoxA b e (pre++(xs++post)))) (ho:o=pre.length) {news:List Value} (hl:j+news.length<=xs.length) {K:World->Prop}
  (hk:∀ w',Sep E w0 w' (Rs.set i (BoxA b e (pre++((xs.take j++(news++xs.drop (j+news.length)))++post))))->Fr (λk=>k=b) w w'->K w'):StoreV w ((⟨b,o,none⟩:Addr).add j) news K:=by
 rw [show (⟨b,o,none⟩:Addr).add j=⟨b,o+j,none⟩ by simp [Addr.add_lit]]
 refine S.store i hi (o+j) (by subst ho;simp only [List.length_append];omega) λw' S f=>hk w' ?_ f
 rw [<-splice_mid ho hl]
 exact S
theorem Sep.stM0 (i:Nat) (S:Sep E w0 w Rs) (hi:Rs[i]? = some (BoxA b e (pre++(xs++post)))) (ho:o=pre.length) {news:List Value} (hl:news.length<=xs.length) {K:World->Prop}
  (hk:∀ w',Sep E w0 w' (Rs.set i (BoxA b e (pre++((news++xs.drop news.length)++post))))->Fr (λk=>k=b) w w'->K w'):StoreV w (⟨b,o,none⟩:Addr) news K:=by
 have:=S.stM i 0 hi ho (news:=news) (by omega) (K:=K) (by simpa using hk)
 rwa [show (⟨b,o,none⟩:Addr).add 0=⟨b,o,none⟩ by simp [Addr.add_lit]] at this
theorem Sep.cellsM (i:Nat) (S:Sep E w0 w Rs) (hi:Rs[i]? = some (BoxA b e (pre++(xs++post)))) (ho:o=pre.length):CellsAt w ⟨b,o,none⟩ xs:=by
 have h:=(S.cells i hi)
 intro j v hv
 have hj:j<xs.length:=(List.getElem?_eq_some_iff.1 hv).1
 have:=h (pre.length+j) v (by rw [List.getElem?_append_right (by omega),show pre.length+j-pre.length=j by omega,List.getElem?_append_left hj];exact hv)
 rw [show (⟨b,0,none⟩:Addr).add (pre.length+j)=(⟨b,o,none⟩:Addr).add j by subst ho;simp [Addr.add_lit]] at this
 exact this
end
theorem ldc {w:World} {p:Addr} {vs:List Value} (hc:CellsAt w p vs) (j:Nat) {h:SS} {x:h.T} (hv:vs[j]? = some (h.v x)) {K:h.T->Prop} (hk:K x):LoadS w (p.add j) h K:=⟨x,hc j _ hv,hk⟩
theorem flat_mid {α β:Type} {f:α->List β} {L:List α} {i:Nat} {y z:α} (hy:L[i]? = some y):L.flatMap f=(L.take i).flatMap f++(f y++(L.drop (i+1)).flatMap f)/\(L.set i z).flatMap f=(L.take i).flatMap f++(f z++(L.drop (i+1)).flatMap f):=by
 have hi:i<L.length:=(List.getElem?_eq_some_iff.1 hy).1
 have he:L[i]=y:=(List.getElem?_eq_some_iff.1 hy).2
 constructor
 ·conv=>lhs;rw [<-List.take_append_drop i L,List.drop_eq_getElem_cons hi,he]
  rw [List.flatMap_append,List.flatMap_cons]
 ·rw [List.set_eq_take_append_cons_drop,if_pos hi,List.flatMap_append,List.flatMap_cons]
section
variable {E:Nat->Prop} {w0 w w':World} {Rs Ts:List Asr} {α:Type} {f:α->List Value} {m:Nat} {e:TypeId} {a:Option Addr} {n c:Nat} {L:List α}
theorem flatF_len (hm:∀ x,(f x).length=m) (L:List α):(L.flatMap f).length=L.length*m:=by
 induction L with
 | nil=>simp
 | cons x L ih=>rw [List.flatMap_cons,List.length_append,hm,ih,List.length_cons,Nat.add_mul];omega
theorem flatF_one (h1:∀ x,oneAll (f x)) (L:List α):oneAll (L.flatMap f):=λu hu=>by
 obtain ⟨x,-,hx⟩:=List.mem_flatMap.1 hu
 exact h1 x u hx
theorem Sep.nthF (i:Nat) (S:Sep E w0 w Rs) (hi:Rs[i]? = some (OwnA e m a n c (L.flatMap f))) (hm:∀ x,(f x).length=m) (hp:0<m) {j:Int} (h0:0<=j) (h1:j<(n:Int)) :
  ∃ q x,a=some q/\L[j.toNat]? = some x/\CellsAt w (q.add (j.toNat*m)) (f x):=by
 have ho:=S.own i hi
 have hl:=ho.len
 rw [flatF_len hm] at hl
 have hl:L.length=n:=Nat.eq_of_mul_eq_mul_right hp hl
 have hj:j.toNat<L.length:=by omega
 rcases ho.rd with ⟨_,h2⟩ | ⟨q,h2,h3⟩
 ·have:=congrArg List.length h2
  rw [flatF_len hm,List.length_nil] at this
  rcases Nat.mul_eq_zero.1 this with h | h <;> omega
 ·refine ⟨q,L[j.toNat],h2,List.getElem?_eq_getElem hj,?_⟩
  obtain ⟨m1,-⟩:=flat_mid (f:=f) (z:=L[j.toNat]) (List.getElem?_eq_getElem hj)
  rw [m1] at h3
  have h4:=(h3.drop (j.toNat*m)).take m
  rw [List.drop_append_of_le_length (by rw [flatF_len hm,List.length_take,Nat.min_eq_left (by omega)];exact Nat.le_refl _),List.drop_eq_nil_of_le (by rw [flatF_len hm,List.length_take,Nat.min_eq_left (by omega)];exact Nat.le_refl _),List.nil_append,List.take_append_of_le_length (by rw [hm];exact Nat.le_refl _),List.take_of_length_le (by rw [hm];exact Nat.le_refl _)] at h4
  exact h4
theorem Sep.putF (S:Sep E w0 w (OwnA e m a n c (L.flatMap f)::Rs)) (hm:∀ x,(f x).length=m) (h1:∀ x,oneAll (f x)) (hp:0<m) {j:Int} (hj:0<=j/\j<(n:Int)) (y:α) {K:World->Prop}
  (hk:∀ w',Sep E w0 w' (OwnA e m a n c ((L.set j.toNat y).flatMap f)::Rs)->Fr (λk=>∃ q:Addr,a=some q/\k=q.block) w w'->K w'):∃ q,a=some q/\StoreV w (q.add (j.toNat*m)) (f y) K:=by
 have hl:=(S.own 0 rfl).len
 rw [flatF_len hm] at hl
 have hl:L.length=n:=Nat.eq_of_mul_eq_mul_right hp hl
 have hj':j.toNat<L.length:=by omega
 obtain ⟨m1,m2⟩:=flat_mid (f:=f) (z:=y) (List.getElem?_eq_getElem hj')
 obtain ⟨b,tl,ha,q1,q2,q3,q4,q5,S1⟩:=S.focus (by
  intro h
  have:=congrArg List.length h
  rw [flatF_len hm,List.length_nil] at this
  rcases Nat.mul_eq_zero.1 this with h | h <;> omega)
 subst ha
 refine ⟨_,rfl,?_⟩
 rw [show (⟨b,0,none⟩:Addr).add (j.toNat*m)=⟨b,j.toNat*m,none⟩ by simp [Addr.add_lit]]
 rw [m1,List.append_assoc,List.append_assoc] at S1
 refine S1.stM0 0 rfl (by rw [flatF_len hm,List.length_take,Nat.min_eq_left (by omega)]) (by rw [hm,hm];exact Nat.le_refl _) λw' S2 f2=>hk w' ?_ (f2.mono λk hk=>⟨_,rfl,hk⟩)
 have S2:Sep E w0 w' (BoxA b e (((L.set j.toNat y).flatMap f)++tl)::Rs):=by
  rw [m2,List.append_assoc,List.append_assoc]
  have hd:(f L[j.toNat]).drop (f y).length=[]:=List.drop_eq_nil_of_le (by rw [hm,hm];exact Nat.le_refl _)
  rw [hd,List.append_nil] at S2
  exact S2
 have hl2:((L.set j.toNat y).flatMap f).length=n*m:=by rw [flatF_len hm,List.length_set,hl]
 exact S2.unfocus (n:=n) (c:=c) (sz:=m) hl2 (by rw [List.length_append,hl2,<- q2,List.length_append,q1]) q3 q4 (flatF_one h1 _)
end
section
variable {E:Nat->Prop} {w0 w w':World} {Rs:List Asr}
theorem Sep.neO (S:Sep E w0 w Rs) (i j:Nat) {b:Nat} {e e2:TypeId} {vs us:List Value} {sz n c:Nat} {a:Option Addr} (hij:i≠j) (hi:Rs[i]? = some (BoxA b e vs)) (hj:Rs[j]? = some (OwnA e2 sz a n c us)) (q:Addr) (hq:a=some q):b≠q.block:=by
 obtain ⟨F,h,_⟩:=S.ex
 obtain ⟨F1,F2,h1,h2,h3,_⟩:=StarP.perm (perm_front hi) h
 have:(Rs.eraseIdx i)[if j<i then j else j-1]? = some (OwnA e2 sz a n c us):=by
  split
  ·rw [List.getElem?_eraseIdx_of_lt (by omega)];exact hj
  ·rw [List.getElem?_eraseIdx_of_ge (by omega),show j-1+1=j by omega];exact hj
 obtain ⟨G,g1,g2⟩:=StarP.get this h2
 intro e
 exact h3 b h1.1 (g2 b (by rw [e];exact g1.2 q hq))
theorem Sep.cpM (i:Nat) {b o:Nat} {e:TypeId} {pre xs post news:List Value} (S:Sep E w0 w Rs) (hi:Rs[i]? = some (BoxA b e (pre++(xs++post)))) (ho:o=pre.length) {src:Option Addr} {k:Nat} (hk:k=xs.length) (hl:news.length=xs.length) (hr:RdC w src news) (h1:oneAll news) {K:World->Prop}
  (hK:∀ w',Sep E w0 w' (Rs.set i (BoxA b e (pre++(news++post))))->Fr (λk=>k=b) w w'->K w'):CopyV w (some ⟨b,o,none⟩) src k 1 K:=by
 refine ⟨news,by omega,hr,h1,.inr ⟨_,rfl,?_⟩⟩
 refine S.stM0 i hi ho (news:=news) (by omega) λw' S' f=>hK w' ?_ f
 rw [hl,List.drop_length,List.append_nil] at S'
 exact S'
theorem Sep.intsM (i:Nat) {b o:Nat} {e:TypeId} {k:IntKind} {pre post:List Value} {xs:List Int} (S:Sep E w0 w Rs) (hi:Rs[i]? = some (BoxA b e (pre++(xs.map (Value.int k)++post)))) (ho:o=pre.length) {n c:Nat} (hn:n=xs.length) (hc:n<=c) (hlim:n<=9223372036854775807):Ints w k (some ⟨b,o,none⟩) n c xs:=
 ⟨hn.symm,hc,hlim,.inr ⟨_,rfl,S.cellsM i hi ho⟩⟩
end
end Go.Eng
namespace Go.Proofs.YtcekmdehjnlkpaaGreat.Vc
open Go Go.Eng
def okf:FuncId->Bool:=okIn [3,4,5,6,7,8,9,10,11,12,13,14,15,16,17,18,19,20,21,22,23,24,25,26,27,28,29,30,31,32,33,34,35,36,37,38,39,40,41,42,43,44,45,46,47,48,49,50,51,52,53,54,55,56,57,58,59,60,61,62,63,64,65,66,67,68,69,70,71,72,73,74,75,76,77,78,79,80,81,82,83,84,85,86,87,88,89,90,91,92,93,94,95,96,97,98,99,100,101,102,103,104,105,106,107,108,109,110,112,113,114,115,116,117,118,119,120,121,122,123,124,125,126,127,128,129,130,131,132,133,134,135,136,137,140,141,142,143,144,145,147,148,149,150,151,152,153,154,155,156,157,158,159,160,161]
set_option maxRecDepth 100000 in
theorem okf_ok:OkCalls Tryz.prog okf:=okc (okc_cons Tryz.call3 (okc_cons Tryz.call4 (okc_cons Tryz.call5 (okc_cons Tryz.call6 (okc_cons Tryz.call7 (okc_cons Tryz.call8 (okc_cons Tryz.call9 (okc_cons Tryz.call10 (okc_cons Tryz.call11 (okc_cons Tryz.call12 (okc_cons Tryz.call13 (okc_cons Tryz.call14 (okc_cons Tryz.call15 (okc_cons Tryz.call16 (okc_cons Tryz.call17 (okc_cons Tryz.call18 (okc_cons Tryz.call19 (okc_cons Tryz.call20 (okc_cons Tryz.call21 (okc_cons Tryz.call22 (okc_cons Tryz.call23 (okc_cons Tryz.call24 (okc_cons Tryz.call25 (okc_cons Tryz.call26 (okc_cons Tryz.call27 (okc_cons Tryz.call28 (okc_cons Tryz.call29 (okc_cons Tryz.call30 (okc_cons Tryz.call31 (okc_cons Tryz.call32 (okc_cons Tryz.call33 (okc_cons Tryz.call34 (okc_cons Tryz.call35 (okc_cons Tryz.call36 (okc_cons Tryz.call37 (okc_cons Tryz.call38 (okc_cons Tryz.call39 (okc_cons Tryz.call40 (okc_cons Tryz.call41 (okc_cons Tryz.call42 (okc_cons Tryz.call43 (okc_cons Tryz.call44 (okc_cons Tryz.call45 (okc_cons Tryz.call46 (okc_cons Tryz.call47 (okc_cons Tryz.call48 (okc_cons Tryz.call49 (okc_cons Tryz.call50 (okc_cons Tryz.call51 (okc_cons Tryz.call52 (okc_cons Tryz.call53 (okc_cons Tryz.call54 (okc_cons Tryz.call55 (okc_cons Tryz.call56 (okc_cons Tryz.call57 (okc_cons Tryz.call58 (okc_cons Tryz.call59 (okc_cons Tryz.call60 (okc_cons Tryz.call61 (okc_cons Tryz.call62 (okc_cons Tryz.call63 (okc_cons Tryz.call64 (okc_cons Tryz.call65 (okc_cons Tryz.call66 (okc_cons Tryz.call67 (okc_cons Tryz.call68 (okc_cons Tryz.call69 (okc_cons Tryz.call70 (okc_cons Tryz.call71 (okc_cons Tryz.call72 (okc_cons Tryz.call73 (okc_cons Tryz.call74 (okc_cons Tryz.call75 (okc_cons Tryz.call76 (okc_cons Tryz.call77 (okc_cons Tryz.call78 (okc_cons Tryz.call79 (okc_cons Tryz.call80 (okc_cons Tryz.call81 (okc_cons Tryz.call82 (okc_cons Tryz.call83 (okc_cons Tryz.call84 (okc_cons Tryz.call85 (okc_cons Tryz.call86 (okc_cons Tryz.call87 (okc_cons Tryz.call88 (okc_cons Tryz.call89 (okc_cons Tryz.call90 (okc_cons Tryz.call91 (okc_cons Tryz.call92 (okc_cons Tryz.call93 (okc_cons Tryz.call94 (okc_cons Tryz.call95 (okc_cons Tryz.call96 (okc_cons Tryz.call97 (okc_cons Tryz.call98 (okc_cons Tryz.call99 (okc_cons Tryz.call100 (okc_cons Tryz.call101 (okc_cons Tryz.call102 (okc_cons Tryz.call103 (okc_cons Tryz.call104 (okc_cons Tryz.call105 (okc_cons Tryz.call106 (okc_cons Tryz.call107 (okc_cons Tryz.call108 (okc_cons Tryz.call109 (okc_cons Tryz.call110 (okc_cons Tryz.call112 (okc_cons Tryz.call113 (okc_cons Tryz.call114 (okc_cons Tryz.call115 (okc_cons Tryz.call116 (okc_cons Tryz.call117 (okc_cons Tryz.call118 (okc_cons Tryz.call119 (okc_cons Tryz.call120 (okc_cons Tryz.call121 (okc_cons Tryz.call122 (okc_cons Tryz.call123 (okc_cons Tryz.call124 (okc_cons Tryz.call125 (okc_cons Tryz.call126 (okc_cons Tryz.call127 (okc_cons Tryz.call128 (okc_cons Tryz.call129 (okc_cons Tryz.call130 (okc_cons Tryz.call131 (okc_cons Tryz.call132 (okc_cons Tryz.call133 (okc_cons Tryz.call134 (okc_cons Tryz.call135 (okc_cons Tryz.call136 (okc_cons Tryz.call137 (okc_cons Tryz.call140 (okc_cons Tryz.call141 (okc_cons Tryz.call142 (okc_cons Tryz.call143 (okc_cons Tryz.call144 (okc_cons Tryz.call145 (okc_cons Tryz.call147 (okc_cons Tryz.call148 (okc_cons Tryz.call149 (okc_cons Tryz.call150 (okc_cons Tryz.call151 (okc_cons Tryz.call152 (okc_cons Tryz.call153 (okc_cons Tryz.call154 (okc_cons Tryz.call155 (okc_cons Tryz.call156 (okc_cons Tryz.call157 (okc_cons Tryz.call158 (okc_cons Tryz.call159 (okc_cons Tryz.call160 (okc_cons Tryz.call161 (okc_nil (P:=Tryz.prog)))))))))))))))))))))))))))))))))))))))))))))))))))))))))))))))))))))))))))))))))))))))))))))))))))))))))))))))))))))))))))))))))))))))))))))))))))))))))))))
theorem follows:Tryz.prog.follows .mixedOrders=true:=by kernel_rfl
end Go.Proofs.YtcekmdehjnlkpaaGreat.Vc
