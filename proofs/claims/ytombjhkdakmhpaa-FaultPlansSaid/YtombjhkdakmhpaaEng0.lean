/- A plan of what Go's operations ask, as plain statements; partial frames, shapes of values, and the plan of one operation. -/
import Derived.WalkKit
import Derived.OrdersHeld
import Derived.Deep.AppendSrc
import Derived.Deep.Upon
namespace Go.Eng
open Go

/-! ### Frames of which only some slots are known -/
def PF := Nat → Option Value
def PF.empty : PF := fun _ => none
def PF.put (f : PF) (d : Nat) (v : Value) : PF := fun i => cond (Nat.beq i d) (some v) (f i)
def PF.forget (f : PF) (ws : List Nat) : PF := fun i => cond (ws.elem i) none (f i)
def PF.ofList : Nat → List Value → PF
  | _, [] => PF.empty
  | k, v :: l => (PF.ofList (k + 1) l).put k v

structure Fits (n : Nat) (f : PF) (a : Act) : Prop where
  size : a.tmps.size = n
  defers : a.defers = []
  get : ∀ i v, f i = some v → a.tmps[i]? = some v

def ev (f : PF) : Operand → Option Value
  | .tmp t => f t
  | .const v => some v
  | .global g => some (.pointer (some ⟨g, 0, none⟩))
  | .func g => some (.func (.func g) #[] #[])

theorem Fits.ev {n : Nat} {f : PF} {a : Act} (h : Fits n f a) {x : Operand} {v : Value} (he : ev f x = some v) : a.eval x = v := by
  cases x with
  | tmp t => simp only [Eng.ev] at he; have := h.get t v he; simp [Act.eval, this]
  | const u => simp only [Eng.ev, Option.some.injEq] at he; subst he; rfl
  | global g => simp only [Eng.ev, Option.some.injEq] at he; subst he; rfl
  | func g => simp only [Eng.ev, Option.some.injEq] at he; subst he; rfl

theorem Fits.put {n : Nat} {f : PF} {a : Act} (h : Fits n f a) {d : Nat} (hd : d < n) (v : Value) : Fits n (f.put d v) (a.put (some d) v) := by
  refine ⟨by simp [Act.put, h.size], by simp [Act.put, h.defers], fun i u hu => ?_⟩
  simp only [Act.put]
  unfold PF.put at hu
  by_cases e : i = d
  · subst e
    have hb : Nat.beq i i = true := Nat.beq_refl i
    rw [hb] at hu
    simp only [cond_true, Option.some.injEq] at hu
    subst hu
    rw [Array.getElem?_setIfInBounds]
    simp [h.size, hd]
  · have hb : Nat.beq i d = false := by
      cases hb : Nat.beq i d
      · rfl
      · exact absurd (Nat.eq_of_beq_eq_true hb) e
    rw [hb] at hu
    simp only [cond_false] at hu
    rw [Array.getElem?_setIfInBounds, if_neg (fun x => e x.symm)]
    exact h.get i u hu

theorem Fits.forget {n : Nat} {f : PF} {a : Act} (h : Fits n f a) (ws : List Nat) : Fits n (f.forget ws) a := by
  refine ⟨h.size, h.defers, fun i u hu => ?_⟩
  unfold PF.forget at hu
  cases hb : ws.elem i
  · rw [hb] at hu; exact h.get i u hu
  · rw [hb] at hu; cases hu

/-- Put into a slot, if there is one. -/
def setK (n : Nat) (f : PF) (dst : Option Nat) (v : Value) (K : PF → Prop) : Prop :=
  match dst with
  | none => K f
  | some d => cond (Nat.blt d n) (K (f.put d v)) False

theorem setK.out {n : Nat} {f : PF} {a : Act} (h : Fits n f a) {dst : Option Nat} {v : Value} {K : PF → Prop} (hk : setK n f dst v K) :
    ∃ f', Fits n f' (a.put dst v) ∧ K f' := by
  cases dst with
  | none => exact ⟨f, h, hk⟩
  | some d =>
    unfold setK at hk
    cases hb : Nat.blt d n
    · simp only [hb, cond_false] at hk
    · simp only [hb, cond_true] at hk
      exact ⟨f.put d v, h.put (by simpa [Nat.blt_eq] using hb) v, hk⟩

/-! ### Shapes -/
structure SlV where
  a : Option Addr
  n : Nat
  c : Nat

inductive SS where
  | int (k : IntKind) | bool | str | sl | ptr | map | any
def SS.T : SS → Type
  | .int _ => Int
  | .bool => Bool
  | .str => ByteArray
  | .sl => SlV
  | .ptr => Option Addr
  | .map => Option Nat
  | .any => Value
def SS.v : (h : SS) → h.T → Value
  | .int k, x => .int k x
  | .bool, x => .bool x
  | .str, x => .string x
  | .sl, x => .slice (SlV.a x) (SlV.n x) (SlV.c x)
  | .ptr, x => .pointer x
  | .map, x => .map x
  | .any, x => x
def SS.rd : (h : SS) → Value → Option h.T
  | .int k, .int k' x => if k = k' then some x else none
  | .bool, .bool x => some x
  | .str, .string x => some x
  | .sl, .slice a n c => some (⟨a, n, c⟩ : SlV)
  | .ptr, .pointer x => some x
  | .map, .map x => some x
  | .any, x => some x
  | _, _ => none

def Tup : List SS → Type
  | [] => Unit
  | h :: t => h.T × Tup t
def tupV : (l : List SS) → Tup l → List Value
  | [], _ => []
  | h :: t, x => h.v x.1 :: tupV t x.2
def tupR : (l : List SS) → List Value → Option (Tup l)
  | [], [] => some ()
  | h :: t, v :: vs =>
    match h.rd v, tupR t vs with
    | some x, some y => some (x, y)
    | _, _ => none
  | _, _ => none

theorem SS.rd_v : ∀ {h : SS} {v : Value} {x : h.T}, h.rd v = some x → v = h.v x := by
  intro h v x e
  cases h <;> cases v <;> first
    | (cases e; done)
    | (cases e; rfl)
    | (simp only [SS.rd] at e
       split at e
       · rename_i hk; subst hk; cases e; rfl
       · cases e)

theorem tupR_v : ∀ {l : List SS} {vs : List Value} {x : Tup l}, tupR l vs = some x → vs = tupV l x
  | [], [], _, _ => rfl
  | [], _ :: _, _, e => by simp [tupR] at e
  | _ :: _, [], _, e => by simp [tupR] at e
  | h :: t, v :: vs, x, e => by
    simp only [tupR] at e
    cases h1 : h.rd v with
    | none => simp [h1] at e
    | some a =>
      cases h2 : tupR t vs with
      | none => simp [h1, h2] at e
      | some b =>
        simp only [h1, h2] at e
        cases e
        simp only [tupV]
        rw [← tupR_v h2, SS.rd_v h1]

inductive Sh where
  | one (q : SS) | agg (l : List SS)
def Sh.T : Sh → Type
  | .one q => q.T
  | .agg l => Tup l
def Sh.v : (h : Sh) → h.T → Value
  | .one q, x => q.v x
  | .agg l, x => .agg (tupV l x).toArray
def Sh.rd : (h : Sh) → Value → Option h.T
  | .one q, v => q.rd v
  | .agg l, .agg cs => tupR l cs.toList
  | _, _ => none

theorem Sh.rd_v : ∀ {h : Sh} {v : Value} {x : h.T}, h.rd v = some x → v = h.v x
  | .one q, _, _, e => SS.rd_v (h := q) e
  | .agg l, .agg cs, x, e => by
    have h := tupR_v (l := l) (vs := cs.toList) (x := x) e
    show Value.agg cs = .agg (tupV l x).toArray
    rw [← h]

/-- Several values. -/
def RT : List Sh → Type
  | [] => Unit
  | h :: t => h.T × RT t
def valsR : (l : List Sh) → RT l → List Value
  | [], _ => []
  | h :: t, x => h.v x.1 :: valsR t x.2
def packV : (l : List Sh) → RT l → Value
  | [h], x => h.v x.1
  | l, x => .tuple (valsR l x).toArray

/-- The shape of a type. -/
def ssOf (d : Option TypeDesc) : SS :=
  match d with
  | some (.int k) => .int k
  | some .bool => .bool
  | some .string => .str
  | some (.slice _) => .sl
  | some (.pointer _) => .ptr
  | some (.map _ _) => .map
  | _ => .any
def flat (P : Program) : Nat → TypeId → List SS
  | 0, _ => []
  | d + 1, t =>
    match P.underlying t with
    | some (.struct fs) => fs.toList.flatMap fun f => flat P d f.type
    | some (.array n e) => (List.replicate n (flat P d e)).flatten
    | u => [ssOf u]
def shT (P : Program) (t : TypeId) : Sh :=
  match P.underlying t with
  | some (.struct fs) => .agg (fs.toList.flatMap fun f => flat P 8 f.type)
  | some (.array n e) => .agg (List.replicate n (flat P 8 e)).flatten
  | u => .one (ssOf u)
def resSh (P : Program) (t : TypeId) : List Sh :=
  match P.underlying t with
  | some (.tuple ts) => ts.toList.map (shT P)
  | _ => [shT P t]

/-! ### Memory -/
def CellsAt (w : World) (p : Addr) (vs : List Value) : Prop := ∀ j v, vs[j]? = some v → w.cell? (p.add j) = some v
/-- The cells are there, and may be written. -/
def Free (w : World) (p : Addr) (n : Nat) : Prop := ∀ j, j < n → (w.cell? (p.add j)).isSome = true ∧ w.frozen? (p.add j) = false

def LoadS (w : World) (p : Addr) (h : SS) (K : h.T → Prop) : Prop := ∃ x : h.T, w.cell? p = some (h.v x) ∧ K x
def LoadA (w : World) (p : Addr) (l : List SS) (K : Tup l → Prop) : Prop := ∃ x : Tup l, CellsAt w p (tupV l x) ∧ K x
def NewV (c : Array Value) (e : TypeId) (w : World) (K : Nat → World → Prop) : Prop := ∀ b w', b = w.heap.size → w' = w.alloc (.cells c e) → K b w'
def StoreV (w : World) (p : Addr) (vs : List Value) (K : World → Prop) : Prop :=
  p.spot = none ∧ Free w p vs.length ∧ ∀ w', w' = w.setCells p.block p.off vs → K w'
def CallV (P : Program) (f : FuncId) (args : Array Value) (w : World) (l : List Sh) (K : RT l → World → Prop) : Prop :=
  Calls P f args w fun e w' => ∃ x : RT l, e = .returned (packV l x) ∧ K x w'
def Rng (k : IntKind) (z : Int) : Prop := k.min ≤ z ∧ z ≤ k.max

theorem CallV.mono {P : Program} {f : FuncId} {args : Array Value} {w : World} {l : List Sh} {K K' : RT l → World → Prop}
    (h : CallV P f args w l K) (hk : ∀ x w', K x w' → K' x w') : CallV P f args w l K' :=
  Calls.mono h fun _ _ ⟨x, he, hx⟩ => ⟨x, he, hk _ _ hx⟩

end Go.Eng
