/- What an operation that only reads yields, as a plain statement; and that the machine does so. -/
import Derived.Test.YtombjhkdakmhpaaEng0
namespace Go.Eng
open Go
set_option linter.unusedVariables false
set_option linter.unusedSimpArgs false

def evL (f : PF) : List Operand → Option (List Value)
  | [] => some []
  | x :: xs =>
    match ev f x, evL f xs with
    | some v, some vs => some (v :: vs)
    | _, _ => none

theorem Fits.evL {n : Nat} {f : PF} {a : Act} (h : Fits n f a) : ∀ {xs : List Operand} {vs : List Value}, Eng.evL f xs = some vs → xs.map a.eval = vs
  | [], _, e => by simp [Eng.evL] at e; simp [← e]
  | x :: xs, vs, e => by
    simp only [Eng.evL] at e
    cases h1 : Eng.ev f x with
    | none => simp [h1] at e
    | some v =>
      cases h2 : Eng.evL f xs with
      | none => simp [h1, h2] at e
      | some us =>
        simp only [h1, h2, Option.some.injEq] at e
        subst e
        simp [h.ev h1, h.evL h2]

/-- Parts with their places. -/
def evP (f : PF) : List (Nat × Operand) → Option (List (Nat × Value))
  | [] => some []
  | (i, x) :: xs =>
    match ev f x, evP f xs with
    | some v, some vs => some ((i, v) :: vs)
    | _, _ => none

theorem Fits.evP {n : Nat} {f : PF} {a : Act} (h : Fits n f a) : ∀ {xs : List (Nat × Operand)} {vs : List (Nat × Value)}, Eng.evP f xs = some vs → xs.map (fun p => (p.1, a.eval p.2)) = vs
  | [], _, e => by simp [Eng.evP] at e; simp [← e]
  | (i, x) :: xs, vs, e => by
    simp only [Eng.evP] at e
    cases h1 : Eng.ev f x with
    | none => simp [h1] at e
    | some v =>
      cases h2 : Eng.evP f xs with
      | none => simp [h1, h2] at e
      | some us =>
        simp only [h1, h2, Option.some.injEq] at e
        subst e
        simp [h.ev h1, h.evP h2]

/-- Blocks below the start's are as they were. -/
def Keep (w w' : World) : Prop := ∀ k, k < w.heap.size → w'.heap[k]? = w.heap[k]?
theorem Keep.refl (w : World) : Keep w w := fun _ _ => rfl
theorem Keep.cell {w w' : World} (h : Keep w w') {p : Addr} {v : Value} (hc : w.cell? p = some v) : w'.cell? p = some v := by
  have hb : p.block < w.heap.size := World.block_lt_of_cell? w _ hc
  have := h p.block hb
  unfold World.cell? at hc ⊢
  rw [this]; exact hc
theorem Keep.cells {w w' : World} (h : Keep w w') {p : Addr} {vs : List Value} (hc : CellsAt w p vs) : CellsAt w' p vs :=
  fun j v hv => h.cell (hc j v hv)

/-! ### Numbers -/
def arV (wr : Bool) (k : IntKind) (z : Int) (V : Value → Prop) : Prop := cond (wr || !k.signed) (V (.int k (k.wrap z))) (Rng k z ∧ V (.int k z))

theorem wrap_rng {k : IntKind} {z : Int} (h : Rng k z) : k.wrap z = z := by
  obtain ⟨h1, h2⟩ := h
  cases k <;> simp [IntKind.min, IntKind.max, IntKind.signed, IntKind.bits] at h1 h2 <;> simp [IntKind.wrap, IntKind.signed, IntKind.bits] <;> (try split) <;> omega

theorem arV.out {wr : Bool} {k : IntKind} {z : Int} {V : Value → Prop} (h : arV wr k z V) : V (.int k (k.wrap z)) := by
  unfold arV at h
  cases hc : (wr || !k.signed)
  · rw [hc] at h; simp only [cond_false] at h; rw [wrap_rng h.1]; exact h.2
  · rw [hc] at h; simpa only [cond_true] using h

def rInt (wr : Bool) (op : BinOp) (k k' : IntKind) (x y : Int) (V : Value → Prop) : Prop :=
  match op with
  | .shl => 0 ≤ y ∧ V (.int k (k.wrap (x * 2 ^ (Nat.min y.toNat k.bits))))
  | .shr => 0 ≤ y ∧ V (.int k (x.fdiv (2 ^ (Nat.min y.toNat k.bits))))
  | .add => cond (decide (k = k')) (arV wr k (x + y) V) False
  | .sub => cond (decide (k = k')) (arV wr k (x - y) V) False
  | .mul => cond (decide (k = k')) (arV wr k (x * y) V) False
  | .quo => cond (decide (k = k')) (y ≠ 0 ∧ Rng k (x.tdiv y) ∧ V (.int k (x.tdiv y))) False
  | .rem => cond (decide (k = k')) (y ≠ 0 ∧ V (.int k (x.tmod y))) False
  | .and => cond (decide (k = k')) (V (.int k (Go.bits .and k x y))) False
  | .or => cond (decide (k = k')) (V (.int k (Go.bits .or k x y))) False
  | .xor => cond (decide (k = k')) (V (.int k (Go.bits .xor k x y))) False
  | .andNot => cond (decide (k = k')) (V (.int k (Go.bits .andNot k x y))) False
  | .eql => cond (decide (k = k')) (V (.bool (x == y))) False
  | .neq => cond (decide (k = k')) (V (.bool (x != y))) False
  | .lss => cond (decide (k = k')) (V (.bool (decide (x < y)))) False
  | .leq => cond (decide (k = k')) (V (.bool (decide (x ≤ y)))) False
  | .gtr => cond (decide (k = k')) (V (.bool (decide (x > y)))) False
  | .geq => cond (decide (k = k')) (V (.bool (decide (x ≥ y)))) False

def rStr (op : BinOp) (x y : ByteArray) (V : Value → Prop) : Prop :=
  match op with
  | .add => ((x.size + y.size : Nat) : Int) ≤ 9223372036854775807 ∧ V (.string (x ++ y))
  | .eql => V (.bool (x.toList == y.toList))
  | .neq => V (.bool (!(x.toList == y.toList)))
  | _ => False

def eqP (op : BinOp) (r : Bool) (V : Value → Prop) : Prop :=
  match op with
  | .eql => V (.bool r)
  | .neq => V (.bool (!r))
  | _ => False

/-- What '==' of two structs or arrays tells: to be shown. -/
def AggEq (P : Program) (t : TypeId) (xs ys : Array Value) (K : Bool → Prop) : Prop :=
  ∃ r : Bool, (∀ w, (Op.equalIn 10000 t (.agg xs) (.agg ys)).run P w = .ok r w) ∧ P.eqGuardType P.depth t = false ∧ K r

def rBin (P : Program) (wr : Bool) (op : BinOp) (t : TypeId) (a b : Value) (V : Value → Prop) : Prop :=
  match a, b with
  | .int k x, .int k' y => rInt wr op k k' x y V
  | .string x, .string y => rStr op x y V
  | .bool x, .bool y => (match P.underlying t with | some .bool => eqP op (x == y) V | _ => False)
  | .pointer x, .pointer none => (match P.underlying t with | some (.pointer _) => eqP op x.isNone V | _ => False)
  | .pointer none, .pointer y => (match P.underlying t with | some (.pointer _) => eqP op y.isNone V | _ => False)
  | .slice x _ _, .slice none _ _ => (match P.underlying t with | some (.slice _) => eqP op x.isNone V | _ => False)
  | .map x, .map none => (match P.underlying t with | some (.map _ _) => eqP op x.isNone V | _ => False)
  | .agg xs, .agg ys => AggEq P t xs ys fun r => eqP op r V
  | _, _ => False

theorem run_binOp_int {P : Program} {wr : Bool} {op : BinOp} {t : TypeId} {k k' : IntKind} {x y : Int} {V : Value → Prop} (h : rInt wr op k k' x y V) :
    ∃ v, V v ∧ ∀ w, (binOp op t (.int k x) (.int k' y)).run P w = .ok v w := by
  cases op
  case shl => exact ⟨_, h.2, fun w => by simp [binOp, Op.shift, Int.not_lt.2 h.1]⟩
  case shr => exact ⟨_, h.2, fun w => by simp [binOp, Op.shift, Int.not_lt.2 h.1]⟩
  all_goals
    simp only [rInt] at h
    cases hk : decide (k = k')
    · rw [hk] at h; exact h.elim
    rw [hk] at h
    simp only [cond_true] at h
    have hk := of_decide_eq_true hk
    subst hk
  case add => exact ⟨_, h.out, fun w => by simp [binOp, Op.intArith]⟩
  case sub => exact ⟨_, h.out, fun w => by simp [binOp, Op.intArith]⟩
  case mul => exact ⟨_, h.out, fun w => by simp [binOp, Op.intArith]⟩
  case quo => exact ⟨_, h.2.2, fun w => by simp [binOp, Op.intDiv, h.1, wrap_rng h.2.1]⟩
  case rem => exact ⟨_, h.2, fun w => by simp [binOp, Op.intDiv, h.1]⟩
  case and => exact ⟨_, h, fun w => by simp [binOp, intBits_and]⟩
  case or => exact ⟨_, h, fun w => by simp [binOp, intBits_or]⟩
  case xor => exact ⟨_, h, fun w => by simp [binOp, intBits_xor]⟩
  case andNot => exact ⟨_, h, fun w => by simp [binOp, intBits_andNot]⟩
  all_goals exact ⟨_, h, fun w => by simp [binOp, Op.intCmp]⟩

section
variable {P : Program} {t : TypeId} (w : World) (d : Nat)
theorem eqIn_bool (hu : P.underlying t = some .bool) (a b : Bool) : (Op.equalIn (d + 1) t (.bool a) (.bool b)).run P w = .ok (a == b) w := by
  simp [Op.equalIn, run_underlying hu]
theorem eqIn_ptr {e : TypeId} (hu : P.underlying t = some (.pointer e)) (a : Option Addr) : (Op.equalIn (d + 1) t (.pointer a) (.pointer none)).run P w = .ok a.isNone w := by
  cases a <;> simp [Op.equalIn, run_underlying hu]
theorem eqIn_ptr' {e : TypeId} (hu : P.underlying t = some (.pointer e)) (a : Option Addr) : (Op.equalIn (d + 1) t (.pointer none) (.pointer a)).run P w = .ok a.isNone w := by
  simp [Op.equalIn, run_underlying hu]
theorem eqIn_sl {e : TypeId} (hu : P.underlying t = some (.slice e)) (a : Option Addr) (n c n' c' : Nat) : (Op.equalIn (d + 1) t (.slice a n c) (.slice none n' c')).run P w = .ok a.isNone w := by
  cases a <;> simp [Op.equalIn, run_underlying hu]
theorem eqIn_map {k e : TypeId} (hu : P.underlying t = some (.map k e)) (a : Option Nat) : (Op.equalIn (d + 1) t (.map a) (.map none)).run P w = .ok a.isNone w := by
  cases a <;> simp [Op.equalIn, run_underlying hu]
theorem binOp_eq_of {op : BinOp} {x y : Value} {r : Bool} {V : Value → Prop} (h : eqP op r V) (hx : ∀ k n, x ≠ .int k n) (hx2 : ∀ s, x ≠ .string s) (hx3 : ∀ k n, x ≠ .float k n) (hx4 : ∀ k n m, x ≠ .complex k n m)
    (he : ∀ w, (Op.equalIn 10000 t x y).run P w = .ok r w) : ∃ v, V v ∧ ∀ w, (binOp op t x y).run P w = .ok v w := by
  cases op <;> simp only [eqP] at h
  case eql =>
    refine ⟨_, h, fun w => ?_⟩
    have hb : binOp .eql t x y = (do pure (.bool (← Op.equal t x y))) := by
      cases x <;> first | rfl | exact absurd rfl (hx _ _) | exact absurd rfl (hx2 _) | exact absurd rfl (hx3 _ _) | exact absurd rfl (hx4 _ _ _)
    rw [hb, Sem.run_bind]
    show ((Op.equalIn 10000 t x y).run P w).andThen _ = _
    rw [he]; rfl
  case neq =>
    refine ⟨_, h, fun w => ?_⟩
    have hb : binOp .neq t x y = (do pure (.bool (!(← Op.equal t x y)))) := by
      cases x <;> first | rfl | exact absurd rfl (hx _ _) | exact absurd rfl (hx2 _) | exact absurd rfl (hx3 _ _) | exact absurd rfl (hx4 _ _ _)
    rw [hb, Sem.run_bind]
    show ((Op.equalIn 10000 t x y).run P w).andThen _ = _
    rw [he]; rfl
end

theorem run_rBin {P : Program} {wr : Bool} {op : BinOp} {t : TypeId} {x y : Operand} {a b : Value} {V : Value → Prop} (h : rBin P wr op t a b V) :
    ∃ v, V v ∧ ∀ w, (do eqGuard op t x y a b; binOp op t a b).run P w = .ok v w := by
  have hg : ∀ (a b : Value), (∀ xs ys, a = .agg xs → b ≠ .agg ys) → (a = .nilIface → b ≠ .nilIface) → ∀ w, (eqGuard op t x y a b).run P w = .ok () w := by
    clear h
    intro a b h1 h2 w
    cases op <;> try rfl
    all_goals
      cases a <;> cases b <;> first | rfl | exact absurd rfl (h2 rfl) | exact absurd rfl (h1 _ _ rfl)
  have fin : ∀ {a b : Value}, (∀ w, (eqGuard op t x y a b).run P w = .ok () w) → (∃ v, V v ∧ ∀ w, (binOp op t a b).run P w = .ok v w) →
      ∃ v, V v ∧ ∀ w, (do eqGuard op t x y a b; binOp op t a b).run P w = .ok v w := by
    rintro a b h1 ⟨v, hv, h2⟩
    exact ⟨v, hv, fun w => by rw [Sem.run_bind, h1]; exact h2 w⟩
  unfold rBin at h
  split at h
  · exact fin (hg _ _ (by simp) (by simp)) (run_binOp_int h)
  · rename_i x' y'
    refine fin (hg _ _ (by simp) (by simp)) ?_
    cases op <;> simp only [rStr] at h
    case add =>
      refine ⟨_, h.2, fun w => ?_⟩
      have h1 : ¬ ((x'.size + y'.size : Nat) : Int) > IntKind.i64.max := by
        have := h.1
        simp [IntKind.max, IntKind.signed, IntKind.bits] at *
        omega
      simp only [binOp, Op.stringOp, if_neg h1]
      rfl
    case eql => exact ⟨_, h, fun w => by simp [binOp, Op.stringOp]⟩
    case neq => exact ⟨_, h, fun w => by simp [binOp, Op.stringOp]⟩
  · split at h
    · rename_i hu
      exact fin (hg _ _ (by simp) (by simp)) (binOp_eq_of h (by simp) (by simp) (by simp) (by simp) fun w => eqIn_bool w 9999 hu _ _)
    · exact h.elim
  · split at h
    · rename_i hu
      exact fin (hg _ _ (by simp) (by simp)) (binOp_eq_of h (by simp) (by simp) (by simp) (by simp) fun w => eqIn_ptr w 9999 hu _)
    · exact h.elim
  · split at h
    · rename_i hu
      exact fin (hg _ _ (by simp) (by simp)) (binOp_eq_of h (by simp) (by simp) (by simp) (by simp) fun w => eqIn_ptr' w 9999 hu _)
    · exact h.elim
  · split at h
    · rename_i hu
      exact fin (hg _ _ (by simp) (by simp)) (binOp_eq_of h (by simp) (by simp) (by simp) (by simp) fun w => eqIn_sl w 9999 hu _ _ _ _ _)
    · exact h.elim
  · split at h
    · rename_i hu
      exact fin (hg _ _ (by simp) (by simp)) (binOp_eq_of h (by simp) (by simp) (by simp) (by simp) fun w => eqIn_map w 9999 hu _)
    · exact h.elim
  · obtain ⟨r, hr, hgd, h⟩ := h
    refine fin (fun w => run_eqGuard_agg w op t x y _ _ hgd) (binOp_eq_of h (by simp) (by simp) (by simp) (by simp) hr)
  · exact h.elim

def rUn (wr : Bool) (op : UnOp) (a : Value) (V : Value → Prop) : Prop :=
  match op, a with
  | .neg, .int k x => arV wr k (0 - x) V
  | .xor, .int k x => V (.int k (Go.bits .xor k (if k.signed then -1 else k.max) x))
  | .not, .bool b => V (.bool (!b))
  | _, _ => False

theorem run_rUn {P : Program} {wr : Bool} {op : UnOp} {a : Value} {V : Value → Prop} (h : rUn wr op a V) :
    ∃ v, V v ∧ ∀ w, (Op.unary op a).run P w = .ok v w := by
  unfold rUn at h
  split at h
  · exact ⟨_, h.out, fun w => by simp [Op.unary, Op.intArith]⟩
  · exact ⟨_, h, fun w => by simp [Op.unary, intBits_xor]⟩
  · exact ⟨_, h, fun w => by simp [Op.unary]⟩
  · exact h.elim

end Go.Eng
