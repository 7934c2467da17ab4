/- Values that are read, of any shape: where they lie (in which blocks), what data they are, and that they stay while their blocks stay. -/
import Derived.Test.YtombjhkdakmhpaaOpenG
import Derived.Test.YtombjhkdakmhpaaPl01
namespace Go.Proofs.Ytombjhkdakmhpaa.Vc
open Go Go.Eng Go.RowKit
set_option linter.unusedVariables false
set_option linter.unusedSimpArgs false

/-- Blocks of a set are as they were. -/
def Kp (G : Nat → Prop) (w w' : World) : Prop := ∀ k, G k → k < w.heap.size → w'.heap[k]? = w.heap[k]?
abbrev All : Nat → Prop := fun _ => True
theorem Ext_kp {w w' : World} (e : Ext w w') (G : Nat → Prop) : Kp G w w' := fun k _ hk => e.block k hk
theorem Kp.mono {G G' : Nat → Prop} {w w' : World} (h : Kp G w w') (hg : ∀ k, G' k → G k) : Kp G' w w' := fun k hk hl => h k (hg k hk) hl

theorem cells_kp {w w' : World} {p : Addr} {vs : List Value} (hc : CellsAt w p vs) (h : vs ≠ [] → w'.heap[p.block]? = w.heap[p.block]?) : CellsAt w' p vs := by
  cases vs with
  | nil => exact CellsAt.nil
  | cons v vs => exact cells_same (h (by simp)) hc

/-- Cells that are read, in blocks of a set. -/
def RdG (w : World) (G : Nat → Prop) (a : Option Addr) (vs : List Value) : Prop := (a = none ∧ vs = []) ∨ ∃ p, a = some p ∧ CellsAt w p vs ∧ (vs ≠ [] → G p.block)
theorem RdG.rdc {w : World} {G : Nat → Prop} {a : Option Addr} {vs : List Value} (h : RdG w G a vs) : RdC w a vs := h.imp id fun ⟨p, h1, h2, _⟩ => ⟨p, h1, h2⟩
theorem RdG.of {w : World} {a : Option Addr} {vs : List Value} (h : RdC w a vs) : RdG w All a vs := h.imp id fun ⟨p, h1, h2⟩ => ⟨p, h1, h2, fun _ => trivial⟩
theorem RdG.kp {w w' : World} {G : Nat → Prop} {a : Option Addr} {vs : List Value} (h : RdG w G a vs) (k : Kp G w w') : RdG w' G a vs := by
  rcases h with h | ⟨p, h1, h2, h3⟩
  · exact .inl h
  · refine .inr ⟨p, h1, cells_kp h2 fun hne => ?_, h3⟩
    cases vs with
    | nil => exact absurd rfl hne
    | cons v vs => exact k _ (h3 hne) (cells_lt h2)
theorem RdG.mono {w : World} {G G' : Nat → Prop} {a : Option Addr} {vs : List Value} (h : RdG w G a vs) (hg : ∀ k, G k → k < w.heap.size → G' k) : RdG w G' a vs := by
  rcases h with h | ⟨p, h1, h2, h3⟩
  · exact .inl h
  · refine .inr ⟨p, h1, h2, fun hne => ?_⟩
    cases vs with
    | nil => exact absurd rfl hne
    | cons v vs => exact hg _ (h3 hne) (cells_lt h2)

def Ty.rd (w : World) (G : Nat → Prop) : (t : Ty) → t.T → Prop
  | .int k, (x : Int) => Rng k x
  | .bool, _ => True
  | .str, (x : ByteArray) => x.size ≤ maxLen
  | .sl e, (x : SlP e.T) => x.l.length = x.n ∧ x.n ≤ x.c ∧ x.n ≤ maxLen ∧ RdG w G x.a (x.l.flatMap e.vs) ∧ ∀ y ∈ x.l, e.rd w G y
  | .nil, _ => True
  | .cons a r, (x : a.T × r.T) => a.rd w G x.1 ∧ r.rd w G x.2
@[reducible] def Ty.D : Ty → Type
  | .int _ => Int
  | .bool => Bool
  | .str => ByteArray
  | .sl e => List e.D
  | .nil => Unit
  | .cons a r => a.D × r.D
def Ty.dat : (t : Ty) → t.T → t.D
  | .int _, (x : Int) => x
  | .bool, (x : Bool) => x
  | .str, (x : ByteArray) => x
  | .sl e, (x : SlP e.T) => x.l.map e.dat
  | .nil, _ => ()
  | .cons a r, (x : a.T × r.T) => (a.dat x.1, r.dat x.2)

theorem Ty.rd_of {w : World} : ∀ (t : Ty) {x : t.T}, t.ok w x → t.rd w All x
  | .int _, _, h => h
  | .bool, _, _ => trivial
  | .str, _, h => h
  | .sl e, x, h => ⟨h.1, h.2.1, Nat.le_trans h.2.1 h.2.2.1, .of h.2.2.2.1, fun y hy => e.rd_of (h.2.2.2.2 y hy)⟩
  | .nil, _, _ => trivial
  | .cons a r, x, h => ⟨a.rd_of h.1, r.rd_of h.2⟩
theorem Ty.rd_kp {w w' : World} {G : Nat → Prop} (k : Kp G w w') : ∀ (t : Ty) {x : t.T}, t.rd w G x → t.rd w' G x
  | .int _, _, h => h
  | .bool, _, _ => trivial
  | .str, _, h => h
  | .sl e, x, h => ⟨h.1, h.2.1, h.2.2.1, h.2.2.2.1.kp k, fun y hy => e.rd_kp k (h.2.2.2.2 y hy)⟩
  | .nil, _, _ => trivial
  | .cons a r, x, h => ⟨a.rd_kp k h.1, r.rd_kp k h.2⟩
theorem Ty.rd_mono {w : World} {G G' : Nat → Prop} (hg : ∀ k, G k → k < w.heap.size → G' k) : ∀ (t : Ty) {x : t.T}, t.rd w G x → t.rd w G' x
  | .int _, _, h => h
  | .bool, _, _ => trivial
  | .str, _, h => h
  | .sl e, x, h => ⟨h.1, h.2.1, h.2.2.1, h.2.2.2.1.mono hg, fun y hy => e.rd_mono hg (h.2.2.2.2 y hy)⟩
  | .nil, _, _ => trivial
  | .cons a r, x, h => ⟨a.rd_mono hg h.1, r.rd_mono hg h.2⟩
theorem Ty.rd_ext {w w' : World} {G : Nat → Prop} (e : Ext w w') (t : Ty) {x : t.T} (h : t.rd w G x) : t.rd w' G x := t.rd_kp (Ext_kp e G) h

/-! ### Slices of anything -/
theorem flat_len {α : Type} {f : α → List Value} {m : Nat} (hm : ∀ x, (f x).length = m) : ∀ (l : List α), (l.flatMap f).length = l.length * m
  | [] => by simp
  | x :: l => by rw [List.flatMap_cons, List.length_append, hm, flat_len hm l, List.length_cons, Nat.add_mul]; omega
theorem flat_get {α : Type} {f : α → List Value} {m : Nat} (hm : ∀ x, (f x).length = m) : ∀ {l : List α} {i : Nat} {y : α}, l[i]? = some y → ∀ {j : Nat} {v : Value}, (f y)[j]? = some v → (l.flatMap f)[i * m + j]? = some v
  | [], i, y, h, j, v, hv => by simp at h
  | x :: l, 0, y, h, j, v, hv => by
    simp at h; subst h
    rw [List.flatMap_cons, Nat.zero_mul, Nat.zero_add, List.getElem?_append_left (List.getElem?_eq_some_iff.1 hv).1]
    exact hv
  | x :: l, i + 1, y, h, j, v, hv => by
    rw [List.getElem?_cons_succ] at h
    rw [List.flatMap_cons, List.getElem?_append_right (by rw [hm, Nat.add_mul]; omega), hm, show (i + 1) * m + j - m = i * m + j by rw [Nat.add_mul]; omega]
    exact flat_get hm h hv
theorem CellsAt.nth {w : World} {p : Addr} {α : Type} {f : α → List Value} {m : Nat} (hm : ∀ x, (f x).length = m) {l : List α} (h : CellsAt w p (l.flatMap f)) {i : Nat} {y : α} (hy : l[i]? = some y) : CellsAt w (p.add (i * m)) (f y) := by
  intro j v hv
  rw [add_add]
  exact h _ _ (flat_get hm hy hv)

/-- An element of a slice that is read. -/
theorem Ty.nth {w : World} {G : Nat → Prop} {e : Ty} {x : SlP e.T} (h : (Ty.sl e).rd w G x) {i : Int} (h0 : 0 ≤ i) (h1 : i < (x.n : Int)) (he : 0 < e.n) :
    ∃ q y, x.a = some q ∧ x.l[i.toNat]? = some y ∧ CellsAt w (q.add (i.toNat * e.n)) (e.vs y) ∧ e.rd w G y ∧ G q.block ∧ q.block < w.heap.size := by
  obtain ⟨hl, _, _, hr, hy⟩ := h
  have hi : i.toNat < x.l.length := by omega
  have hget : x.l[i.toNat]? = some x.l[i.toNat] := List.getElem?_eq_getElem hi
  rcases hr with ⟨_, h2⟩ | ⟨q, hq, hc, hG⟩
  · have := flat_len (fun z => e.vs_length z) x.l
    have h3 := Nat.mul_pos (show 0 < x.l.length by omega) he
    rw [h2, List.length_nil] at this
    omega
  · have hne : x.l.flatMap e.vs ≠ [] := by
      intro hh
      have := flat_len (fun z => e.vs_length z) x.l
      have h3 := Nat.mul_pos (show 0 < x.l.length by omega) he
      rw [hh, List.length_nil] at this
      omega
    refine ⟨q, x.l[i.toNat], hq, hget, CellsAt.nth (fun z => e.vs_length z) hc hget, hy _ (List.getElem_mem hi), hG hne, ?_⟩
    cases hf : x.l.flatMap e.vs with
    | nil => exact absurd hf hne
    | cons v vs => rw [hf] at hc; exact cells_lt hc

/-- Slices of whole numbers. -/
theorem flat_ints (k : IntKind) (l : List Int) : l.flatMap (Ty.int k).vs = l.map (Value.int k) := by
  induction l with
  | nil => rfl
  | cons x l ih => rw [List.flatMap_cons, ih]; rfl
theorem Ty.ints {w : World} {G : Nat → Prop} {k : IntKind} {x : SlP Int} (h : (Ty.sl (.int k)).rd w G x) : Ints w k x.a x.n x.c x.l := by
  obtain ⟨hl, hc, hm, hr, _⟩ := h
  have hml : maxLen = 9223372036854775807 := by decide
  refine ⟨hl, hc, by omega, ?_⟩
  have := hr.rdc
  rw [show x.l.flatMap (Ty.int k).vs = x.l.map (Value.int k) from flat_ints k x.l] at this
  exact this
theorem Ty.byt {w : World} {G : Nat → Prop} {x : SlP Int} (h : (Ty.sl (.int .u8)).rd w G x) : Byt x.l := fun y hy => rng_u8 (h.2.2.2.2 y hy)
theorem dat_ints {k : IntKind} (l : List Int) : l.map (Ty.int k).dat = l := by
  induction l with
  | nil => rfl
  | cons x l ih => rw [List.map_cons, ih]; rfl

end Go.Proofs.Ytombjhkdakmhpaa.Vc
