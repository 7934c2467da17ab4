/- What any parameter of a law is known to be, out of the row's input: structs, arrays and slices of whole numbers, texts, and of each other. -/
import Derived.Test.YtombjhkdakmhpaaOpen
import Derived.Test.YtombjhkdakmhpaaLib2
import Derived.ChangeArms
import Derived.DataReads
import Derived.OpenShut
namespace Go.Proofs.Ytombjhkdakmhpaa.Vc
open Go Go.Eng Go.RowKit Go.ChangeShapes
set_option linter.unusedVariables false
set_option linter.unusedSimpArgs false

/-- The kinds of parameters; a struct or an array is a chain of its parts. -/
inductive Ty where
  | int (k : IntKind)
  | bool
  | str
  | sl (e : Ty)
  | nil
  | cons (a r : Ty)
/-- A slice that is read. -/
structure SlP (α : Type) where
  a : Option Addr
  n : Nat
  c : Nat
  l : List α
@[reducible] def Ty.T : Ty → Type
  | .int _ => Int
  | .bool => Bool
  | .str => ByteArray
  | .sl e => SlP e.T
  | .nil => Unit
  | .cons a r => a.T × r.T
def Ty.vs : (t : Ty) → t.T → List Value
  | .int k, (x : Int) => [.int k x]
  | .bool, (x : Bool) => [.bool x]
  | .str, (x : ByteArray) => [.string x]
  | .sl e, (x : SlP e.T) => [.slice x.a x.n x.c]
  | .nil, _ => []
  | .cons a r, (x : a.T × r.T) => a.vs x.1 ++ r.vs x.2
def Ty.ok (w : World) : (t : Ty) → t.T → Prop
  | .int k, (x : Int) => Rng k x
  | .bool, _ => True
  | .str, (x : ByteArray) => x.size ≤ maxLen
  | .sl e, (x : SlP e.T) => x.l.length = x.n ∧ x.n ≤ x.c ∧ x.c ≤ maxLen ∧ RdC w x.a (x.l.flatMap e.vs) ∧ ∀ y ∈ x.l, e.ok w y
  | .nil, _ => True
  | .cons a r, (x : a.T × r.T) => a.ok w x.1 ∧ r.ok w x.2
def Ty.n : Ty → Nat
  | .nil => 0
  | .cons a r => a.n + r.n
  | _ => 1
theorem Ty.vs_length : ∀ (t : Ty) (x : t.T), (t.vs x).length = t.n
  | .int k, x => rfl
  | .bool, x => rfl
  | .str, x => rfl
  | .sl e, x => rfl
  | .nil, x => rfl
  | .cons a r, x => by
    show (a.vs x.1 ++ r.vs x.2).length = _
    rw [List.length_append, Ty.vs_length a, Ty.vs_length r]; rfl

/-- A kind's form as fields from a place on. -/
def confF (P : Program) (cf : Ty → TypeId → Bool) : Ty → List Field → Nat → Bool
  | .nil, [], _ => true
  | .cons a r, f :: fs, o => f.offset == o && cf a f.type && P.cellsOf f.type == a.n && confF P cf r fs (o + a.n)
  | _, _, _ => false
def confA (P : Program) (cf : Ty → TypeId → Bool) (e : TypeId) : Ty → Nat → Bool
  | .nil, 0 => true
  | .cons a r, n + 1 => cf a e && P.cellsOf e == a.n && confA P cf e r n
  | _, _ => false
def conf (P : Program) : Nat → Ty → TypeId → Bool
  | 0, _, _ => false
  | d + 1, t, i =>
    match P.underlying i, t with
    | some (.int k), .int k' => decide (k = k')
    | some .bool, .bool => true
    | some .string, .str => true
    | some (.slice e), .sl t => conf P d t e && P.cellsOf e == t.n
    | some (.struct fs), t => confF P (conf P d) t fs.toList 0 && P.cellsOf i == t.n
    | some (.array n e), t => confA P (conf P d) e t n && P.cellsOf i == t.n
    | _, _ => false

theorem CellsAt.append' {w : World} {p : Addr} {xs ys : List Value} (h : CellsAt w p xs) (h' : CellsAt w (p.add xs.length) ys) : CellsAt w p (xs ++ ys) := by
  intro j v hv
  by_cases hj : j < xs.length
  · rw [List.getElem?_append_left hj] at hv; exact h j v hv
  · rw [List.getElem?_append_right (by omega)] at hv
    have := h' _ v hv
    rwa [add_add, show xs.length + (j - xs.length) = j by omega] at this

section
variable {H : Type} {enc : TypeId × Value → H} {P : Program} {w : World}

def Opens (enc : TypeId × Value → H) (P : Program) (w : World) (d : Nat) : Prop :=
  ∀ (ty : Ty) (t : TypeId) (fuel : Nat) (cs : List Value) (x : DataW H × List MemPlace), conf P d ty t = true → DataW.trod enc P w 0 (fun _ => true) true fuel t cs = some x → ∃ v : ty.T, cs = ty.vs v ∧ ty.ok w v

theorem openF {d : Nat} (ih : Opens enc P w d) {n : Nat} {cs : List Value} : ∀ (ty : Ty) (fs : List Field) (o : Nat), confF P (conf P d) ty fs o = true → cs.length = o + ty.n →
    (∀ f ∈ fs, ∃ y, DataW.trod enc P w 0 (fun _ => true) true n f.type ((cs.drop f.offset).take (P.cellsOf f.type)) = some y) → ∃ v : ty.T, cs.drop o = ty.vs v ∧ ty.ok w v
  | .nil, [], o, hc, hl, hf => ⟨(), by simp [Ty.vs, hl, Ty.n], trivial⟩
  | .cons a r, f :: fs, o, hc, hl, hf => by
    simp only [confF, Bool.and_eq_true, beq_iff_eq] at hc
    obtain ⟨⟨⟨h1, h2⟩, h3⟩, h4⟩ := hc
    obtain ⟨y, hy⟩ := hf f (List.mem_cons_self ..)
    obtain ⟨v1, e1, o1⟩ := ih a f.type n _ y h2 hy
    obtain ⟨v2, e2, o2⟩ := openF ih r fs (o + a.n) h4 (by rw [hl]; simp [Ty.n]; omega) (fun f' hf' => hf f' (List.mem_cons_of_mem _ hf'))
    refine ⟨(v1, v2), ?_, o1, o2⟩
    show _ = a.vs v1 ++ r.vs v2
    rw [← e1, ← e2, h1, h3, ← List.drop_drop, List.take_append_drop]
  | .int _, [], _, hc, _, _ => by simp [confF] at hc
  | .int _, _ :: _, _, hc, _, _ => by simp [confF] at hc
  | .bool, [], _, hc, _, _ => by simp [confF] at hc
  | .bool, _ :: _, _, hc, _, _ => by simp [confF] at hc
  | .str, [], _, hc, _, _ => by simp [confF] at hc
  | .str, _ :: _, _, hc, _, _ => by simp [confF] at hc
  | .sl _, [], _, hc, _, _ => by simp [confF] at hc
  | .sl _, _ :: _, _, hc, _, _ => by simp [confF] at hc
  | .nil, _ :: _, _, hc, _, _ => by simp [confF] at hc
  | .cons _ _, [], _, hc, _, _ => by simp [confF] at hc

theorem openA {d : Nat} (ih : Opens enc P w d) {n : Nat} {cs : List Value} {e : TypeId} : ∀ (ty : Ty) (m : Nat) (i : Nat), confA P (conf P d) e ty m = true → cs.length = i * P.cellsOf e + ty.n →
    (∀ j, j < i + m → ∃ y, DataW.trod enc P w 0 (fun _ => true) true n e ((cs.drop (j * P.cellsOf e)).take (P.cellsOf e)) = some y) → ∃ v : ty.T, cs.drop (i * P.cellsOf e) = ty.vs v ∧ ty.ok w v
  | .nil, 0, i, hc, hl, hf => ⟨(), by simp [Ty.vs, hl, Ty.n], trivial⟩
  | .cons a r, m + 1, i, hc, hl, hf => by
    simp only [confA, Bool.and_eq_true, beq_iff_eq] at hc
    obtain ⟨⟨h2, h3⟩, h4⟩ := hc
    obtain ⟨y, hy⟩ := hf i (by omega)
    obtain ⟨v1, e1, o1⟩ := ih a e n _ y h2 hy
    obtain ⟨v2, e2, o2⟩ := openA ih r m (i + 1) h4 (by rw [hl, Nat.add_mul, h3]; simp [Ty.n]; omega) (fun j hj => hf j (by omega))
    refine ⟨(v1, v2), ?_, o1, o2⟩
    show _ = a.vs v1 ++ r.vs v2
    rw [← e1, ← e2, Nat.add_mul, Nat.one_mul, ← List.drop_drop, List.take_append_drop]
  | .int _, 0, _, hc, _, _ => by simp [confA] at hc
  | .int _, _ + 1, _, hc, _, _ => by simp [confA] at hc
  | .bool, 0, _, hc, _, _ => by simp [confA] at hc
  | .bool, _ + 1, _, hc, _, _ => by simp [confA] at hc
  | .str, 0, _, hc, _, _ => by simp [confA] at hc
  | .str, _ + 1, _, hc, _, _ => by simp [confA] at hc
  | .sl _, 0, _, hc, _, _ => by simp [confA] at hc
  | .sl _, _ + 1, _, hc, _, _ => by simp [confA] at hc
  | .nil, _ + 1, _, hc, _, _ => by simp [confA] at hc
  | .cons _ _, 0, _, hc, _, _ => by simp [confA] at hc

theorem openS {d : Nat} (ih : Opens enc P w d) {ty : Ty} {e : TypeId} (hc : conf P d ty e = true) (hn : P.cellsOf e = ty.n) {a : Addr} {len m : Nat}
    (h : ∀ i, i < len → ∃ y, (w.cells? 0 (a.add (i * P.cellsOf e)) (P.cellsOf e)).bind (DataW.trod enc P w 0 (fun _ => true) true m e) = some y) :
    ∃ l : List ty.T, l.length = len ∧ CellsAt w a (l.flatMap ty.vs) ∧ ∀ y ∈ l, ty.ok w y := by
  induction len with
  | zero => exact ⟨[], rfl, fun j v hv => by simp at hv, fun y hy => (List.not_mem_nil hy).elim⟩
  | succ k ih2 =>
    obtain ⟨l, hl, hcl, hol⟩ := ih2 fun i hi => h i (by omega)
    obtain ⟨y, hy⟩ := h k (by omega)
    obtain ⟨c, hcs, ht⟩ := Option.bind_eq_some_iff.1 hy
    obtain ⟨v, e1, o1⟩ := ih ty e m c y hc ht
    obtain ⟨_, hlen, hcell⟩ := World.cells?_some hcs
    refine ⟨l ++ [v], by simp [hl], ?_, ?_⟩
    · rw [List.flatMap_append, List.flatMap_singleton]
      refine CellsAt.append' hcl ?_
      have : (l.flatMap ty.vs).length = k * P.cellsOf e := by
        rw [hn, ← hl]
        clear hcl hol hl
        induction l with
        | nil => simp
        | cons z l ih3 => rw [List.flatMap_cons, List.length_append, Ty.vs_length, ih3, List.length_cons, Nat.add_mul]; omega
      rw [this]
      intro j u hu
      rw [← e1] at hu
      have hj : j < P.cellsOf e := by rw [← hlen]; exact (List.getElem?_eq_some_iff.1 hu).1
      rw [hcell j hj, hu]
    · intro y hy
      rcases List.mem_append.1 hy with h1 | h1
      · exact hol y h1
      · rw [List.mem_singleton.1 h1]; exact o1

theorem opens : ∀ d : Nat, Opens enc P w d
  | 0 => fun ty t fuel cs x hc => by simp [conf] at hc
  | d + 1 => by
    have ih := opens d
    intro ty t fuel cs x hc h
    unfold conf at hc
    split at hc
    · rename_i k k' ht
      obtain ⟨n, rfl, _, hw⟩ := DataW.trod_int ht h
      have := of_decide_eq_true hc
      subst this
      exact ⟨n, rfl, wfRng hw⟩
    · rename_i ht
      obtain ⟨b, rfl, _⟩ := DataW.trod_bool ht h
      exact ⟨b, rfl, trivial⟩
    · rename_i ht
      obtain ⟨s, rfl, _, hs⟩ := DataW.trod_string ht h
      exact ⟨s, rfl, hs⟩
    · rename_i e t' ht
      simp only [Bool.and_eq_true, beq_iff_eq] at hc
      obtain ⟨hc1, hc2⟩ := hc
      rcases DataW.trod_slice ht h with ⟨rfl, _⟩ | ⟨a, len, cap, elems, rest, n, _, rfl, rfl, hb, hl, hm, hlen, hel, _⟩
      · exact ⟨⟨none, 0, 0, []⟩, rfl, rfl, Nat.le_refl _, Nat.zero_le _, .inl ⟨rfl, rfl⟩, fun y hy => (List.not_mem_nil hy).elim⟩
      · obtain ⟨l, h1, h2, h3⟩ := openS ih hc1 hc2 (a := a) (len := len) (m := n) fun i hi => ⟨elems[i]'(by omega), by rw [hel i hi, List.getElem?_eq_getElem (by omega)]⟩
        exact ⟨⟨some a, len, cap, l⟩, rfl, h1, hl, hm, .inr ⟨a, rfl, h2⟩, h3⟩
    · rename_i ty _ _ fs ht
      simp only [Bool.and_eq_true, beq_iff_eq] at hc
      obtain ⟨xs, n, _, _, hl, hlen, hf⟩ := DataW.trod_struct ht h
      have := openF ih (n := n) (cs := cs) ty fs.toList 0 hc.1 (by rw [hl, hc.2]; omega) fun f hmem => by
        obtain ⟨i, hi, rfl⟩ := List.mem_iff_getElem.1 hmem
        have := hf i fs.toList[i] (by simp at hi ⊢)
        refine ⟨xs[i]'(by simp at hi; omega), ?_⟩
        rw [this, List.getElem?_eq_getElem (by simp at hi; omega)]
      simpa using this
    · rename_i ty _ _ n e ht
      simp only [Bool.and_eq_true, beq_iff_eq] at hc
      obtain ⟨xs, m, _, _, hl, hlen, hf⟩ := DataW.trod_array ht h
      have := openA ih (n := m) (cs := cs) ty n 0 hc.1 (by rw [hl, hc.2]; omega) fun j hj => ⟨xs[j]'(by omega), by rw [hf j (by omega), List.getElem?_eq_getElem (by omega)]⟩
      simpa using this
    · cases hc

/-- A parameter that is a struct or an array. -/
theorem openAgg {ty : Ty} {t : TypeId} {cs : Array Value} {d : Nat} {x : DataW H} {ps : List MemPlace} (hc : conf P d ty t = true) (h : DataW.Trod enc P w 0 (fun _ => true) true t (.agg cs) x ps) : ∃ v : ty.T, Value.agg cs = .agg (ty.vs v).toArray ∧ ty.ok w v := by
  obtain ⟨fuel, hf⟩ := h
  obtain ⟨v, e, o⟩ := opens d ty t fuel _ _ hc hf
  refine ⟨v, ?_, o⟩
  rw [← e]
  simp [Value.cells]
/-- A parameter that is a slice. -/
theorem openSl {ty : Ty} {t : TypeId} {a : Option Addr} {n c : Nat} {d : Nat} {x : DataW H} {ps : List MemPlace} (hc : conf P d (.sl ty) t = true) (h : DataW.Trod enc P w 0 (fun _ => true) true t (.slice a n c) x ps) :
    ∃ l : List ty.T, (Ty.sl ty).ok w ⟨a, n, c, l⟩ := by
  obtain ⟨fuel, hf⟩ := h
  obtain ⟨v, e, o⟩ := opens d (.sl ty) t fuel _ _ hc hf
  simp [Value.cells, Ty.vs] at e
  obtain ⟨h1, h2, h3⟩ := e
  refine ⟨v.l, ?_⟩
  subst h1; subst h2; subst h3
  exact o
theorem okWide_array {r : Reach} {b : Nat} {t : TypeId} {v : Value} {n : Nat} {e : TypeId} (ht : P.underlying t = some (.array n e)) (h : Value.okWide P w r b t v) : ∃ cs, v = .agg cs ∧ cs.size = P.cellsOf t := by
  simp only [Value.okWide, ht] at h
  obtain ⟨cs, h1, h2, _⟩ := h
  exact ⟨cs, h1, h2⟩
end

end Go.Proofs.Ytombjhkdakmhpaa.Vc
