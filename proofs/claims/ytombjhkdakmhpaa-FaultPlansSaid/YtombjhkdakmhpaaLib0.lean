/- Small laws on memory for proofs over plans: what stays, slices that are read, slices that a call owns. -/
import Derived.Test.YtombjhkdakmhpaaEng7
namespace Go.Eng
open Go Go.RowKit
set_option linter.unusedVariables false
set_option linter.unusedSimpArgs false

/-! ### Tests -/
theorem cond_of {b : Bool} {A B : Prop} (h1 : b = true → A) (h0 : b = false → B) : cond b A B := by
  cases b
  · exact h0 rfl
  · exact h1 rfl
theorem cond_d {p : Prop} [Decidable p] {A B : Prop} (h1 : p → A) (h0 : ¬ p → B) : cond (decide p) A B :=
  cond_of (fun h => h1 (of_decide_eq_true h)) (fun h => h0 (of_decide_eq_false h))
theorem cond_eq {x y : Int} {A B : Prop} (h1 : x = y → A) (h0 : x ≠ y → B) : cond (x == y) A B :=
  cond_of (fun h => h1 (by simpa using h)) (fun h => h0 (by simpa using h))
theorem cond_ne {x y : Int} {A B : Prop} (h1 : x ≠ y → A) (h0 : x = y → B) : cond (x != y) A B :=
  cond_of (fun h => h1 (by simpa using h)) (fun h => h0 (by simpa using h))
theorem cond_t {b : Bool} {A B : Prop} (hb : b = true) (h : A) : cond b A B := by subst hb; exact h
theorem cond_f {b : Bool} {A B : Prop} (hb : b = false) (h : B) : cond b A B := by subst hb; exact h

theorem Rng.i64 {z : Int} (h0 : -9223372036854775808 ≤ z) (h1 : z ≤ 9223372036854775807) : Rng .i64 z :=
  ⟨by simpa [IntKind.min, IntKind.signed, IntKind.bits] using h0, by simpa [IntKind.max, IntKind.signed, IntKind.bits] using h1⟩
theorem Rng.u8 {z : Int} (h0 : 0 ≤ z) (h1 : z ≤ 255) : Rng .u8 z :=
  ⟨by simpa [IntKind.min, IntKind.signed, IntKind.bits] using h0, by simpa [IntKind.max, IntKind.signed, IntKind.bits] using h1⟩
theorem Rng.u64 {z : Int} (h0 : 0 ≤ z) (h1 : z ≤ 18446744073709551615) : Rng .u64 z :=
  ⟨by simpa [IntKind.min, IntKind.signed, IntKind.bits] using h0, by simpa [IntKind.max, IntKind.signed, IntKind.bits] using h1⟩

theorem Loop1 {S : List Sh} {x0 : RT S} {w0 : World} {body : RT S → World → (RT S → World → Prop) → Prop} (I : RT S → World → Prop) (μ : RT S → World → Nat) (h0 : I x0 w0)
    (h : ∀ x w, I x w → body x w fun x' w' => I x' w' ∧ μ x' w' < μ x w) : LoopV S x0 w0 body := ⟨I, μ, h0, h⟩

/-- An open order without acting operations: whatever block. -/
theorem DrawV.any {body : (Nat → Prop) → Prop} (h : ∀ D : Nat → Prop, (∀ b, D b) → body D) : DrawV body := ⟨fun _ => True, h _ fun _ => trivial⟩

/-! ### What stays -/
abbrev Ext (w w' : World) : Prop := Below w.heap.size w w'

theorem Ext.refl (w : World) : Ext w w := Below.refl _ w
theorem Ext.trans {a b c : World} (h : Ext a b) (k : Ext b c) : Ext a c := Below.trans h (Below.mono k h.size)
theorem Ext.drew (w : World) : Ext w w.drew := Below.drew (Below.refl _ w)
theorem heap_new (w : World) (o : Obj) : (w.alloc o).heap[w.heap.size]? = some o := by
  show (w.heap.push o)[w.heap.size]? = some o
  simp
theorem Ext.alloc (w : World) (o : Obj) : Ext w (w.alloc o) := Below.alloc (Below.refl _ w) (Nat.le_refl _) o
theorem Bel.cells {B : Nat} {w w' : World} (h : Below B w w') {p : Addr} {vs : List Value} (hp : p.block < B) (hc : CellsAt w p vs) : CellsAt w' p vs :=
  cells_same (h.block _ hp) hc
theorem cells_lt {w : World} {p : Addr} {v : Value} {vs : List Value} (hc : CellsAt w p (v :: vs)) : p.block < w.heap.size := by
  have := World.block_lt_of_cell? w _ (hc 0 v rfl)
  rwa [add_block] at this
theorem Ext.cells {w w' : World} (h : Ext w w') {p : Addr} {vs : List Value} (hc : CellsAt w p vs) : CellsAt w' p vs := by
  cases vs with
  | nil => intro j v hv; simp at hv
  | cons v vs => exact Bel.cells h (cells_lt hc) hc
theorem Ext.rd {w w' : World} (h : Ext w w') {a : Option Addr} {vs : List Value} (hc : RdC w a vs) : RdC w' a vs := by
  rcases hc with ⟨h1, h2⟩ | ⟨p, h1, h2⟩
  · exact .inl ⟨h1, h2⟩
  · exact .inr ⟨p, h1, h.cells h2⟩
theorem Ext.keep {w w' : World} (h : Ext w w') : KeepOn (fun k => k < w.heap.size) w w' := h.block
/-- An open order whose acting operations leave the old blocks. -/
theorem DrawV.old {body : (Nat → Prop) → Prop} (w : World) (h : ∀ D : Nat → Prop, (∀ b, b < w.heap.size → D b) → (∀ w', Ext w w' → KeepOn D w.drew w') → body D) : DrawV body :=
  ⟨fun b => b < w.heap.size, h _ (fun _ h => h) fun w' e => e.block⟩

theorem DrawV.base {body : (Nat → Prop) → Prop} (B : Nat) (w : World) (h : ∀ D : Nat → Prop, (∀ b, b < B → D b) → (∀ w', Below B w w' → KeepOn D w.drew w') → body D) : DrawV body :=
  ⟨fun b => b < B, h _ (fun _ h => h) fun w' e => e.block⟩

theorem Ext.heap {w w' : World} (h : Ext w w') {k : Nat} {o : Obj} (hk : w.heap[k]? = some o) : w'.heap[k]? = some o := by
  rw [h.block k (Array.getElem?_eq_some_iff.1 hk).1]; exact hk

/-! ### Cells -/
theorem CellsAt.nil {w : World} {p : Addr} : CellsAt w p [] := fun j v hv => by simp at hv
theorem CellsAt.of_heap {w : World} {b o : Nat} {cs : Array Value} {e : TypeId} {fr : Nat × Nat} (h : w.heap[b]? = some (.cells cs e fr)) {vs : List Value} (hv : ∀ j v, vs[j]? = some v → cs[o + j]? = some v) : CellsAt w ⟨b, o, none⟩ vs := by
  intro j v hj
  have hc := hv j v hj
  unfold World.cell?
  rw [add_block, h]
  simp only [Addr.add_lit]
  simpa using hc
theorem CellsAt.new {w : World} {cs : List Value} {e : TypeId} : CellsAt (w.alloc (.cells cs.toArray e)) ⟨w.heap.size, 0, none⟩ cs :=
  CellsAt.of_heap (cs := cs.toArray) (e := e) (fr := (0, 0)) (heap_new w _) (fun j v h => by simpa using h)
theorem CellsAt.get {w : World} {p : Addr} {vs : List Value} (h : CellsAt w p vs) {j : Nat} {v : Value} (hv : vs[j]? = some v) : w.cell? (p.add j) = some v := h j v hv
theorem add_add (p : Addr) (i j : Nat) : (p.add i).add j = p.add (i + j) := by
  unfold Addr.add
  by_cases hi : i = 0
  · subst hi; simp
  · by_cases hj : j = 0
    · subst hj; simp [hi]
    · rw [if_neg hi, if_neg hj, if_neg (by omega)]
      simp [Nat.add_assoc]
theorem CellsAt.drop {w : World} {p : Addr} {vs : List Value} (h : CellsAt w p vs) (i : Nat) : CellsAt w (p.add i) (vs.drop i) := by
  intro j v hv
  rw [List.getElem?_drop] at hv
  rw [add_add]
  exact h _ v hv
theorem CellsAt.take {w : World} {p : Addr} {vs : List Value} (h : CellsAt w p vs) (i : Nat) : CellsAt w p (vs.take i) := by
  intro j v hv
  refine h j v ?_
  rw [List.getElem?_take] at hv
  split at hv
  · exact hv
  · cases hv

/-! ### Slices of numbers, read -/
structure Ints (w : World) (k : IntKind) (a : Option Addr) (n c : Nat) (xs : List Int) : Prop where
  len : xs.length = n
  cap : n ≤ c
  lim : n ≤ 9223372036854775807
  rd : RdC w a (xs.map (Value.int k))

theorem Ints.ext {w w' : World} {k : IntKind} {a : Option Addr} {n c : Nat} {xs : List Int} (h : Ints w k a n c xs) (e : Ext w w') : Ints w' k a n c xs := ⟨h.len, h.cap, h.lim, e.rd h.rd⟩
theorem Ints.drew {w : World} {k : IntKind} {a : Option Addr} {n c : Nat} {xs : List Int} (h : Ints w k a n c xs) : Ints w.drew k a n c xs := h.ext (Ext.drew w)

theorem Ints.at {w : World} {k : IntKind} {a : Option Addr} {n c : Nat} {xs : List Int} (h : Ints w k a n c xs) {i : Int} (h0 : 0 ≤ i) (h1 : i < (n : Int)) :
    ∃ q, a = some q ∧ q.block < w.heap.size ∧ w.cell? (q.add (i.toNat * 1)) = some (.int k (xs.getD i.toNat 0)) := by
  have hlt : i.toNat < xs.length := by have := h.len; omega
  rcases h.rd with ⟨_, h2⟩ | ⟨q, hq, hc⟩
  · simp at h2; simp [h2] at hlt
  · have := hc i.toNat (.int k (xs.getD i.toNat 0)) (by simp [hlt])
    refine ⟨q, hq, ?_, by simpa using this⟩
    have hb := World.block_lt_of_cell? w _ this
    rwa [add_block] at hb

/-- One element, in the text's order. -/
theorem Ints.idx {w : World} {k : IntKind} {a : Option Addr} {n c : Nat} {xs : List Int} (h : Ints w k a n c xs) {i : Int} (h0 : 0 ≤ i) (h1 : i < (n : Int)) {K : Int → Prop} (hk : K (xs.getD i.toNat 0)) :
    (0 ≤ i ∧ i < (n : Int)) ∧ ∃ q, a = some q ∧ LoadS w (q.add (i.toNat * 1)) (.int k) K := by
  obtain ⟨q, hq, _, hc⟩ := h.at h0 h1
  exact ⟨⟨h0, h1⟩, q, hq, _, hc, hk⟩
/-- One element, in an open order: it lay there in an elder world. -/
theorem Ints.idxD {w0 w : World} {k : IntKind} {a : Option Addr} {n c : Nat} {xs : List Int} (h : Ints w0 k a n c xs) (e : Ext w0 w) {i : Int} (h0 : 0 ≤ i) (h1 : i < (n : Int)) {D : Nat → Prop} (hD : ∀ b, b < w0.heap.size → D b) {K : Int → Prop} (hk : K (xs.getD i.toNat 0)) :
    (0 ≤ i ∧ i < (n : Int)) ∧ ∃ q, a = some q ∧ (D (q.add (i.toNat * 1)).block ∧ LoadS w (q.add (i.toNat * 1)) (.int k) K) := by
  obtain ⟨q, hq, hb, hc⟩ := h.at h0 h1
  have hs : w.cell? (q.add (i.toNat * 1)) = w0.cell? (q.add (i.toNat * 1)) := cell_same (by rw [add_block]; exact e.block _ hb)
  exact ⟨⟨h0, h1⟩, q, hq, by rw [add_block]; exact hD _ hb, _, hs.trans hc, hk⟩

/-- A cut. -/
theorem Ints.sub {w : World} {k : IntKind} {a : Option Addr} {n c : Nat} {xs : List Int} (h : Ints w k a n c xs) {l hh m : Nat} (h1 : l ≤ hh) (h2 : hh ≤ n) (h3 : hh ≤ m) {a' : Option Addr} (ha : a' = if m = l then a else a.map (·.add (l * 1))) :
    Ints w k a' (hh - l) (m - l) ((xs.drop l).take (hh - l)) := by
  have hl := h.len
  have hli := h.lim
  refine ⟨by simp; omega, by omega, by omega, ?_⟩
  subst ha
  split
  · have : hh - l = 0 := by omega
    rw [this]
    simp only [List.take_zero, List.map_nil]
    rcases h.rd with ⟨h1, _⟩ | ⟨q, h1, _⟩
    · exact .inl ⟨h1, rfl⟩
    · exact .inr ⟨q, h1, CellsAt.nil⟩
  · rcases h.rd with ⟨h1, h2⟩ | ⟨q, h1, hc⟩
    · simp at h2
      exact .inl ⟨by simp [h1], by simp [h2]⟩
    · refine .inr ⟨q.add l, by simp [h1], ?_⟩
      have := (hc.drop l).take (hh - l)
      rwa [← List.map_drop, ← List.map_take] at this

/-! ### Slices that a call owns -/
structure Own (w : World) (B : Nat) (e : TypeId) (sz : Nat) (a : Option Addr) (n c : Nat) (vs : List Value) : Prop where
  len : vs.length = n * sz
  cap : n ≤ c
  lim : n ≤ 9223372036854775807
  one : oneAll vs
  at_ : (a = none ∧ c = 0 ∧ vs = []) ∨ ∃ b cs, a = some ⟨b, 0, none⟩ ∧ B ≤ b ∧ w.heap[b]? = some (.cells cs e (0, 0)) ∧ cs.size = c * sz ∧ cs.toList.take vs.length = vs

theorem Own.rd {w : World} {B : Nat} {e : TypeId} {sz : Nat} {a : Option Addr} {n c : Nat} {vs : List Value} (h : Own w B e sz a n c vs) : RdC w a vs := by
  rcases h.at_ with ⟨h1, _, h2⟩ | ⟨b, cs, h1, _, hb, hs, ht⟩
  · exact .inl ⟨h1, h2⟩
  · refine .inr ⟨_, h1, CellsAt.of_heap hb fun j v hv => ?_⟩
    have hj : j < vs.length := (List.getElem?_eq_some_iff.1 hv).1
    rw [← ht, List.getElem?_take, if_pos (by rw [ht] at *; exact hj)] at hv
    simpa using hv

theorem Own.nil (w : World) (B : Nat) (e : TypeId) (sz : Nat) : Own w B e sz none 0 0 [] := ⟨by simp, Nat.le_refl _, by omega, fun u h => (List.not_mem_nil h).elim, .inl ⟨rfl, rfl, rfl⟩⟩
theorem Own.ints {w : World} {B : Nat} {e : TypeId} {a : Option Addr} {n c : Nat} {k : IntKind} {xs : List Int} (h : Own w B e 1 a n c (xs.map (Value.int k))) : Ints w k a n c xs :=
  ⟨by have := h.len; simpa using this, h.cap, h.lim, h.rd⟩
theorem Own.ext {w w' : World} {B : Nat} {e : TypeId} {sz : Nat} {a : Option Addr} {n c : Nat} {vs : List Value} (h : Own w B e sz a n c vs) (x : Ext w w') : Own w' B e sz a n c vs :=
  ⟨h.len, h.cap, h.lim, h.one, h.at_.imp id fun ⟨b, cs, h1, h2, h3, h4⟩ => ⟨b, cs, h1, h2, x.heap h3, h4⟩⟩
theorem Own.mono {w : World} {B B' : Nat} {e : TypeId} {sz : Nat} {a : Option Addr} {n c : Nat} {vs : List Value} (h : Own w B e sz a n c vs) (hB : B' ≤ B) : Own w B' e sz a n c vs :=
  ⟨h.len, h.cap, h.lim, h.one, h.at_.imp id fun ⟨b, cs, h1, h2, h3⟩ => ⟨b, cs, h1, Nat.le_trans hB h2, h3⟩⟩
/-- Another block's write leaves it. -/
theorem Own.other {w w' : World} {B : Nat} {e : TypeId} {sz : Nat} {a : Option Addr} {n c : Nat} {vs : List Value} (h : Own w B e sz a n c vs) (x : ∀ p, a = some p → w'.heap[p.block]? = w.heap[p.block]?) : Own w' B e sz a n c vs :=
  ⟨h.len, h.cap, h.lim, h.one, h.at_.imp id fun ⟨b, cs, h1, h2, h3, h4⟩ => ⟨b, cs, h1, h2, by rw [x _ h1]; exact h3, h4⟩⟩
theorem Own.new {w : World} {B : Nat} {e : TypeId} {sz n c : Nat} {cs : List Value} (hB : B ≤ w.heap.size) (hl : cs.length = c * sz) (hn : n ≤ c) (hli : n ≤ 9223372036854775807) (h1 : oneAll cs) :
    Own (w.alloc (.cells cs.toArray e)) B e sz (some ⟨w.heap.size, 0, none⟩) n c (cs.take (n * sz)) := by
  have hle : n * sz ≤ cs.length := by rw [hl]; exact Nat.mul_le_mul_right _ hn
  refine ⟨by simp [List.length_take]; omega, hn, hli, fun u hu => h1 u (List.mem_of_mem_take hu), .inr ⟨w.heap.size, cs.toArray, rfl, hB, heap_new w _, by simpa using hl, ?_⟩⟩
  simp [List.length_take]

/-! ### Writing cells -/
def splice (cs : Array Value) : Nat → List Value → Array Value
  | _, [] => cs
  | o, v :: vs => splice (cs.setIfInBounds o v) (o + 1) vs
theorem splice_size : ∀ (vs : List Value) (cs : Array Value) (o : Nat), (splice cs o vs).size = cs.size
  | [], _, _ => rfl
  | v :: vs, cs, o => by simp [splice, splice_size vs]
theorem splice_toList : ∀ (vs : List Value) (cs : Array Value) (o : Nat), o + vs.length ≤ cs.size → (splice cs o vs).toList = cs.toList.take o ++ (vs ++ cs.toList.drop (o + vs.length))
  | [], cs, o, _ => by simp [splice]
  | v :: vs, cs, o, h => by
    simp only [List.length_cons] at h
    rw [splice, splice_toList vs _ _ (by simp; omega)]
    simp only [Array.toList_setIfInBounds]
    have hk : o < cs.toList.length := by simp; omega
    rw [List.take_succ_eq_append_getElem (by simp; omega), List.take_set_of_le (by omega), List.getElem_set_self, List.append_assoc, List.drop_set_of_lt (by omega)]
    simp only [List.cons_append, List.nil_append, List.length_cons]
    rw [show o + 1 + vs.length = o + (vs.length + 1) by omega]
theorem setCells_heap : ∀ (vs : List Value) (w : World) (b o : Nat) (cs : Array Value) (e : TypeId) (fr : Nat × Nat), w.heap[b]? = some (.cells cs e fr) → (w.setCells b o vs).heap[b]? = some (.cells (splice cs o vs) e fr)
  | [], _, _, _, _, _, _, h => h
  | v :: vs, w, b, o, cs, e, fr, h => by
    rw [World.setCells]
    refine setCells_heap vs _ b (o + 1) _ e fr ?_
    simp only [World.setCell, Array.getElem?_modify, if_true, h]
    rfl
theorem setCells_other : ∀ (vs : List Value) (w : World) (b o k : Nat), k ≠ b → (w.setCells b o vs).heap[k]? = w.heap[k]?
  | [], _, _, _, _, _ => rfl
  | v :: vs, w, b, o, k, h => by
    rw [World.setCells, setCells_other vs _ b (o + 1) k h]
    exact Below.heap_setCell w ⟨b, o, none⟩ v k h
theorem setCells_rest : ∀ (vs : List Value) (w : World) (b o : Nat), (w.setCells b o vs).os = w.os ∧ (w.setCells b o vs).tape = w.tape ∧ (w.setCells b o vs).output = w.output ∧ (w.setCells b o vs).heap.size = w.heap.size
  | [], _, _, _ => ⟨rfl, rfl, rfl, rfl⟩
  | v :: vs, w, b, o => by
    rw [World.setCells]
    obtain ⟨h1, h2, h3, h4⟩ := setCells_rest vs (w.setCell ⟨b, o, none⟩ v) b (o + 1)
    exact ⟨h1, h2, h3, by rw [h4]; simp [World.setCell]⟩
theorem Bel.setCells {B : Nat} {w0 w : World} (h : Below B w0 w) {b : Nat} (hb : B ≤ b) (o : Nat) (vs : List Value) : Below B w0 (w.setCells b o vs) := by
  obtain ⟨h1, h2, h3, h4⟩ := setCells_rest vs w b o
  exact h.trans ⟨h1, h2, h3, by rw [h4]; exact Nat.le_refl _, fun k hk => setCells_other vs w b o k (by omega)⟩

/-! ### Unfrozen cells of a row -/
theorem Free.of_heap {w : World} {b o n : Nat} {cs : Array Value} {e : TypeId} (h : w.heap[b]? = some (.cells cs e (0, 0))) (hn : o + n ≤ cs.size) : Free w ⟨b, o, none⟩ n := by
  intro j hj
  unfold World.cell? World.frozen?
  rw [add_block, h]
  simp only [Addr.add_lit]
  have : o + j < cs.size := by omega
  simp [this]

end Go.Eng
