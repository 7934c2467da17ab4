/- Values of several cells in memory of their own: read and written whole, and cell by cell. -/
import Derived.Test.YtombjhkdakmhpaaLib1
namespace Go.Proofs.Ytombjhkdakmhpaa.Vc
open Go Go.Eng Go.RowKit
set_option linter.unusedVariables false
set_option linter.unusedSimpArgs false

theorem ldC {w : World} {b : Nat} {vs : List Value} (hc : CellsAt w ⟨b, 0, none⟩ vs) {i : Nat} {h : SS} {x : h.T} (hv : vs[i]? = some (h.v x)) {K : h.T → Prop} (hk : K x) : LoadS w ⟨b, i, none⟩ h K := by
  refine ⟨x, ?_, hk⟩
  have := hc i _ hv
  rwa [show (⟨b, 0, none⟩ : Addr).add i = ⟨b, i, none⟩ by simp [Addr.add_lit]] at this
theorem ldp {w : World} {p : Addr} {vs : List Value} (hc : CellsAt w p vs) (i : Nat) {h : SS} {x : h.T} (hv : vs[i]? = some (h.v x)) {K : h.T → Prop} (hk : K x) : LoadS w (p.add i) h K :=
  ⟨x, hc i _ hv, hk⟩
theorem ldp0 {w : World} {p : Addr} {vs : List Value} (hc : CellsAt w p vs) {h : SS} {x : h.T} (hv : vs[0]? = some (h.v x)) {K : h.T → Prop} (hk : K x) : LoadS w p h K := by
  refine ⟨x, ?_, hk⟩
  have := hc 0 _ hv
  rwa [show p.add 0 = p by unfold Addr.add; simp] at this
theorem ldaC {w : World} {p : Addr} {vs : List Value} (hc : CellsAt w p vs) {l : List SS} (x : Tup l) (hv : tupV l x = vs) {K : Tup l → Prop} (hk : K x) : LoadA w p l K :=
  ⟨x, by rw [hv]; exact hc, hk⟩

/-- A block of its own (from number B on), that may be written. -/
structure Box (w : World) (B b : Nat) (e : TypeId) (vs : List Value) : Prop where
  base : B ≤ b
  heap : w.heap[b]? = some (.cells vs.toArray e)
theorem Box.new {w : World} {B : Nat} (hB : B ≤ w.heap.size) (e : TypeId) (vs : List Value) : Box (w.alloc (.cells vs.toArray e)) B w.heap.size e vs := ⟨hB, heap_new w _⟩
theorem Box.ext {w w' : World} {B b : Nat} {e : TypeId} {vs : List Value} (h : Box w B b e vs) (x : Ext w w') : Box w' B b e vs := ⟨h.base, x.heap h.heap⟩
theorem Box.cells {w : World} {B b : Nat} {e : TypeId} {vs : List Value} (h : Box w B b e vs) : CellsAt w ⟨b, 0, none⟩ vs :=
  CellsAt.of_heap (cs := vs.toArray) (e := e) (fr := (0, 0)) h.heap (fun j v hv => by simpa using hv)
theorem Box.ld {w : World} {B b : Nat} {e : TypeId} {vs : List Value} (hb : Box w B b e vs) {i : Nat} {h : SS} {x : h.T} (hv : vs[i]? = some (h.v x)) {K : h.T → Prop} (hk : K x) : LoadS w ⟨b, i, none⟩ h K := ldC hb.cells hv hk
theorem Box.lda {w : World} {B b : Nat} {e : TypeId} {vs : List Value} (hb : Box w B b e vs) {l : List SS} (x : Tup l) (hv : tupV l x = vs) {K : Tup l → Prop} (hk : K x) : LoadA w ⟨b, 0, none⟩ l K := ldaC hb.cells x hv hk
theorem Box.lt {w : World} {B b : Nat} {e : TypeId} {vs : List Value} (h : Box w B b e vs) : b < w.heap.size := by
  have := h.heap
  rw [Array.getElem?_eq_some_iff] at this
  exact this.1
theorem Box.store {w : World} {B b : Nat} {e : TypeId} {vs : List Value} (h : Box w B b e vs) (o : Nat) {news : List Value} (hl : o + news.length ≤ vs.length) {K : World → Prop}
    (hk : ∀ w', Box w' B b e (vs.take o ++ (news ++ vs.drop (o + news.length))) → Below B w w' → (∀ k, k ≠ b → w'.heap[k]? = w.heap[k]?) → w'.heap.size = w.heap.size → K w') : StoreV w ⟨b, o, none⟩ news K := by
  refine ⟨rfl, Free.of_heap h.heap (by simpa using hl), ?_⟩
  rintro w' rfl
  refine hk _ ⟨h.base, ?_⟩ (Bel.setCells (Below.refl _ _) h.base _ _) (fun k hk => setCells_other _ _ _ _ _ hk) (setCells_rest _ _ _ _).2.2.2
  rw [setCells_heap _ _ _ _ _ _ _ h.heap]
  have := splice_toList news vs.toArray o (by simpa using hl)
  rw [List.toList_toArray] at this
  rw [← this, Array.toArray_toList]
theorem Box.other {w w' : World} {B b b2 : Nat} {e : TypeId} {vs : List Value} (h : Box w B b e vs) (hne : b ≠ b2) (x : ∀ k, k ≠ b2 → w'.heap[k]? = w.heap[k]?) : Box w' B b e vs := ⟨h.base, by rw [x _ hne]; exact h.heap⟩

theorem newBox {w : World} {vs : List Value} {e : TypeId} {K : Nat → World → Prop} (h : ∀ b w1, Ext w w1 → Box w1 w.heap.size b e vs → K b w1) : NewV vs.toArray e w K := by
  rintro b w1 rfl rfl
  exact h _ _ (Ext.alloc _ _) (Box.new (Nat.le_refl _) _ _)
theorem mul_bd {a b A B : Int} (h0 : 0 ≤ a) (h1 : a ≤ A) (h2 : 0 ≤ b) (h3 : b ≤ B) : 0 ≤ a * b ∧ a * b ≤ A * B :=
  ⟨Int.mul_nonneg h0 h2, Int.le_trans (Int.mul_le_mul_of_nonneg_right h1 h2) (Int.mul_le_mul_of_nonneg_left h3 (Int.le_trans h0 h1))⟩

end Go.Proofs.Ytombjhkdakmhpaa.Vc
