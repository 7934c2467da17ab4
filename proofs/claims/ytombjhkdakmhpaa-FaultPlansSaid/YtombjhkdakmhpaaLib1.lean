/- Laws of append, store and make on slices that a call owns. -/
import Derived.Test.YtombjhkdakmhpaaLib0
namespace Go.Eng
open Go Go.RowKit
set_option linter.unusedVariables false
set_option linter.unusedSimpArgs false

/-- Blocks other than the slice's own are as they were. -/
def But (a : Option Addr) (w w' : World) : Prop := ∀ k, k < w.heap.size → (∀ p, a = some p → k ≠ p.block) → w'.heap[k]? = w.heap[k]?
/-- The slice lies where it lay, or in a new block. -/
def Mov (w : World) (a a' : Option Addr) : Prop := a' = a ∨ ∃ b, w.heap.size ≤ b ∧ a' = some ⟨b, 0, none⟩

theorem oneAll.append {l m : List Value} (h : oneAll l) (h' : oneAll m) : oneAll (l ++ m) := fun u hu => (List.mem_append.1 hu).elim (h u) (h' u)
theorem oneAll.ints (k : IntKind) (xs : List Int) : oneAll (xs.map (Value.int k)) := fun u hu => by obtain ⟨_, _, rfl⟩ := List.mem_map.1 hu; rfl
theorem oneAll.nil : oneAll [] := fun u hu => (List.not_mem_nil hu).elim

theorem AppV.own {w : World} {e : TypeId} {sz by' : Nat} {a : Option Addr} {n c : Nat} {news : List Value} {m : Nat} {K : Option Addr → Nat → Nat → World → Prop} {B : Nat} {vs : List Value}
    (ho : Own w B e sz a n c vs) (hB : B ≤ w.heap.size) (hl : news.length = m * sz) (h1 : oneAll news) (hby : (2 * (n + m) + 256) * by' ≤ 281474976710656) (h63 : n + m ≤ 9223372036854775807)
    (hk : ∀ a' c' w', Own w' B e sz a' (n + m) c' (vs ++ news) → Below B w w' → But a w w' → Mov w a a' → K a' (n + m) c' w') : AppV w e sz by' a n c news m K := by
  refine ⟨hl, h1, hby, h63, ?_⟩
  by_cases hm : m = 0 ∧ a = none
  · obtain ⟨rfl, rfl⟩ := hm
    have hnews : news = [] := List.length_eq_zero_iff.1 (by omega)
    subst hnews
    refine .inl ⟨rfl, ho.cap, hk _ _ _ ?_ (Below.refl _ _) (fun k _ _ => rfl) (.inl rfl)⟩
    rw [List.append_nil]
    exact ho
  · refine .inr ⟨vs, ho.len, ho.rd, fun hc => ?_, fun hc c' rest hc' hlen => ?_⟩
    · rcases ho.at_ with ⟨ha, hc0, hv⟩ | ⟨b, cs, ha, hBb, hb, hs, ht⟩
      · exact absurd ⟨by omega, ha⟩ hm
      · have hfit : n * sz + news.length ≤ cs.size := by
          rw [hl, hs, ← Nat.add_mul]; exact Nat.mul_le_mul_right _ hc
        refine ⟨⟨b, 0, none⟩, ha, rfl, ?_, hk _ _ _ ?_ ?_ ?_ (.inl rfl)⟩
        · have := Free.of_heap (w := w) (b := b) (o := n * sz) (n := news.length) hb hfit
          simpa [Addr.add_lit] using this
        · refine ⟨by simp [ho.len, hl, Nat.add_mul], hc, h63, ho.one.append h1, .inr ⟨b, _, ha, hBb, setCells_heap _ _ _ _ _ _ _ hb, by rw [splice_size]; exact hs, ?_⟩⟩
          have hvl := ho.len
          rw [splice_toList _ _ _ (by simpa using hfit)]
          simp only [Nat.zero_add]
          have e1 : cs.toList.take (n * sz) = vs := by rw [← hvl]; exact ht
          rw [e1, ← List.append_assoc, List.take_append_of_le_length (by simp), List.take_of_length_le (by simp)]
        · exact Bel.setCells (Below.refl _ _) hBb _ _
        · intro k hk' hne
          exact setCells_other _ _ _ _ _ (hne _ ha)
    · refine hk _ _ _ ?_ ?_ ?_ (.inr ⟨w.heap.size, Nat.le_refl _, rfl⟩)
      · refine ⟨by simp [ho.len, hl, Nat.add_mul], hc', h63, ho.one.append h1, .inr ⟨w.heap.size, _, rfl, hB, heap_new w.drew _, by simpa using hlen, ?_⟩⟩
        simp only [List.append_assoc]
        rw [← List.append_assoc, List.take_left]
      · exact (Below.drew (Below.refl _ w)).trans (Below.alloc (Below.refl B w.drew) hB _)
      · intro k hk' _
        exact Below.heap_alloc w.drew _ k hk'

/-- append of the cells of a slice that is read. -/
theorem AppS.of {w : World} {b : Option Addr} {m sz : Nat} {K : List Value → Prop} {news : List Value} (hl : news.length = m * sz) (hr : RdC w b news) (hk : K news) : AppS w b m sz K := ⟨news, hl, hr, hk⟩

/-- A store into a slice of single cells. -/
theorem Own.store {w : World} {B : Nat} {e : TypeId} {a : Option Addr} {n c : Nat} {vs : List Value} (ho : Own w B e 1 a n c vs) {i : Int} (h0 : 0 ≤ i) (h1 : i < (n : Int)) {v : Value} (hv : v.oneCell' = true) {K : World → Prop}
    (hk : ∀ w', Own w' B e 1 a n c (vs.set i.toNat v) → Below B w w' → But a w w' → w'.heap.size = w.heap.size → K w') :
    (0 ≤ i ∧ i < (n : Int)) ∧ ∃ q, a = some q ∧ StoreV w (q.add (i.toNat * 1)) [v] K := by
  refine ⟨⟨h0, h1⟩, ?_⟩
  have hn : vs.length = n := by have := ho.len; omega
  rcases ho.at_ with ⟨_, _, hnil⟩ | ⟨b, cs, ha, hBb, hb, hs, ht⟩
  · subst hnil; simp at hn; omega
  · have hc := ho.cap
    have hcs : cs.size = c := by omega
    refine ⟨_, ha, ?_⟩
    have hadd : (⟨b, 0, none⟩ : Addr).add (i.toNat * 1) = ⟨b, i.toNat, none⟩ := by simp [Addr.add_lit]
    rw [hadd]
    refine ⟨rfl, Free.of_heap hb (by simp; omega), ?_⟩
    rintro w' rfl
    refine hk _ ⟨by simp [hn], hc, ho.lim, ?_, .inr ⟨b, _, ha, hBb, setCells_heap _ _ _ _ _ _ _ hb, by rw [splice_size]; exact hs, ?_⟩⟩ (Bel.setCells (Below.refl _ _) hBb _ _) ?_ (setCells_rest _ _ _ _).2.2.2
    · intro u hu
      rcases List.mem_or_eq_of_mem_set hu with h | h
      · exact ho.one u h
      · rw [h]; exact hv
    · simp only [splice, Array.toList_setIfInBounds, List.length_set]
      rw [List.take_set]
      rw [ht]
    · intro k hk' hne
      have := hne _ ha
      exact setCells_other _ _ _ _ _ this

/-- Whatever lies elsewhere is read as before. -/
theorem But.own {a a2 : Option Addr} {w w' : World} (h : But a w w') {B : Nat} {e : TypeId} {sz n c : Nat} {vs : List Value} (ho : Own w B e sz a2 n c vs) (hne : ∀ p q, a = some p → a2 = some q → p.block ≠ q.block) : Own w' B e sz a2 n c vs := by
  refine ho.other fun p hp => ?_
  rcases ho.at_ with ⟨h1, _⟩ | ⟨b, cs, h1, h2, h3, h4⟩
  · rw [h1] at hp; cases hp
  · have : p = ⟨b, 0, none⟩ := by rw [h1] at hp; exact (Option.some.inj hp).symm
    subst this
    exact h b (Array.getElem?_eq_some_iff.1 h3).1 (fun q hq e => hne q _ hq h1 e.symm)

/-- A new slice of zeros. -/
theorem Own.zeros {w : World} {B : Nat} {e : TypeId} {n c : Nat} {z : Value} (hB : B ≤ w.heap.size) (hn : n ≤ c) (hli : n ≤ 9223372036854775807) (h1 : z.oneCell' = true) :
    Own (w.alloc (.cells (List.replicate c [z]).flatten.toArray e)) B e 1 (some ⟨w.heap.size, 0, none⟩) n c (List.replicate n z) := by
  have hz : ∀ k, (List.replicate k [z]).flatten = List.replicate k z := by
    intro k
    induction k with
    | zero => rfl
    | succ k ih => rw [List.replicate_succ, List.flatten_cons, ih, List.replicate_succ]; rfl
  have := Own.new (w := w) (B := B) (e := e) (sz := 1) (n := n) (c := c) (cs := List.replicate c z) hB (by simp) hn hli (fun u hu => by rw [(List.mem_replicate.1 hu).2]; exact h1)
  rw [hz]
  simpa [List.take_replicate, Nat.min_eq_left hn] using this

end Go.Eng
