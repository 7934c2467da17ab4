/- More laws of slices that a call owns: where their blocks lie. -/
import Derived.Test.YtombjhkdakmhpaaLib1
namespace Go.Eng
open Go Go.RowKit
set_option linter.unusedVariables false
set_option linter.unusedSimpArgs false

theorem Own.lt {w : World} {B : Nat} {e : TypeId} {sz : Nat} {a : Option Addr} {n c : Nat} {vs : List Value} (h : Own w B e sz a n c vs) : ∀ p, a = some p → p.block < w.heap.size := by
  intro p hp
  rcases h.at_ with ⟨h1, _⟩ | ⟨b, cs, h1, _, h3, _⟩
  · rw [h1] at hp; cases hp
  · rw [h1] at hp; cases hp; exact (Array.getElem?_eq_some_iff.1 h3).1
theorem Own.ge {w : World} {B : Nat} {e : TypeId} {sz : Nat} {a : Option Addr} {n c : Nat} {vs : List Value} (h : Own w B e sz a n c vs) : ∀ p, a = some p → B ≤ p.block := by
  intro p hp
  rcases h.at_ with ⟨h1, _⟩ | ⟨b, cs, h1, h2, h3, _⟩
  · rw [h1] at hp; cases hp
  · rw [h1] at hp; cases hp; exact h2
theorem Mov.ne {w : World} {a a' : Option Addr} (h : Mov w a a') : ∀ p q : Addr, a' = some p → q.block < w.heap.size → (∀ p', a = some p' → p'.block ≠ q.block) → p.block ≠ q.block := by
  intro p q hp hq hs
  rcases h with h | ⟨b, h1, h2⟩
  · exact hs p (by rw [← h]; exact hp)
  · rw [h2] at hp; cases hp; show b ≠ q.block; omega

end Go.Eng
