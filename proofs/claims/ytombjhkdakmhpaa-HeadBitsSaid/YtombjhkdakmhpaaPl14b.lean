/- Plain laws for HeadBits (layer 14): a head and its complement can't both be changed one way. -/
import Derived.Test.YtombjhkdakmhpaaL14c
import Derived.Test.YtombjhkdakmhpaaC12c
namespace Go.Proofs.Ytombjhkdakmhpaa.Vc
open Go Go.Eng Go.RowKit
set_option linter.unusedVariables false
set_option linter.unusedSimpArgs false

/-- The first 48 bytes of an end. -/
def firsts (h : Hd) : List Int := hdL h ++ invL (hdL h)
theorem firsts_length (h : Hd) : (firsts h).length = 48 := by
  unfold firsts
  rw [List.length_append, invL_length, hdL_length]
theorem firsts_byt {h : Hd} (hR : HRight h) : Byt (firsts h) := (hdL_byt hR).append (invL_byt _)
theorem hasL_part {xs : List Int} {i j k : Nat} (hk : k < 8 * (j - i)) (hj : j ≤ xs.length) (hij : i ≤ j) : hasL (part xs i j) k = hasL xs (8 * i + k) := by
  unfold hasL part
  rw [show (8 * i + k) / 8 = i + k / 8 by omega, show (8 * i + k) % 8 = k % 8 by omega]
  congr 1
  rw [getD_get (by simp; omega), List.getElem_take, List.getElem_drop, getD_get (by omega)]
theorem hasL_app {xs ys : List Int} {k : Nat} (hk : k < 8 * xs.length) : hasL (xs ++ ys) k = hasL xs k := by
  unfold hasL
  rw [List.getD_eq_getElem?_getD, List.getElem?_append_left (by omega), ← List.getD_eq_getElem?_getD]
/-- Of a list of 48 bytes whose second half is the first's complement: each bit there is the other one of the bit here. -/
theorem compl_bits {xs : List Int} (hb : Byt xs) (hl : 48 ≤ xs.length) (hc : invL (part xs 0 24) = part xs 24 48) {k : Nat} (hk : k < 192) : hasL xs (192 + k) = !hasL xs k := by
  have h1 : hasL (part xs 24 48) k = hasL xs (8 * 24 + k) := hasL_part (by omega) hl (by omega)
  have h2 : hasL (part xs 0 24) k = hasL xs (8 * 0 + k) := hasL_part (by omega) (by omega) (by omega)
  rw [show 192 + k = 8 * 24 + k by omega, ← h1, ← hc, hasL_inv (part_byt hb 0 24) (by rw [part_length (by omega) (by omega)]; omega), h2]
  simp
theorem firsts_compl (h : Hd) : invL (part (firsts h) 0 24) = part (firsts h) 24 48 := by
  have p1 : part (firsts h) 0 24 = hdL h := by
    unfold part firsts
    rw [List.drop_zero, List.take_left' (by rw [hdL_length])]
  have p2 : part (firsts h) 24 48 = invL (hdL h) := by
    unfold part firsts
    rw [List.drop_left' (by rw [hdL_length]), List.take_of_length_le (by rw [invL_length, hdL_length]; omega)]
  rw [p1, p2]
/-- Bits changed one way alone (set: true; cleared: false) leave no head and complement, but where nothing changed. -/
theorem one_way {xs : List Int} (bx : Byt xs) (hl : xs.length = 48) (hc : invL (part xs 0 24) = part xs 24 48) (f : Nat → Bool) (v : Bool) (hf : ∀ i, i < 384 → f i = true → hasL xs i = v)
    (hd : invL (part (turn xs f 384) 0 24) = part (turn xs f 384) 24 48) : turn xs f 384 = xs := by
  have bt := turn_byt bx f 384
  have lt := turn_length xs f 384
  have key : ∀ i, i < 384 → f i = false := by
    intro i hi
    cases hfi : f i
    · rfl
    exfalso
    have bit : ∀ j, j < 384 → hasL (turn xs f 384) j = if j < 384 ∧ f j = true then !hasL xs j else hasL xs j := fun j hj => hasL_turn bx f (by omega) 384 (by omega)
    have two : ∀ k, k < 192 → f k = false ∧ f (192 + k) = false := by
      intro k hk
      have c1 := compl_bits bx (by omega) hc hk
      have c2 := compl_bits bt (by omega) hd hk
      rw [bit k (by omega), bit (192 + k) (by omega)] at c2
      have f1 := hf k (by omega)
      have f2 := hf (192 + k) (by omega)
      cases ha : f k <;> cases hb : f (192 + k)
      · exact ⟨rfl, rfl⟩
      · exfalso
        rw [if_pos ⟨by omega, hb⟩, if_neg (fun h => by rw [ha] at h; exact absurd h.2 (by simp)), c1] at c2
        simp at c2
      · exfalso
        rw [if_neg (fun h => by rw [hb] at h; exact absurd h.2 (by simp)), if_pos ⟨by omega, ha⟩, c1] at c2
        simp at c2
      · exfalso
        have g1 := f1 ha
        have g2 := f2 hb
        rw [c1, g1] at g2
        cases v <;> simp at g2
    by_cases h192 : i < 192
    · have := (two i h192).1
      rw [hfi] at this
      cases this
    · have := (two (i - 192) (by omega)).2
      rw [show 192 + (i - 192) = i by omega, hfi] at this
      cases this
  have : turn xs f 384 = turn xs (fun _ => false) 384 := turn_congr (fun i hi => key i hi)
  rw [this]
  have none : ∀ k, turn xs (fun _ => false) k = xs := fun k => by
    induction k with
    | zero => rfl
    | succ k ih => unfold turn; simp [ih]
  exact none 384
/-- An end whose first bytes are others: does it tell a head? -/
theorem okR_firsts {xs : List Int} (rest : List Int) (hl : xs.length = 48) (h : okR (xs ++ rest)) : invL (part xs 0 24) = part xs 24 48 := by
  have := h.2.2
  have p1 : part (xs ++ rest) 0 24 = part xs 0 24 := by
    unfold part
    rw [List.drop_zero, List.drop_zero, List.take_append_of_le_length (by omega)]
  have p2 : part (xs ++ rest) 24 48 = part xs 24 48 := by
    unfold part
    rw [List.drop_append_of_le_length (by omega), List.take_append_of_le_length (by rw [List.length_drop]; omega)]
  rw [p1, p2] at this
  exact this

end Go.Proofs.Ytombjhkdakmhpaa.Vc
