/- Plain laws for layer 14 (head): numbers of bytes, back as bytes. -/
import Derived.Test.YtombjhkdakmhpaaC14b
namespace Go.Proofs.Ytombjhkdakmhpaa.Vc
open Go Go.Eng Go.RowKit
set_option linter.unusedVariables false
set_option linter.unusedSimpArgs false

theorem leL_cons (n : Int) (h : 0 ≤ n) (k : Nat) : leL n (k + 1) = n % 256 :: leL (n / 256) k := by
  refine List.ext_getElem (by simp [leL_length]) fun i h1 h2 => ?_
  rw [leL_get]
  cases i with
  | zero => simp
  | succ i =>
    rw [List.getElem_cons_succ, leL_get, Int.pow_succ, Int.mul_comm, ← Int.ediv_ediv_of_nonneg (by omega)]
theorem leL_leN : ∀ {xs : List Int}, Byt xs → leL (leN xs) xs.length = xs
  | [], _ => rfl
  | x :: xs, hb => by
    have hx := hb x (List.mem_cons_self ..)
    have hb' : Byt xs := fun y hy => hb y (List.mem_cons_of_mem _ hy)
    have bd := leN_bd hb'
    have bd2 := leN_bd hb
    have e : leN (x :: xs) = x + 256 * leN xs := rfl
    rw [List.length_cons, leL_cons _ bd2.1, e, show (x + 256 * leN xs) % 256 = x by omega, show (x + 256 * leN xs) / 256 = leN xs by omega, leL_leN hb']
theorem big_numB {xs : List Int} (hb : Byt xs) (h8 : xs.length ≤ 8) : big (numB xs) xs.length = xs := by
  unfold big numB
  rw [List.take_of_length_le (by rw [List.length_reverse]; exact h8)]
  have := leL_leN hb.reverse
  rw [List.length_reverse] at this
  rw [this, List.reverse_reverse]
theorem numB_bd {xs : List Int} (hb : Byt xs) {k : Nat} (h : xs.length = k) (h8 : k ≤ 8) : 0 ≤ numB xs ∧ numB xs < 256 ^ k := by
  unfold numB
  rw [List.take_of_length_le (by rw [List.length_reverse]; omega)]
  have := leN_bd hb.reverse
  rw [List.length_reverse, h] at this
  exact this

/-- What an end's first bytes say. -/
def part (xs : List Int) (i j : Nat) : List Int := (xs.drop i).take (j - i)
theorem part_length {xs : List Int} {i j : Nat} (h : j ≤ xs.length) (hi : i ≤ j) : (part xs i j).length = j - i := by unfold part; simp; omega
theorem part_byt {xs : List Int} (hb : Byt xs) (i j : Nat) : Byt (part xs i j) := (hb.drop i).take _
def hdOf (xs : List Int) : Hd := ⟨xs.getD 0 0, xs.getD 1 0, xs.getD 2 0, numB (part xs 4 8), numB (part xs 8 16), numB (part xs 16 24)⟩
def okR (xs : List Int) : Prop := (1 ≤ xs.getD 0 0 ∧ xs.getD 0 0 ≤ 4) ∧ xs.getD 3 0 = 0 ∧ invL (part xs 0 24) = part xs 24 48
instance (xs : List Int) : Decidable (okR xs) := by unfold okR; infer_instance
theorem part_split (xs : List Int) {i j k : Nat} (h1 : i ≤ j) (h2 : j ≤ k) : part xs i j ++ part xs j k = part xs i k := by
  unfold part
  rw [show k - i = (j - i) + (k - j) by omega, List.take_add, List.drop_drop, show i + (j - i) = j by omega]
theorem part4 {xs : List Int} (h : 4 ≤ xs.length) : part xs 0 4 = [xs.getD 0 0, xs.getD 1 0, xs.getD 2 0, xs.getD 3 0] := by
  unfold part
  match xs, h with
  | a :: b :: c :: d :: t, _ => rfl
theorem hdL_of {xs : List Int} (hb : Byt xs) (hl : 24 ≤ xs.length) : hdL (hdOf xs) = [xs.getD 0 0, xs.getD 1 0, xs.getD 2 0, 0] ++ part xs 4 8 ++ part xs 8 16 ++ part xs 16 24 := by
  unfold hdL hdOf
  have a := big_numB (part_byt hb 4 8) (by rw [part_length (by omega) (by omega)]; omega)
  have b := big_numB (part_byt hb 8 16) (by rw [part_length (by omega) (by omega)]; omega)
  have c := big_numB (part_byt hb 16 24) (by rw [part_length (by omega) (by omega)]; omega)
  rw [part_length (by omega) (by omega)] at a b c
  dsimp only
  rw [show (4 : Nat) = 8 - 4 from rfl, a, show (8 : Nat) = 16 - 8 from rfl, b]
  rw [show (16 - 8 : Nat) = 24 - 16 from rfl, c]
theorem hdL_eq {xs : List Int} (hb : Byt xs) (hl : 24 ≤ xs.length) : hdL (hdOf xs) = part xs 0 24 ↔ xs.getD 3 0 = 0 := by
  rw [hdL_of hb hl, ← part_split xs (show 0 ≤ 16 by omega) (show 16 ≤ 24 by omega), ← part_split xs (show 0 ≤ 8 by omega) (show 8 ≤ 16 by omega), ← part_split xs (show 0 ≤ 4 by omega) (show 4 ≤ 8 by omega), part4 (by omega)]
  constructor
  · intro h
    have := congrArg (fun l => l.getD 3 0) h
    simpa using this.symm
  · intro h
    rw [h]
theorem hdOf_rng {xs : List Int} (hb : Byt xs) (hl : 24 ≤ xs.length) : (hdOf xs).rng := by
  have a := numB_bd (part_byt hb 4 8) (part_length (by omega) (by omega)) (by omega)
  have b := numB_bd (part_byt hb 8 16) (part_length (by omega) (by omega)) (by omega)
  have c := numB_bd (part_byt hb 16 24) (part_length (by omega) (by omega)) (by omega)
  exact ⟨a, b, c⟩
theorem hdOf_right {xs : List Int} (hb : Byt xs) : HRight (hdOf xs) ↔ 1 ≤ xs.getD 0 0 ∧ xs.getD 0 0 ≤ 4 := by
  have h1 := hb.getD 1
  have h2 := hb.getD 2
  unfold HRight hdOf
  dsimp only
  omega
/-- What the document asks of an end is what the program asks. -/
theorem okR_iff {xs : List Int} (hb : Byt xs) (hl : xs.length = 88) : okR xs ↔ HRight (hdOf xs) ∧ hdL (hdOf xs) ++ invL (hdL (hdOf xs)) = part xs 0 48 := by
  rw [hdOf_right hb, ← part_split xs (show 0 ≤ 24 by omega) (show 24 ≤ 48 by omega)]
  have e := hdL_eq hb (by omega)
  constructor
  · rintro ⟨h1, h2, h3⟩
    have := e.2 h2
    exact ⟨h1, by rw [this, h3]⟩
  · rintro ⟨h1, h2⟩
    have hlen : (hdL (hdOf xs)).length = (part xs 0 24).length := by rw [hdL_length, part_length (by omega) (by omega)]
    obtain ⟨a, b⟩ := List.append_inj h2 hlen
    exact ⟨h1, e.1 a, by rw [← a]; exact b⟩
/-- An end reads as it was made. -/
theorem part_hdL (h : Hd) (hg : h.rng) (rest : List Int) : hdOf (hdL h ++ rest) = h := by
  unfold Hd.rng at hg
  have p1 : part (hdL h ++ rest) 4 8 = big h.l 4 := by
    unfold part hdL
    rw [List.append_assoc, List.append_assoc, List.append_assoc, List.drop_left' (by rfl), List.take_left' (by rw [big_length])]
  have p2 : part (hdL h ++ rest) 8 16 = big h.e 8 := by
    unfold part hdL
    rw [List.append_assoc, List.append_assoc, List.drop_left' (by rw [List.length_append, big_length]; rfl), List.take_left' (by rw [big_length])]
  have p3 : part (hdL h ++ rest) 16 24 = big h.t 8 := by
    unfold part hdL
    rw [List.append_assoc, List.drop_left' (by rw [List.length_append, List.length_append, big_length, big_length]; rfl), List.take_left' (by rw [big_length])]
  have nb : ∀ (n : Int) (k : Nat), 0 ≤ n → n < 256 ^ k → k ≤ 8 → numB (big n k) = n := fun n k h0 h1 h8 => by
    unfold numB big
    rw [List.reverse_reverse, List.take_of_length_le (by rw [leL_length]; exact h8), leN_leL n h0]
    exact Int.emod_eq_of_lt h0 h1
  unfold hdOf
  rw [p1, p2, p3, nb _ _ hg.1.1 hg.1.2 (by omega), nb _ _ hg.2.1.1 hg.2.1.2 (by omega), nb _ _ hg.2.2.1 hg.2.2.2 (by omega)]
  rfl

end Go.Proofs.Ytombjhkdakmhpaa.Vc
