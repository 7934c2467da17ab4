/- Plain laws of bits of bytes, for layer 12 (fault). -/
import Derived.Test.YtombjhkdakmhpaaPl01
namespace Go.Proofs.Ytombjhkdakmhpaa.Vc
open Go Go.Eng Go.RowKit
set_option linter.unusedVariables false
set_option linter.unusedSimpArgs false

def bitB (x : Int) (j : Nat) : Bool := x / 2 ^ j % 2 == 1
def bv (x : Int) : BitVec 8 := BitVec.ofInt 8 x
theorem bit_bv0 : ∀ x : Fin 256, ∀ j : Fin 8, bitB ((x.val : Nat) : Int) j.val = (bv ((x.val : Nat) : Int)).getLsbD j.val := by decide +kernel
theorem bit_bv {x : Int} (hx : 0 ≤ x ∧ x < 256) {j : Nat} (hj : j < 8) : bitB x j = (bv x).getLsbD j := by
  obtain ⟨y, rfl⟩ := byte_nat hx
  exact bit_bv0 y ⟨j, hj⟩
theorem bv_wrap (v : BitVec 8) : bv (IntKind.u8.wrap (v.toNat : Int)) = v := by
  have := v.isLt
  rw [u8_wrap, show ((v.toNat : Nat) : Int) % 256 = ((v.toNat : Nat) : Int) by omega]
  unfold bv
  rw [BitVec.ofInt_natCast]
  simp
theorem byte_ext {x y : Int} (hx : 0 ≤ x ∧ x < 256) (hy : 0 ≤ y ∧ y < 256) (h : ∀ j, j < 8 → bitB x j = bitB y j) : x = y := by
  have : bv x = bv y := BitVec.eq_of_getLsbD_eq fun j hj => by rw [← bit_bv hx hj, ← bit_bv hy hj]; exact h j hj
  obtain ⟨a, rfl⟩ := byte_nat hx
  obtain ⟨b, rfl⟩ := byte_nat hy
  unfold bv at this
  rw [BitVec.ofInt_natCast, BitVec.ofInt_natCast] at this
  have e := congrArg BitVec.toNat this
  rw [BitVec.toNat_ofNat, BitVec.toNat_ofNat, Nat.mod_eq_of_lt a.isLt, Nat.mod_eq_of_lt b.isLt] at e
  rw [e]
theorem bit_and (a b : Int) {j : Nat} (hj : j < 8) (ha : 0 ≤ a ∧ a < 256) (hb : 0 ≤ b ∧ b < 256) : bitB (Go.bits .and .u8 a b) j = (bitB a j && bitB b j) := by
  rw [bit_bv (bits8_byt .and a b) hj, bit_bv ha hj, bit_bv hb hj]
  rw [show bv (Go.bits .and .u8 a b) = bv a &&& bv b from bv_wrap _, BitVec.getLsbD_and]
theorem bit_andNot (a b : Int) {j : Nat} (hj : j < 8) (ha : 0 ≤ a ∧ a < 256) (hb : 0 ≤ b ∧ b < 256) : bitB (Go.bits .andNot .u8 a b) j = (bitB a j && !bitB b j) := by
  rw [bit_bv (bits8_byt .andNot a b) hj, bit_bv ha hj, bit_bv hb hj]
  rw [show bv (Go.bits .andNot .u8 a b) = bv a &&& ~~~(bv b) from bv_wrap _, BitVec.getLsbD_and, BitVec.getLsbD_not]
  simp [hj]
theorem bit_xor {a b : Int} {j : Nat} (hj : j < 8) (ha : 0 ≤ a ∧ a < 256) (hb : 0 ≤ b ∧ b < 256) : bitB (xor8 a b) j = (bitB a j ^^ bitB b j) := by
  unfold xor8
  rw [bit_bv (bits8_byt .xor a b) hj, bit_bv ha hj, bit_bv hb hj]
  rw [show bv (Go.bits .xor .u8 a b) = bv a ^^^ bv b from bv_wrap _, BitVec.getLsbD_xor]
theorem bit_pow0 : ∀ i j : Fin 8, bitB ((2 : Int) ^ i.val) j.val = decide (i.val = j.val) := by decide +kernel
theorem pow_byt0 : ∀ i : Fin 8, 0 ≤ (2 : Int) ^ i.val ∧ (2 : Int) ^ i.val < 256 := by decide +kernel
theorem bit_255 : ∀ j : Fin 8, bitB 255 j.val = true := by decide +kernel
theorem bit_inv {x : Int} (hx : 0 ≤ x ∧ x < 256) {j : Nat} (hj : j < 8) : bitB (xor8 255 x) j = !bitB x j := by
  rw [bit_xor hj (by omega) hx, bit_255 ⟨j, hj⟩, Bool.true_xor]
theorem f1_0 : ∀ x : Fin 256, ∀ j : Fin 8, (Go.bits .and .u8 (Int.fdiv ((x.val : Nat) : Int) (2 ^ (Nat.min j.val 8))) 1 == 1) = bitB ((x.val : Nat) : Int) j.val := by decide +kernel
theorem f1 {x : Int} (hx : 0 ≤ x ∧ x < 256) {j : Nat} (hj : j < 8) : (Go.bits .and .u8 (Int.fdiv x (2 ^ (Nat.min j 8))) 1 == 1) = bitB x j := by
  obtain ⟨y, rfl⟩ := byte_nat hx
  exact f1_0 y ⟨j, hj⟩
theorem f2_0 : ∀ j : Fin 8, IntKind.u8.wrap ((1 : Int) * (2 ^ (Nat.min j.val 8))) = 2 ^ j.val := by decide +kernel
theorem f3_0 : ∀ x : Fin 256, ∀ j : Fin 8, bitB ((x.val : Nat) : Int) j.val = true → IntKind.u8.wrap (((x.val : Nat) : Int) - IntKind.u8.wrap (2 ^ j.val)) = xor8 ((x.val : Nat) : Int) (2 ^ j.val) := by decide +kernel
theorem f4_0 : ∀ x : Fin 256, ∀ j : Fin 8, bitB ((x.val : Nat) : Int) j.val = false → IntKind.u8.wrap (((x.val : Nat) : Int) + IntKind.u8.wrap (2 ^ j.val)) = xor8 ((x.val : Nat) : Int) (2 ^ j.val) := by decide +kernel
theorem f3 {x : Int} (hx : 0 ≤ x ∧ x < 256) {j : Nat} (hj : j < 8) (h : bitB x j = true) : IntKind.u8.wrap (x - IntKind.u8.wrap (2 ^ j)) = xor8 x (2 ^ j) := by
  obtain ⟨y, rfl⟩ := byte_nat hx
  exact f3_0 y ⟨j, hj⟩ h
theorem f4 {x : Int} (hx : 0 ≤ x ∧ x < 256) {j : Nat} (hj : j < 8) (h : bitB x j = false) : IntKind.u8.wrap (x + IntKind.u8.wrap (2 ^ j)) = xor8 x (2 ^ j) := by
  obtain ⟨y, rfl⟩ := byte_nat hx
  exact f4_0 y ⟨j, hj⟩ h
theorem f6 {x : Int} (hx : 0 ≤ x ∧ x < 256) (j : Nat) : (Int.tmod (Int.tdiv (IntKind.i64.wrap x) (2 ^ j)) 2 == 1) = bitB x j := by
  rw [i64_id (by omega) (by omega), Int.tdiv_eq_ediv_of_nonneg hx.1, Int.tmod_eq_emod_of_nonneg (Int.ediv_nonneg hx.1 (Int.le_of_lt (Int.pow_pos (by omega))))]
  rfl

/-! ### Bits of a list of bytes -/
def hasL (xs : List Int) (i : Nat) : Bool := bitB (xs.getD (i / 8) 0) (i % 8)
def mBit (ms : List Int) (i : Nat) : Bool := if ms.length = 0 then true else bitB (ms.getD (i / 8 % ms.length) 0) (i % 8)
def flip1 (xs : List Int) (i : Nat) : List Int := xs.set (i / 8) (xor8 (xs.getD (i / 8) 0) (2 ^ (i % 8)))
def turn (xs : List Int) (f : Nat → Bool) : Nat → List Int
  | 0 => xs
  | k + 1 => if f k then flip1 (turn xs f k) k else turn xs f k
theorem flip1_length (xs : List Int) (i : Nat) : (flip1 xs i).length = xs.length := by simp [flip1]
theorem turn_length (xs : List Int) (f : Nat → Bool) : ∀ k, (turn xs f k).length = xs.length
  | 0 => rfl
  | k + 1 => by
    unfold turn
    split
    · rw [flip1_length, turn_length xs f k]
    · exact turn_length xs f k
theorem flip1_byt {xs : List Int} (h : Byt xs) (i : Nat) : Byt (flip1 xs i) := by
  intro y hy
  rcases List.mem_or_eq_of_mem_set hy with h1 | h1
  · exact h y h1
  · rw [h1]; exact bits8_byt .xor _ _
theorem turn_byt {xs : List Int} (h : Byt xs) (f : Nat → Bool) : ∀ k, Byt (turn xs f k)
  | 0 => h
  | k + 1 => by
    unfold turn
    split
    · exact flip1_byt (turn_byt h f k) k
    · exact turn_byt h f k
theorem turn_congr {xs : List Int} {f f' : Nat → Bool} : ∀ {k : Nat}, (∀ i, i < k → f i = f' i) → turn xs f k = turn xs f' k
  | 0, _ => rfl
  | k + 1, h => by
    unfold turn
    rw [turn_congr (fun i hi => h i (by omega)), h k (by omega)]
theorem hasL_flip {xs : List Int} (h : Byt xs) {i k : Nat} (hi : i < 8 * xs.length) (hk : k < 8 * xs.length) : hasL (flip1 xs k) i = if i = k then !hasL xs i else hasL xs i := by
  unfold hasL flip1
  have hj : i % 8 < 8 := Nat.mod_lt _ (by omega)
  have hj' : k % 8 < 8 := Nat.mod_lt _ (by omega)
  by_cases e : i / 8 = k / 8
  · have hset : (xs.set (k / 8) (xor8 (xs.getD (k / 8) 0) (2 ^ (k % 8)))).getD (i / 8) 0 = xor8 (xs.getD (k / 8) 0) (2 ^ (k % 8)) := by
      rw [getD_get (by simp; omega)]
      simp [e]
    rw [hset, bit_xor hj (h.getD _) (pow_byt0 ⟨_, hj'⟩), bit_pow0 ⟨_, hj'⟩ ⟨_, hj⟩, e]
    by_cases e2 : i = k
    · subst e2; rw [if_pos rfl, decide_eq_true rfl, Bool.xor_true]
    · rw [if_neg e2, decide_eq_false (by dsimp only; omega), Bool.xor_false]
  · have hset : (xs.set (k / 8) (xor8 (xs.getD (k / 8) 0) (2 ^ (k % 8)))).getD (i / 8) 0 = xs.getD (i / 8) 0 := by
      rw [List.getD_eq_getElem?_getD, List.getElem?_set_ne (fun h => e h.symm), ← List.getD_eq_getElem?_getD]
    rw [hset, if_neg (fun e2 => e (by rw [e2]))]
theorem hasL_turn {xs : List Int} (h : Byt xs) (f : Nat → Bool) {i : Nat} (hi : i < 8 * xs.length) : ∀ k, k ≤ 8 * xs.length → hasL (turn xs f k) i = if i < k ∧ f i = true then !hasL xs i else hasL xs i
  | 0, _ => by rw [if_neg (by omega)]; rfl
  | k + 1, hk => by
    have ih := hasL_turn h f hi k (by omega)
    unfold turn
    by_cases hf : f k = true
    · rw [if_pos hf, hasL_flip (turn_byt h f k) (by rw [turn_length]; exact hi) (by rw [turn_length]; omega), ih]
      by_cases e : i = k
      · subst e
        rw [if_pos rfl, if_neg (by omega), if_pos ⟨by omega, hf⟩]
      · rw [if_neg e]
        by_cases e2 : i < k ∧ f i = true
        · rw [if_pos e2, if_pos ⟨by omega, e2.2⟩]
        · rw [if_neg e2, if_neg (fun h => e2 ⟨by omega, h.2⟩)]
    · rw [if_neg hf, ih]
      by_cases e2 : i < k ∧ f i = true
      · rw [if_pos e2, if_pos ⟨by omega, e2.2⟩]
      · rw [if_neg e2, if_neg (fun h => e2 ⟨by by_cases e : i = k; exact absurd (e ▸ h.2) hf; omega, h.2⟩)]
theorem bits_ext {xs ys : List Int} (hx : Byt xs) (hy : Byt ys) (hl : xs.length = ys.length) (h : ∀ i, i < 8 * xs.length → hasL xs i = hasL ys i) : xs = ys := by
  refine List.ext_getElem hl fun m h1 h2 => ?_
  rw [← getD_get h1, ← getD_get h2]
  refine byte_ext (hx.getD m) (hy.getD m) fun j hj => ?_
  have := h (8 * m + j) (by omega)
  unfold hasL at this
  rwa [show (8 * m + j) / 8 = m by omega, show (8 * m + j) % 8 = j by omega] at this
def andL (xs ys : List Int) : List Int := (List.range xs.length).map fun i => Go.bits .and .u8 (xs.getD i 0) (ys.getD i 0)
theorem andL_length (xs ys : List Int) : (andL xs ys).length = xs.length := by simp [andL]
theorem andL_byt (xs ys : List Int) : Byt (andL xs ys) := by
  intro y hy
  obtain ⟨i, _, rfl⟩ := List.mem_map.1 hy
  exact bits8_byt .and _ _
theorem hasL_and {xs ys : List Int} (hx : Byt xs) (hy : Byt ys) {i : Nat} (hi : i < 8 * xs.length) : hasL (andL xs ys) i = (hasL xs i && hasL ys i) := by
  unfold hasL
  have hj : i % 8 < 8 := Nat.mod_lt _ (by omega)
  have hb : (andL xs ys).getD (i / 8) 0 = Go.bits .and .u8 (xs.getD (i / 8) 0) (ys.getD (i / 8) 0) := by
    rw [getD_get (by rw [andL_length]; omega)]
    simp [andL]
  rw [hb, bit_and _ _ hj (hx.getD _) (hy.getD _)]
def clrL (xs ys : List Int) : List Int := (List.range xs.length).map fun i => Go.bits .andNot .u8 (xs.getD i 0) (ys.getD i 0)
theorem clrL_length (xs ys : List Int) : (clrL xs ys).length = xs.length := by simp [clrL]
theorem clrL_byt (xs ys : List Int) : Byt (clrL xs ys) := by
  intro y hy
  obtain ⟨i, _, rfl⟩ := List.mem_map.1 hy
  exact bits8_byt .andNot _ _
theorem hasL_clr {xs ys : List Int} (hx : Byt xs) (hy : Byt ys) {i : Nat} (hi : i < 8 * xs.length) : hasL (clrL xs ys) i = (hasL xs i && !hasL ys i) := by
  unfold hasL
  have hj : i % 8 < 8 := Nat.mod_lt _ (by omega)
  have hb : (clrL xs ys).getD (i / 8) 0 = Go.bits .andNot .u8 (xs.getD (i / 8) 0) (ys.getD (i / 8) 0) := by
    rw [getD_get (by rw [clrL_length]; omega)]
    simp [clrL]
  rw [hb, bit_andNot _ _ hj (hx.getD _) (hy.getD _)]
theorem hasL_inv {xs : List Int} (hx : Byt xs) {i : Nat} (hi : i < 8 * xs.length) : hasL (invL xs) i = !hasL xs i := by
  unfold hasL
  have hj : i % 8 < 8 := Nat.mod_lt _ (by omega)
  have hb : (invL xs).getD (i / 8) 0 = xor8 255 (xs.getD (i / 8) 0) := by
    rw [getD_get (by simp [invL]; omega), getD_get (by omega)]
    simp [invL]
  rw [hb, bit_inv (hx.getD _) hj]
/-- The last number that is so, below another one; -1: there is none. -/
def lastOf (c : Nat → Bool) : Nat → Int
  | 0 => -1
  | k + 1 => if c k then (k : Int) else lastOf c k
theorem lastOf_congr {c d : Nat → Bool} : ∀ {k : Nat}, (∀ i, i < k → c i = d i) → lastOf c k = lastOf d k
  | 0, _ => rfl
  | k + 1, h => by unfold lastOf; rw [h k (by omega), lastOf_congr fun i hi => h i (by omega)]
theorem lastOf_some {c : Nat → Bool} : ∀ {k i : Nat}, i < k → c i = true → ∃ m, m < k ∧ lastOf c k = (m : Int) ∧ c m = true
  | 0, i, h, _ => absurd h (by omega)
  | k + 1, i, h, hc => by
    unfold lastOf
    by_cases hk : c k = true
    · exact ⟨k, by omega, by rw [if_pos hk], hk⟩
    · obtain ⟨m, h1, h2, h3⟩ := lastOf_some (k := k) (i := i) (by by_cases e : i = k; exact absurd (e ▸ hc) hk; omega) hc
      exact ⟨m, by omega, by rw [if_neg hk]; exact h2, h3⟩

end Go.Proofs.Ytombjhkdakmhpaa.Vc
