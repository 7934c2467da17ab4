/- Plain laws of numbers and lists for layer 1. -/
import Derived.Test.YtombjhkdakmhpaaLib1
namespace Go.Eng
open Go
set_option linter.unusedVariables false
set_option linter.unusedSimpArgs false

def Byt (xs : List Int) : Prop := ∀ x ∈ xs, 0 ≤ x ∧ x < 256

theorem u8_wrap (z : Int) : IntKind.u8.wrap z = z % 256 := by simp [IntKind.wrap, IntKind.signed, IntKind.bits]
theorem u32_wrap (z : Int) : IntKind.u32.wrap z = z % 4294967296 := by simp [IntKind.wrap, IntKind.signed, IntKind.bits]
theorem u64_wrap (z : Int) : IntKind.u64.wrap z = z % 18446744073709551616 := by simp [IntKind.wrap, IntKind.signed, IntKind.bits]
theorem u64_id {z : Int} (h0 : 0 ≤ z) (h1 : z < 18446744073709551616) : IntKind.u64.wrap z = z := by rw [u64_wrap]; omega
theorem i64_id {z : Int} (h0 : -9223372036854775808 ≤ z) (h1 : z ≤ 9223372036854775807) : IntKind.i64.wrap z = z := wrap_rng (Rng.i64 h0 h1)

theorem Byt.getD {xs : List Int} (h : Byt xs) (i : Nat) : 0 ≤ xs.getD i 0 ∧ xs.getD i 0 < 256 := by
  rw [List.getD_eq_getElem?_getD]
  cases hi : xs[i]? with
  | none => simp
  | some v => exact h v (List.mem_of_getElem? hi)
theorem Byt.take {xs : List Int} (h : Byt xs) (k : Nat) : Byt (xs.take k) := fun x hx => h x (List.mem_of_mem_take hx)
theorem Byt.drop {xs : List Int} (h : Byt xs) (k : Nat) : Byt (xs.drop k) := fun x hx => h x (List.mem_of_mem_drop hx)
theorem Byt.append {xs ys : List Int} (h : Byt xs) (h' : Byt ys) : Byt (xs ++ ys) := fun x hx => (List.mem_append.1 hx).elim (h x) (h' x)
theorem Byt.reverse {xs : List Int} (h : Byt xs) : Byt xs.reverse := fun x hx => h x (List.mem_reverse.1 hx)
theorem Byt.replicate {x : Int} (h0 : 0 ≤ x) (h1 : x < 256) (n : Nat) : Byt (List.replicate n x) := fun y hy => by rw [(List.mem_replicate.1 hy).2]; exact ⟨h0, h1⟩
theorem Byt.nil : Byt [] := fun x hx => (List.not_mem_nil hx).elim
theorem Byt.cons {x : Int} {xs : List Int} (h0 : 0 ≤ x ∧ x < 256) (h : Byt xs) : Byt (x :: xs) := fun y hy => by rcases List.mem_cons.1 hy with rfl | hy; exact h0; exact h y hy

/-! ### A list filled from the front, or from the back -/
theorem set_step (S : List Value) (z : Value) {k i : Nat} (hk : S.length = k) (hi : i < k) : ((S.take i ++ List.replicate (k - i) z).set i (S[i]'(by omega))) = S.take (i + 1) ++ List.replicate (k - (i + 1)) z := by
  rw [List.set_append_right _ _ (by simp; omega), List.length_take, Nat.min_eq_left (by omega), Nat.sub_self]
  rw [show k - i = (k - (i + 1)) + 1 by omega, List.replicate_succ, List.set_cons_zero, List.take_succ_eq_append_getElem (by omega), List.append_assoc]
  rfl
theorem set_back (S : List Value) (z : Value) {k i : Nat} (hk : S.length = k) (hi : i < k) : ((List.replicate (k - i) z ++ S.drop (k - i)).set (k - 1 - i) (S[k - 1 - i]'(by omega))) = List.replicate (k - (i + 1)) z ++ S.drop (k - (i + 1)) := by
  rw [List.set_append_left _ _ (by simp; omega)]
  rw [show k - i = (k - (i + 1)) + 1 by omega, List.replicate_succ']
  rw [List.set_append_right _ _ (by simp; omega)]
  simp only [List.length_replicate]
  rw [show k - 1 - i - (k - (i + 1)) = 0 by omega, List.set_cons_zero, List.append_assoc]
  congr 1
  rw [List.drop_eq_getElem_cons (i := k - (i + 1)) (by omega)]
  simp only [List.singleton_append]
  congr 1
  simp only [show k - 1 - i = k - (i + 1) by omega]

/-! ### Bytes of numbers -/
def cl8 (k : Int) : Nat := (max 0 (min 8 k)).toNat
def leL (n : Int) (k : Nat) : List Int := (List.range k).map fun i => n / 256 ^ i % 256
theorem leL_length (n : Int) (k : Nat) : (leL n k).length = k := by simp [leL]
theorem leL_get (n : Int) (k i : Nat) (h : i < (leL n k).length) : (leL n k)[i] = n / 256 ^ i % 256 := by simp [leL]
theorem leL_byt (n : Int) (k : Nat) : Byt (leL n k) := by
  intro x hx
  simp only [leL, List.mem_map] at hx
  obtain ⟨i, _, rfl⟩ := hx
  exact ⟨Int.emod_nonneg _ (by omega), Int.emod_lt_of_pos _ (by omega)⟩
theorem leL_succ (n : Int) (k : Nat) : leL n (k + 1) = leL n k ++ [n / 256 ^ k % 256] := by simp [leL, List.range_succ]

theorem fdiv_pos {a b : Int} (hb : 0 ≤ b) : Int.fdiv a b = a / b := Int.fdiv_eq_ediv_of_nonneg a hb
theorem pow8 (i : Nat) (hi : i < 8) : (2 : Int) ^ (Nat.min ((8 : Int) * (i : Int)).toNat 64) = 256 ^ i := by
  have : Nat.min ((8 : Int) * (i : Int)).toNat 64 = 8 * i := by
    have h1 : ((8 : Int) * (i : Int)).toNat = 8 * i := by omega
    rw [h1]; exact Nat.min_eq_left (by omega)
  rw [this, Int.pow_mul]
  rfl
theorem div_step (n : Int) (h : 0 ≤ n) (i : Nat) : Int.tdiv (n / 256 ^ i) 256 = n / 256 ^ (i + 1) := by
  have hp : (0 : Int) < 256 ^ i := Int.pow_pos (by omega)
  rw [Int.tdiv_eq_ediv_of_nonneg (Int.ediv_nonneg h (by omega)), Int.ediv_ediv_of_nonneg (Int.le_of_lt hp), Int.pow_succ]

def leN : List Int → Int
  | [] => 0
  | x :: xs => x + 256 * leN xs
theorem leN_bd : ∀ {xs : List Int}, Byt xs → 0 ≤ leN xs ∧ leN xs < 256 ^ xs.length
  | [], _ => by simp [leN]
  | x :: xs, h => by
    have h1 := leN_bd (xs := xs) fun y hy => h y (List.mem_cons_of_mem _ hy)
    have h2 := h x (List.mem_cons_self)
    simp only [leN, List.length_cons, Int.pow_succ]
    omega
theorem leN_append : ∀ (xs ys : List Int), leN (xs ++ ys) = leN xs + 256 ^ xs.length * leN ys
  | [], ys => by simp [leN]
  | x :: xs, ys => by
    simp only [List.cons_append, leN, leN_append xs ys, List.length_cons, Int.pow_succ]
    rw [Int.mul_add]
    have : 256 * (256 ^ xs.length * leN ys) = 256 ^ xs.length * 256 * leN ys := by
      rw [← Int.mul_assoc, Int.mul_comm 256 (256 ^ xs.length)]
    omega
theorem leN_leL (n : Int) (h : 0 ≤ n) : ∀ k : Nat, leN (leL n k) = n % 256 ^ k
  | 0 => by simp [leL, leN, Int.emod_one]
  | k + 1 => by
    rw [leL_succ, leN_append, leN_leL n h k, leL_length]
    simp only [leN, Int.mul_zero, Int.add_zero]
    rw [Int.pow_succ]
    have hp : (0 : Int) < 256 ^ k := Int.pow_pos (by omega)
    generalize (256 : Int) ^ k = p at hp
    have h1 := Int.emod_add_mul_ediv n p
    have h2 := Int.emod_add_mul_ediv (n / p) 256
    have h3 : n / (p * 256) = n / p / 256 := by rw [Int.ediv_ediv_of_nonneg (Int.le_of_lt hp)]
    have h4 := Int.emod_add_mul_ediv n (p * 256)
    rw [h3] at h4
    have h5 : p * (n / p % 256) = p * (n / p) - p * 256 * (n / p / 256) := by
      have : p * (n / p) = p * (n / p % 256 + 256 * (n / p / 256)) := by rw [h2]
      rw [this, Int.mul_add, Int.mul_assoc]
      omega
    omega

/-- Of the last eight, the greatest first; of the first eight, the least first. -/
def numL (xs : List Int) : Int := leN (xs.take 8)
def numB (xs : List Int) : Int := leN (xs.reverse.take 8)

theorem pow_mono {a b : Nat} (h : a ≤ b) : (256 : Int) ^ a ≤ 256 ^ b := by
  induction h with
  | refl => exact Int.le_refl _
  | step _ ih => rw [Int.pow_succ]; have := Int.pow_pos (n := 256) (m := a) (by omega); omega

theorem numL_bd {xs : List Int} (h : Byt xs) : 0 ≤ numL xs ∧ numL xs < 18446744073709551616 := by
  have h1 := leN_bd (h.take 8)
  have h2 : (xs.take 8).length ≤ 8 := by simp; omega
  have h3 : (256 : Int) ^ (xs.take 8).length ≤ 256 ^ 8 := pow_mono h2
  have h4 : (256 : Int) ^ 8 = 18446744073709551616 := by decide
  unfold numL
  omega

/-! ### Bits -/
theorem cast_pow2 (k : Nat) : ((2 ^ k : Nat) : Int) = (2 : Int) ^ k := by
  induction k with
  | zero => rfl
  | succ k ih => rw [Int.pow_succ, Nat.pow_succ, Int.natCast_mul, ih]; rfl
theorem bits_or (a b : Int) : Go.bits .or .u64 a b = IntKind.u64.wrap (((BitVec.ofInt 64 a) ||| (BitVec.ofInt 64 b)).toNat : Int) := rfl
theorem ofInt64 (x : Nat) (h : x < 18446744073709551616) : (BitVec.ofInt 64 (x : Int)).toNat = x := by
  rw [BitVec.toNat_ofInt]
  have : (2 ^ 64 : Nat) = 18446744073709551616 := by decide
  rw [this]
  omega
theorem or_disj {a b : Int} {k : Nat} (h0 : 0 ≤ a) (h1 : a < 2 ^ k) (h2 : 0 ≤ b) (h3 : a + b * 2 ^ k < 18446744073709551616) : Go.bits .or .u64 a (b * 2 ^ k) = a + b * 2 ^ k := by
  obtain ⟨x, rfl⟩ := Int.eq_ofNat_of_zero_le h0
  obtain ⟨y, rfl⟩ := Int.eq_ofNat_of_zero_le h2
  rw [← cast_pow2] at h1 h3 ⊢
  rw [← Int.natCast_mul] at h3 ⊢
  have h1' : x < 2 ^ k := by omega
  have h3' : x + y * 2 ^ k < 18446744073709551616 := by omega
  have hor : x ||| (y * 2 ^ k) = x + y * 2 ^ k := by
    rw [Nat.or_comm, ← Nat.shiftLeft_eq, ← Nat.shiftLeft_add_eq_or_of_lt h1', Nat.shiftLeft_eq, Nat.add_comm]
  rw [bits_or, BitVec.toNat_or, ofInt64 x (by omega), ofInt64 _ (by omega), hor, u64_wrap]
  omega

theorem byte_or {a b : Int} (h0 : 0 ≤ a) (h1 : a < 72057594037927936) (h2 : 0 ≤ b) (h3 : b < 256) : Go.bits .or .u64 (IntKind.u64.wrap (a * 256)) (IntKind.u64.wrap b) = a * 256 + b := by
  rw [u64_id (by omega) (by omega), u64_id (by omega) (by omega)]
  have hc : Go.bits .or .u64 (a * 256) b = Go.bits .or .u64 b (a * 256) := by
    rw [bits_or, bits_or, BitVec.or_comm]
  rw [hc]
  have := or_disj (a := b) (b := a) (k := 8) h2 (by simpa using h3) h0 (by omega)
  rw [show (2 : Int) ^ 8 = 256 from rfl] at this
  rw [this]
  omega

theorem bits8 (op : BinOp) (a b : Int) : Go.bits op .u8 a b = IntKind.u8.wrap ((match op with | .and => (BitVec.ofInt 8 a) &&& (BitVec.ofInt 8 b) | .or => (BitVec.ofInt 8 a) ||| (BitVec.ofInt 8 b) | .xor => (BitVec.ofInt 8 a) ^^^ (BitVec.ofInt 8 b) | _ => (BitVec.ofInt 8 a) &&& ~~~(BitVec.ofInt 8 b) : BitVec 8).toNat : Int) := rfl
theorem bits8_byt (op : BinOp) (a b : Int) : 0 ≤ Go.bits op .u8 a b ∧ Go.bits op .u8 a b < 256 := by
  rw [bits8, u8_wrap]
  exact ⟨Int.emod_nonneg _ (by omega), Int.emod_lt_of_pos _ (by omega)⟩
/-- A byte is a natural number below 256. -/
theorem byte_nat {a : Int} (h : 0 ≤ a ∧ a < 256) : ∃ x : Fin 256, a = (x.val : Int) := ⟨⟨a.toNat, by omega⟩, by simp; omega⟩
def xor8 (a b : Int) : Int := Go.bits .xor .u8 a b
theorem ofInt8 (x : Nat) (h : x < 256) : (BitVec.ofInt 8 (x : Int)) = BitVec.ofNat 8 x := by simp
theorem xor8_nat (x y : Nat) (hx : x < 256) (hy : y < 256) : xor8 (x : Int) (y : Int) = ((x ^^^ y : Nat) : Int) := by
  unfold xor8
  rw [bits8]
  simp only [ofInt8 x hx, ofInt8 y hy, BitVec.toNat_xor, BitVec.toNat_ofNat, Nat.mod_eq_of_lt hx, Nat.mod_eq_of_lt hy, Nat.reducePow, u8_wrap]
  have : x ^^^ y < 256 := Nat.xor_lt_two_pow (n := 8) hx hy
  omega
theorem xor8_twice {a b : Int} (ha : 0 ≤ a ∧ a < 256) (hb : 0 ≤ b ∧ b < 256) : xor8 (xor8 a b) b = a := by
  obtain ⟨⟨x, hx⟩, rfl⟩ := byte_nat ha
  obtain ⟨⟨y, hy⟩, rfl⟩ := byte_nat hb
  have : x ^^^ y < 256 := Nat.xor_lt_two_pow (n := 8) hx hy
  rw [xor8_nat x y hx hy, xor8_nat _ y this hy, Nat.xor_assoc, Nat.xor_self, Nat.xor_zero]
theorem xor8_comm (a b : Int) : xor8 a b = xor8 b a := by
  unfold xor8
  rw [bits8, bits8]
  simp only [BitVec.xor_comm]
theorem xor8_zero {a b : Int} (ha : 0 ≤ a ∧ a < 256) (hb : 0 ≤ b ∧ b < 256) : xor8 a b = 0 ↔ a = b := by
  obtain ⟨⟨x, hx⟩, rfl⟩ := byte_nat ha
  obtain ⟨⟨y, hy⟩, rfl⟩ := byte_nat hb
  rw [xor8_nat x y hx hy]
  constructor
  · intro h
    have h0 : x ^^^ y = 0 := by omega
    have h1 : x = (x ^^^ y) ^^^ y := by rw [Nat.xor_assoc, Nat.xor_self, Nat.xor_zero]
    rw [h0, Nat.zero_xor] at h1
    simp [h1]
  · intro h
    have : x = y := by simp only at h; omega
    subst this
    simp
theorem or8_zero {a b : Int} (ha : 0 ≤ a ∧ a < 256) (hb : 0 ≤ b ∧ b < 256) : Go.bits .or .u8 a b = 0 ↔ a = 0 ∧ b = 0 := by
  obtain ⟨⟨x, hx⟩, rfl⟩ := byte_nat ha
  obtain ⟨⟨y, hy⟩, rfl⟩ := byte_nat hb
  rw [bits8]
  simp only [ofInt8 x hx, ofInt8 y hy, BitVec.toNat_or, BitVec.toNat_ofNat, Nat.mod_eq_of_lt hx, Nat.mod_eq_of_lt hy, Nat.reducePow, u8_wrap]
  have hlt : x ||| y < 256 := Nat.or_lt_two_pow (n := 8) hx hy
  have h1 : x ≤ x ||| y := Nat.left_le_or
  have h2 : y ≤ x ||| y := Nat.right_le_or
  constructor
  · intro h; omega
  · rintro ⟨h3, h4⟩
    have e1 : x = 0 := by omega
    have e2 : y = 0 := by omega
    subst e1; subst e2
    rfl

/-- Two lists, element by element, as far as the first goes. -/
def xorL (xs ys : List Int) : List Int := (List.range xs.length).map fun i => xor8 (xs.getD i 0) (ys.getD i 0)
theorem xorL_length (xs ys : List Int) : (xorL xs ys).length = xs.length := by simp [xorL]
theorem xorL_get (xs ys : List Int) (i : Nat) (h : i < (xorL xs ys).length) : (xorL xs ys)[i] = xor8 (xs.getD i 0) (ys.getD i 0) := by simp [xorL]
theorem xorL_byt (xs ys : List Int) : Byt (xorL xs ys) := by
  intro x hx
  simp only [xorL, List.mem_map] at hx
  obtain ⟨i, _, rfl⟩ := hx
  exact bits8_byt _ _ _
theorem xorL_take_succ (xs ys : List Int) (i : Nat) (h : i < xs.length) : (xorL xs ys).take (i + 1) = (xorL xs ys).take i ++ [xor8 (xs.getD i 0) (ys.getD i 0)] := by
  rw [List.take_succ_eq_append_getElem (by rw [xorL_length]; exact h), xorL_get]
theorem getD_get {xs : List Int} {i : Nat} (h : i < xs.length) : xs.getD i 0 = xs[i] := by simp [List.getD_eq_getElem?_getD, h]
theorem xorL_twice {xs ys : List Int} (hx : Byt xs) (hy : Byt ys) (hl : xs.length = ys.length) : xorL (xorL xs ys) ys = xs := by
  apply List.ext_getElem (by rw [xorL_length, xorL_length])
  intro i h1 h2
  rw [xorL_get, getD_get (by rw [xorL_length]; exact h2), xorL_get, xor8_twice (hx.getD i) (hy.getD i), getD_get h2]
def invL (xs : List Int) : List Int := xs.map fun x => xor8 255 x
theorem invL_byt (xs : List Int) : Byt (invL xs) := by
  intro x hx
  simp only [invL, List.mem_map] at hx
  obtain ⟨y, _, rfl⟩ := hx
  exact bits8_byt _ _ _
theorem invL_xor (xs : List Int) (n : Nat) (h : n = xs.length) : xorL xs (List.replicate n 255) = invL xs := by
  subst h
  apply List.ext_getElem (by simp [xorL, invL])
  intro i h1 h2
  rw [xorL_get, getD_get (by simpa [invL] using h2), getD_get (by simpa [invL] using h2)]
  simp only [List.getElem_replicate, invL, List.getElem_map]
  exact xor8_comm _ _

end Go.Eng
